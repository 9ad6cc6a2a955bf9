/- Part 8: an evaluator, proved sound, and its use at this seat; no condition. -/
import Derived.KernelRfl
import Derived.WalkKit
import Derived.Deep.RegionWith
import Derived.IntWalk
import Derived.Maps.RangeWalk
import Derived.Shelf.SlIter.Collect
import Derived.OwnWalk
import Derived.Deep.LoopGhost
import Derived.Lib.Walk
import Derived.Lib.SliceRun
import Derived.Shelf.SlSortCmp.WholeK
import Derived.Test.YtcnemjkdbaicnaaGreatProg
import Derived.Deep.MidRow
import Derived.Deep.RegionHeld3
import Derived.Test.YtcnemjkdbaicnaaGreatP3
import Derived.Test.YtcnemjkdbaicnaaGreatP6
import Derived.Test.YtcnemjkdbaicnaaGreatP7
set_option linter.unusedSimpArgs false
set_option linter.unusedVariables false
set_option linter.unusedSectionVars false
set_option linter.deprecated false
set_option maxRecDepth 100000
set_option maxHeartbeats 40000000
namespace Go.Proofs
open Go Go.Am Go.RowKit Go.Sy
section
variable [Inhabited aK]
def gU (x:au) (a i:Int):Bool:=x.dev==a&&(x.inc==i&&true)
def getM (l:List au) (a i:Int):Int:=match l.find? (fun x=>gU x a i)with|some x=>x.seq|none=>0
def fx (l:List au) (d:au):Bool:=fJ d&&bT d.seq (getM l d.dev d.inc)
def py (x:au) (a i:Int):Bool:=bif !(x.dev==a)then aZ x.dev a else aZ x.inc i
def gp (a i n:Int) (s:List au×Bool) (x:au):List au×Bool:=
 let s1:=bif !s.2&& !py x a i then(s.1++[⟨a,i,n⟩],true)else s
 bif gU x a i then s1 else(s1.1++[x],s1.2)
def iq (l:List au) (a i n:Int):List au:=let s:=l.foldl (gp a i n) ([],false);bif s.2 then s.1 else s.1++[⟨a,i,n⟩]
def qV (l:List au):Prop:=l.length<=100000
def Jm:aL:={Y:=List au×Int×Int,pre:=fun y=>qV y.1,args:=fun y=>[cK y.1, .agg [i64 y.2.1,i64 y.2.2]],res:=fun y=>i64 (getM y.1 y.2.1 y.2.2)}
def Si (y:List au×Int×Int):aJ:={α:=Nat,ok:=fun x=>x<=y.1.length/\ ∀j (h:j<y.1.length),j<x->gU y.1[j] y.2.1 y.2.2=false,μ:=fun x=>y.1.length - x,aV:=[3],aO:=fun x=>[(0,cK y.1),(5,i64 x)],bm:=fun _=>[]}
def Jo:aL:={Y:=List au×au,pre:=fun y=>qV y.1,args:=fun y=>[cK y.1, .agg y.2.enc],res:=fun y=> .bool (fx y.1 y.2)}
def OQ:aL:={Y:=au×Int×Int,pre:=fun _=>True,args:=fun y=>[.agg [i64 y.1.dev,i64 y.1.inc], .agg [i64 y.2.1,i64 y.2.2]],res:=fun y=> .bool (py y.1 y.2.1 y.2.2)}
def Ja:aL:={Y:=List au×Int×Int×Int,pre:=fun y=>qV y.1,args:=fun y=>[cK y.1, .agg [i64 y.2.1,i64 y.2.2.1],i64 y.2.2.2],res:=fun y=>cK (iq y.1 y.2.1 y.2.2.1 y.2.2.2)}
def cH (y:List au×Int×Int×Int) (x:Nat):List au×Bool:=(y.1.take x).foldl (gp y.2.1 y.2.2.1 y.2.2.2) ([],false)
def Sn (y:List au×Int×Int×Int):aJ:={α:=Nat,ok:=fun x=>x<=y.1.length,μ:=fun x=>y.1.length - x,aV:=[4],aO:=fun x=>[(0,cK y.1),(2,i64 y.2.2.2),(7, .own 1),(8, .bool (cH y x).2),(9,i64 x)],bm:=fun x=>[(1, .arr au (cH y x).1 au.enc Kp)]}
theorem X2 {α:Type} {p:α->Bool} {l:List α} (h:∀j (h:j<l.length),p l[j]=false):l.find? p=none:=by
 rw[DX];grind [List.getElem_of_mem]
theorem qx0 {α:Type} {p:α->Bool} {l:List α} {x:Nat} (hx:x<l.length) (h:∀j (h:j<l.length),j<x->p l[j]=false) (hp:p l[x]=true):l.find? p=some l[x]:=by
 rw[Ea];grind
theorem qvx:CO JI OQ:=bB (cfg:=fun y=>bL tW (cR y)) bh (fun _=>rfl) (fun _=>vH) (n:=400) (by
 rintro⟨⟨a,b,c⟩,d,e⟩ -
 repeat' first|exact trivial|exact rfl|refine ax (fun _=>?_) fun _=>?_|apply And.intro
 all_goals grind [py])
theorem Q6:CO CQ Jm:=bB (cfg:=fun y=>bL tW (cu CQ 2 (Si y))) bh (fun _=>rfl) (fun _=>vH) (n:=400) (by
 rintro⟨l,a,i⟩ (hl:l.length<=100000);refine⟨⟨(0:Nat),⟨Ao _,fun _ _ h=>absurd h (A9 _)⟩,?_⟩,?_⟩
 . repeat' first|exact trivial|exact rfl|refine ax (fun _=>?_) fun _=>?_|apply And.intro
 intro (x:Nat) hx;obtain⟨hx,hn⟩:=hx;have hx:x<=l.length:=hx;have hn:∀j (h:j<l.length),j<x->gU l[j] a i=false:=hn;refine ax (fun hlt=>?_) fun hge=>?_
 . have hlt':x<l.length:=cm hlt;refine aj.2 ⟨_,cp hlt',?_⟩;refine ax (fun h=>?_) fun h=>?_
   . have h:gU l[x] a i=true:=h;refine aj.2 ⟨_,cp hlt',?_⟩;refine⟨?_,?_⟩
     . grind [getM,qx0]
     . repeat' first|exact trivial|exact rfl|refine ax (fun _=>?_) fun _=>?_|apply And.intro
   . have h:gU l[x] a i=false:=h;refine ae.2 ⟨cj x (by omega),?_⟩;refine⟨(x+1:Nat),⟨hlt',fun j hj hjx=>?_⟩,by show l.length - (x+1)<l.length - x;omega,?_⟩
     . grind
     . repeat' first|exact trivial|exact rfl|refine ax (fun _=>?_) fun _=>?_|apply And.intro
 . have hge':l.length<=x:=gf hge;refine⟨?_,?_⟩
   . grind [getM,X2]
   . repeat' first|exact trivial|exact rfl|refine ax (fun _=>?_) fun _=>?_|apply And.intro)
noncomputable def zM (f:FuncId):Option aL:=bif Nat.beq f J8 then some (hZ lL gR)else bif Nat.beq f Iy then some (hZ lL gR)else bif Nat.beq f JI then some OQ else bif Nat.beq f CQ then some Jm else tW f
theorem FX:∀g C,zM g=some C->CO g C:=bg Ov (bg Ym (bg qvx (bg Q6 vH)))
theorem Q8:CO KH Jo:=bB (cfg:=fun y=>bL zM (cR y)) bh (fun _=>rfl) (fun _=>FX) (n:=400) (by
 rintro⟨l,d⟩ (hl:l.length<=100000);refine⟨d,?_⟩
 repeat first|refine⟨rfl,?_⟩|refine⟨trivial,?_⟩
 refine ax (fun h=>?_) fun h=>?_
 . have h:fJ d=true:=h;refine⟨(l,d.dev,d.inc),?_⟩
   repeat first|refine⟨rfl,?_⟩|refine⟨trivial,?_⟩
   refine⟨hl,?_⟩;refine⟨?_,?_⟩
   . grind [fx]
   . repeat' first|exact trivial|exact rfl|refine ax (fun _=>?_) fun _=>?_|apply And.intro
 . have h:fJ d=false:=h;refine⟨?_,?_⟩
   . grind [fx]
   . repeat' first|exact trivial|exact rfl|refine ax (fun _=>?_) fun _=>?_|apply And.intro)
theorem V4 (a i n:Int) (s:List au×Bool) (x:au):(gp a i n s x).1.length<=s.1.length+2:=by
 grind [gp]
theorem Gf (y:List au×Int×Int×Int):∀{x:Nat},x<=y.1.length->(cH y x).1.length<=2*x
 |0,_=>by simp[cH]
 |x+1,h=>by
  have h1:=Gf y (x:=x) (by omega);have h2:cH y (x+1)=gp y.2.1 y.2.2.1 y.2.2.2 (cH y x) y.1[x]:=lp _ _ h;have h3:=V4 y.2.1 y.2.2.1 y.2.2.2 (cH y x) y.1[x];rw[h2];omega
theorem QJ:CO CR Ja:=bB (cfg:=fun y=>bL zM (cu CR 4 (Sn y))) bh (fun _=>rfl) (fun _=>FX) (n:=600) (by
 rintro⟨l,a,i,n⟩ (hl:l.length<=100000);refine⟨⟨(0:Nat),Ao _,?_⟩,?_⟩
 . repeat' first|exact trivial|exact rfl|refine ax (fun _=>?_) fun _=>?_|apply And.intro
 intro (x:Nat) hx;have hx:x<=l.length:=hx;refine ax (fun hlt=>?_) fun hge=>?_
 . have hlt':x<l.length:=cm hlt;have hf:cH (l,a,i,n) (x+1)=gp a i n (cH (l,a,i,n) x) l[x]:=lp _ _ hlt';have hlen:(cH (l,a,i,n) x).1.length<=2*x:=Gf _ hx;have ap:∀M:List au,M.length<=300000->(Nat.ble ((M.length+1)*24) 16777216&&Nat.ble (M.length+1) 16777216)=true:=fun M h=>by
     rw[Ad,Au,Au];omega
   have mu:l.length - (x+1)<l.length - x:=by omega
   have hL1:(cH (l,a,i,n) x).1.length<=300000:=by omega
   have hL2:((cH (l,a,i,n) x).1++[(⟨a,i,n⟩:au)]).length<=300000:=by grind
   refine ah.2 ⟨fun h1=> ?ga,fun h1=> ?gb⟩
   case' ga=>
     have h1:(cH (l,a,i,n) x).2=false:=by grind
     refine aj.2 ⟨_,cp hlt',?_⟩;refine⟨(l[x],a,i),?_⟩
     repeat first|refine⟨rfl,?_⟩|refine⟨trivial,?_⟩
     refine ah.2 ⟨fun h2=> ?gc,fun h2=> ?gd⟩
     case' gc=>
       have h2:py l[x] a i=false:=by
        have h2:(!py l[x] a i)=true:=h2;grind
       have hst:gp a i n (cH (l,a,i,n) x) l[x]=(bif gU l[x] a i then((cH (l,a,i,n) x).1++[⟨a,i,n⟩],true)else((cH (l,a,i,n) x).1++[⟨a,i,n⟩]++[l[x]],true)):=by
        grind [gp]
       refine⟨(⟨a,i,n⟩:au),rfl,?_⟩;refine ae.2 ⟨ap _ hL1,?_⟩
     case' gd=>
       have h2:py l[x] a i=true:=by
        have h2:(!py l[x] a i)=false:=h2;grind
       have hst:gp a i n (cH (l,a,i,n) x) l[x]=(bif gU l[x] a i then((cH (l,a,i,n) x).1,(cH (l,a,i,n) x).2)else((cH (l,a,i,n) x).1++[l[x]],(cH (l,a,i,n) x).2)):=by
        grind [gp]
   case' gb=>
     have h1:(cH (l,a,i,n) x).2=true:=by grind
     have hst:gp a i n (cH (l,a,i,n) x) l[x]=(bif gU l[x] a i then((cH (l,a,i,n) x).1,(cH (l,a,i,n) x).2)else((cH (l,a,i,n) x).1++[l[x]],(cH (l,a,i,n) x).2)):=by
       grind [gp]
   all_goals
     rw[hst]at hf;refine aj.2 ⟨_,cp hlt',?_⟩;refine ax (fun h3=>?_) fun h3=>?_
     . have h3:gU l[x] a i=false:=by
        have h3:(!gU l[x] a i)=true:=h3;simpa using h3
       rw[h3,Bk]at hf;refine aj.2 ⟨_,cp hlt',?_⟩;refine⟨l[x],rfl,?_⟩;refine ae.2 ⟨by first|exact ap _ hL1|grind,?_⟩;refine ae.2 ⟨cj x (by omega),?_⟩;refine⟨(x+1:Nat),hlt',mu,?_⟩
       repeat' first|exact trivial|exact rfl|refine ax (fun _=>?_) fun _=>?_|apply And.intro
       all_goals ((conv=>whnf);rw[hf])
     . have h3:gU l[x] a i=true:=by
        have h3:(!gU l[x] a i)=false:=h3;simpa using h3
       rw[h3,B9]at hf;refine ae.2 ⟨cj x (by omega),?_⟩;refine⟨(x+1:Nat),hlt',mu,?_⟩
       repeat' first|exact trivial|exact rfl|refine ax (fun _=>?_) fun _=>?_|apply And.intro
       all_goals ((conv=>whnf);rw[hf])
 . have hge':l.length<=x:=gf hge;have hall:iq l a i n=(bif (cH (l,a,i,n) x).2 then(cH (l,a,i,n) x).1 else(cH (l,a,i,n) x).1++[⟨a,i,n⟩]):=by
     grind [iq,cH]
   have hlen:(cH (l,a,i,n) x).1.length<=2*x:=Gf _ hx;refine ax (fun h1=>?_) fun h1=>?_
   . have h1:(cH (l,a,i,n) x).2=false:=by grind
     rw[h1,Bk]at hall;refine⟨(⟨a,i,n⟩:au),rfl,?_⟩;refine ae.2 ⟨by grind [Nat.ble_eq],?_⟩;refine⟨by rw[hall],?_⟩
     repeat' first|exact trivial|exact rfl|refine ax (fun _=>?_) fun _=>?_|apply And.intro
   . have h1:(cH (l,a,i,n) x).2=true:=by grind
     rw[h1,B9]at hall;refine⟨by rw[hall],?_⟩
     repeat' first|exact trivial|exact rfl|refine ax (fun _=>?_) fun _=>?_|apply And.intro)
noncomputable def HW (f:FuncId):Option aL:=bif Nat.beq f KH then some Jo else bif Nat.beq f CR then some Ja else zM f
theorem Ny:∀g C,HW g=some C->CO g C:=bg Q8 (bg QJ FX)
end
section
variable [Inhabited aK]
def qA (x y:af):Bool:=cA x.dot y.dot
def o9 (l:List af) (e:af):Nat:=di qA l e
def gC (l:List af) (e:af):List af:=l.take (o9 l e)++e::l.drop (o9 l e)
def I8:aL:={Y:=List af×af,pre:=fun y=>y.1.length<=50000,args:=fun y=>[cG y.1, .agg y.2.enc],res:=fun y=>cG (gC y.1 y.2)}
def Sm (y:List af×af):aJ:={α:=Nat,ok:=fun k=>k<=o9 y.1 y.2,μ:=fun k=>y.1.length - k,aV:=[3],aO:=fun k=>[(0,cG y.1),(5,i64 k)],bm:=fun _=>[]}
def ew (m:aP) (e:af):aP×Bool×Int:=
 if gR e=false then(m,false,1)else if fx m.ctx e.dot=true then(m,false,0)else if getM m.ctx e.dot.dev e.dot.inc+1≠e.dot.seq then(m,false,6)else if 2048<=m.kept.length then(m,false,9)
 else(⟨iq m.ctx e.dot.dev e.dot.inc e.dot.seq,gC m.kept e,dL cA (m.dead++e.over)⟩,true,0)
structure fQ (m:aP):Prop where
 ctx:m.ctx.length<=100000
 seq:∀x∈m.ctx,0<=x.seq/\x.seq<=4294967296
 kept:m.kept.length<=50000
 dead:m.dead.length<=100000
theorem LZ {l:List au} (h:∀x∈l,0<=x.seq/\x.seq<=4294967296) (a i:Int):0<=getM l a i/\getM l a i<=4294967296:=by
 unfold getM
 cases e:l.find? (fun x=>gU x a i)with
 |none=>simp
 |some x=>exact h x (Eo e)
def OS:aL:={Y:=aP×af,pre:=fun y=>fQ y.1/\lL y.2/\y.2.over.length<=100000,args:=fun y=>[.agg y.1.enc, .agg y.2.enc],res:=fun y=> .bO [.agg (ew y.1 y.2).1.enc, .bool (ew y.1 y.2).2.1,i64 (ew y.1 y.2).2.2]}
theorem Rj:CO CT I8:=bB (cfg:=fun y=>bL HW (cu CT 2 (Sm y))) bh (fun _=>rfl) (fun _=>Ny) (n:=600) (by
 rintro⟨l,e⟩ (hl:l.length<=50000)
 (conv=>whnf)
 refine⟨⟨(0:Nat),Ao _,?_⟩,?_⟩
 . repeat' (first|exact trivial|exact rfl|((conv=>whnf);first|(apply ax<;>intro)|apply And.intro))
 intro (k:Nat) hk;have hk:k<=di qA l e:=hk;have hkp:=GV (less:=qA) l e;have hkl:k<=l.length:=by omega
 have ap:∀n:Nat,n<=60000->(Nat.ble (n*176) 16777216&&Nat.ble n 16777216)=true:=fun n h=>by
   rw[Ad,Au,Au];omega
 (conv=>whnf)
 refine ah.2 ⟨fun hlt=> ?ga,fun hge=> ?gb⟩
 case' ga=>
   have hlt':k<l.length:=cm hlt
   (conv=>whnf)
   refine aj.2 ⟨_,cp hlt',?_⟩
   (conv=>whnf)
   refine⟨(l[k].dot,e.dot),?_⟩
   repeat ((conv=>whnf);first|refine⟨rfl,?_⟩|refine⟨trivial,?_⟩)
   (conv=>whnf)
   refine ah.2 ⟨fun h=> ?gc,fun h=> ?gd⟩
   case gc=>
     have h:qA l[k] e=true:=h
     (conv=>whnf)
     refine ae.2 ⟨cj k (by omega),?_⟩
     (conv=>whnf)
     refine⟨(k+1:Nat),FP hk hlt' h,by show l.length - (k+1)<l.length - k;omega,?_⟩
     repeat' (first|exact trivial|exact rfl|((conv=>whnf);first|(apply ax<;>intro)|apply And.intro))
   case' gd=>
     have h:qA l[k] e=false:=h;have hkk:k=di qA l e:=FQ hk hlt' h
 case' gb=>
   have hge':l.length<=k:=gf hge;have hkk:k=di qA l e:=by omega
 all_goals
   repeat (first|((conv=>whnf);refine⟨fun _=>rfl,?_⟩)|((conv=>whnf);refine⟨fun _=>⟨rfl,rfl⟩,?_⟩)|((conv=>whnf);refine⟨e,rfl,?_⟩)|((conv=>whnf);refine⟨(_:List af),rfl,?_⟩)|((conv=>whnf);refine ae.2 ⟨by(show Nat.ble k l.length=true;rw[Au];exact hkl),?_⟩)|((conv=>whnf);refine ae.2 ⟨ap _ (by simp;omega),?_⟩))
   (conv=>whnf)
   refine⟨?_,?_⟩
   . show SV.bn af _ af.enc=SV.bn af (gC l e) af.enc
     unfold gC o9;rw[<-hkk];simp
   . repeat' (first|exact trivial|exact rfl|((conv=>whnf);first|(apply ax<;>intro)|apply And.intro)))
noncomputable def HY (f:FuncId):Option aL:=bif Nat.beq f CT then some I8 else HW f
theorem Nz:∀g C,HY g=some C->CO g C:=bg Rj Ny
theorem qvz:CO JL OS:=bB (cfg:=fun y=>bL HY (cR y)) bh (fun _=>rfl) (fun _=>Nz) (n:=600) (by
 rintro⟨⟨c,k,d⟩,e⟩ ⟨⟨(hc:c.length<=100000),(hs:∀x∈c,0<=x.seq/\x.seq<=4294967296),(hk:k.length<=50000),(hd:d.length<=100000)⟩,(hse:lL e),(ho:e.over.length<=100000)⟩;have hr:=LZ hs e.dot.dev e.dot.inc
 (conv=>whnf)
 refine⟨e,?_⟩
 repeat ((conv=>whnf);first|refine⟨rfl,?_⟩|refine⟨trivial,?_⟩)
 refine⟨hse,?_⟩
 (conv=>whnf)
 refine ax (fun h1=>?_) fun h1=>?_
 . have h1:gR e=false:=by simpa using h1
   have hA:ew ⟨c,k,d⟩ e=(⟨c,k,d⟩,false,1):=by unfold ew;rw[An h1]
   repeat' (first|exact trivial|(with_reducible exact rfl)|((conv=>whnf);first|(apply ax<;>intro)|apply And.intro))
   all_goals ((conv=>whnf);rw[hA])
 have h1:gR e=true:=by simpa using h1
 (conv=>whnf)
 refine⟨(c,e.dot),?_⟩
 repeat ((conv=>whnf);first|refine⟨rfl,?_⟩|refine⟨trivial,?_⟩)
 refine⟨hc,?_⟩
 (conv=>whnf)
 refine ax (fun h2=>?_) fun h2=>?_
 . have h2:fx c e.dot=true:=h2;have hA:ew ⟨c,k,d⟩ e=(⟨c,k,d⟩,false,0):=by unfold ew;rw[Al (by simp[h1]),An h2]
   repeat' (first|exact trivial|(with_reducible exact rfl)|((conv=>whnf);first|(apply ax<;>intro)|apply And.intro))
   all_goals ((conv=>whnf);rw[hA])
 have h2:fx c e.dot=false:=h2
 (conv=>whnf)
 refine⟨(c,e.dot.dev,e.dot.inc),?_⟩
 repeat ((conv=>whnf);first|refine⟨rfl,?_⟩|refine⟨trivial,?_⟩)
 refine⟨hc,?_⟩
 (conv=>whnf)
 refine ae.2 ⟨by show bw .i64 (getM c e.dot.dev e.dot.inc+1)=true;rw[fT];omega,?_⟩
 (conv=>whnf)
 refine ax (fun h3=>?_) fun h3=>?_
 . have h3:getM c e.dot.dev e.dot.inc+1≠e.dot.seq:=by
    have h3:(!((getM c e.dot.dev e.dot.inc+1)==e.dot.seq))=true:=h3;simpa using h3
   have hA:ew ⟨c,k,d⟩ e=(⟨c,k,d⟩,false,6):=by unfold ew;rw[Al (by simp[h1]),Al (by simp[h2]),An h3]
   repeat' (first|exact trivial|(with_reducible exact rfl)|((conv=>whnf);first|(apply ax<;>intro)|apply And.intro))
   all_goals ((conv=>whnf);rw[hA])
 have h3:¬getM c e.dot.dev e.dot.inc+1≠e.dot.seq:=by
   have h3:(!((getM c e.dot.dev e.dot.inc+1)==e.dot.seq))=false:=h3;simpa using h3
 (conv=>whnf)
 refine ax (fun h4=>?_) fun h4=>?_
 . have h4:2048<=k.length:=by
    have h4:bT 2048 (Int.ofNat k.length)=true:=h4;rw[fg,Aa,Af]at h4;omega
   have hA:ew ⟨c,k,d⟩ e=(⟨c,k,d⟩,false,9):=by unfold ew;rw[Al (by simp[h1]),Al (by simp[h2]),Al h3,An h4]
   repeat' (first|exact trivial|(with_reducible exact rfl)|((conv=>whnf);first|(apply ax<;>intro)|apply And.intro))
   all_goals ((conv=>whnf);rw[hA])
 have h4:¬2048<=k.length:=by
   have h4:bT 2048 (Int.ofNat k.length)=false:=h4;rw[fg,Ah,Af]at h4;omega
 have hA:ew ⟨c,k,d⟩ e=(⟨iq c e.dot.dev e.dot.inc e.dot.seq,gC k e,dL cA (d++e.over)⟩,true,0):=by unfold ew;rw[Al (by simp[h1]),Al (by simp[h2]),Al h3,Al h4]
 have ap:∀n:Nat,n<=300000->(Nat.ble (n*24) 16777216&&Nat.ble n 16777216)=true:=fun n h=>by
   rw[Ad,Au,Au];omega
 (conv=>whnf)
 refine⟨(c,e.dot.dev,e.dot.inc,e.dot.seq),?_⟩
 repeat ((conv=>whnf);first|refine⟨rfl,?_⟩|refine⟨trivial,?_⟩)
 refine⟨hc,?_⟩
 (conv=>whnf)
 refine⟨(k,e),?_⟩
 repeat ((conv=>whnf);first|refine⟨rfl,?_⟩|refine⟨trivial,?_⟩)
 refine⟨hk,?_⟩
 (conv=>whnf)
 refine⟨fun _=>⟨rfl,rfl⟩,?_⟩
 (conv=>whnf)
 refine⟨d,rfl,?_⟩
 (conv=>whnf)
 refine ae.2 ⟨ap _ (by simp;omega),?_⟩
 (conv=>whnf)
 refine⟨fun _=>⟨rfl,rfl⟩,?_⟩
 (conv=>whnf)
 refine⟨e.over,rfl,?_⟩
 (conv=>whnf)
 refine ae.2 ⟨ap _ (by simp;omega),?_⟩
 (conv=>whnf)
 refine⟨[]++d++e.over,?_⟩
 repeat ((conv=>whnf);first|refine⟨rfl,?_⟩|refine⟨trivial,?_⟩)
 refine⟨by show(([]:List au)++d++e.over).length<=300000;simp;omega,?_⟩
 repeat' (first|exact trivial|(with_reducible exact rfl)|((conv=>whnf);first|(apply ax<;>intro)|apply And.intro))
 all_goals ((conv=>whnf);rw[hA])
 all_goals (rw[Bq];rfl))
end
section
variable [Inhabited aK]
noncomputable def zN (f:FuncId):Option aL:=bif Nat.beq f JL then some OS else HY f
theorem FY:∀g C,zN g=some C->CO g C:=bg qvz Nz
def oF:aP:=⟨[],[],[]⟩
def foldM (l:List af):aP:=l.foldl (fun m e=>(ew m e).1) oF
def rH (l:List af):Prop:=l.length<=100/\ ∀e∈l,jE e=true
theorem xx {e:af} (h:jE e=true):lL e/\e.over.length<=100:=by
 simp only[jE,Ad,fg,Aa,Af]at h;exact⟨⟨by omega,by omega⟩,by omega⟩
theorem Pw (l:List au) (a i n:Int):iq l a i n=bif (l.foldl (gp a i n) ([],false)).2 then(l.foldl (gp a i n) ([],false)).1 else(l.foldl (gp a i n) ([],false)).1++[⟨a,i,n⟩]:=rfl
theorem V5 {a i n:Int} {s:List au×Bool} {x:au} {P:au->Prop} (hs:∀z∈s.1,P z) (hx:P x) (hn:P ⟨a,i,n⟩):∀z∈(gp a i n s x).1,P z:=by
 grind [gp]
theorem Z3 {l:List au} {a i n:Int} {P:au->Prop} (hl:∀z∈l,P z) (hn:P ⟨a,i,n⟩):∀z∈iq l a i n,P z:=by
 have key:∀(l:List au) (s:List au×Bool),(∀z∈l,P z)->(∀z∈s.1,P z)->∀z∈(l.foldl (gp a i n) s).1,P z:=by
  intro l;induction l with
  |nil=>grind
  |cons x l ih=>intro s hl hs;exact ih _ (fun z hz=>hl z (AP _ hz)) (V5 hs (hl x As) hn)
 grind [Pw]
theorem Z2 (l:List au) (a i n:Int):(iq l a i n).length<=l.length+1:=by
 have key:∀(l:List au) (s:List au×Bool),(l.foldl (gp a i n) s).1.length+(bif (l.foldl (gp a i n) s).2 then 0 else 1)<=s.1.length+(bif s.2 then 0 else 1)+l.length:=by
  intro l;induction l with
  |nil=>grind
  | cons x l ih=>
   intro s;have h1:=ih (gp a i n s x);have h2:(gp a i n s x).1.length+(bif (gp a i n s x).2 then 0 else 1)<=s.1.length+(bif s.2 then 0 else 1)+1:=by
    unfold gp
    cases hs:s.2<;>cases py x a i<;>cases gU x a i<;>simp[hs]<;>omega
   grind
 have h1:=key l ([],false);rw[Pw]
 cases h:(l.foldl (gp a i n) ([],false)).2<;>rw[h]at h1<;>simp at h1⊢ <;>omega
structure dV (m:aP) (k:Nat):Prop where
 ctx:m.ctx.length<=k
 seq:∀x∈m.ctx,fJ x=true
 kept:m.kept.length<=k
 dead:m.dead.length<=100*k
theorem XV {x:au} (h:fJ x=true):0<=x.seq/\x.seq<=4294967296:=by
 grind [fJ,fg]
theorem dV.ok {m:aP} {k:Nat} (h:dV m k) (hk:k<=1000):fQ m:=⟨by have:=h.ctx;omega,fun x hx=>XV (h.seq x hx),by have:=h.kept;omega,by have:=h.dead;omega⟩
theorem ya {e:af} (h:gR e=true):fJ e.dot=true:=by
 grind [gR]
theorem OB (l:List af) (e:af):(gC l e).length=l.length+1:=by
 grind [gC]
theorem VJ {m:aP} {e:af} {k:Nat} (h:dV m k) (he:e.over.length<=100):dV (ew m e).1 (k+1):=by
 have same:dV m (k+1):=⟨by have:=h.ctx;omega,h.seq,by have:=h.kept;omega,by have:=h.dead;omega⟩;unfold ew;split
 . omega
 . rename_i h1;have h1:gR e=true:=by grind
   split
   . omega
   . split
     . omega
     . split
       . omega
       . refine⟨?_,Z3 h.seq (ya h1),?_,?_⟩
         . have:=Z2 m.ctx e.dot.dev e.dot.inc e.dot.seq;have:=h.ctx;grind
         . show(gC m.kept e).length<=_
           rw[OB];have:=h.kept;omega
         . show(dL cA (m.dead++e.over)).length<=_
           have h2:=yd (less:=cA) (m.dead++e.over) [];unfold dL;have:=h.dead;grind
theorem qh {l:List af} (hl:∀e∈l,jE e=true):∀x,x<=l.length->dV (foldM (l.take x)) x
 |0,_=>⟨by simp[foldM,oF],by simp[foldM,oF],by simp[foldM,oF],by simp[foldM,oF]⟩
 |x+1,h=>by
  have hx:x<l.length:=h;have h1:=qh hl x (by omega);have h2:foldM (l.take (x+1))=(ew (foldM (l.take x)) l[x]).1:=lp _ _ hx;rw[h2];exact VJ h1 (xx (hl _ (AF hx))).2
def PT:aL:={Y:=List af,pre:=rH,args:=fun y=>[cG y],res:=fun y=> .agg (foldM y).enc}
def Qm (y:List af):aJ:={α:=Nat,ok:=fun x=>x<=y.length,μ:=fun x=>y.length - x,aV:=[2,3],aO:=fun x=>[(0,cG y),(4,i64 x)],bm:=fun x=>[(1, .cells (foldM (y.take x)).enc Tj)]}
theorem Pa:CO Ij PT:=bB (cfg:=fun y=>bL zN (cu Ij 3 (Qm y))) bh (fun _=>rfl) (fun _=>FY) (n:=600) (by
 rintro(l:List af) ⟨(hl:l.length<=100),(hlt:∀e∈l,jE e=true)⟩;refine⟨⟨(0:Nat),Ao _,?_⟩,?_⟩
 . repeat' (first|exact trivial|(with_reducible exact rfl)|((conv=>whnf);first|(apply ax<;>intro)|apply And.intro))
   all_goals exact rfl
 intro (x:Nat) hx;have hx:x<=l.length:=hx;refine ax (fun hlt1=>?_) fun hge=>?_
 . have hlt':x<l.length:=cm hlt1;have hf:foldM (l.take (x+1))=(ew (foldM (l.take x)) l[x]).1:=lp _ _ hlt';have hb:=qh hlt x hx;have hsm:=xx (hlt _ (AF hlt'))
   (conv=>whnf)
   refine aj.2 ⟨_,cp hlt',?_⟩;refine⟨(foldM (l.take x),l[x]),?_⟩
   repeat first|refine⟨rfl,?_⟩|refine⟨trivial,?_⟩
   refine⟨⟨hb.ok (by omega),hsm.1,by have:=hsm.2;grind⟩,?_⟩
   (conv=>whnf)
   refine ae.2 ⟨cj x (by omega),?_⟩;refine⟨(x+1:Nat),hlt',by show l.length - (x+1)<l.length - x;omega,?_⟩
   repeat' (first|exact trivial|(with_reducible exact rfl)|((conv=>whnf);first|(apply ax<;>intro)|apply And.intro))
   all_goals first|exact rfl|(rw[hf];exact rfl)
 . have hge':l.length<=x:=gf hge;have e:l.take x=l:=Aq hge'
   repeat' (first|exact trivial|(with_reducible exact rfl)|((conv=>whnf);first|(apply ax<;>intro)|apply And.intro))
   all_goals grind)
end
section
variable [Inhabited aK]
def mG (m:aP) (e:af):Bool:=(e.kind==1)&& !decide (e.dot∈m.dead)
def cC (m:aP):List af:=m.kept.filter (mG m)
def aW (m:aP) (k:aG):List af:=(cC m).filter fun e=>decide (e.key=k)
def iy:af:=⟨⟨0,0,0⟩,⟨0,0,0⟩,0,tB,⟨[],false,false,false,false,0,0,0⟩,[]⟩
def dO (l:List af):Option af:=l.foldl (fun b e=>match b with|none=>some e|some y=>if lq e.bA y.bA then some y else some e) none
def dU (m:aP) (k:aG):af×Bool:=((dO (aW m k)).getD iy,(dO (aW m k)).isSome)
def mc (x y:af):Bool:=ff x.key y.key
def jM (out:List af) (w:af):List af:=out.take (di mc out w)++w::out.drop (di mc out w)
def cU (m:aP) (l:List af):List af:=l.foldl (fun out x=>if(dU m x.key).1.dot=x.dot then jM out (dU m x.key).1 else out) []
def gQ (m:aP):List af:=cU m (cC m)
def iH (m:aP):List ab:=(gQ m).map af.item
def l9 (m:aP) (k:aG):List au:=(aW m k).map (·.dot)
def I6 (l:List af):SO:= .arr af l af.enc Ch
def OR:aL:={Y:=aP,pre:=fQ,args:=fun y=>[.agg y.enc],res:=fun y=>cG (cC y)}
def qxk (y:aP):aJ:={α:=Nat,ok:=fun i=>i<=y.kept.length,μ:=fun i=>y.kept.length - i,aV:=[1],aO:=fun i=>[(3, .own 1),(4,i64 i)],bm:=fun i=>[(1,I6 ((y.kept.take i).filter (mG y)))]}
def Jq:aL:={Y:=aP×aG,pre:=fun y=>fQ y.1,args:=fun y=>[.agg y.1.enc, .agg y.2.enc],res:=fun y=>cG (aW y.1 y.2)}
def Sk (y:aP×aG):aJ:={α:=Nat,ok:=fun i=>i<=(cC y.1).length,μ:=fun i=>(cC y.1).length - i,aV:=[3],aO:=fun i=>[(5, .own 2),(6,cG (cC y.1)),(7,i64 i)],bm:=fun i=>[(2,I6 (((cC y.1).take i).filter fun e=>decide (e.key=y.2)))]}
def NW:aL:={Y:=aP×aG,pre:=fun y=>fQ y.1,args:=fun y=>[.agg y.1.enc, .agg y.2.enc],res:=fun y=> .bO [.agg (dU y.1 y.2).1.enc, .bool (dU y.1 y.2).2]}
def YK (y:aP×aG):aJ:=let l:=aW y.1 y.2;{α:=Nat,ok:=fun i=>i<=l.length,μ:=fun i=>l.length - i,aV:=[4,7],aO:=fun i=>[(6,cG l),(8,i64 i)],bm:=fun i=>[(3, .cells ((dO (l.take i)).getD iy).enc Ch)]}
def MJ:aL:={Y:=aP,pre:=fQ,args:=fun y=>[.agg y.enc],res:=fun y=>cG (gQ y)}
def xT (y:aP):aJ:=let l:=cC y;{α:=Nat,ok:=fun i=>i<=l.length,μ:=fun i=>l.length - i,aV:=[1],aO:=fun i=>[(3,cG (cU y (l.take i))),(4,cG l),(5,i64 i)],bm:=fun _=>[],fj:=[3]}
def WB (y:aP):aJ:=let l:=cC y;{α:=Nat×Nat,ok:=fun x=>∃h:x.1<l.length,x.2<=di mc (cU y (l.take x.1)) (dU y l[x.1].key).1,μ:=fun x=>(cU y (l.take x.1)).length - x.2,aV:=[1,6],aO:=fun x=>[(3,cG (cU y (l.take x.1))),(4,cG l),(5,i64 x.1),(8,i64 x.2)],bm:=fun _=>[],link:=some fun a b=>b.1=a.1}
def GI:aL:={Y:=aP,pre:=fQ,args:=fun y=>[.agg y.enc],res:=fun y=>items (iH y)}
def qxl (y:aP):aJ:=let l:=gQ y;{α:=Nat,ok:=fun i=>i<=l.length,μ:=fun i=>l.length - i,aV:=[],aO:=fun i=>[(3, .own 1),(4,cG l),(5,i64 i)],bm:=fun i=>[(1,px ((l.take i).map af.item))]}
def Hi:aL:={Y:=aP×aG,pre:=fun y=>fQ y.1,args:=fun y=>[.agg y.1.enc, .agg y.2.enc],res:=fun y=>cK (l9 y.1 y.2)}
def QD (y:aP×aG):aJ:=let l:=aW y.1 y.2;{α:=Nat,ok:=fun i=>i<=l.length,μ:=fun i=>l.length - i,aV:=[],aO:=fun i=>[(5, .own 2),(6,cG l),(7,i64 i)],bm:=fun i=>[(2, .arr au ((l.take i).map (·.dot)) au.enc Ty.mR)]}
theorem vW {α:Type} {p:α->Bool} {l:List α} {x:Nat} (h:x<l.length):(l.take (x+1)).filter p=(l.take x).filter p++if p l[x]then[l[x]]else[]:=by
 rw[Aw h,Dw];by_cases hp:p l[x]=true<;>simp[hp]
theorem Hf {α:Type} {p:α->Bool} {l:List α} {x:Nat}:((l.take x).filter p).length<=x:=Av (AZ _ _) (by grind)
theorem zi {α:Type} {p:α->Bool} {l:List α} {x:Nat} (h:¬(x:Int)<Int.ofNat l.length):(l.take x).filter p=l.filter p:=by
 rw[Aq (by grind)]
theorem vN {α β:Type} (f:α->β) {l:List α} {x:Nat} (h:x<l.length):(l.take (x+1)).map f=(l.take x).map f++[f l[x]]:=by
 rw[Aw h,BE];rfl
theorem xU {m:aP} (h:fQ m):(cC m).length<=50000:=Av (AZ _ _) h.kept
theorem tz {m:aP} (h:fQ m) (k:aG):(aW m k).length<=50000:=Av (AZ _ _) (xU h)
theorem qvc (out:List af) (w:af):(jM out w).length=out.length+1:=by
 grind [jM]
theorem yl (m:aP):∀(l out:List af),(l.foldl (fun out x=>if(dU m x.key).1.dot=x.dot then jM out (dU m x.key).1 else out) out).length<=out.length+l.length
 |[],out=>by simp
 | x::l,out=>by
  have h1:=yl m l (if(dU m x.key).1.dot=x.dot then jM out (dU m x.key).1 else out);have h2:(if(dU m x.key).1.dot=x.dot then jM out (dU m x.key).1 else out).length<=out.length+1:=by
   grind [qvc]
  grind
theorem LC {m:aP} (h:fQ m):(gQ m).length<=50000:=by
 have h1:=yl m (cC m) [];have h2:=xU h;grind [gQ,cU]
theorem uk (n:Nat) (h:n<=60000):(Nat.ble (n*176) 16777216&&Nat.ble n 16777216)=true:=by
 rw[Ad,Au,Au];omega
theorem xh (n:Nat) (h:n<=60000):(Nat.ble (n*96) 16777216&&Nat.ble n 16777216)=true:=by
 rw[Ad,Au,Au];omega
theorem I5 (n:Nat) (h:n<=600000):(Nat.ble (n*24) 16777216&&Nat.ble n 16777216)=true:=by
 rw[Ad,Au,Au];omega
theorem qvy:CO Iz OR:=bB (cfg:=fun y=>bL zN (cu Iz 3 (qxk y))) bh (fun _=>rfl) (fun _=>FY) (n:=600) (by
 rintro⟨c,k,d⟩ ⟨(h1:c.length<=100000),h2,(h3:k.length<=50000),(h4:d.length<=100000)⟩;refine⟨⟨(0:Nat),Ao _,?_⟩,?_⟩
 . repeat' first|exact trivial|exact rfl|refine ax (fun _=>?_) fun _=>?_|apply And.intro
 intro (x:Nat) hx;have hx:x<=k.length:=hx;have hlen:=AZ (mG ⟨c,k,d⟩) (k.take x);rw[BT]at hlen;refine ax (fun hlt=>?_) fun hge=>?_
 . have hlt':x<k.length:=cm hlt;have hf:=vW (p:=mG ⟨c,k,d⟩) hlt';have mu:k.length - (x+1)<k.length - x:=by omega
   have hz:((k.take x).filter (mG ⟨c,k,d⟩)).length+1<=60000:=by omega
   (conv=>whnf)
   refine aj.2 ⟨_,cp hlt',?_⟩;refine ah.2 ⟨fun h5=> ?ga,fun h5=> ?gb⟩
   case' ga=>
    have h5:(k[x].kind==1)=true:=h5
    (conv=>whnf)
    refine aj.2 ⟨_,cp hlt',?_⟩;refine⟨(d,k[x].dot),?_⟩
    repeat first|refine⟨rfl,?_⟩|refine⟨trivial,?_⟩
    refine⟨by show d.length<=1000000;omega,?_⟩;refine ah.2 ⟨fun h6=> ?gc,fun h6=> ?gd⟩
    case gc=>
     have h6:(!decide (k[x].dot∈d))=true:=h6;have hA:mG ⟨c,k,d⟩ k[x]=true:=by grind [mG]
     simp only[hA,BB]at hf
     (conv=>whnf)
     refine aj.2 ⟨_,cp hlt',?_⟩;refine⟨k[x],rfl,?_⟩
     (conv=>whnf)
     refine ae.2 ⟨uk _ hz,?_⟩
     (conv=>whnf)
     refine ae.2 ⟨cj x (by omega),?_⟩;refine⟨(x+1:Nat),hlt',mu,?_⟩
     repeat' first|exact trivial|exact rfl|refine ax (fun _=>?_) fun _=>?_|apply And.intro
     all_goals ((conv=>whnf);rw[hf])
    case' gd=>
     have h6:(!decide (k[x].dot∈d))=false:=h6;have hA:mG ⟨c,k,d⟩ k[x]=false:=by grind [mG]
   case' gb=>
    have h5:(k[x].kind==1)=false:=h5;have hA:mG ⟨c,k,d⟩ k[x]=false:=by grind [mG]
   all_goals
    simp only[hA,Ax,Bc,Br]at hf
    (conv=>whnf)
    refine ae.2 ⟨cj x (by omega),?_⟩;refine⟨(x+1:Nat),hlt',mu,?_⟩
    repeat' first|exact trivial|exact rfl|refine ax (fun _=>?_) fun _=>?_|apply And.intro
    all_goals ((conv=>whnf);rw[hf])
 . (conv=>whnf)
   refine⟨by rw[zi (gE hge)];rfl,?_⟩
   repeat' first|exact trivial|exact rfl|refine ax (fun _=>?_) fun _=>?_|apply And.intro)
noncomputable def H3 (f:FuncId):Option aL:=bif Nat.beq f Iz then some OR else zN f
theorem NA:∀g C,H3 g=some C->CO g C:=bg qvy FY
theorem Ra:CO CS Jq:=bB (cfg:=fun y=>bL H3 (cu CS 4 (Sk y))) bh (fun _=>rfl) (fun _=>NA) (n:=600) (by
 rintro⟨m,k⟩ (hm:fQ m);have hal:=xU hm;refine⟨m,?_⟩
 repeat first|refine⟨rfl,?_⟩|refine⟨trivial,?_⟩
 refine⟨hm,?_⟩;refine⟨⟨(0:Nat),Ao _,?_⟩,?_⟩
 . repeat' first|exact trivial|exact rfl|refine ax (fun _=>?_) fun _=>?_|apply And.intro
 intro (x:Nat) hx;have hx:x<=(cC m).length:=hx;have hlen:=Hf (l:=cC m) (x:=x) (p:=fun e:af=>decide (e.key=k));refine ax (fun hlt=>?_) fun hge=>?_
 . have hlt':x<(cC m).length:=cm hlt;have hf:=vW (p:=fun e:af=>decide (e.key=k)) hlt';have mu:(cC m).length - (x+1)<(cC m).length - x:=by omega
   have hz:(((cC m).take x).filter fun e:af=>decide (e.key=k)).length+1<=60000:=by omega
   (conv=>whnf)
   refine aj.2 ⟨_,cp hlt',?_⟩;refine ax (fun h=>?_) fun h=>?_
   . have h:decide ((cC m)[x].key=k)=true:=by rw[nj]at h;exact h
     simp only[h,BB]at hf
     (conv=>whnf)
     refine aj.2 ⟨_,cp hlt',?_⟩;refine⟨(cC m)[x],rfl,?_⟩
     (conv=>whnf)
     refine ae.2 ⟨uk _ hz,?_⟩
     (conv=>whnf)
     refine ae.2 ⟨cj x (by omega),?_⟩;refine⟨(x+1:Nat),hlt',mu,?_⟩
     repeat' first|exact trivial|exact rfl|refine ax (fun _=>?_) fun _=>?_|apply And.intro
     all_goals ((conv=>whnf);rw[hf])
   . have h:decide ((cC m)[x].key=k)=false:=by rw[nj]at h;exact h
     simp only[h,Ax,Bc,Br]at hf
     (conv=>whnf)
     refine ae.2 ⟨cj x (by omega),?_⟩;refine⟨(x+1:Nat),hlt',mu,?_⟩
     repeat' first|exact trivial|exact rfl|refine ax (fun _=>?_) fun _=>?_|apply And.intro
     all_goals ((conv=>whnf);rw[hf])
 . (conv=>whnf)
   refine⟨by rw[zi (gE hge)];rfl,?_⟩
   repeat' first|exact trivial|exact rfl|refine ax (fun _=>?_) fun _=>?_|apply And.intro)
noncomputable def zO (f:FuncId):Option aL:=bif Nat.beq f CS then some Jq else H3 f
theorem FZ:∀g C,zO g=some C->CO g C:=bg Ra NA
theorem O7:CO qc Hi:=bB (cfg:=fun y=>bL zO (cu qc 4 (QD y))) bh (fun _=>rfl) (fun _=>FZ) (n:=600) (by
 rintro⟨m,k⟩ (hm:fQ m);have hkl:=tz hm k;refine⟨(m,k),?_⟩
 repeat first|refine⟨rfl,?_⟩|refine⟨trivial,?_⟩
 refine⟨hm,?_⟩;refine⟨⟨(0:Nat),Ao _,?_⟩,?_⟩
 . repeat' first|exact trivial|exact rfl|refine ax (fun _=>?_) fun _=>?_|apply And.intro
 intro (x:Nat) hx;have hx:x<=(aW m k).length:=hx;refine ax (fun hlt=>?_) fun hge=>?_
 . have hlt':x<(aW m k).length:=cm hlt;have hf:=vN (fun e:af=>e.dot) hlt'
   (conv=>whnf)
   refine aj.2 ⟨_,cp hlt',?_⟩;refine⟨(aW m k)[x].dot,rfl,?_⟩
   (conv=>whnf)
   refine ae.2 ⟨I5 _ (by grind),?_⟩
   (conv=>whnf)
   refine ae.2 ⟨cj x (by omega),?_⟩;refine⟨(x+1:Nat),hlt',by show(aW m k).length - (x+1)<(aW m k).length - x;omega,?_⟩
   repeat' first|exact trivial|exact rfl|refine ax (fun _=>?_) fun _=>?_|apply And.intro
   all_goals ((conv=>whnf);rw[hf])
 . have hge':(aW m k).length<=x:=gf hge;refine⟨by rw[Aq hge'];rfl,?_⟩
   repeat' first|exact trivial|exact rfl|refine ax (fun _=>?_) fun _=>?_|apply And.intro)
theorem ym {l:List af} {x:Nat} (h:x<l.length):dO (l.take (x+1))=some (match dO (l.take x)with|none=>l[x]|some y=>if lq l[x].bA y.bA then y else l[x]):=by
 grind [dO,lp]
theorem v7 {l:List af} {x:Nat} (h0:0<x) (h:x<=l.length):∃y,dO (l.take x)=some y:=by
 obtain⟨k,rfl⟩:∃k,x=k+1:=⟨x - 1,by omega⟩;exact⟨_,ym (by omega)⟩
theorem Yp:CO sD NW:=bB (cfg:=fun y=>bL zO (cu sD 4 (YK y))) bh (fun _=>rfl) (fun _=>FZ) (n:=600) (by
 rintro⟨m,k⟩ (hm:fQ m);have hkl:=tz hm k;refine⟨(m,k),?_⟩
 repeat first|refine⟨rfl,?_⟩|refine⟨trivial,?_⟩
 refine⟨hm,?_⟩;refine⟨⟨(0:Nat),Ao _,?_⟩,?_⟩
 . repeat' first|exact trivial|exact rfl|refine ax (fun _=>?_) fun _=>?_|apply And.intro
 intro (x:Nat) hx;have hx:x<=(aW m k).length:=hx;refine ax (fun hlt=>?_) fun hge=>?_
 . have hlt':x<(aW m k).length:=cm hlt;have hn:=ym hlt';have mu:(aW m k).length - (x+1)<(aW m k).length - x:=by omega
   refine ah.2 ⟨fun h0=> ?ga,fun h0=> ?gb⟩
   case' ga=>
    have h0:x=0:=by
      have h0:((x:Int)==0)=true:=h0;grind
    have hw:(dO ((aW m k).take (x+1))).getD iy=(aW m k)[x]:=by rw[hn];subst h0;rfl
   case' gb=>
    have h0:0<x:=by
      have h0:((x:Int)==0)=false:=h0;grind
    obtain⟨y,hy⟩:=v7 h0 hx;have hgd:(dO ((aW m k).take x)).getD iy=y:=by rw[hy];rfl
    rw[hy]at hn
    (conv=>whnf)
    refine aj.2 ⟨_,cp hlt',?_⟩;refine⟨((aW m k)[x].bA,((dO ((aW m k).take x)).getD iy).bA),?_⟩
    repeat first|refine⟨rfl,?_⟩|refine⟨trivial,?_⟩
    refine ah.2 ⟨fun h1=> ?gc,fun h1=> ?gd⟩
    case' gc=>
      have h1:lq (aW m k)[x].bA y.bA=false:=by
       have h1:(!lq (aW m k)[x].bA ((dO ((aW m k).take x)).getD iy).bA)=true:=h1;rw[hgd]at h1;grind
      have hw:(dO ((aW m k).take (x+1))).getD iy=(aW m k)[x]:=by rw[hn];grind
    case gd=>
      have h1:lq (aW m k)[x].bA y.bA=true:=by
       have h1:(!lq (aW m k)[x].bA ((dO ((aW m k).take x)).getD iy).bA)=false:=h1;rw[hgd]at h1;grind
      have hw:(dO ((aW m k).take (x+1))).getD iy=(dO ((aW m k).take x)).getD iy:=by rw[hn,hgd];grind
      (conv=>whnf)
      refine ae.2 ⟨cj x (by omega),?_⟩;refine⟨(x+1:Nat),hlt',mu,?_⟩
      repeat' (first|exact trivial|(with_reducible exact rfl)|((conv=>whnf);first|(apply ax<;>intro)|apply And.intro))
      all_goals first|exact rfl|(rw[hw];exact rfl)
   all_goals
    (conv=>whnf)
    refine aj.2 ⟨_,cp hlt',?_⟩
    (conv=>whnf)
    refine ae.2 ⟨cj x (by omega),?_⟩;refine⟨(x+1:Nat),hlt',mu,?_⟩
    repeat' (first|exact trivial|(with_reducible exact rfl)|((conv=>whnf);first|(apply ax<;>intro)|apply And.intro))
    all_goals first|exact rfl|(rw[hw];exact rfl)
 . have hge':(aW m k).length<=x:=gf hge;have e:(aW m k).take x=aW m k:=Aq hge';have h2:aZ 0 (Int.ofNat (aW m k).length)=(dO (aW m k)).isSome:=by
    rw[bM,Az,Aa];constructor
    . intro h;obtain⟨y,hy⟩:=v7 (l:=aW m k) (x:=(aW m k).length) (by grind) (Ac _);rw[A6]at hy;rw[hy];rfl
    . intro h
      cases hk:aW m k with
      |nil=>rw[hk]at h;cases h
      |cons a l=>simp<;>omega
   repeat' (first|exact trivial|(with_reducible exact rfl)|((conv=>whnf);first|(apply ax<;>intro)|apply And.intro))
   all_goals first|exact rfl|exact h2|(rw[e];done)|(rw[e];exact rfl))
noncomputable def zP (f:FuncId):Option aL:=bif Nat.beq f sD then some NW else bif Nat.beq f qc then some Hi else zO f
theorem F0:∀g C,zP g=some C->CO g C:=bg Yp (bg O7 FZ)
end
end Go.Proofs
namespace Go.Proofs
open Go Go.Am Go.RowKit Go.Sy Go.Gm
section
section
variable {K V:Type} [DecidableEq K]
theorem dg {L:List (K×V)} {k:K}:aH L k=none↔k∉L.map (·.1):=by
 grind [aH,Option.map_eq_none_iff]
theorem ng {L:List (K×V)} {k:K} {v:V} (h:aH L k=some v):(k,v)∈L:=by
 grind [aH,Option.map_eq_some_iff]
theorem G6 {k:K} {u v:V}:∀{L:List (K×V)},(L.map (·.1)).Nodup->(k,u)∈L->(k,v)∈L->u=v
 |[],_,h,_=>by cases h
 |y::L,hn,h1,h2=>by
  rw[A0,Dr]at hn;rcases Ap.1 h1 with h1|h1<;>rcases Ap.1 h2 with h2|h2
  . rw[<-h1,DP]at h2;exact h2.2.symm
  . exact absurd (AL.2 ⟨_,h2,by rw[<-h1]⟩) hn.1
  . exact absurd (AL.2 ⟨_,h1,by rw[<-h2]⟩) hn.1
  . exact G6 hn.2 h1 h2
theorem Gn {L:List (K×V)} {k:K} {v:V} (hn:(L.map (·.1)).Nodup):aH L k=some v↔(k,v)∈L:=by
 refine⟨ng,fun h=>?_⟩
 cases e:aH L k with
 |none=>grind [dg]
 |some u=>rw[G6 hn (ng e) h]
theorem tk (k:K):aH ([]:List (K×V)) k=none:=rfl
theorem Fp (x:K×V) (L:List (K×V)) (k:K):aH (x::L) k=if k=x.1 then some x.2 else aH L k:=by
 grind [aH]
theorem Wn (L M:List (K×V)) (k:K):aH (L++M) k=(aH L k).or (aH M k):=by
 grind [aH]
theorem jC (L:List (K×V)) (k k':K) (v:V):aH (cD L k v) k'=if k'=k then some v else aH L k':=by
 have key:∀L:List (K×V),aH (L.map fun x=>if k=x.1 then(k,v)else x) k'=if k'=k then(if k∈L.map (·.1)then some v else none)else aH L k':=by
  intro L;induction L with
  |nil=>simp[tk]
  |cons x L ih=>
   rw[A0,Fp,Fp,ih,A0];grind
 unfold cD;split
 all_goals grind [Wn,dg]
theorem Gl (L:List (K×V)) (k k':K):aH (dA L k) k'=if k'=k then none else aH L k':=by
 grind [dA,aH]
theorem VZ {L:List (K×V)} {k:K} (h:aH L k=none) (v:V):(cD L k v).length=L.length+1:=by
 grind [cD,dg]
theorem mem_keys {L:List (K×V)} {k:K}:k∈L.map (·.1)↔(aH L k).isSome=true:=by
 rw[En,Ec,dg,Decidable.not_not]
end
abbrev DL:=List (au×Int)
structure bH where
 kept:List (au×(Value×af))
 alive:List (aG×(Nat×DL))
 dead:DL
 vec:List ((Int×Int)×Int)
def qB (A:List (aG×(Nat×DL))) (nb:Nat) (k:aG) (d:au):List (aG×(Nat×DL)):=
 match aH A k with
 |none=>cD A k (nb,[(d,1)])
 |some x=>cD A k (x.1,cD x.2 d 1)
def oL (A:List (aG×(Nat×DL))) (k:aG) (d:au):List (aG×(Nat×DL)):=
 match aH A k with
 |none=>A
 |some x=>if dA x.2 d=[]then dA A k else cD A k (x.1,dA x.2 d)
def kX (G:bH) (d:au):bH:={G with dead:=cD G.dead d 1,alive:=match aH G.kept d with
 |some x=>if x.2.kind=1 then oL G.alive x.2.key d else G.alive
 |none=>G.alive}
def il (G:bH) (e:af) (v:Value):bH:={G with vec:=cD G.vec (e.dot.dev,e.dot.inc) e.dot.seq,kept:=cD G.kept e.dot (v,e)}
def iU (G:bH) (e:af) (nb:Nat):bH:=if e.kind=1/\aH G.dead e.dot=none then{G with alive:=qB G.alive nb e.key e.dot}else G
def lr (G:bH) (l:List au):bH:=l.foldl kX G
def gO (A:List (aG×(Nat×DL))) (k:aG) (d:au):Prop:=∃x,aH A k=some x/\(aH x.2 d).isSome=true
def uc (A:List (aG×(Nat×DL))):Prop:=∀k x,aH A k=some x->x.2≠[]
theorem Yx {A:List (aG×(Nat×DL))} {nb:Nat} {k k':aG} {d d':au}:gO (qB A nb k d) k' d'↔gO A k' d'\/(k'=k/\d'=d):=by
 unfold gO qB
 cases e:aH A k with
 |none=>
  simp only[jC];by_cases h:k'=k
  all_goals simp_all[tk,Fp]
 |some x=>
  grind [jC]
theorem RE {K V:Type} [DecidableEq K] (L:List (K×V)) (k:K) (v:V):cD L k v≠[]:=by
 intro e;have:=jC L k k v;rw[e,tk]at this;grind
theorem XO {A:List (aG×(Nat×DL))} {nb:Nat} {k:aG} {d:au} (h:uc A):uc (qB A nb k d):=by
 intro k' x hx;unfold qB at hx;split at hx
 . rw[jC]at hx;split at hx
   . grind
   . exact h k' x hx
 . rw[jC]at hx;split at hx
   . grind [RE]
   . exact h k' x hx
theorem Yw {A:List (aG×(Nat×DL))} {k k':aG} {d d':au}:gO (oL A k d) k' d'↔gO A k' d'/\ ¬(k'=k/\d'=d):=by
 unfold gO oL
 cases e:aH A k with
 |none=>
  grind
 |some x=>
  have hdel:=Gl x.2 d d';grind [Gl,tk,jC]
theorem XN {A:List (aG×(Nat×DL))} {k:aG} {d:au} (h:uc A):uc (oL A k d):=by
 intro k' x hx;unfold oL at hx;split at hx
 . exact h k' x hx
 . split at hx
   . rw[Gl]at hx;split at hx
     . cases hx
     . exact h k' x hx
   . rename_i hne;rw[jC]at hx;split at hx
     . grind
     . exact h k' x hx
structure mQ (kept:List (au×(Value×af))) (dead:au->Prop) (A:List (aG×(Nat×DL))):Prop where
 al:∀k d,gO A k d↔∃x,aH kept d=some x/\x.2.kind=1/\x.2.key=k/\ ¬dead d
 full:uc A
theorem mQ.kill {G:bH} {d:au} (h:mQ G.kept (fun x=>(aH G.dead x).isSome=true) G.alive):mQ (kX G d).kept (fun x=>(aH (kX G d).dead x).isSome=true) (kX G d).alive:=by
 have hdead:∀x,(aH (kX G d).dead x).isSome=true↔(aH G.dead x).isSome=true\/x=d:=fun x=>by
   show(aH (cD G.dead d 1) x).isSome=true↔_
   rw[jC];by_cases e:x=d<;>simp[e]
 refine⟨fun k d'=>?_,?_⟩
 . show gO (match aH G.kept d with|some x=>if x.2.kind=1 then oL G.alive x.2.key d else G.alive|none=>G.alive) k d'↔∃x,aH G.kept d'=some x/\_
   simp only[hdead]
   cases e:aH G.kept d with
   | none=>
     simp only[h.al];grind
   | some y=>
     simp only;split
     . rename_i hk;rw[Yw,h.al];grind
     . rename_i hk;rw[h.al];grind
 . show uc (match aH G.kept d with|some x=>if x.2.kind=1 then oL G.alive x.2.key d else G.alive|none=>G.alive)
   split
   . split
     . exact XN h.full
     . exact h.full
   . exact h.full
theorem mQ.uW {l:List au} {G:bH} (h:mQ G.kept (fun x=>(aH G.dead x).isSome=true) G.alive):mQ (lr G l).kept (fun x=>(aH (lr G l).dead x).isSome=true) (lr G l).alive:=by
 induction l generalizing G with
 |nil=>exact h
 |cons d l ih=>exact ih h.kill
theorem Xx (l:List au) (G:bH):(lr G l).kept=G.kept/\(lr G l).vec=G.vec:=by
 induction l generalizing G with
 |nil=>exact⟨rfl,rfl⟩
 |cons d l ih=>exact ih (kX G d)
theorem Xw (l:List au) (G:bH) (x:au):(aH (lr G l).dead x).isSome=true↔(aH G.dead x).isSome=true\/x∈l:=by
 induction l generalizing G with
 |nil=>simp[lr]
 | cons d l ih=>
  have h:=ih (kX G d);have hd:(aH (kX G d).dead x).isSome=true↔(aH G.dead x).isSome=true\/x=d:=by
   show(aH (cD G.dead d 1) x).isSome=true↔_
   rw[jC];by_cases e:x=d<;>simp[e]
  grind [lr]
def pn (L:List ((Int×Int)×Int)) (a i:Int):Int:=(aH L (a,i)).getD 0
structure cV (G:bH) (m:aP):Prop where
 vec:∀a i,pn G.vec a i=getM m.ctx a i
 kept:∀e:af,e∈m.kept↔∃v,aH G.kept e.dot=some (v,e)
 keys:∀d x,aH G.kept d=some x->x.2.dot=d
 len:G.kept.length=m.kept.length
 sorted:m.kept.Pairwise fun x y=>cA x.dot y.dot=true
 ctx:∀e∈m.kept,fx m.ctx e.dot=true
 dead:∀d,(aH G.dead d).isSome=true↔d∈m.dead
 Cu:mQ G.kept (fun x=>(aH G.dead x).isSome=true) G.alive
theorem cV.start:cV ⟨[],[],[],[]⟩ oF:=by
 refine⟨fun _ _=>rfl,fun e=>?_,fun d x h=>(by cases h),rfl,List.Pairwise.nil,fun e h=>(by cases h),fun d=>?_,⟨fun k d=>?_,fun k x h=>(by cases h)⟩⟩
 all_goals grind [oF,tk,gO]
theorem eH {x:au} {a i:Int}:gU x a i=true↔x.dev=a/\x.inc=i:=by
 grind [gU]
theorem Qe {a i n a' i':Int} (h:¬(a'=a/\i'=i)):∀(l:List au) (s:List au×Bool),(l.foldl (gp a i n) s).1.find? (fun x=>gU x a' i')=(s.1.find? fun x=>gU x a' i').or (l.find? fun x=>gU x a' i')
 |[],s=>by simp
 |x::l,s=>by
  have hn:gU ⟨a,i,n⟩ a' i'=false:=Ar.2 fun e=>h (by have:=eH.1 e;grind)
  rw[Bo,Qe h l,List.find?_cons];have hx:gU x a i=true->gU x a' i'=false:=fun e=>Ar.2 fun e2=>h (by have h1:=eH.1 e;have h2:=eH.1 e2;omega)
  grind [gp]
theorem Qd {a i n:Int}:∀(l:List au) (s:List au×Bool),(s.1.find? fun x=>gU x a i)=(if s.2=true then some ⟨a,i,n⟩else none)->((l.foldl (gp a i n) s).1.find? fun x=>gU x a i)=if(l.foldl (gp a i n) s).2=true then some ⟨a,i,n⟩else none
 |[],s,h=>h
 |x::l,s,h=>by
  rw[Bo];refine Qd l _ ?_;have hn:gU ⟨a,i,n⟩ a i=true:=eH.2 ⟨rfl,rfl⟩;unfold gp
  cases e0:s.2<;>cases e1:py x a i<;>cases e2:gU x a i<;>simp only[e0,Ax,Bc,BB]at h<;>simp only[DN,Dl,Eu,DO,BL,Dj,B9,Bk,e0,BB,Bc,Ax,List.find?_append,h,List.find?_cons,hn,e2,List.find?_nil,Option.none_or,Option.some_or,Option.or_none]
theorem OE (l:List au) (a i n:Int):iq l a i n=bif (l.foldl (gp a i n) ([],false)).2 then(l.foldl (gp a i n) ([],false)).1 else(l.foldl (gp a i n) ([],false)).1++[⟨a,i,n⟩]:=rfl
theorem Nh (l:List au) (a i n a' i':Int):getM (iq l a i n) a' i'=if a'=a/\i'=i then n else getM l a' i':=by
 have hn:gU ⟨a,i,n⟩ a i=true:=eH.2 ⟨rfl,rfl⟩;split
 . grind [Qd,getM,OE]
 . rename_i h;have h1:=Qe (n:=n) h l ([],false);have hn2:gU ⟨a,i,n⟩ a' i'=false:=Ar.2 fun e=>h (by have:=eH.1 e;grind)
   grind [getM,OE]
section
variable {α:Type} {less:α->α->Bool}
theorem qwf (l:List α) (e:α):l.take (di less l e)=l.takeWhile fun x=>less x e:=by
 grind [di,List.takeWhile_append_dropWhile]
theorem ZD (l:List α) (e:α):l.drop (di less l e)=l.dropWhile fun x=>less x e:=by
 grind [di,List.takeWhile_append_dropWhile]
theorem Fc (htr:∀x y z,less x y=true->less y z=true->less x z=true) {e:α}:∀{l:List α},l.Pairwise (fun x y=>less x y=true)->(∀x∈l,less x e=true\/less e x=true)->(l.take (di less l e)++e::l.drop (di less l e)).Pairwise fun x y=>less x y=true:=by
 intro l hl ht;rw[qwf,ZD];induction l with
 |nil=>simp
 |cons x l ih=>
  rw[Bl]at hl;rw[Bw,Dd];grind [List.pairwise_cons,List.takeWhile_subset]
theorem G4 (l:List α) (e x:α):x∈l.take (di less l e)++e::l.drop (di less l e)↔x∈l\/x=e:=by
 grind [List.take_append_drop]
theorem qvp [DecidableEq α] (l:List α) (e x:α):x∈gn less l e↔x∈l\/x=e:=by
 grind [gn,G4]
theorem YG [DecidableEq α] (l a:List α) (x:α):x∈l.foldl (gn less) a↔x∈a\/x∈l:=by
 induction l generalizing a with
 |nil=>simp
 |cons y l ih=>rw[Bo,ih,qvp,Ap,or_assoc]
theorem sS [DecidableEq α] (l:List α) (x:α):x∈dL less l↔x∈l:=by
 grind [dL,YG]
end
variable [Inhabited aK]
theorem cV.none {G:bH} {m:aP} (h:cV G m) {e:af} (hh:fx m.ctx e.dot=false):aH G.kept e.dot=none:=by
 cases he:aH G.kept e.dot with
 |none=>rfl
 |some x=>
  have h1:=h.keys _ _ he;have h2:=(h.kept x.2).2 ⟨x.1,by rw[h1,he]⟩;have h3:=h.ctx _ h2;rw[h1,hh]at h3;cases h3
def rE (G:bH) (e:af) (v:Value) (nb:Nat):bH:=lr (iU (il G e v) e nb) e.over
theorem ME (G:bH) (e:af) (nb:Nat):(iU G e nb).kept=G.kept/\(iU G e nb).vec=G.vec/\(iU G e nb).dead=G.dead:=by
 grind [iU]
theorem mQ.take {G:bH} {e:af} {v:Value} {nb:Nat} (h:mQ G.kept (fun x=>(aH G.dead x).isSome=true) G.alive) (hn:aH G.kept e.dot=none):
   mQ (iU (il G e v) e nb).kept (fun x=>(aH (iU (il G e v) e nb).dead x).isSome=true) (iU (il G e v) e nb).alive:=by
 obtain⟨k1,k2,k3⟩:=ME (il G e v) e nb;rw[k1,k3];have hk:∀d,aH (il G e v).kept d=if d=e.dot then some (v,e)else aH G.kept d:=fun d=>jC _ _ _ _
 have hno:∀k,¬gO G.alive k e.dot:=fun k hh=>by
   obtain⟨x,hx,_⟩:=(h.al k e.dot).1 hh;rw[hn]at hx;cases hx
 show mQ _ (fun x=>(aH G.dead x).isSome=true) _
 unfold iU;split
 . rename_i hc;have hd:¬(aH G.dead e.dot).isSome=true:=by
     have:=hc.2;rw[show(il G e v).dead=G.dead from rfl]at this;rw[this];simp
   refine⟨fun k d=>?_,XO h.full⟩;show gO (qB G.alive nb e.key e.dot) k d↔_
   rw[Yx,hk];by_cases hd2:d=e.dot
   . grind
   . simp only[Al hd2,hd2,and_false,Dm];exact h.al k d
 . rename_i hc;refine⟨fun k d=>?_,h.full⟩;show gO G.alive k d↔_
   rw[hk];by_cases hd2:d=e.dot
   . subst hd2;simp only[BB];refine⟨fun hh=>absurd hh (hno k),?_⟩;rintro⟨x,hx,h2,_,h4⟩
     cases hx;refine absurd ⟨h2,?_⟩ hc;show aH G.dead e.dot=none
     simp_all
   . simp only[Al hd2];exact h.al k d
theorem cV.apply {G:bH} {m:aP} {e:af} (h:cV G m) (v:Value) (nb:Nat) (hr:gR e=true) (hh:fx m.ctx e.dot=false) (hs:getM m.ctx e.dot.dev e.dot.inc+1=e.dot.seq) (hk:¬2048<=m.kept.length):
   cV (rE G e v nb) (ew m e).1/\(ew m e).2=(true,0):=by
 have hA:ew m e=(⟨iq m.ctx e.dot.dev e.dot.inc e.dot.seq,gC m.kept e,dL cA (m.dead++e.over)⟩,true,0):=by
   grind [ew]
 rw[hA];refine⟨?_,rfl⟩;have hn:=h.none hh;obtain⟨k1,k2,k3⟩:=ME (il G e v) e nb;obtain⟨q1,q2⟩:=Xx e.over (iU (il G e v) e nb);have hkept:(rE G e v nb).kept=cD G.kept e.dot (v,e):=q1.trans k1;have hvec:(rE G e v nb).vec=cD G.vec (e.dot.dev,e.dot.inc) e.dot.seq:=q2.trans k2;have hput:∀x,x∈gC m.kept e↔x∈m.kept\/x=e:=fun x=>G4 m.kept e x
 have hdot:∀x∈m.kept,x.dot≠e.dot:=fun x hx he=>by
   have:=h.ctx x hx;rw[he,hh]at this;grind
 refine⟨fun a i=>?_,fun x=>?_,fun d x hx=>?_,?_,?_,fun x hx=>?_,fun d=>?_,?_⟩
 . show pn (rE G e v nb).vec a i=getM (iq m.ctx e.dot.dev e.dot.inc e.dot.seq) a i
   rw[hvec,Nh];unfold pn;rw[jC];by_cases hc:a=e.dot.dev/\i=e.dot.inc
   . rw[An hc,An (by rw[hc.1,hc.2])];rfl
   . rw[Al hc,Al (by grind)];exact h.vec a i
 . show x∈gC m.kept e↔_
   rw[hput,hkept];simp only[jC];constructor
   . rintro(hx|rfl)
     . rw[Al (hdot x hx)];exact(h.kept x).1 hx
     grind
   . rintro⟨u,hu⟩;split at hu
     . grind
     . exact .inl ((h.kept x).2 ⟨u,hu⟩)
 . rw[hkept,jC]at hx;split at hx
   . grind
   . exact h.keys d x hx
 . show(rE G e v nb).kept.length=(gC m.kept e).length
   rw[hkept,VZ hn,OB,h.len]
 . show(gC m.kept e).Pairwise _
   refine Fc (less:=qA) (fun x y z=>xo) h.sorted fun x hx=>?_
   rcases EU x.dot e.dot with h1|h1|h1
   . exact .inl h1
   . grind
   . exact .inr h1
 . have hx:x∈gC m.kept e:=hx;show fx (iq m.ctx e.dot.dev e.dot.inc e.dot.seq) x.dot=true
   unfold fx;rw[Nh];rcases(hput x).1 hx with hx|rfl
   . have h1:=h.ctx x hx;grind [fx,fg]
   grind [ya,fg]
 . show(aH (lr (iU (il G e v) e nb) e.over).dead d).isSome=true↔d∈dL cA (m.dead++e.over)
   rw[Xw,sS,Ds,k3];show(aH G.dead d).isSome=true\/_↔_
   rw[h.dead]
 . exact(h.Cu.take hn).uW
end
end Go.Proofs
namespace Go.Proofs
open Go Go.Am Go.RowKit Go.Sy
section
variable [Inhabited aK]
theorem Nc {m:aP} {l:List af} {x:Nat} (h:x<l.length):cU m (l.take (x+1))=if(dU m l[x].key).1.dot=l[x].dot then jM (cU m (l.take x)) (dU m l[x].key).1 else cU m (l.take x):=lp _ _ h
theorem qzD (m:aP) (l:List af) (x:Nat):(cU m (l.take x)).length<=l.length:=by
 have:=yl m (l.take x) [];unfold cU;simp only[A7,AA,BT]at this;omega
theorem qxu {p q:Prop} (h:p=q) (hp:p):q:=h▸hp
theorem WS:CO pR MJ:=bB (cfg:=fun y=>bL zP (mB pR 9 (WB y) (cu pR 4 (xT y)))) bh (fun _=>rfl) (fun _=>F0) (n:=800) (by
 intro (m:aP) (hm:fQ m);have hal:=xU hm
 (conv=>whnf)
 refine⟨m,?_⟩
 repeat ((conv=>whnf);first|refine⟨rfl,?_⟩|refine⟨trivial,?_⟩)
 refine⟨hm,?_⟩
 (conv=>whnf)
 refine⟨⟨(0:Nat),Ao _,?_⟩,?_⟩
 . repeat' (first|exact trivial|exact rfl|((conv=>whnf);first|(apply ax<;>intro)|apply And.intro))
 intro (x:Nat) hx;have hx:x<=(cC m).length:=hx
 (conv=>whnf)
 refine ax (fun hlt=>?_) fun hge=>?_
 . have hlt':x<(cC m).length:=cm hlt;have hf:=Nc (m:=m) hlt';have hle:=qzD m (cC m) x;have mu:(cC m).length - (x+1)<(cC m).length - x:=by omega
   (conv=>whnf)
   refine aj.2 ⟨_,cp hlt',?_⟩
   (conv=>whnf)
   refine⟨(m,(cC m)[x].key),?_⟩
   repeat ((conv=>whnf);first|refine⟨rfl,?_⟩|refine⟨trivial,?_⟩)
   refine⟨hm,?_⟩
   (conv=>whnf)
   refine aj.2 ⟨_,cp hlt',?_⟩
   (conv=>whnf)
   refine ax (fun h=>?_) fun h=>?_
   . have h:decide ((dU m (cC m)[x].key).1.dot=(cC m)[x].dot)=false:=by
       have h:(!decide ((dU m (cC m)[x].key).1.dot=(cC m)[x].dot))=true:=by rw[<-rz];exact h
       simpa using h
     rw[Al (by simpa using h)]at hf
     (conv=>whnf)
     refine ae.2 ⟨cj x (by omega),?_⟩
     (conv=>whnf)
     refine⟨(x+1:Nat),hlt',mu,?_⟩
     repeat' (first|exact trivial|(with_reducible exact rfl)|((conv=>whnf);first|(apply ax<;>intro)|apply And.intro))
     all_goals first|exact rfl|(rw[hf];done)|(rw[hf];exact rfl)
   . have h:decide ((dU m (cC m)[x].key).1.dot=(cC m)[x].dot)=true:=by
       have h:(!decide ((dU m (cC m)[x].key).1.dot=(cC m)[x].dot))=false:=by rw[<-rz];exact h
       simpa using h
     rw[An (by simpa using h)]at hf
     (conv=>whnf)
     refine⟨((x,0):Nat×Nat),⟨((x,0):Nat×Nat),⟨⟨hlt',Ao _⟩,rfl⟩,?_⟩,?_⟩
     . repeat' (first|exact trivial|(with_reducible exact rfl)|((conv=>whnf);first|(apply ax<;>intro)|apply And.intro))
       all_goals exact rfl
     rintro⟨x1,k⟩ ⟨⟨g1,g2⟩,hx1⟩;have hx1:x1=x:=hx1;subst hx1;have hk:k<=di mc (cU m ((cC m).take x1)) (dU m (cC m)[x1].key).1:=g2;have hkp:=GV (less:=mc) (cU m ((cC m).take x1)) (dU m (cC m)[x1].key).1;have hkl:k<=(cU m ((cC m).take x1)).length:=by omega
     (conv=>whnf)
     refine ah.2 ⟨fun hlt2=> ?ga,fun hge2=> ?gb⟩
     case' ga=>
       have hlt2':k<(cU m ((cC m).take x1)).length:=cm hlt2
       (conv=>whnf)
       refine aj.2 ⟨_,cp hlt2',?_⟩
       (conv=>whnf)
       refine⟨((cU m ((cC m).take x1))[k].key,(dU m (cC m)[x1].key).1.key),?_⟩
       repeat ((conv=>whnf);first|refine⟨rfl,?_⟩|refine⟨trivial,?_⟩)
       (conv=>whnf)
       refine ah.2 ⟨fun hl=> ?gc,fun hl=> ?gd⟩
       case gc=>
        have hl:mc (cU m ((cC m).take x1))[k] (dU m (cC m)[x1].key).1=true:=hl
        (conv=>whnf)
        refine ae.2 ⟨cj k (by omega),?_⟩
        (conv=>whnf)
        refine⟨((x1,k+1):Nat×Nat),⟨⟨hlt',FP hk hlt2' hl⟩,rfl⟩,by show(cU m ((cC m).take x1)).length - (k+1)<(cU m ((cC m).take x1)).length - k;omega,?_⟩
        repeat' (first|exact trivial|(with_reducible exact rfl)|((conv=>whnf);first|(apply ax<;>intro)|apply And.intro))
        all_goals exact rfl
       case' gd=>
        have hl:mc (cU m ((cC m).take x1))[k] (dU m (cC m)[x1].key).1=false:=hl;have hkk:k=di mc (cU m ((cC m).take x1)) (dU m (cC m)[x1].key).1:=FQ hk hlt2' hl
     case' gb=>
       have hge2':(cU m ((cC m).take x1)).length<=k:=gf hge2;have hkk:k=di mc (cU m ((cC m).take x1)) (dU m (cC m)[x1].key).1:=by omega
     all_goals
       have hz:(cU m ((cC m).take x1)).length+1<=60000:=by omega
       (conv=>whnf)
       refine⟨fun _=>rfl,?_⟩
       (conv=>whnf)
       refine ae.2 ⟨by show Nat.ble k (cU m ((cC m).take x1)).length=true;rw[Au];exact hkl,?_⟩
       (conv=>whnf)
       refine⟨fun _=>rfl,?_⟩
       (conv=>whnf)
       refine ae.2 ⟨by show Nat.ble k (cU m ((cC m).take x1)).length=true;rw[Au];exact hkl,?_⟩
       (conv=>whnf)
       refine⟨fun _=>⟨rfl,rfl⟩,?_⟩
       (conv=>whnf)
       refine⟨(cU m ((cC m).take x1)).take k,rfl,?_⟩
       (conv=>whnf)
       refine ae.2 ⟨uk _ (by simp;omega),?_⟩;have hS:∃e:af,e.enc=(dU m (cC m)[x1].key).1.enc/\ck (Nat.ble ((([]++(cU m ((cC m).take x1)).take k).length+[e].length)*176) 16777216&&Nat.ble (([]++(cU m ((cC m).take x1)).take k).length+[e].length) 16777216) ((∀x:af,x.enc.length=19/\x.enc.all jU=true)/\ ∃M:List af,SV.bn af ((cU m ((cC m).take x1)).drop k) af.enc=SV.bn af M af.enc/\ck (Nat.ble ((([]++(cU m ((cC m).take x1)).take k++[e]).length+M.length)*176) 16777216&&Nat.ble (([]++(cU m ((cC m).take x1)).take k++[e]).length+M.length) 16777216) (ck (bw .i64 ((x1:Int)+1)) (∃y:Nat,(xT m).ok y/\(xT m).μ y<(xT m).μ x1/\(True/\SV.bn af ([]++(cU m ((cC m).take x1)).take k++[e]++M) af.enc=SV.bn af (cU m ((cC m).take y)) af.enc/\SV.bn af (cC m) af.enc=SV.bn af (cC m) af.enc/\(x1:Int)+1=(y:Int)/\True)/\(True/\(SV.bn au m.ctx au.enc=SV.bn au m.ctx au.enc/\SV.bn af m.kept af.enc=SV.bn af m.kept af.enc/\SV.bn au m.dead au.enc=SV.bn au m.dead au.enc/\True)/\True)/\True))):=by
        refine⟨(dU m (cC m)[x1].key).1,rfl,ae.2 ⟨uk _ (by simp;omega),fun _=>⟨rfl,rfl⟩,(cU m ((cC m).take x1)).drop k,rfl,ae.2 ⟨uk _ (by simp;omega),ae.2 ⟨cj x1 (by omega),(x1+1:Nat),hlt',mu,⟨trivial,?_,rfl,rfl,trivial⟩,⟨trivial,⟨rfl,rfl,rfl,trivial⟩,trivial⟩,trivial⟩⟩⟩⟩;rw[hf];unfold jM;rw[<-hkk];simp
       clear hf hle mu g2 hk hkp;exact qxu (by kernel_rfl) hS
 . have hge':(cC m).length<=x:=gf hge
   (conv=>whnf)
   refine⟨by rw[Aq hge'];rfl,?_⟩
   repeat' (first|exact trivial|exact rfl|((conv=>whnf);first|(apply ax<;>intro)|apply And.intro)))
end
end Go.Proofs
namespace Go.Proofs
open Go Go.Am Go.RowKit Go.Sy Go.Gm
section
variable [Inhabited aK]
section
variable {α:Type} {less:α->α->Bool}
theorem E5 (hir:∀x,less x x=false) (htr:∀x y z,less x y=true->less y z=true->less x z=true):∀{l m:List α},l.Pairwise (fun x y=>less x y=true)->m.Pairwise (fun x y=>less x y=true)->(∀x,x∈l↔x∈m)->l=m
 |[],[],_,_,_=>rfl
 |[],y::m,_,_,h=>by have:=(h y).2 As;grind
 |x::l,[],_,_,h=>by have:=(h x).1 As;grind
 | x::l,y::m,hl,hm,h=>by
  rw[Bl]at hl hm;have hxy:x=y:=by
   have h1:=(h x).1 As;have h2:=(h y).2 As;grind
  subst hxy;congr 1
  refine E5 hir htr hl.2 hm.2 fun z=>?_
  have hz:=h z;grind
theorem Wr [DecidableEq α] (hir:∀x,less x x=false) (htr:∀x y z,less x y=true->less y z=true->less x z=true) (tri:∀x y,less x y=true\/x=y\/less y x=true) {l:List α} (hl:l.Pairwise fun x y=>less x y=true) (e:α):(gn less l e).Pairwise fun x y=>less x y=true:=by
 have key:∀{l:List α},l.Pairwise (fun x y=>less x y=true)->e∈l->l[di less l e]? =some e:=by
   intro l;induction l with
   |nil=>grind
   |cons x l ih=>
    grind [List.pairwise_cons,di,List.takeWhile_cons]
 unfold gn;split
 . exact hl
 . rename_i hne;refine Fc htr hl fun x hx=>?_
   grind
theorem VS [DecidableEq α] (hir:∀x,less x x=false) (htr:∀x y z,less x y=true->less y z=true->less x z=true) (tri:∀x y,less x y=true\/x=y\/less y x=true) (l:List α):(dL less l).Pairwise fun x y=>less x y=true:=by
 have key:∀(l a:List α),a.Pairwise (fun x y=>less x y=true)->(l.foldl (gn less) a).Pairwise fun x y=>less x y=true:=by
  intro l;induction l with
  |nil=>grind
  |cons x l ih=>grind [Wr]
 exact key l [] List.Pairwise.nil
end
theorem xC (l:List au):(dL cA l).Pairwise fun x y=>cA x y=true:=VS xn (fun _ _ _=>xo) EU l
theorem vS {l m:List au} (hl:l.Pairwise fun x y=>cA x y=true) (h:∀x,x∈l↔x∈m):l=dL cA m:=
 E5 xn (fun _ _ _=>xo) hl (xC m) fun x=>by rw[h,sS]
theorem cV.al {G:bH} {m:aP} (h:cV G m) (k:aG) (d:au):gO G.alive k d↔∃e∈aW m k,e.dot=d:=by
 rw[h.Cu.al];unfold aW cC mG;simp only[AB,Ad,A2,Ah,Bv,Aa];constructor
 . rintro⟨x,h1,h2,h3,h4⟩;have hd:=h.keys d x h1;have hk:=(h.kept x.2).2 ⟨x.1,by rw[hd,h1]⟩;exact⟨x.2,⟨⟨hk,h2,fun hm=>h4 ((h.dead d).2 (hd▸hm))⟩,h3⟩,hd⟩
 . rintro⟨e,⟨⟨hk,h2,h3⟩,h4⟩,rfl⟩;obtain⟨v,hv⟩:=(h.kept e).1 hk;exact⟨(v,e),hv,h2,h4,fun hd=>h3 ((h.dead _).1 hd)⟩
theorem Xu {G:bH} {m:aP} (h:cV G m) (k:aG):((aW m k).map (·.dot)).Pairwise fun x y=>cA x y=true:=by
 rw[Di];exact EE ((Be).trans Be) h.sorted
theorem qvf {G:bH} {m:aP} (h:cV G m) {k:aG} {l:List au} (hl:∀d,d∈l↔gO G.alive k d):dL cA l=(aW m k).map (·.dot):=
 (vS (Xu h k) fun d=>by rw[hl,h.al];simp).symm
theorem Nk {G:bH} {m:aP} (h:cV G m) {k:aG} {e:af} (he:e∈aW m k):∃v,aH G.kept e.dot=some (v,e):=
 (h.kept e).1 (AB.1 (AB.1 he).1).1
theorem xR {G:bH} {m:aP} (h:cV G m) (k:aG):(aH G.alive k).isSome=true↔aW m k≠[]:=by
 constructor
 . intro hs;obtain⟨x,hx⟩:=Bz.1 hs;have hf:=h.Cu.full k x hx;obtain⟨y,L,hL⟩:∃y L,x.2=y::L:=by
    cases e:x.2 with
    |nil=>grind
    |cons y L=>grind
   obtain⟨e,he,_⟩:=(h.al k y.1).1 ⟨x,hx,by rw[hL];simp[aH]⟩;grind
 . intro hne;obtain⟨e,he⟩:=Ep _ hne;obtain⟨x,hx,_⟩:=(h.al k e.dot).2 ⟨e,he,rfl⟩;rw[hx];rfl
theorem qzE:∀{l:List af} {y:af},dO l=some y->y∈l:=by
 have key:∀(l:List af) (b:Option af) (y:af),l.foldl (fun b e=>match b with|none=>some e|some y=>if lq e.bA y.bA then some y else some e) b=some y->b=some y\/y∈l:=by
  intro l;induction l with
  |nil=>grind
  |cons x l ih=>
   intro b y h;rcases ih _ y h with h1|h1
   . cases b with
     |none=>grind
     |some z=>
      grind
   grind
 intro l y h;exact(key l none y h).resolve_left (by simp)
theorem qwu {l:List af} (h:l≠[]):∃y,dO l=some y:=by
 obtain⟨y,hy⟩:=v7 (l:=l) (x:=l.length) (A4.2 h) (Ac _);rw[A6]at hy;grind
theorem vq {m:aP} {k:aG} (h:aW m k≠[]):(dU m k).1∈aW m k:=by
 obtain⟨y,hy⟩:=qwu h;grind [dU,qzE]
theorem ec {m:aP} {k:aG} {e:af}:e∈aW m k↔e∈cC m/\e.key=k:=by
 grind [aW]
theorem Ng {G:bH} {m:aP} (h:cV G m) {x y:af} (hx:x∈cC m) (hy:y∈cC m) (e:x.dot=y.dot):x=y:=by
 obtain⟨u,hu⟩:=(h.kept x).1 (AB.1 hx).1;obtain⟨v,hv⟩:=(h.kept y).1 (AB.1 hy).1;rw[e,hv]at hu;grind
theorem FF {G:bH} {m:aP} (h:cV G m):∀n,n<=(cC m).length->(cU m ((cC m).take n)).Pairwise (fun x y=>mc x y=true)/\ ∀y,y∈cU m ((cC m).take n)↔∃x∈(cC m).take n,(dU m x.key).1.dot=x.dot/\y=(dU m x.key).1
 |0,_=>by simp[cU]
 | n + 1, hn=>by
  have hn':n<(cC m).length:=hn;obtain⟨h1,h2⟩:=FF h n (by omega);have hf:=Nc (m:=m) hn';have hmem:∀x,x∈(cC m).take (n+1)↔x∈(cC m).take n\/x=(cC m)[n]:=fun x=>by
    rw[Aw hn',Ds,DW]
  rw[hf];have hal:(cC m)[n]∈cC m:=AF hn';have hkn:aW m (cC m)[n].key≠[]:=DV (ec.2 ⟨hal,rfl⟩);have hw:=ec.1 (vq hkn);split
  . rename_i hd;have hwe:(dU m (cC m)[n].key).1=(cC m)[n]:=Ng h hw.1 hal hd;refine⟨Fc (less:=mc) (fun x y z=>qj _ _ _) h1 fun y hy=>?_,fun y=>?_⟩
    . obtain⟨x,hx,hxd,rfl⟩:=(h2 y).1 hy;rcases sQ (dU m x.key).1.key (dU m (cC m)[n].key).1.key with h3|h3|h3
      . exact .inl h3
      . exfalso;have hxa:x∈cC m:=EG hx;have hkx:aW m x.key≠[]:=DV (ec.2 ⟨hxa,rfl⟩);have hwx:=ec.1 (vq hkx);rw[hwx.2,hw.2]at h3;have hxe:x=(cC m)[n]:=by
          refine Ng h hxa hal ?_;rw[<-hxd,h3,hd]
        obtain⟨j,hj,hje⟩:=AK hx;have hjn:j<n:=by simp at hj;omega
        rw[D4]at hje;have hs:=AJ.1 (EE Be h.sorted:(cC m).Pairwise _) j n (by omega) hn' hjn;rw[hje,hxe,xn]at hs
        cases hs
      . exact .inr h3
    . unfold jM;rw[G4,h2];constructor
      . rintro(⟨x,hx,hx2⟩|rfl)
        . exact⟨x,(hmem x).2 (.inl hx),hx2⟩
        . exact⟨_,(hmem _).2 (.inr rfl),hd,rfl⟩
      . rintro⟨x,hx,hx2,rfl⟩;rcases(hmem x).1 hx with hx|rfl
        . exact .inl ⟨x,hx,hx2,rfl⟩
        . exact .inr rfl
  . rename_i hd;refine⟨h1,fun y=>?_⟩;rw[h2];constructor
    . rintro⟨x,hx,hx2⟩;exact⟨x,(hmem x).2 (.inl hx),hx2⟩
    . rintro⟨x,hx,hx2,hx3⟩;rcases(hmem x).1 hx with hx|rfl
      . exact⟨x,hx,hx2,hx3⟩
      . exact absurd hx2 hd
theorem K4 {G:bH} {m:aP} (h:cV G m):(gQ m).Pairwise fun x y=>mc x y=true:=by
 have:=(FF h _ (Ac _)).1;rwa [A6]at this
theorem LD {G:bH} {m:aP} (h:cV G m) (y:af):y∈gQ m↔∃k,aW m k≠[]/\y=(dU m k).1:=by
 have h2:=(FF h _ (Ac _)).2 y;rw[A6]at h2;unfold gQ;rw[h2];constructor
 . rintro⟨x,hx,_,rfl⟩;exact⟨x.key,DV (ec.2 ⟨hx,rfl⟩),rfl⟩
 grind [ec,vq]
theorem Xl {G:bH} {m:aP} (h:cV G m) {ks:List aG} (hs:ks.Pairwise fun x y=>ff x y=true) (hm:∀k,k∈ks↔(aH G.alive k).isSome=true):ks.map (fun k=>(dU m k).1)=gQ m:=by
 have hkey:∀k∈ks,((dU m k).1).key=k:=fun k hk=>(ec.1 (vq ((xR h k).1 ((hm k).1 hk)))).2
 refine E5 (less:=mc) (fun x=>rh _) (fun x y z=>qj _ _ _) ?_ (K4 h) fun y=>?_
 . rw[Di];refine List.Pairwise.imp_of_mem (fun{a b} ha hb hab=>?_) hs;show ff _ _=true
   rw[hkey a ha,hkey b hb];omega
 grind [LD,xR]
end
theorem Ha {Fz:Nat->Option AO} {n:Nat} (l:List Int):aT Fz (.agg (l.map i64)) (dz n (.agg (l.map fun z=>Value.int .i64 z).toArray)):=by
 unfold dz;refine .agg (by simp) fun i c v hc hv=>?_
 simp only[AI]at hc hv
 cases h:l[i]? with
 |none=>rw[h]at hc;cases hc
 |some z=>
  rw[h]at hc;simp[h]at hv
  cases hc;rw[<-hv];exact .int _ _
theorem zW {C:Inhabited aK->aL} {f:FuncId} {fn:Func} {body:Code} (hc:∀I:Inhabited aK, @Go.Sy.cI I Tryz.prog Tryz.tab f (C I)) (hfn:Tryz.tab.fns.get f=some fn) (hb:fn.body=some body) {args:List Value} {w:World} {b:Bool}
  (hy:∀I:Inhabited aK,∃y,(C I).pre y/\PL (bY Tryz.tab w).get ((C I).args y) (args.map (dz w.heap.size))/\(C I).res y= .bool b):Calls Tryz.prog f args.toArray w fun e w'=>e= .returned (.bool b)/\Below w.heap.size w w':=by
 letI:Inhabited aK:=⟨⟨True,#[]⟩⟩
 obtain⟨y,h1,h2,h3⟩:=hy inferInstance;refine Calls.mono (mo bh.ok (hc inferInstance) hfn hb h1 h2 (cX.o8 rfl _)) ?_;rintro e w' ⟨v,rfl,hv,hbel,_⟩;rw[h3]at hv
 cases hv;grind
section
variable [Inhabited aK]
def QC (p:World->Prop):Prop:=∀w,cX w->p w
theorem IQ {w:World} {p:Nat->Prop} {g:Bool} {a:Addr} {v:Value} (h:Rd w p g (.wp a) v):v= .pointer (some a):=by cases h;rfl
theorem RF {w:World} {p:Nat->Prop} {g:Bool} {n:Int} {v:Value} (h:Rd w p g (i64 n) v):v= .int .i64 n:=by cases h;rfl
end
def GS [Inhabited aK]:aL:={Y:=au,pre:=fun _=>True,args:=fun d=>[.agg [i64 d.dev,i64 d.inc],i64 d.seq],res:=fun d=> .bool (fJ d)}
theorem qvV [Inhabited aK]:CO TD GS:=bB (C:=GS) (cfg:=fun y=>bL zP (cR y)) bh (fun _=>rfl) (fun _=>F0) (n:=400) (by
 intro (d:au) _;refine⟨d,?_⟩
 repeat first|refine⟨rfl,?_⟩|refine⟨trivial,?_⟩
 repeat' first|exact trivial|exact rfl|refine ax (fun _=>?_) fun _=>?_|apply And.intro)
theorem Us (a i n:Int) (w:World):Calls Tryz.prog 135 #[.agg #[.int .i64 a, .int .i64 i], .int .i64 n] w fun e w'=>e= .returned (.bool (fJ ⟨a,i,n⟩))/\Below w.heap.size w w':=
 zW (C:=fun I=> @GS I) (fun I=> @qvV I) (hfn:=rfl) (hb:=rfl) (args:=[.agg #[.int .i64 a, .int .i64 i], .int .i64 n]) (fun I=>⟨⟨a,i,n⟩,trivial,⟨rfl,fun j c v hc hv=>by
  match j with
  |0=>cases hc;cases hv;exact Ha [a,i]
  |1=>cases hc;cases hv;exact .int _ _
  |_+2=>cases hc⟩,rfl⟩)
theorem UE {w:World} {bv:Nat} {L:List ((Int×Int)×Int)} (hm:aA w bv eO cO L) (a i:Int):∀w':World,w'.heap[bv]? =w.heap[bv]? ->(Instr.lookup 134 (.map (some bv)) (.agg #[.int .i64 a, .int .i64 i]) false).run Tryz.prog w'= .ok (.int .i64 ((aH L (a,i)).getD 0)) w':=fun w' h=>by
 have:=(hm.same h).lookup CZ Tryz.underlying134 (wR w') (a,i) false;simp only[Ax,Bc]at this;rw[show eO (a,i)= .agg #[.int .i64 a, .int .i64 i]from rfl]at this;rw[this]
 cases aH L (a,i)<;>rfl
structure fa (S:Nat->Prop) (w w':World):Prop where
 os:w'.os=w.os
 tape:w'.tape=w.tape
 output:w'.output=w.output
 size:w.heap.size<=w'.heap.size
 block:∀k,k<w.heap.size->¬S k->w'.heap[k]? =w.heap[k]?
theorem mq {S:Nat->Prop} {w w':World} (h:Below w.heap.size w w'):fa S w w':=⟨h.os,h.tape,h.output,h.size,fun k hk _=>h.block k hk⟩
theorem fa.trans {S:Nat->Prop} {a b c:World} (h:fa S a b) (k:fa S b c):fa S a c:=
 ⟨k.os.trans h.os,k.tape.trans h.tape,k.output.trans h.output,Av h.size k.size,fun i hi hS=>(k.block i (AE hi h.size) hS).trans (h.block i hi hS)⟩
theorem fa.mono {S T:Nat->Prop} {w w':World} (h:fa S w w') (hST:∀k,k<w.heap.size->S k->T k):fa T w w':=⟨h.os,h.tape,h.output,h.size,fun k hk hT=>h.block k hk fun hS=>hT (hST k hk hS)⟩
theorem fa.aY {S:Nat->Prop} (w:World) {b:Nat} (o:Obj) (hb:S b):fa S w.drew (World.aY w.drew b o):=⟨rfl,rfl,rfl,by simp[World.aY],fun k _ hS=>by
 show(w.drew.heap.setIfInBounds b o)[k]? =_
 have hne:¬b=k:=by grind
 rw[Eg,Al hne]⟩
theorem fa.drew {S:Nat->Prop} {a w:World} (h:fa S a w):fa S a w.drew:=⟨h.os,h.tape,h.output,h.size,h.block⟩
theorem SL (b:Nat) (w:World):(binOp BinOp.eql 134 (.map (some b)) (.map none)).run Tryz.prog w= .ok (.bool false) w:=by kernel_rfl
theorem SP {w:World} {bs bv:Nat} {L:List ((Int×Int)×Int)} (hs:w.cell? ⟨bs,0,none⟩=some (.map (some bv))) (hm:aA w bv eO cO L) (a i n:Int) (hne:bs≠bv) (hd:fJ ⟨a,i,n⟩=true) (hlt:(aH L (a,i)).getD 0<n):
  Calls Tryz.prog 85 #[.pointer (some ⟨bs,0,none⟩), .agg #[.int .i64 a, .int .i64 i], .int .i64 n] w fun e w'=>e= .returned (.bool true)/\fa (· =bv) w w'/\aA w' bv eO cO (cD L (a,i) n):=by
 have hlk:=UE hm a i;have hc:=fun w=>Us a i n w
 rw[hd]at hc;have hbv:bv<w.heap.size:=by
  obtain⟨es,clk,h,_⟩:=hm.at_;exact(Ab.1 h).1
 have hbs:bs<w.heap.size:=by
  unfold World.cell? at hs
  cases h:w.heap[bs]? with
  |none=>simp[h]at hs
  |some o=>exact(Ab.1 h).1
 have hle:decide (n<=(aH L (a,i)).getD 0)=false:=AQ (by omega);have hmn:=fun w=>SL bv w
 go_enter Tryz.func85,Tryz.ntmps85
 go_wp2_with fail
 have hq:Below w.heap.size w (w.alloc (.cells #[.int .i64 a, .int .i64 i] 67)).drew:=((Below.refl w.heap.size w).alloc (Ac _) _).drew;have hsz:(w.alloc (.cells #[.int .i64 a, .int .i64 i] 67)).drew.heap.size=w.heap.size+1:=by simp
 have hn0:(w.alloc (.cells #[.int .i64 a, .int .i64 i] 67)).drew.cell? ⟨w.heap.size,0,none⟩=some (.int .i64 a):=by simp
 have hn1:(w.alloc (.cells #[.int .i64 a, .int .i64 i] 67)).drew.cell? ⟨w.heap.size,1,none⟩=some (.int .i64 i):=by simp
 go_region_with (go_at_call 135;refine(hc _).mono ?_;rintro e w1 ⟨rfl,hb⟩;have hs1:w1.cell? ⟨bs,0,none⟩=some (.map (some bv)):=(hb.cell (by rw[hsz];show bs<_;omega)).trans ((hq.cell hbs).trans hs);have hl1:=hlk w1 ((hb.block bv (by rw[hsz];omega)).trans (hq.block bv hbv));have hb0:=(hb.cell (p:=⟨w.heap.size,0,none⟩) (by rw[hsz];show w.heap.size<_;omega)).trans hn0;have hb1:=(hb.cell (p:=⟨w.heap.size,1,none⟩) (by rw[hsz];show w.heap.size<_;omega)).trans hn1)
 all_goals (have hmw:aA w1.drew bv eO cO L:=hm.same ((hb.block bv (by rw[hsz];omega)).trans (hq.block bv hbv)))
 all_goals (obtain⟨es,clk,hu,hmu⟩:=hmw.update CZ Tryz.underlying134 (a,i) n)
 all_goals (rw[show eO (a,i)= .agg #[.int .i64 a, .int .i64 i]from rfl,show cO n= .int .i64 n from rfl]at hu)
 all_goals (go_wp2_with fail)
 all_goals (go_region_with fail)
 all_goals (go_wp2)
 all_goals (go_ret)
 all_goals (exact⟨rfl,((mq hq).trans (mq hb).drew).trans (fa.aY _ _ rfl),hmu⟩)
theorem KM (a i n:Int) (w:World):Calls Tryz.prog 81 #[.agg #[.int .i64 a, .int .i64 i, .int .i64 n]] w fun e w'=>e= .returned (.bool (fJ ⟨a,i,n⟩))/\Below w.heap.size w w':=
 zW (C:=fun I=>wN fJ) (fun I=> @Jv I) (hfn:=rfl) (hb:=rfl) (args:=[.agg #[.int .i64 a, .int .i64 i, .int .i64 n]]) (fun I=>⟨⟨a,i,n⟩,trivial,⟨rfl,fun j c v hc hv=>by
  match j with
  |0=>cases hc;cases hv;exact Ha [a,i,n]
  |_+1=>cases hc⟩,rfl⟩)
theorem YZ {a i n:Int} (hd:fJ ⟨a,i,n⟩=true):IntKind.i64.wrap (n - 1)=n - 1:=by
 letI:Inhabited aK:=⟨⟨True,#[]⟩⟩
 have h:bT 1 n=true/\bT n 4294967296=true:=by
  unfold fJ at hd;simp only[Ad]at hd;exact⟨hd.1.2,hd.2⟩
 rw[fg,fg,Aa,Aa]at h;exact IntWalk.i64_in _ (by omega)
theorem UM {w:World} {bs bv:Nat} {L:List ((Int×Int)×Int)} (hs:w.cell? ⟨bs,0,none⟩=some (.map (some bv))) (hm:aA w bv eO cO L) (a i n:Int) (hne:bs≠bv) (hd:fJ ⟨a,i,n⟩=true) (hlt:(aH L (a,i)).getD 0=n - 1):
    Calls Tryz.prog 52 #[.pointer (some ⟨bs,0,none⟩), .agg #[.int .i64 a, .int .i64 i, .int .i64 n]] w fun e w'=>e= .returned (.bool true)/\fa (· =bv) w w'/\aA w' bv eO cO (cD L (a,i) n):=by
  have hc:=fun w=>KM a i n w
  rw[hd]at hc;have hbv:bv<w.heap.size:=by
    obtain⟨es,clk,h,_⟩:=hm.at_;exact(Ab.1 h).1
  have hbs:bs<w.heap.size:=by
    unfold World.cell? at hs
    cases h:w.heap[bs]? with
    |none=>simp[h]at hs
    |some o=>exact(Ab.1 h).1
  go_enter Tryz.func52,Tryz.ntmps52
  go_wp2_with fail
  have hq:Below w.heap.size w (w.alloc (.cells #[.int .i64 a, .int .i64 i, .int .i64 n] 70)).drew:=((Below.refl w.heap.size w).alloc (Ac _) _).drew;have hsz:(w.alloc (.cells #[.int .i64 a, .int .i64 i, .int .i64 n] 70)).drew.heap.size=w.heap.size+1:=by simp
  have hn0:(w.alloc (.cells #[.int .i64 a, .int .i64 i, .int .i64 n] 70)).drew.cell? ⟨w.heap.size,0,none⟩=some (.int .i64 a):=by simp
  have hn1:(w.alloc (.cells #[.int .i64 a, .int .i64 i, .int .i64 n] 70)).drew.cell? ⟨w.heap.size,1,none⟩=some (.int .i64 i):=by simp
  have hn2:(w.alloc (.cells #[.int .i64 a, .int .i64 i, .int .i64 n] 70)).drew.cell? ⟨w.heap.size,2,none⟩=some (.int .i64 n):=by simp
  have hw:IntKind.i64.wrap (n - 1)=n - 1:=YZ hd;have hge:∀{x:World} (_:x.cell? ⟨bs,0,none⟩=some (.map (some bv))) (_:aA x bv eO cO L),Calls Tryz.prog 50 #[.pointer (some ⟨bs,0,none⟩), .agg #[.int .i64 a, .int .i64 i]] x fun e w'=>e= .returned (.int .i64 (n - 1))/\Below x.heap.size x w':=fun h1 h2=>by
    have:=tZ h1 h2 a i;rw[hlt]at this;exact this
  go_region_with (first
   |(go_at_call 81;refine(hc _).mono ?_;rintro e w1 ⟨rfl,hb⟩;have hq1:=hq.trans (hb.mono (by rw[hsz];omega));have hs1:w1.cell? ⟨bs,0,none⟩=some (.map (some bv)):=(hq1.cell hbs).trans hs;have hm1:aA w1 bv eO cO L:=hm.same (hq1.block bv hbv);have hz1:=hb.size;have hb0:=(hb.cell (p:=⟨w.heap.size,0,none⟩) (by rw[hsz];show w.heap.size<_;omega)).trans hn0;have hb1:=(hb.cell (p:=⟨w.heap.size,1,none⟩) (by rw[hsz];show w.heap.size<_;omega)).trans hn1;have hb2:=(hb.cell (p:=⟨w.heap.size,2,none⟩) (by rw[hsz];show w.heap.size<_;omega)).trans hn2)
   |(go_at_call 50;refine(hge (by assumption) (by assumption)).mono ?_;rintro e w2 ⟨rfl,hc2⟩;have hq2:=hq1.trans (hc2.mono (by rw[hsz]at hz1;omega));have hs2:w2.cell? ⟨bs,0,none⟩=some (.map (some bv)):=(hq2.cell hbs).trans hs;have hm2:aA w2 bv eO cO L:=hm.same (hq2.block bv hbv);have hc0:=(hc2.cell (p:=⟨w.heap.size,0,none⟩) (by rw[hsz]at hz1;show w.heap.size<_;omega)).trans hb0;have hc1:=(hc2.cell (p:=⟨w.heap.size,1,none⟩) (by rw[hsz]at hz1;show w.heap.size<_;omega)).trans hb1;have hc2':=(hc2.cell (p:=⟨w.heap.size,2,none⟩) (by rw[hsz]at hz1;show w.heap.size<_;omega)).trans hb2)
   |(go_at_call 85;refine(SP hs2 hm2 a i n hne hd (by omega)).mono ?_;rintro e w3 ⟨rfl,hbut,hm3⟩))
  all_goals (go_wp2)
  all_goals (go_ret)
  all_goals (exact⟨rfl,(mq hq2).trans hbut,hm3⟩)
section
def kc (w w':World):Prop:=∀(b:Nat) (arr:Array Value) (e:TypeId) (fz:Nat×Nat),w.heap[b]? =some (.cells arr e fz)->w'.heap[b]? =some (.cells arr e fz)
theorem ZV [Inhabited aK] {w w':World} {p:Nat->Prop} {g:Bool} (hc:kc w w') {s:SV} {v:Value} (h:Rd w p g s v):Rd w' p g s v:=by
 induction h with
 |bool b=>exact .bool b
 |int k n=>exact .int k n
 |str s=>exact .str s
 |bq=>exact .bq
 |wp a=>exact .wp a
 |nils=>exact .nils
 |bP=>exact .bP
 |bR=>exact .bR
 |any v=>exact .any v
 |fn h v=>exact .fn h v
 |cz h v=>exact .cz h v
 |fP h0=>exact .fP h0
 |ch h h0 a c=>exact .ch h h0 a c
 |bn b off cap arr e fz sz u hp hb hs hl hn hcc h1 _ ih=>exact .bn b off cap arr e fz sz u hp (hc _ _ _ _ hb) hs hl hn hcc h1 ih
 |agg h1 _ ih=>exact .agg h1 ih
 |bO h1 _ ih=>exact .bO h1 ih
def cL (w:World) (l:List au) (v:Value):Prop:=(l=[]/\ ∃a c,v= .slice a 0 c)\/ ∃b off cap arr e fz,v= .slice (some ⟨b,off,none⟩) l.length cap/\w.heap[b]? =some (.cells arr e fz)/\l.length<=cap/\off+l.length*3<=arr.size/\
 ∀i (h:i<l.length),arr[off+i*3]? =some (.int .i64 l[i].dev)/\arr[off+i*3+1]? =some (.int .i64 l[i].inc)/\arr[off+i*3+2]? =some (.int .i64 l[i].seq)
theorem ji [Inhabited aK] {w:World} {p:Nat->Prop} {g:Bool} {k:IntKind} {n:Int} {v:Value} (h:Rd w p g (.int k n) v):v= .int k n:=by cases h;rfl
theorem qt [Inhabited aK] {w:World} {p:Nat->Prop} {g:Bool} {s:Bs} {v:Value} (h:Rd w p g (.str s) v):v= .string ⟨s.toArray⟩:=by cases h;rfl
theorem tq [Inhabited aK] {w:World} {p:Nat->Prop} {g:Bool} {b:Bool} {v:Value} (h:Rd w p g (.bool b) v):v= .bool b:=by cases h;rfl
theorem Gw [Inhabited aK] {w:World} {p:Nat->Prop} {g:Bool} {l:List au} {v:Value} (h:Rd w p g (cK l) v):cL w l v:=by
 unfold cK at h
 cases h with
 |fP h0=>exact .inl ⟨AY.1 h0,_,_,rfl⟩
 |ch h h0 a c=>exact .inl ⟨AY.1 h0,_,_,rfl⟩
 |bn b off cap arr e fz sz u hp hb hs hl hn hc h1 h2=>
  by_cases h0:l=[]
  . subst h0;exact .inl ⟨rfl,_,_,rfl⟩
  . have hsz:sz=3:=by
     obtain⟨x,l',rfl⟩:=Dx h0;exact(hn 0 x rfl).symm
    subst hsz;refine .inr ⟨b,off,cap,arr,e,fz,rfl,hb,hc,hl,fun i hi=>?_⟩;have hx:l[i]? =some l[i]:=Ai hi;have e0:=h1 i _ 0 _ hx rfl;have e1:=h1 i _ 1 _ hx rfl;have e2:=h1 i _ 2 _ hx rfl;rw[ji (h2 i _ 0 _ hx rfl)]at e0;rw[ji (h2 i _ 1 _ hx rfl)]at e1;rw[ji (h2 i _ 2 _ hx rfl)]at e2;grind
theorem GX [Inhabited aK] {w:World} {l:List au} {v:Value} (h:cL w l v):Rd w (fun _=>True) true (cK l) v:=by
 unfold cK;rcases h with⟨rfl,a,c,rfl⟩|⟨b,off,cap,arr,e,fz,rfl,hb,hc,hl,hi⟩
 . exact .ch rfl rfl a c
 . refine .bn b off cap arr e fz 3 (fun i j=>(arr[off+i*3+j]?).getD (.bool false)) trivial hb (by decide) hl (fun _ _ _=>rfl) hc (fun i x j v hx hv=>?_) (fun i x j v hx hv=>?_)
   all_goals
    have hil:i<l.length:=(Ae.1 hx).1;have hxe:l[i]=x:=(Ae.1 hx).2;obtain⟨e0,e1,e2⟩:=hi i hil;rw[hxe]at e0 e1 e2;have hj:j<3:=(Ae.1 hv).1;match j,hj with
    |0,_=>cases hv;first|exact e0.trans (by rw[BC,e0];rfl)|(simp only[BC,e0,Bf];exact .int _ _)
    |1,_=>cases hv;first|exact e1.trans (by rw[e1];rfl)|(simp only[e1,Bf];exact .int _ _)
    |2,_=>cases hv;first|exact e2.trans (by rw[e2];rfl)|(simp only[e2,Bf];exact .int _ _)
theorem cL.cells {w w':World} (hc:kc w w') {l:List au} {v:Value} (h:cL w l v):cL w' l v:=by
 rcases h with h|⟨b,off,cap,arr,e,fz,h1,h2,h3⟩
 . exact .inl h
 . exact .inr ⟨b,off,cap,arr,e,fz,h1,hc _ _ _ _ h2,h3⟩
abbrev cY (s:Bs):Value:= .string ⟨s.toArray⟩
def iK (e:af) (v:Value):Value:= .agg #[.int .i64 e.dot.dev, .int .i64 e.dot.inc, .int .i64 e.dot.seq, .int .i64 e.bA.wall, .int .i64 e.bA.count, .int .i64 e.bA.dev, .int .i64 e.kind,cY e.key.name,cY e.key.domain,cY e.key.path,
 cY e.aa.value, .bool e.aa.aD, .bool e.aa.aM, .bool e.aa.aF, .bool e.aa.persistent, .int .i64 e.aa.aR, .int .i64 e.aa.ai, .int .i64 e.aa.access,v]
def jm (w:World) (u:Value) (e:af):Prop:=∃v,u=iK e v/\cL w e.over v
theorem jm.cells {w w':World} (hc:kc w w') {u:Value} {e:af} (h:jm w u e):jm w' u e:=by
 obtain⟨v,h1,h2⟩:=h;exact⟨v,h1,h2.cells hc⟩
def rN (x:Value×af):Value:=x.1
def pF (x:Nat×DL):Value:= .map (some x.1)
structure cW (w:World) (n b bk ba bd bs bv:Nat) (G:bH):Prop where
 c0:w.cell? ⟨b,0,none⟩=some (.map (some bk))
 c1:w.cell? ⟨b,1,none⟩=some (.map (some ba))
 c2:w.cell? ⟨b,2,none⟩=some (.map (some bd))
 c3:w.cell? ⟨b,3,none⟩=some (.pointer (some ⟨bs,0,none⟩))
 cv:w.cell? ⟨bs,0,none⟩=some (.map (some bv))
 iP:aA w bk bX rN G.kept
 ma:aA w ba dw pF G.alive
 md:aA w bd bX cO G.dead
 mv:aA w bv eO cO G.vec
 mi:∀x∈G.alive,aA w x.2.1 bX cO x.2.2
 nd:(bk::ba::bd::bv::G.alive.map (·.2.1)).Nodup
 low:∀j∈b::bs::bk::ba::bd::bv::G.alive.map (·.2.1),n<=j
 ev:∀x∈G.kept,jm w x.2.1 x.2.2
def dY (bk ba bd bv:Nat) (G:bH) (j:Nat):Prop:=j∈bk::ba::bd::bv::G.alive.map (·.2.1)
def l6 (w:World) (j:Nat):Prop:=∃es clk,w.heap[j]? =some (.map es clk)
section
variable {K V:Type} [DecidableEq K]
theorem _root_.Go.Gm.aA.isMap {w:World} {b:Nat} {enc:K->Value} {encV:V->Value} {L:List (K×V)} (h:aA w b enc encV L):l6 w b:=by
 obtain⟨es,clk,h,_⟩:=h.at_;exact⟨es,clk,h⟩
theorem _root_.Go.Gm.aA.lt {w:World} {b:Nat} {enc:K->Value} {encV:V->Value} {L:List (K×V)} (h:aA w b enc encV L):b<w.heap.size:=by
 obtain⟨es,clk,h,_⟩:=h.at_;grind
theorem _root_.Go.Gm.aA.repr {w:World} {b:Nat} {enc:K->Value} {encV:V->Value} {L L':List (K×V)} (h:aA w b enc encV L) (hk:L'.map (·.1)=L.map (·.1)) (hv:L'.map (fun x=>(enc x.1,encV x.2))=L.map fun x=>(enc x.1,encV x.2)):aA w b enc encV L':=by
 obtain⟨⟨es,clk,h1,h2,h3⟩,h4⟩:=h;exact⟨⟨es,clk,h1,h2.trans hv.symm,h3⟩,by rw[hk];exact h4⟩
end
theorem iB {w:World} {b o:Nat} {v:Value} (h:w.cell? ⟨b,o,none⟩=some v):b<w.heap.size:=by
 grind [World.cell?]
theorem xu {w:World} {b o:Nat} {v:Value} (h:w.cell? ⟨b,o,none⟩=some v):¬l6 w b:=by
 rintro⟨es,clk,e⟩;grind [World.cell?]
theorem eo {w w':World} {b o:Nat} {v:Value} (h:w.cell? ⟨b,o,none⟩=some v) (e:w'.heap[b]? =w.heap[b]?):w'.cell? ⟨b,o,none⟩=some v:=by
 grind [World.cell?]
theorem fa.cells {S:Nat->Prop} {w w':World} (h:fa S w w') (hS:∀k,S k->l6 w k):kc w w':=by
 intro b arr e fz hb;rw[h.block b (Ab.1 hb).1 ?_]
 . exact hb
 . intro hs;obtain⟨es,clk,hm⟩:=hS b hs;rw[hb]at hm;cases hm
theorem dJ {w w':World} (h:Below w.heap.size w w'):kc w w':=fun b arr e fz hb=>by
 rw[h.block b (Ab.1 hb).1];exact hb
section
variable {w w':World} {n b bk ba bd bs bv:Nat} {G:bH}
theorem cW.maps (h:cW w n b bk ba bd bs bv G):∀k,dY bk ba bd bv G k->l6 w k:=by
 intro k hk;unfold dY at hk;simp only[Ap,AL]at hk;rcases hk with rfl|rfl|rfl|rfl|⟨x,hx,rfl⟩
 . exact Go.Gm.aA.isMap h.iP
 . exact Go.Gm.aA.isMap h.ma
 . exact Go.Gm.aA.isMap h.md
 . exact Go.Gm.aA.isMap h.mv
 . exact Go.Gm.aA.isMap (h.mi x hx)
theorem cW.aV (h:cW w n b bk ba bd bs bv G) (hc:kc w w') (hm:∀k,dY bk ba bd bv G k->w'.heap[k]? =w.heap[k]?):cW w' n b bk ba bd bs bv G:=by
 have cc:∀{b o:Nat} {v:Value},w.cell? ⟨b,o,none⟩=some v->w'.cell? ⟨b,o,none⟩=some v:=by
  intro b o v hv;refine eo hv ?_;unfold World.cell? at hv
  cases e:w.heap[b]? with
  |none=>grind
  |some q=>
   cases q with
   |cells arr t fz=>exact hc _ _ _ _ e
   |_=>simp[e]at hv
 refine⟨cc h.c0,cc h.c1,cc h.c2,cc h.c3,cc h.cv,h.iP.same (hm _ ?_),h.ma.same (hm _ ?_),h.md.same (hm _ ?_),h.mv.same (hm _ ?_),fun x hx=>(h.mi x hx).same (hm _ ?_),h.nd,h.low,fun x hx=>(h.ev x hx).cells hc⟩
 all_goals grind [dY]
theorem cW.below (h:cW w n b bk ba bd bs bv G) (hb:Below w.heap.size w w'):cW w' n b bk ba bd bs bv G:=
 h.aV (dJ hb) fun k hk=>by
  obtain⟨es,clk,hm⟩:=h.maps k hk;exact hb.block k (Ab.1 hm).1
theorem LN {j:Nat} {o:Obj} (hj:l6 w j):kc w (World.aY w j o):=by
 intro b arr e fz hb;obtain⟨es,clk,hm⟩:=hj;rw[nm hm,Al (fun e=>by grind)];exact hb
theorem cW.nC (h:cW w n b bk ba bd bs bv G) {j:Nat} (hj:dY bk ba bd bv G j) {o:Obj} {G':bH}
  (hk:aA (World.aY w j o) bk bX rN G'.kept) (ha:aA (World.aY w j o) ba dw pF G'.alive) (hd:aA (World.aY w j o) bd bX cO G'.dead) (hv:aA (World.aY w j o) bv eO cO G'.vec)
  (hi:∀x∈G'.alive,aA (World.aY w j o) x.2.1 bX cO x.2.2) (hnd:(bk::ba::bd::bv::G'.alive.map (·.2.1)).Nodup) (hlow:∀x∈G'.alive,n<=x.2.1) (hev:∀x∈G'.kept,jm w x.2.1 x.2.2):cW (World.aY w j o) n b bk ba bd bs bv G':=by
 have hc:=LN (o:=o) (h.maps j hj);have cc:∀{b o':Nat} {v:Value},w.cell? ⟨b,o',none⟩=some v->(World.aY w j o).cell? ⟨b,o',none⟩=some v:=by
  intro b o' v hcell;refine eo hcell ?_;obtain⟨es,clk,hm⟩:=h.maps j hj;rw[nm hm,Al (fun e:b=j=>xu hcell (by rw[e];exact⟨es,clk,hm⟩))]
 refine⟨cc h.c0,cc h.c1,cc h.c2,cc h.c3,cc h.cv,hk,ha,hd,hv,hi,hnd,fun k hk'=>?_,fun x hx=>(hev x hx).cells hc⟩;simp only[Ap,AL]at hk';rcases hk' with rfl|rfl|rfl|rfl|rfl|rfl|⟨x,hx,rfl⟩
 all_goals first|exact hlow x hx|(refine h.low _ ?_;simp)
theorem cW.ne (h:cW w n b bk ba bd bs bv G):bk≠ba/\bk≠bd/\bk≠bv/\ba≠bd/\ba≠bv/\bd≠bv:=by
 have:=h.nd;grind
theorem cW.sK (h:cW w n b bk ba bd bs bv G) {x:aG×(Nat×DL)} (hx:x∈G.alive):x.2.1≠bk/\x.2.1≠ba/\x.2.1≠bd/\x.2.1≠bv:=by
 have:=h.nd;grind
theorem gI {j i:Nat} {o:Obj} (h:l6 w j) (hne:i≠j):(World.aY w j o).heap[i]? =w.heap[i]? :=by
 obtain⟨es,clk,hm⟩:=h;rw[nm hm,Al hne]
end
end
theorem Uo (w:World):Calls Tryz.prog 58 #[] w fun e w'=>e= .returned (.pointer (some ⟨w.heap.size+1,0,none⟩))/\w'=(w.alloc (.map #[] 0)).alloc (.cells #[.map (some w.heap.size)] 136):=by
 have hmm:= @run_makeMap Tryz.prog;go_enter Tryz.func58,Tryz.ntmps58
 go_wp2;go_ret;simp_all
theorem ni (w:World) (o:Obj) (i:Nat):(w.alloc o).heap[i]? =if i=w.heap.size then some o else w.heap[i]? :=by
 show(w.heap.push o)[i]? =_
 rw[Array.getElem?_push]
theorem vZ (w:World) (arr:Array Value) (e:TypeId) (fz:Nat×Nat) (i o:Nat):(w.alloc (.cells arr e fz)).cell? ⟨i,o,none⟩=if i=w.heap.size then arr[o]? else w.cell? ⟨i,o,none⟩:=by
 grind [World.cell?,ni]
theorem sR {K V:Type} [DecidableEq K] {w:World} {b:Nat} {enc:K->Value} {encV:V->Value} (h:w.heap[b]? =some (.map #[] 0)):aA w b enc encV ([]:List (K×V)):=
 ⟨⟨#[],0,h,by simp[iz],by simp,by simp⟩,by simp⟩
theorem Kn (w:World):Calls Tryz.prog 26 #[] w fun e w'=>∃b bk ba bd bs bv,e= .returned (.pointer (some ⟨b,0,none⟩))/\cW w' w.heap.size b bk ba bd bs bv ⟨[],[],[],[]⟩/\Below w.heap.size w w':=by
 have hmm:= @run_makeMap Tryz.prog;go_enter Tryz.func26,Tryz.ntmps26
 go_wp2_with (go_at_call 58;refine(Uo _).mono ?_;rintro e w1 ⟨rfl,rfl⟩)
 go_ret;refine⟨w.heap.size+5,w.heap.size,w.heap.size+1,w.heap.size+2,w.heap.size+4,w.heap.size+3,rfl,?_,?_⟩
 . refine⟨by simp[vZ],by simp[vZ],by simp[vZ],by simp[vZ],by simp[vZ],sR (by grind [ni,World.size_alloc]),sR (by grind [ni,World.size_alloc]),sR (by grind [ni,World.size_alloc]),sR (by grind [ni,World.size_alloc]),fun x hx=>(by cases hx),by simp,by simp,fun x hx=>(by cases hx)⟩
 . refine Below.alloc (Below.alloc (Below.alloc (Below.alloc (Below.alloc (Below.alloc (Below.refl _ _) ?_ _) ?_ _) ?_ _) ?_ _) ?_ _) ?_ _
   all_goals (simp;try omega)
theorem Tryz.room {w:World} {n b bk ba bd bs bv:Nat} {G:bH} (h:cW w n b bk ba bd bs bv G) (hl:G.kept.length<=100000):Calls Tryz.prog 51 #[.pointer (some ⟨b,0,none⟩), .int .i64 1] w fun e w'=>e= .returned (.bool (decide (1<=2048 - (G.kept.length:Int))))/\w'=w:=by
 obtain⟨es,clk,hb,hsz⟩:=h.iP.len;have c0:=h.c0;have hlen:(Builtin.len_ #[102] 3 #[.map (some bk)]).run Tryz.prog w= .ok (.int .i64 G.kept.length) w:=by
  rw[run_len_map w 102 3 bk es clk (by simp[Program.mapKeyOf,Program.mapElemOf,Tryz.underlying102]) hb,hsz];rfl
 have hwr:wrap64 (2048 - (G.kept.length:Int))=2048 - (G.kept.length:Int):=by
  grind [IntWalk.wrap64_in]
 clear h hb;go_enter Tryz.func51,Tryz.ntmps51
 go_wp2;go_ret;simp_all
theorem UF {w:World} {bd:Nat} {L:DL} (hm:aA w bd bX cO L) (d:au):(Instr.lookup 104 (.map (some bd)) (bX d) true).run Tryz.prog w= .ok (.tuple #[.int .i64 ((aH L d).getD 0), .bool (aH L d).isSome]) w:=by
 rw[hm.lookup jc Tryz.underlying104 (wR w) d true]
 cases aH L d<;>rfl
theorem Tryz.dead {w:World} {n b bk ba bd bs bv:Nat} {G:bH} (h:cW w n b bk ba bd bs bv G) (d:au):Calls Tryz.prog 54 #[.pointer (some ⟨b,0,none⟩),bX d] w fun e w'=>e= .returned (.bool (aH G.dead d).isSome)/\Below w.heap.size w w':=by
 have hb:Below w.heap.size w (w.alloc (.cells #[.int .i64 d.dev, .int .i64 d.inc, .int .i64 d.seq] 70)).drew:=((Below.refl w.heap.size w).alloc (Ac _) _).drew;have h1:=h.below hb;have hlk:=UF h1.md d;have c2:=h1.c2;unfold bX at hlk⊢;clear h h1;go_enter Tryz.func54,Tryz.ntmps54
 go_wp2_with fail
 go_region
 go_wp2;go_ret;simp_all
section
section
variable {K V:Type} [DecidableEq K]
theorem yW {A:List (K×V)} {k:K} {v:V} {x:K×V} (h:x∈cD A k v):x=(k,v)\/(x∈A/\x.1≠k):=by
 grind [cD]
theorem wg {β:Type} {A:List (K×V)} {k:K} {u v:V} {f:K×V->β} (hn:(A.map (·.1)).Nodup) (h:aH A k=some u) (hf:f (k,v)=f (k,u)):(cD A k v).map f=A.map f:=by
 have hm:=ng h;grind [cD,List.map_congr_left,G6]
theorem Wt {β:Type} {A:List (K×V)} {k:K} {v:V} {f:K×V->β} (h:aH A k=none):(cD A k v).map f=A.map f++[f (k,v)]:=by
 grind [cD,dg]
theorem qy9 (A:List (K×V)) (k:K) (u v:V):cD (cD A k u) k v=cD A k v:=by
 by_cases h:k∈A.map (·.1)
 . have h1:cD A k u=A.map (fun x=>if k=x.1 then(k,u)else x):=An h;have h2:cD A k v=A.map (fun x=>if k=x.1 then(k,v)else x):=An h;have h3:k∈(cD A k u).map (·.1):=by rw[mem_keys,jC];simp
   have h4:cD (cD A k u) k v=(cD A k u).map (fun x=>if k=x.1 then(k,v)else x):=An h3;rw[h4,h1,h2,Dv];refine BQ fun x _=>?_
   grind
 . have h1:cD A k u=A++[(k,u)]:=Al h;have h2:cD A k v=A++[(k,v)]:=Al h;have h3:k∈(cD A k u).map (·.1):=by rw[mem_keys,jC];simp
   have h4:cD (cD A k u) k v=(cD A k u).map (fun x=>if k=x.1 then(k,v)else x):=An h3;rw[h4,h1,h2,BE];congr 1
   . conv=>rhs;rw[<-EI A]
     grind [List.map_congr_left]
   . simp
end
theorem fa.more {S T:Nat->Prop} {a b c:World} (h:fa S a b) (k:fa T b c) (hT:∀i,i<a.heap.size->T i->S i):fa S a c:=
 ⟨k.os.trans h.os,k.tape.trans h.tape,k.output.trans h.output,Av h.size k.size,fun i hi hS=>(k.block i (AE hi h.size) fun ht=>hS (hT i hi ht)).trans (h.block i hi hS)⟩
section
variable {w w':World} {n b bk ba bd bs bv:Nat} {G:bH}
theorem cW.iY (h:cW w n b bk ba bd bs bv G) {k:aG} {j:Nat} {L L':DL} (hj:aH G.alive k=some (j,L)) {o:Obj} (hm:aA (World.aY w j o) j bX cO L'):cW (World.aY w j o) n b bk ba bd bs bv {G with alive:=cD G.alive k (j,L')}:=by
 have hjm:=ng hj;have hmap:=aA.isMap (h.mi _ hjm);obtain⟨n1,n2,n3,n4⟩:=h.sK hjm;have hblk:(cD G.alive k (j,L')).map (·.2.1)=G.alive.map (·.2.1):=wg h.ma.nd hj rfl;refine h.nC (j:=j) (by unfold dY;simp only[Ap,AL];grind) (h.iP.same (gI hmap n1.symm)) ((h.ma.same (gI hmap n2.symm)).repr (wg h.ma.nd hj rfl) (wg h.ma.nd hj rfl)) (h.md.same (gI hmap n3.symm)) (h.mv.same (gI hmap n4.symm)) (fun x hx=>?_) ?_ (fun x hx=>?_) h.ev
 . rcases yW hx with rfl|⟨hx,hk⟩
   . exact hm
   . refine(h.mi x hx).same (gI hmap fun e=>?_);have hnd:=h.nd;simp only[Dr]at hnd;have hnd:=hnd.2.2.2.2;have:∀{A:List (aG×(Nat×DL))},(A.map (·.2.1)).Nodup->x∈A->(k,(j,L))∈A->x=(k,(j,L)):=by
      intro A;induction A with
      |nil=>grind
      |cons y A ih=>
       grind
     have:=this hnd hx hjm;rw[this]at hk;grind
 . show(bk::ba::bd::bv::(cD G.alive k (j,L')).map (·.2.1)).Nodup
   rw[hblk];exact h.nd
 . have:x.2.1∈(cD G.alive k (j,L')).map (·.2.1):=AL.2 ⟨x,hx,rfl⟩;rw[hblk]at this;refine h.low _ ?_;grind
theorem cW.kN (h:cW w n b bk ba bd bs bv G) {k:aG} {j:Nat} (hn:aH G.alive k=none) {o:Obj} (hj:aA w j bX cO ([]:DL)) (hjn:¬dY bk ba bd bv G j) (hlow:n<=j) (hm:aA (World.aY w ba o) ba dw pF (cD G.alive k (j,[]))):
   cW (World.aY w ba o) n b bk ba bd bs bv {G with alive:=cD G.alive k (j,[])}:=by
 have hmap:=aA.isMap h.ma;obtain⟨n1,n2,n3,n4,n5,n6⟩:=h.ne;have hblk:(cD G.alive k (j,[])).map (·.2.1)=G.alive.map (·.2.1)++[j]:=Wt hn;unfold dY at hjn;simp only[Ap,not_or]at hjn;refine h.nC (j:=ba) (by grind [dY]) (h.iP.same (gI hmap n1)) hm (h.md.same (gI hmap n4.symm)) (h.mv.same (gI hmap n5.symm)) (fun x hx=>?_) ?_ (fun x hx=>?_) h.ev
 . rcases yW hx with rfl|⟨hx,hk⟩
   . exact hj.same (gI hmap hjn.2.1)
   . exact(h.mi x hx).same (gI hmap (h.sK hx).2.1)
 . show(bk::ba::bd::bv::(cD G.alive k (j,[])).map (·.2.1)).Nodup
   rw[hblk];have h1:(bk::ba::bd::bv::(G.alive.map (·.2.1)++[j]))=(bk::ba::bd::bv::G.alive.map (·.2.1))++[j]:=by simp
   rw[h1,List.nodup_append];refine⟨h.nd,by simp,fun a ha c hc=>?_⟩;rw[DW]at hc;grind
 . rcases yW hx with rfl|⟨hx,hk⟩
   . omega
   . refine h.low _ ?_;grind
theorem cW.pK (h:cW w n b bk ba bd bs bv G) {D:DL} {o:Obj} (hm:aA (World.aY w bd o) bd bX cO D):cW (World.aY w bd o) n b bk ba bd bs bv {G with dead:=D}:=by
 have hmap:=aA.isMap h.md;obtain⟨n1,n2,n3,n4,n5,n6⟩:=h.ne;exact h.nC (j:=bd) (by grind [dY]) (h.iP.same (gI hmap n2)) (h.ma.same (gI hmap n4)) hm (h.mv.same (gI hmap n6.symm)) (fun x hx=>(h.mi x hx).same (gI hmap (h.sK hx).2.2.1)) h.nd (fun x hx=>h.low _ (by grind)) h.ev
theorem cW.pL (h:cW w n b bk ba bd bs bv G) {d:au} {x:Value×af} {o:Obj} (hx:jm w x.1 x.2) (hm:aA (World.aY w bk o) bk bX rN (cD G.kept d x)):cW (World.aY w bk o) n b bk ba bd bs bv {G with kept:=cD G.kept d x}:=by
 have hmap:=aA.isMap h.iP;obtain⟨n1,n2,n3,n4,n5,n6⟩:=h.ne;refine h.nC (j:=bk) (by grind [dY]) hm (h.ma.same (gI hmap n1.symm)) (h.md.same (gI hmap n2.symm)) (h.mv.same (gI hmap n3.symm)) (fun x hx=>(h.mi x hx).same (gI hmap (h.sK hx).1)) h.nd (fun x hx=>h.low _ (by grind)) (fun y hy=>?_);rcases yW hy with rfl|⟨hy,_⟩
 . exact hx
 . exact h.ev y hy
theorem cW.kE (h:cW w n b bk ba bd bs bv G) {k:aG} {o:Obj} (hm:aA (World.aY w ba o) ba dw pF (dA G.alive k)):cW (World.aY w ba o) n b bk ba bd bs bv {G with alive:=dA G.alive k}:=by
 have hmap:=aA.isMap h.ma;obtain⟨n1,n2,n3,n4,n5,n6⟩:=h.ne;have hsub:∀x∈dA G.alive k,x∈G.alive:=fun x hx=>(AB.1 hx).1
 refine h.nC (j:=ba) (by grind [dY]) (h.iP.same (gI hmap n1)) hm (h.md.same (gI hmap n4.symm)) (h.mv.same (gI hmap n5.symm)) (fun x hx=>(h.mi x (hsub x hx)).same (gI hmap (h.sK (hsub x hx)).2.1)) ?_ (fun x hx=>h.low _ (by grind)) h.ev;refine Dy ?_ h.nd;exact((((List.filter_sublist.map _).cons₂ _).cons₂ _).cons₂ _).cons₂ _
end
theorem jZ {w:World} {ba:Nat} {A:List (aG×(Nat×DL))} (hm:aA w ba dw pF A) (k:aG):(Instr.lookup 103 (.map (some ba)) (dw k) false).run Tryz.prog w= .ok (.map ((aH A k).map (·.1))) w:=by
 rw[hm.lookup Co Tryz.underlying103 (z:= .map none) (by simp_all) k false]
 cases aH A k<;>rfl
theorem rj {w:World} {j b o:Nat} {x:Obj} {v:Value} (hj:l6 w j) (h:w.cell? ⟨b,o,none⟩=some v):(World.aY w j x).cell? ⟨b,o,none⟩=some v:=
 eo h (gI hj fun e=>xu h (by rw[e];exact hj))
theorem Fl (e:af) (v:Value):iK e v= .agg #[.int .i64 e.dot.dev, .int .i64 e.dot.inc, .int .i64 e.dot.seq, .int .i64 e.bA.wall, .int .i64 e.bA.count, .int .i64 e.bA.dev, .int .i64 e.kind,cY e.key.name,cY e.key.domain,cY e.key.path,
 cY e.aa.value, .bool e.aa.aD, .bool e.aa.aM, .bool e.aa.aF, .bool e.aa.persistent, .int .i64 e.aa.aR, .int .i64 e.aa.ai, .int .i64 e.aa.access,v]:=rfl
theorem TF (b:Nat) (w:World):(binOp BinOp.eql 104 (.map (some b)) (.map none)).run Tryz.prog w= .ok (.bool false) w:=by kernel_rfl
theorem TP {w:World} {n b bk ba bd bs bv:Nat} {G:bH} (h:cW w n b bk ba bd bs bv G) (e:af) (v:Value) {j:Nat} {L:DL} (hj:aH G.alive e.key=some (j,L)):
   Calls Tryz.prog 55 #[.pointer (some ⟨b,0,none⟩),iK e v] w fun e' w'=>e'= .returned (.tuple #[])/\fa (dY bk ba bd bv G) w w'/\cW w' n b bk ba bd bs bv {G with alive:=cD G.alive e.key (j,cD L e.dot 1)}:=by
 rw[Fl];obtain⟨W,hW⟩:∃W,(w.alloc (.cells #[.int .i64 e.dot.dev, .int .i64 e.dot.inc, .int .i64 e.dot.seq, .int .i64 e.bA.wall, .int .i64 e.bA.count, .int .i64 e.bA.dev, .int .i64 e.kind,cY e.key.name,cY e.key.domain,cY e.key.path,
   cY e.aa.value, .bool e.aa.aD, .bool e.aa.aM, .bool e.aa.aF, .bool e.aa.persistent, .int .i64 e.aa.aR, .int .i64 e.aa.ai, .int .i64 e.aa.access,v] 78))=W:=⟨_,rfl⟩
 have hb:Below w.heap.size w W:=by rw[<-hW];exact(Below.refl w.heap.size w).alloc (Ac _) _
 have h0:=h.below hb;go_enter Tryz.func55,Tryz.ntmps55
 go_wp2_with fail
 have k7:W.cell? ⟨w.heap.size,7,none⟩=some (cY e.key.name):=by rw[<-hW];simp
 have k8:W.cell? ⟨w.heap.size,8,none⟩=some (cY e.key.domain):=by rw[<-hW];simp
 have k9:W.cell? ⟨w.heap.size,9,none⟩=some (cY e.key.path):=by rw[<-hW];simp
 have d0:W.cell? ⟨w.heap.size,0,none⟩=some (.int .i64 e.dot.dev):=by rw[<-hW];simp
 have d1:W.cell? ⟨w.heap.size,1,none⟩=some (.int .i64 e.dot.inc):=by rw[<-hW];simp
 have d2:W.cell? ⟨w.heap.size,2,none⟩=some (.int .i64 e.dot.seq):=by rw[<-hW];simp
 have h1:=h0.below (Below.refl W.heap.size W).drew;have c1:=h0.c1;have hlk:=jZ h1.ma e.key;rw[hj]at hlk;have hjm:(e.key,(j,L))∈G.alive:=ng hj;have h2:=h1.below (Below.refl W.drew.heap.size W.drew).drew;obtain⟨es,clk,hu,hmu⟩:=(h2.mi _ hjm).update jc Tryz.underlying104 e.dot 1;have hlk2:=jZ h2.ma e.key;rw[hj]at hlk2;have hnil:=fun w=>TF j w
 rw[show dw e.key= .agg #[cY e.key.name,cY e.key.domain,cY e.key.path]from rfl]at hlk hlk2;unfold bX cO at hu;clear h0 h hW;go_region
 go_wp2_with fail
 go_region
 go_wp2;go_end0
 refine⟨rfl,?_,h2.iY hj hmu⟩;refine(mq (hb.drew.drew)).more (T:=(· =j)) ⟨rfl,rfl,rfl,by simp[World.aY],fun k _ hk=>?_⟩ ?_
 . exact gI (aA.isMap (h2.mi _ hjm)) hk
 . rintro i _ rfl;unfold dY;simp only[Ap,AL];grind
theorem TN {w:World} {n b bk ba bd bs bv:Nat} {G:bH} (h:cW w n b bk ba bd bs bv G) (hn:n<=w.heap.size) (e:af) (v:Value) (hj:aH G.alive e.key=none):
  Calls Tryz.prog 55 #[.pointer (some ⟨b,0,none⟩),iK e v] w fun e' w'=>e'= .returned (.tuple #[])/\fa (dY bk ba bd bv G) w w'/\ ∃j,w.heap.size<=j/\cW w' n b bk ba bd bs bv {G with alive:=cD G.alive e.key (j,[(e.dot,1)])}:=by
 rw[Fl];obtain⟨W,hW⟩:∃W,(w.alloc (.cells #[.int .i64 e.dot.dev, .int .i64 e.dot.inc, .int .i64 e.dot.seq, .int .i64 e.bA.wall, .int .i64 e.bA.count, .int .i64 e.bA.dev, .int .i64 e.kind,cY e.key.name,cY e.key.domain,cY e.key.path,
  cY e.aa.value, .bool e.aa.aD, .bool e.aa.aM, .bool e.aa.aF, .bool e.aa.persistent, .int .i64 e.aa.aR, .int .i64 e.aa.ai, .int .i64 e.aa.access,v] 78))=W:=⟨_,rfl⟩
 have hb:Below w.heap.size w W:=by rw[<-hW];exact(Below.refl w.heap.size w).alloc (Ac _) _
 have h0:=h.below hb;have hmm:= @run_makeMap Tryz.prog;go_enter Tryz.func55,Tryz.ntmps55
 go_wp2_with fail
 have k7:W.cell? ⟨w.heap.size,7,none⟩=some (cY e.key.name):=by rw[<-hW];simp
 have k8:W.cell? ⟨w.heap.size,8,none⟩=some (cY e.key.domain):=by rw[<-hW];simp
 have k9:W.cell? ⟨w.heap.size,9,none⟩=some (cY e.key.path):=by rw[<-hW];simp
 have d0:W.cell? ⟨w.heap.size,0,none⟩=some (.int .i64 e.dot.dev):=by rw[<-hW];simp
 have d1:W.cell? ⟨w.heap.size,1,none⟩=some (.int .i64 e.dot.inc):=by rw[<-hW];simp
 have d2:W.cell? ⟨w.heap.size,2,none⟩=some (.int .i64 e.dot.seq):=by rw[<-hW];simp
 have hsz:W.heap.size=w.heap.size+1:=by rw[<-hW];simp
 have h1:=h0.below (Below.refl W.heap.size W).drew;have c1:=h0.c1;have hlk:=jZ h1.ma e.key;rw[hj]at hlk;have hnew:Below W.heap.size W (W.alloc (.map #[] 0)).drew.drew:=((Below.refl W.heap.size W).alloc (Ac _) _).drew.drew;have h2:=h0.below hnew;have hjn:¬dY bk ba bd bv G W.heap.size:=fun hm=>by
  obtain⟨es,clk,hx⟩:=h0.maps _ hm;have:=(Ab.1 hx).1;omega
 have hfr:aA (W.alloc (.map #[] 0)).drew.drew W.heap.size bX cO ([]:DL):=sR (by show(W.alloc (.map #[] 0)).heap[W.heap.size]? =_;rw[ni];simp);obtain⟨es,clk,hu,hmu⟩:=h2.ma.update Co Tryz.underlying103 e.key ((W.heap.size,[]):Nat×DL);have h3:=h2.kN hj hfr hjn (by omega) hmu;have up:∀{o:Nat} {x:Value},W.cell? ⟨w.heap.size,o,none⟩=some x->(W.alloc (.map #[] 0)).cell? ⟨w.heap.size,o,none⟩=some x:=fun hx=>(((Below.refl W.heap.size W).alloc (Ac _) _).cell (by rw[hsz];grind)).trans hx
 have k7':=up k7;have k8':=up k8;have k9':=up k9;have d0':=up d0;have d1':=up d1;have d2':=up d2;have c1':(W.alloc (.map #[] 0)).cell? ⟨b,1,none⟩=some (.map (some ba)):=h2.c1;rw[hsz]at hu;clear up h0 h hW;rw[show dw e.key= .agg #[cY e.key.name,cY e.key.domain,cY e.key.path]from rfl]at hlk hu;rw[show pF (w.heap.size+1,[])= .map (some (w.heap.size+1))from rfl]at hu;have hnil:∀w,(binOp BinOp.eql 104 (.map none) (.map none)).run Tryz.prog w= .ok (.bool true) w:=fun w=>by kernel_rfl
 go_region
 go_wp2_with fail
 have hmb:l6 (W.alloc (.map #[] 0)).drew.drew ba:=aA.isMap h2.ma;obtain⟨W3,hW3⟩:∃W3,World.aY (W.alloc (.map #[] 0)).drew.drew ba (.map es clk)=W3:=⟨_,rfl⟩;have up3:∀{o:Nat} {x:Value},(W.alloc (.map #[] 0)).cell? ⟨w.heap.size,o,none⟩=some x->W3.cell? ⟨w.heap.size,o,none⟩=some x:=fun hx=>by rw[<-hW3];exact rj hmb hx
 have k7'':=up3 k7';have k8'':=up3 k8';have k9'':=up3 k9';have d0'':=up3 d0';have d1'':=up3 d1';have d2'':=up3 d2';have hbut:fa (dY bk ba bd bv G) w W3:=by
  refine(mq (hb.trans (hnew.mono hb.size))).more (T:=(· =ba)) ⟨by rw[<-hW3];rfl,by rw[<-hW3];rfl,by rw[<-hW3];rfl,by rw[<-hW3];simp[World.aY],fun k _ hk=>by rw[<-hW3];grind [gI]⟩ ?_;grind [dY]
 rw[hW3]at h3 hu;have c1'':=h3.c1;have h4:=h3.below (Below.refl W3.heap.size W3).drew;have hget:aH (cD G.alive e.key (W.heap.size,[])) e.key=some (W.heap.size,[]):=by rw[jC];simp
 have hlk3:=jZ h4.ma e.key;rw[hget,show dw e.key= .agg #[cY e.key.name,cY e.key.domain,cY e.key.path]from rfl]at hlk3;obtain⟨es2,clk2,hu2,hmu2⟩:=(h4.mi _ (ng hget)).update jc Tryz.underlying104 e.dot 1;rw[show bX e.dot= .agg #[.int .i64 e.dot.dev, .int .i64 e.dot.inc, .int .i64 e.dot.seq]from rfl,show cO 1= .int .i64 1 from rfl]at hu2;have hj2:l6 W3 W.heap.size:=aA.isMap (h3.mi _ (ng hget));have h5:=h4.iY hget hmu2;rw[qy9]at h5;simp only[hsz,BD]at hlk3 hu2;clear h1 h2 h3 h4 hfr hmu hmu2 hget hmb;go_region
 go_wp2_with fail
 go_region
 go_wp2;go_end0
 rw[hsz]at h5 hj2;refine⟨rfl,hbut.more (T:=(· =w.heap.size+1)) ⟨rfl,rfl,rfl,by simp[World.aY],fun k _ hk=>gI (w:=W3.drew) hj2 hk⟩ (fun i hi e=>by omega),_,Ed _,h5⟩
end
end Go.Proofs
namespace Go.Gm
open Go Go.RowKit Go.Maps Go.Proofs Go.ChangeMaps
section
variable {P:Program} {K V:Type} [DecidableEq K]
structure cM (w:World) (r b:Nat) (enc:K->Value) (encV:V->Value) (L ss left:List (K×V)):Prop where
 ex:∃es clk seen,w.heap[b]? =some (.map es clk)/\iz enc encV es.toList L/\(es.toList.map (·.born)).Pairwise (· < ·)/\(∀e∈es.toList,e.born<clk)/\w.heap[r]? =some (.mapIter (some b) clk seen clk)/\iz enc encV (leftOf es seen).toList left
 perm:(ss++left).Perm L
theorem Va:∀{l:List Nat},l.Pairwise (· < ·)->l.Nodup:=fun h=>h.imp fun h=>Nat.ne_of_lt h
theorem aA.range {w:World} {b:Nat} {enc:K->Value} {encV:V->Value} {L:List (K×V)} (h:aA w b enc encV L) {t T Te:TypeId} (ht:P.underlying t=some (.map T Te)):
  ∃w',(Instr.range t (.map (some b))).run P w= .ok (.pointer (some ⟨w.heap.size,0,none⟩)) w'/\cM w' w.heap.size b enc encV L [] L/\Below w.heap.size w w'/\w'.heap.size=w.heap.size+1:=by
 obtain⟨⟨es,clk,hb,hr,hs,hc⟩,_⟩:=h;have hlt:=(Ab.1 hb).1;refine⟨_,run_range_map w t T Te b es clk ht hb,⟨⟨es,clk,#[],(Below.heap_alloc w _ b hlt).trans hb,hr,hs,hc,by rw[ni,An rfl],?_⟩,by simp⟩,(Below.refl _ w).alloc (Ac _) _,by simp⟩;have:leftOf es #[]=es:=by simp[leftOf]
 rw[this];exact hr
theorem Pu {enc:K->Value} {encV:V->Value}:∀{es:List MapEntry} {L:List (K×V)},iz enc encV es L->∀e∈es,∃M1 x M2 es1 es2,L=M1++x::M2/\es=es1++e::es2/\iz enc encV es1 M1/\iz enc encV es2 M2/\e.key=enc x.1/\e.val=encV x.2
 |[],_,_,e,h=>by cases h
 |a::es,[],h,_,_=>by grind [iz]
 |a::es,y::L,h,e,he=>by
  simp only[iz,A0,Dg,DP]at h;rcases Ap.1 he with rfl|he
  . exact⟨[],y,L,[],es,rfl,rfl,rfl,h.2,h.1.1,h.1.2⟩
  . obtain⟨M1,x,M2,es1,es2,h1,h2,h3,h4,h5⟩:=Pu (h.2:iz enc encV es L) e he;grind [iz]
theorem cM.next {w:World} {r b:Nat} {enc:K->Value} {encV:V->Value} {L ss left:List (K×V)} (h:cM w r b enc encV L ss left) (ty:TypeId):
   (left=[]/\ss.Perm L/\(Instr.next (.pointer (some ⟨r,0,none⟩)) false ty).run P w= .ok (.tuple #[.bool false]) w)\/
   ∃ x left' w',(Instr.next (.pointer (some ⟨r,0,none⟩)) false ty).run P w= .ok (.tuple #[.bool true,enc x.1,encV x.2]) w'/\cM w' r b enc encV L (ss++[x]) left'/\left.length=left'.length+1/\fa (· =r) w w'/\w'.heap.size=w.heap.size/\
     (Instr.entry (.pointer (some ⟨r,0,none⟩))).run P w'= .ok (.tuple #[enc x.1,encV x.2]) w':=by
 obtain⟨⟨es,clk,seen,hb,hr,hs,hc,hi,hl⟩,hp⟩:=h;have hnd:=Va hs;rcases run_next_at (P:=P) w ty r b clk clk seen es clk hi hb hc (Ac _)with⟨h0,hrun⟩|⟨e,he,w1,hw1,hrun⟩
 . have:left=[]:=by
     have:=Aj List.length hl;grind
   grind
 . obtain⟨M1,x,M2,es1,es2,h1,h2,h3,h4,h5,h6⟩:=Pu hl e he;have hi1:w1.heap[r]? =some (.mapIter (some b) clk seen clk):=by rcases hw1 with rfl|rfl<;>exact hi
   have hb1:w1.heap[b]? =some (.map es clk):=by rcases hw1 with rfl|rfl<;>exact hb
   have hrlt:=(Ab.1 hi1).1;have hne:b≠r:=fun hh=>by rw[hh]at hb;rw[hb]at hi;cases hi
   have hget:∀k,(setBlock w1 r (.mapIter (some b) clk (seen.push e.born) clk)).heap[k]? =if k=r then some (.mapIter (some b) clk (seen.push e.born) clk)else w1.heap[k]? :=fun k=>by
     grind [setBlock]
   have hem:e∈es.toList:=by
     have:=he;grind [leftOf]
   refine .inr ⟨x,M1++M2,_,by rw[<-h5,<-h6];omega,⟨⟨es,clk,seen.push e.born,by rw[hget,Al hne];omega,hr,hs,hc,by rw[hget,An rfl],?_⟩,?_⟩,by rw[h1];grind,⟨?_,?_,?_,?_,fun k _ hk=>?_⟩,?_,by rw[<-h5,<-h6];grind [run_entry_at]⟩
   . have hsub:((leftOf es seen).toList.map (·.born)).Nodup:=by
      grind [leftOf]
     have hcut:(leftOf es (seen.push e.born)).toList=(leftOf es seen).toList.filter fun y=> !(y.born==e.born):=by
      unfold leftOf;rw[EN,EN,List.filter_filter];congr 1
      funext y
      rw[Array.contains_push];by_cases hh:y.born=e.born
      . simp[hh]
      . have h2:(y.born==e.born)=false:=by simpa using hh
        have h3:(e.born==y.born)=false:=by simpa using fun e=>hh e.symm
        simp only[h2,h3]
        cases seen.contains y.born<;>rfl
     rw[hcut,h2];rw[h2,BE,A0,List.nodup_append]at hsub;obtain⟨n1,n2,n3⟩:=hsub;rw[Dr]at n2;have f1:es1.filter (fun y=> !(y.born==e.born))=es1:=by
      rw[Bx];intro y hy;have:=n3 y.born (AL.2 ⟨y,hy,rfl⟩) e.born As;simpa using this
     have f2:es2.filter (fun y=> !(y.born==e.born))=es2:=by
      rw[Bx];intro y hy;have:y.born≠e.born:=fun hh=>n2.1 (AL.2 ⟨y,hy,hh⟩)
      simpa using this
     rw[Dw,B7,f1,f2];grind [iz]
   . rw[h1]at hp;refine List.Perm.trans ?_ hp;rw[BP];refine ED ss ?_;simp only[DI];exact List.perm_middle.symm
   . rcases hw1 with rfl|rfl<;>rfl
   . rcases hw1 with rfl|rfl<;>rfl
   . rcases hw1 with rfl|rfl<;>rfl
   . rcases hw1 with rfl|rfl<;>simp[setBlock]
   . rw[hget,Al hk];rcases hw1 with rfl|rfl<;>rfl
   . rcases hw1 with rfl|rfl<;>simp[setBlock]
section
variable (w:World) {ops:Array Oper} {rest:List Oper} {o:Oper} {a:Act} {Q:Exit->Act->World->Prop}
theorem U1 (hg:o.guard=none) (m:Operand) (t:TypeId) (hop:o.op=Op.range t m) {T Te:TypeId} (ht:P.underlying t=some (.map T Te)) (b:Nat) {enc:K->Value} {encV:V->Value} {L:List (K×V)}
  (hm:a.eval m= .map (some b)) (h:aA w b enc encV L)
  (hK:∀w',cM w' w.heap.size b enc encV L [] L->Below w.heap.size w w'->w'.heap.size=w.heap.size+1->wpList P ops Q rest (a.put o.dst (.pointer (some ⟨w.heap.size,0,none⟩))) w'):wpList P ops Q (o::rest) a w:=by
 refine wpList_plain hg fun K' hK'=>?_
 obtain⟨w',hrun,r1,r2,r3⟩:=h.range (P:=P) ht;unfold Oper.wp;simp[execOp,hop,hm,hrun,Result.andThen];exact hK' _ _ (hK w' r1 r2 r3)
theorem K6 (hg:o.guard=none) (it:Operand) (hop:o.op=Op.next it false) (r b:Nat) {enc:K->Value} {encV:V->Value} {L ss left:List (K×V)}
   (hit:a.eval it= .pointer (some ⟨r,0,none⟩)) (h:cM w r b enc encV L ss left)
   (hDone:left=[]->ss.Perm L->wpList P ops Q rest (a.put o.dst (.tuple #[.bool false])) w)
   (hMore:∀x left' w',cM w' r b enc encV L (ss++[x]) left'->left.length=left'.length+1->fa (· =r) w w'->w'.heap.size=w.heap.size->(Instr.entry (.pointer (some ⟨r,0,none⟩))).run P w'= .ok (.tuple #[enc x.1,encV x.2]) w'->
    wpList P ops Q rest (a.put o.dst (.tuple #[.bool true,enc x.1,encV x.2])) w'):wpList P ops Q (o::rest) a w:=by
 refine wpList_plain hg fun K' hK'=>?_
 unfold Oper.wp;rcases h.next (P:=P) o.type with⟨h0,hl,hrun⟩|⟨x,left',w',hrun,h1,h2,h3,h4,h5⟩
 . simp[execOp,hop,hit,hrun,Result.andThen];exact hK' _ _ (hDone h0 hl)
 . simp[execOp,hop,hit,hrun,Result.andThen];exact hK' _ _ (hMore x left' w' h1 h2 h3 h4 h5)
end
end
end Go.Gm
namespace Go.Proofs
open Go Go.Am Go.RowKit Go.Sy Go.Gm Go.Maps Go.Sort
section
section
variable {K V:Type} [DecidableEq K] {F:Fence} {n:Nat} {P:Program} (w:World) {ops:Array Oper} {rest:List Oper} {o:Oper} {a:Act} {Q:Exit->Act->World->Prop}
theorem US (hg:o.guard=none) (m:Operand) (t:TypeId) (hop:o.op=Op.range t m) {T Te:TypeId} (ht:P.underlying t=some (.map T Te)) (b:Nat) {enc:K->Value} {encV:V->Value} {L:List (K×V)}
  (hm:a.eval m= .map (some b)) (h:aA w b enc encV L)
  (hK:∀w',cM w' w.heap.size b enc encV L [] L->w.grownBy w' none->w'.heap.size=w.heap.size+1->wpListIn F n P ops Q rest (a.put o.dst (.pointer (some ⟨w.heap.size,0,none⟩))) w'):wpListIn F n P ops Q (o::rest) a w:=by
 refine wpListIn_plain hg fun K' hK'=>?_
 obtain⟨w',hrun,r1,r2,r3⟩:=h.range (P:=P) ht;unfold Oper.wpIn;refine⟨by grind [Oper.about],?_⟩;rw[Oper.semAt_plain F _ _ (by rw[hop];grind)];simp[execOp,hop,hm,hrun,Result.andThen];exact hK' _ _ (hK w' r1 ⟨r2.os,r2.tape,r2.output,r2.size,fun i hi _=>r2.block i hi⟩ r3)
theorem UY (hg:o.guard=none) (it:Operand) (hop:o.op=Op.next it false) (r b:Nat) {enc:K->Value} {encV:V->Value} {L ss left:List (K×V)}
   (hit:a.eval it= .pointer (some ⟨r,0,none⟩)) (h:cM w r b enc encV L ss left)
   (hDone:left=[]->ss.Perm L->wpListIn F n P ops Q rest (a.put o.dst (.tuple #[.bool false])) w)
   (hMore:∀x left' w',cM w' r b enc encV L (ss++[x]) left'->left.length=left'.length+1->w.grownBy w' (some r)->w'.heap.size=w.heap.size->(Instr.entry (.pointer (some ⟨r,0,none⟩))).run P w'= .ok (.tuple #[enc x.1,encV x.2]) w'->
    wpListIn F n P ops Q rest (a.put o.dst (.tuple #[.bool true,enc x.1,encV x.2])) w'):wpListIn F n P ops Q (o::rest) a w:=by
 refine wpListIn_plain hg fun K' hK'=>?_
 unfold Oper.wpIn;refine⟨by grind [Oper.about],?_⟩;rw[Oper.semAt_plain F _ _ (by rw[hop];grind)];rcases h.next (P:=P) o.type with⟨h0,hl,hrun⟩|⟨x,left',w',hrun,h1,h2,h3,h4,h5⟩
 . simp[execOp,hop,hit,hrun,Result.andThen];exact hK' _ _ (hDone h0 hl)
 . simp[execOp,hop,hit,hrun,Result.andThen];exact hK' _ _ (hMore x left' w' h1 h2 ⟨h3.os,h3.tape,h3.output,h3.size,fun i hi hne=>h3.block i hi fun e=>hne (by rw[e])⟩ h4 h5)
end
theorem _root_.Go.Gm.cM.jJ {K V:Type} [DecidableEq K] {w w':World} {r b:Nat} {enc:K->Value} {encV:V->Value} {L ss left:List (K×V)} (h:cM w r b enc encV L ss left) (hk:KeepsWalks w w'):cM w' r b enc encV L ss left:=by
 obtain⟨⟨es,clk,seen,hb,hr,hs,hc,hi,hl⟩,hp⟩:=h;exact⟨⟨es,clk,seen,hk.same _ _ hb rfl,hr,hs,hc,hk.same _ _ hi rfl,hl⟩,hp⟩
theorem _root_.Go.Gm.cM.isWalk {K V:Type} [DecidableEq K] {w:World} {r b:Nat} {enc:K->Value} {encV:V->Value} {L ss left:List (K×V)} (h:cM w r b enc encV L ss left):∃o:Obj,w.heap[r]? =some o/\o.isWalk=true:=by
 obtain⟨⟨es,clk,seen,hb,hr,hs,hc,hi,hl⟩,hp⟩:=h;exact⟨_,hi,rfl⟩
theorem _root_.Go.Gm.cM.left_eq {K V:Type} [DecidableEq K] {w:World} {r b:Nat} {enc:K->Value} {encV:V->Value} {L ss left:List (K×V)} (h:cM w r b enc encV L ss left):w.rangeLeft b r=left.length:=by
 obtain⟨⟨es,clk,seen,hb,hr,hs,hc,hi,hl⟩,hp⟩:=h;have:=Aj List.length hl;grind [World.rangeLeft]
theorem UD (l Bm b n:Nat) (hn:1<=n) (L:DL) (J:List au->World->Prop)
  (hY:∀pre x W,J pre W->pre.length<L.length->YieldAt Fence.wide (n - 1) Tryz.prog l #[bX x] W fun e W'=>e= .returned (.bool true)/\J (pre++[x]) W'/\KeepsWalks W W')
  (W:World) (hJ:AbidesFrom W.heap.size J) (hm:W.cell? ⟨Bm,0,none⟩=some (.map (some b))) (hown:aA W b bX cO L) (h0:J [] W):
  CallsIn Fence.wide n Tryz.prog 248 #[.func (.yield l) #[] #[], .pointer (some ⟨Bm,0,none⟩)] W fun e W'=>(∃v,e= .returned v)/\ ∃ss:List au,ss.Perm (L.map (·.1))/\J ss W':=by
 refine callsIn_of_wp Tryz.func248 rfl trivial ?_ rfl;simp only[Tryz.ntmps248,Bb,AW,A7,Nat.reduceAdd,Nat.reduceSub,BN,BM,BZ,BR,Bq,BH];gi_wp2_with (first
  |(gi_at_range;refine US _ rfl _ 104 rfl Tryz.underlying104 b rfl hown ?_;intro w0 hrg0 hg0 hs0)
  |gi_in)
 go_frame
 gi_loopw [3] (fun _ wr=>∃(ss left:DL),cM wr W.heap.size b bX cO L ss left/\ss.length+left.length=L.length/\J (ss.map (·.1)) wr/\W.heap.size<wr.heap.size)
  (fun _ wr=>wr.rangeLeft b W.heap.size)
 case atStart=>exact⟨[],L,hrg0,by simp,hJ [] W w0 none h0 hg0 (fun r e=>by cases e),by omega⟩
 case round=>
  obtain⟨ss,left,hrg,hcs,hJs,hbig⟩:=hrel;gi_wp2_with (first
    |(gi_at_next;refine UY _ rfl _ rfl W.heap.size b rfl hrg ?_ ?_)
    |gi_in)
  . intro hl0 hperm;gi_wp2
    go_end0
    grind
  . intro d nn left' w2 hrg2 hlt hg2 hs2 hen;have hJ2:J (ss.map (·.1)) w2:=hJ _ wr w2 (some W.heap.size) hJs hg2 (fun r e=>by cases e;exact⟨Ac _,hrg.isWalk⟩);have hba:w2.grownBy (w2.alloc (.cells #[.int .i64 d.dev, .int .i64 d.inc, .int .i64 d.seq] 70)) none:=World.grownBy_alloc w2 _ none;have hJ3:=hJ _ w2 _ none hJ2 hba (fun r e=>by cases e);have hrg3:=hrg2.jJ (KeepsWalks.alloc w2 (.cells #[.int .i64 d.dev, .int .i64 d.inc, .int .i64 d.seq] 70));obtain⟨fn,tmps,assign,body,hy,hR⟩:=hY (ss.map (·.1)) d _ hJ3 (by grind);rw[show bX d= .agg #[.int .i64 d.dev, .int .i64 d.inc, .int .i64 d.seq]from rfl]at hen hy;clear hs2;gi_wp2
    refine hR.mono ?_;rintro e W3 ⟨rfl,hJ4,hk4⟩;gi_wp2
    have hrg4:=hrg3.jJ hk4;have hz4:=hk4.size;have hz2:=hg2.size;go_roundw
    case rel=>exact⟨ss++[(d,nn)],left',hrg4,by grind,by grind,by simp at hz4;omega⟩
    case measure=>rw[hrg4.left_eq,hrg.left_eq];omega
theorem Tx (n:Nat) (hn:1<=n) (Bm b:Nat) (L:DL) (w:World) (hBm:Bm<w.heap.size) (hm:w.cell? ⟨Bm,0,none⟩=some (.map (some b))) (hown:aA w b bX cO L):
  SeqGives Fence.wide n Tryz.prog 248 #[.pointer (some ⟨Bm,0,none⟩)] bX (fun ss=>ss.Perm (L.map (·.1))) L.length w:=fun l J W hW hJ hY h0=>
 UD l Bm b n hn L J hY W hJ ((hW.cell (p:=⟨Bm,0,none⟩) hBm).trans hm) (hown.same (hW.block b (Go.Gm.aA.lt hown))) h0
end
end Go.Proofs
namespace Go.Proofs
open Go Go.Am Go.RowKit Go.Sy Go.Gm
section
section
variable [Inhabited aK]
theorem qwa {tab:bC} {w:World} {l:List au} {v:Value} (h:cL w l v):aT (bY tab w).get (cK l) (cJ w.heap.size v):=by
 rcases h with⟨rfl,a,c,rfl⟩|⟨b,off,cap,arr,e,fz,rfl,hb,hc,hl,hi⟩
 . cases a with
   |none=>
    cases c with
    |zero=>exact .ch rfl (.inl rfl)
    |succ c=>exact .ch rfl (.inr (.inr ⟨_,_,rfl⟩))
   |some a=>rw[yn];exact .ch rfl (.inr (.inr ⟨_,_,rfl⟩))
 . refine yg hb (sz:=3) (by omega) (fun _ _=>rfl) hl rfl hc fun i x j s hx hs=>?_
   have hil:i<l.length:=(Ae.1 hx).1;have hxe:l[i]=x:=(Ae.1 hx).2;obtain⟨e0,e1,e2⟩:=hi i hil;rw[hxe]at e0 e1 e2;have hj:j<3:=(Ae.1 hs).1;match j,hj with
   |0,_=>cases hs;exact⟨_,e0, .int _ _⟩
   |1,_=>cases hs;exact⟨_,e1, .int _ _⟩
   |2,_=>cases hs;exact⟨_,e2, .int _ _⟩
theorem RH {tab:bC} {w:World} {e:af} {u:Value} (h:jm w u e):aT (bY tab w).get (.agg e.enc) (dz w.heap.size u):=by
 obtain⟨v,rfl,hd⟩:=h;have h18:=qwa (tab:=tab) hd;unfold iK dz;refine .agg rfl fun i c x hc hx=>?_
 have hj:i<19:=(Ae.1 hc).1;match i,hj with
 |0,_|1,_|2,_|3,_|4,_|5,_|6,_|15,_|16,_|17,_=>cases hc;cases hx;exact .int _ _
 |7,_|8,_|9,_|10,_=>cases hc;cases hx;exact .str _
 |11,_|12,_|13,_|14,_=>cases hc;cases hx;exact .bool _
 |18,_=>cases hc;simp_all
end
theorem Kx {w:World} {e:af} {u:Value} (h:jm w u e) (hs:lL e):Calls Tryz.prog 48 #[u] w fun e' w'=>e'= .returned (.bool (gR e))/\Below w.heap.size w w':=
 zW (C:=fun I=>hZ lL gR) (fun I=> @Ov I) (hfn:=rfl) (hb:=rfl) (args:=[u]) (fun I=>⟨e,hs,⟨rfl,fun j c v hc hv=>by
  match j with
  |0=>cases hc;grind [RH]
  |_+1=>cases hc⟩,rfl⟩)
def fS:List au->List Value
 |[]=>[]
 |d::l=> .int .i64 d.dev:: .int .i64 d.inc:: .int .i64 d.seq::fS l
theorem C9:∀l,(fS l).length=l.length*3
 |[]=>rfl
 |d::l=>by simp only[fS,AW,C9 l];omega
theorem K9:∀l,∀u∈fS l,u.oneCell'=true
 |[],u,h=>by cases h
 |d::l,u,h=>by
  simp only[fS,Ap]at h;rcases h with rfl|rfl|rfl|h
  . rfl
  . rfl
  . rfl
  . exact K9 l u h
theorem sO:∀(l:List au) (i:Nat) (h:i<l.length),(fS l)[i*3]? =some (.int .i64 l[i].dev)/\(fS l)[i*3+1]? =some (.int .i64 l[i].inc)/\(fS l)[i*3+2]? =some (.int .i64 l[i].seq)
 |d::l,0,_=>⟨rfl,rfl,rfl⟩
 |d::l,i+1,h=>by
  have:=sO l i (by grind);rw[show(i+1)*3=i*3+1+1+1 by omega];exact this
theorem VF (l:List au) {j:Nat} {u:Value} (h:(fS l)[j]? =some u):∃i,∃hi:i<l.length,(j=i*3/\u= .int .i64 l[i].dev)\/(j=i*3+1/\u= .int .i64 l[i].inc)\/(j=i*3+2/\u= .int .i64 l[i].seq):=by
 have hj:j<l.length*3:=by rw[<-C9];grind
 have hi:j / 3<l.length:=by omega
 obtain⟨h0,h1,h2⟩:=sO l (j / 3) hi;grind
theorem Ys {w:World} {base:Nat} {l:List au} {v:Value} (h:w.ownsRow base 70 3 v l.length (fS l)):cL w l v:=by
 rcases h.2 with⟨rfl,h0⟩|⟨g,cap,cur,rfl,hb,hg,h1,h2,h3,h4⟩
 . exact .inl ⟨AY.1 h0,_,_,rfl⟩
 . refine .inr ⟨g,0,cap,cur,70,(0,0),rfl,hg,h1,by omega,fun i hi=>?_⟩;obtain⟨e0,e1,e2⟩:=sO l i hi;have key:∀j,j<l.length*3->cur[0+j]? =(fS l)[j]? :=fun j hj=>by
    rw[<-h4,A3,An hj,A8,AA]
   grind
def lg (n:Nat) (l:List au) (v:Value):Prop:=l=[]\/ ∃b off k c,v= .slice (some ⟨b,off,none⟩) k c/\n<=b
def dD (w:World) (n:Nat) (l:List au) (v:Value):Prop:=(l=[]/\ ∃a c,v= .slice a 0 c)\/ ∃b cap arr,v= .slice (some ⟨b,0,none⟩) l.length cap/\n<=b/\w.heap[b]? =some (.cells arr 70 (0,0))/\l.length<=cap/\l.length*3<=arr.size/\
 ∀i (h:i<l.length),arr[i*3]? =some (.int .i64 l[i].dev)/\arr[i*3+1]? =some (.int .i64 l[i].inc)/\arr[i*3+2]? =some (.int .i64 l[i].seq)
theorem dD.cK {w:World} {n:Nat} {l:List au} {v:Value} (h:dD w n l v):cL w l v:=by
 rcases h with h|⟨b,cap,arr,rfl,hb,h1,h2,h3,h4⟩
 . exact .inl h
 . exact .inr ⟨b,0,cap,arr,70,(0,0),rfl,h1,h2,by rw[AA];exact h3,fun i hi=>by rw[AA];grind⟩
theorem dD.mono {w:World} {n m:Nat} {l:List au} {v:Value} (h:dD w n l v) (hm:m<=n):dD w m l v:=by
 rcases h with h|⟨b,cap,arr,rfl,hb,hr⟩
 . exact .inl h
 . exact .inr ⟨b,cap,arr,rfl,Av hm hb,hr⟩
theorem dD.aV {w w':World} {n:Nat} {l:List au} {v:Value} (h:dD w n l v) (hs:∀b arr,n<=b->w.heap[b]? =some (.cells arr 70 (0,0))->w'.heap[b]? =w.heap[b]?):dD w' n l v:=by
 rcases h with h|⟨b,cap,arr,rfl,hb,h1,hr⟩
 . exact .inl h
 . exact .inr ⟨b,cap,arr,rfl,hb,(hs b arr hb h1).trans h1,hr⟩
theorem dD.one {w:World} {n:Nat} {l:List au} {v:Value} (h:dD w n l v):∃a n c,v= .slice a n c:=by
 rcases h with⟨_,a,c,rfl⟩|⟨_,_,_,rfl,_⟩<;>exact⟨_,_,_,rfl⟩
theorem WW {w:World} {base:Nat} {l:List au} {v:Value} (h:w.ownsRow base 70 3 v l.length (fS l)):dD w base l v:=by
 rcases h.2 with⟨rfl,h0⟩|⟨g,cap,cur,rfl,hb,hg,h1,h2,h3,h4⟩
 . exact .inl ⟨AY.1 h0,_,_,rfl⟩
 . refine .inr ⟨g,cap,cur,rfl,hb,hg,h1,by omega,fun i hi=>?_⟩;obtain⟨e0,e1,e2⟩:=sO l i hi;have key:∀j,j<l.length*3->cur[j]? =(fS l)[j]? :=fun j hj=>by
    rw[<-h4,A3,An hj,A8]
   grind
theorem KP:(Tryz.prog.info? 70).map (fun i=>(i.zero,i.size,i.bytes))=some (some (.agg #[.int .i64 0, .int .i64 0, .int .i64 0]),3,24):=by kernel_rfl
theorem S9 {w:World} {l:List au} {v:Value} (h:cL w l v) (hl:l.length<=100000):Calls Tryz.prog 86 #[v] w fun e w'=>∃v',e= .returned v'/\dD w' w.heap.size l v'/\Below w.heap.size w w':=by
 have q40:∀(w:World) (a:Option Addr) (n c n' c':Nat),(binOp .eql 34 (.slice a n c) (.slice none n' c')).run Tryz.prog w= .ok (.bool a.isNone) w:=fun w a n c n' c'=>Lib.run_eql_slice_nil w _ _ a n c n' c' Tryz.underlying34
 obtain⟨i0,hi,hz0,hz1,hz2⟩:∃i0,Tryz.prog.info? 70=some i0/\i0.zero=some (.agg #[.int .i64 0, .int .i64 0, .int .i64 0])/\i0.size=3/\i0.bytes=24:=by
   have h:=KP;simp_all
 have go:∀(p:Addr) (c:Nat),(∀j u,(fS l)[j]? =some u->w.cell? (p.add j)=some u)->Calls Tryz.prog 86 #[.slice (some p) l.length c] w fun e w'=>∃v',e= .returned v'/\dD w' w.heap.size l v'/\Below w.heap.size w w':=by
   intro p c hc;have A:Aside (∀j u,(fS l)[j]? =some u->w.cell? (p.add j)=some u):=hc;clear hc;go_enter Tryz.func86,Tryz.ntmps86
   go_wp2_with (at_builtin;refine wpList_append_own _ rfl _ _ 34 rfl w.heap.size 70 i0 _ 3 24 Tryz.underlying34 hi hz0 hz1 hz2 rfl (by omega) _ _ _ rfl (World.ownsRow_made w #[] 0 (Ac _) (Ao _) (by simp)) p l.length c (fS l) rfl ?qc1 ?qc2 ?qc3 ?qc4 ?qc5 ?qc6 ?_)
   case qc1=>exact C9 l
   case qc2=>
    intro j u hj;exact Lib.cell?_alloc_some _ (A.out j u hj)
   case qc3=>exact K9 l
   case qc4=>rw[AA];grind [maxLen]
   case qc5=>rw[AA];omega
   case qc6=>simp
   intro v' w1 hown hgrow hnil;go_wp2;go_ret;refine⟨v',rfl,WW (by omega),?_⟩;exact((Below.refl _ w).alloc (Ac _) _).grown hgrow (by simp) (by grind [Value.ownBlock])
 rcases h with⟨rfl,a,c,rfl⟩|⟨b,off,cap,arr,e,fz,rfl,hb,hc,hl2,hi2⟩
 . cases a with
   |none=>
    clear go;go_enter Tryz.func86,Tryz.ntmps86
    go_wp2;go_ret;exact⟨_,rfl, .inl ⟨rfl,_,_,rfl⟩,Below.refl _ _⟩
   |some a=>
    exact go a c fun j u hj=>by cases hj
 . refine go ⟨b,off,none⟩ cap fun j u hj=>?_
   rw[Addr.add_lit];obtain⟨i,hil,hh⟩:=VF l hj;obtain⟨e0,e1,e2⟩:=hi2 i hil;have cell:∀{j:Nat} {u:Value},arr[j]? =some u->w.cell? ⟨b,j,none⟩=some u:=fun hx=>by
    grind [World.cell?]
   grind
end
end Go.Proofs
namespace Go.Proofs
open Go Go.Am Go.RowKit Go.Sy Go.Gm Go.Maps Go.Sort
def lv:Code->Option (Code×Code)
 | .rangeFunc _ _ a b=>some (a,b)
 | .seq a b=>match lv a with
  |some x=>some x
  |none=>lv b
 | .block _ c=>lv c
 | .scope c=>lv c
 | .loop c=>lv c
 |_=>none
noncomputable def I3:Code:=((Tryz.f266.body.bind lv).getD (.skip, .skip)).1
noncomputable def I4:Code:=((Tryz.f266.body.bind lv).getD (.skip, .skip)).2
noncomputable def apRec (fn:FuncId) (sv:Value) (Bs D:Nat) (st:LoopState) (lZ:Option Code):Loop:=
 {state:=st,pending:=lZ,fn,tmps:=#[.slice none 0 0,sv, .pointer (some ⟨Bs,0,none⟩),undef, .slice none 0 0,undef,sv,undef,undef,undef,undef,undef,undef],params:=#[7],assign:=I3,body:=I4,defers:=D}
structure uf (w0:World) (fn:FuncId) (sv:Value) (Bs l D:Nat) (ss:List au) (W:World):Prop where
 box:∃v,W.heap[Bs]? =some (.cells #[v] 34 (0,0))/\W.ownsRow w0.heap.size 70 3 v ss.length (fS ss)
 L:W.heap[l]? =some (.loop (apRec fn sv Bs D .ready none))
 K:W.heap[D]? =some (.deferred (some []))
 below:Below w0.heap.size w0 W
theorem WE (w0:World) (fn:FuncId) (sv:Value) (Bs l D B:Nat) (hB:w0.heap.size<=B):AbidesFrom B (uf w0 fn sv Bs l D):=fun s W W' row h hg hrow=>by
 have hrow':∀r,row=some r->∃o:Obj,W.heap[r]? =some o/\o.isWalk=true:=fun r e=>(hrow r e).2
 obtain⟨v,hv,hr⟩:=h.box;exact⟨⟨v,(grownBy_keeps hg hrow' hv rfl).trans hv,ownsRow_abides_a hr hg hrow'⟩,(grownBy_keeps hg hrow' h.L rfl).trans h.L,(grownBy_keeps hg hrow' h.K rfl).trans h.K,h.below.grown hg h.below.size (fun k e=>Av hB (hrow k e).1)⟩
theorem KY (l:List au) (x:au):fS (l++[x])=fS l++[.int .i64 x.dev, .int .i64 x.inc, .int .i64 x.seq]:=by
 induction l with
 |nil=>rfl
 |cons d l ih=>grind [fS]
theorem Ki:∃i0,Tryz.prog.info? 70=some i0/\i0.zero=some (.agg #[.int .i64 0, .int .i64 0, .int .i64 0])/\i0.size=3/\i0.bytes=24:=by
 have h:=KP;simp_all
theorem SU (m:Nat) (w0:World) (fn:FuncId) (sv:Value) (Bs l D:Nat) (hBl:Bs≠l) (hDl:D≠l) (hDB:D≠Bs) (h0B:w0.heap.size<=Bs) (h0l:w0.heap.size<=l)
  (N:Nat) (hN:N<=1000000) (ss:List au) (x:au) (W:World) (h:uf w0 fn sv Bs l D ss W) (hlen:ss.length<N):
  YieldAt Fence.wide m Tryz.prog l #[bX x] W fun e W'=>e= .returned (.bool true)/\uf w0 fn sv Bs l D (ss++[x]) W'/\KeepsWalks W W':=by
 obtain⟨i0,hi,hz0,hz1,hz2⟩:=Ki;obtain⟨v,hv,hrow⟩:=h.box;refine⟨fn,#[.slice none 0 0,sv, .pointer (some ⟨Bs,0,none⟩),undef, .slice none 0 0,undef,sv,bX x,undef,undef,undef,undef,undef],I3,I4,by simpa [apRec]using run_yield (P:=Tryz.prog) (args:=#[bX x]) h.L rfl,roundIn_of_wpIn trivial ?_⟩;have hl:l<W.heap.size:=(Ab.1 h.L).1;have hne:∀cur:Array Value,Obj.cells #[v] 34 (0,0)≠ .cells cur 70 (0,0):=fun cur e=>by
  have:=(Obj.cells.inj e).2.1;grind
 obtain⟨W1,hW1⟩:∃W1,W.alloc (.cells #[.int .i64 x.dev, .int .i64 x.inc, .int .i64 x.seq] 70)=W1:=⟨_,rfl⟩;have hs1:W1.heap.size=W.heap.size+1:=by rw[<-hW1];simp
 have hold1:∀k,k<W.heap.size->W1.heap[k]? =W.heap[k]? :=fun k hk=>by rw[<-hW1];grind [Below.heap_alloc]
 have hBlt0:Bs<W.heap.size:=(Ab.1 hv).1;have hDlt0:D<W.heap.size:=(Ab.1 h.K).1;have hv1:W1.heap[Bs]? =some (.cells #[v] 34 (0,0)):=(hold1 Bs hBlt0).trans hv;have hL1:W1.heap[l]? =some (.loop (apRec fn sv Bs D .ready none)):=(hold1 l hl).trans h.L;have hK1:W1.heap[D]? =some (.deferred (some [])):=(hold1 D hDlt0).trans h.K;have hrow1:W1.ownsRow w0.heap.size 70 3 v ss.length (fS ss):=by rw[<-hW1];exact hrow.alloc _
 have hb1:Below w0.heap.size w0 W1:=by rw[<-hW1];exact h.below.alloc h.below.size _
 have hk1:KeepsWalks W W1:=by rw[<-hW1];grind [KeepsWalks.alloc]
 have x0':W1.cell? ⟨W.heap.size,0,none⟩=some (.int .i64 x.dev):=by rw[<-hW1];simp
 have x1':W1.cell? ⟨W.heap.size,1,none⟩=some (.int .i64 x.inc):=by rw[<-hW1];simp
 have x2':W1.cell? ⟨W.heap.size,2,none⟩=some (.int .i64 x.seq):=by rw[<-hW1];simp
 have hbr:=run_beginRound (P:=Tryz.prog) hL1 rfl;obtain⟨W2,hW2⟩:∃W2,W1.putObj l (.loop {apRec fn sv Bs D .ready none with state:= .busy})=W2:=⟨_,rfl⟩;rw[hW2]at hbr;have hg2:W1.grownBy W2 (some l):=by rw[<-hW2];grind [grownBy_putObj_a]
 have hk2:KeepsWalks W1 W2:=by rw[<-hW2];exact KeepsWalks.putObj _ hL1 rfl
 have hv2:W2.heap[Bs]? =some (.cells #[v] 34 (0,0)):=by rw[<-hW2];grind [World.putObj_heap_other]
 have hK2:W2.heap[D]? =some (.deferred (some [])):=by rw[<-hW2];grind [World.putObj_heap_other]
 have hL2:W2.heap[l]? =some (.loop {apRec fn sv Bs D .ready none with state:= .busy}):=by rw[<-hW2];grind [World.putObj_heap_same]
 have hrow2:W2.ownsRow w0.heap.size 70 3 v ss.length (fS ss):=hrow1.kept hg2 (ownsRow_ne_a hrow1 hL1 (fun cur e=>by cases e));have hb2:Below w0.heap.size w0 W2:=hb1.grown hg2 hb1.size (fun k e=>by grind);have hs2:W2.heap.size=W.heap.size+1:=by rw[<-hW2];simp[hs1]
 have hbx:W2.heap[W.heap.size]? =W1.heap[W.heap.size]? :=by rw[<-hW2];grind [World.putObj_heap_other]
 have x0:=eo x0' hbx;have x1:=eo x1' hbx;have x2:=eo x2' hbx;obtain⟨hc2,hf2⟩:=cell_of_box_a hv2;have hBlt:Bs<W2.heap.size:=(Ab.1 hv2).1;have hl2:l<W2.heap.size:=(Ab.1 hL2).1;have hDlt:D<W2.heap.size:=(Ab.1 hK2).1;have ne_of:∀{j:Nat} {o:Obj},W2.heap[j]? =some o->(∀cur,o≠ .cells cur 70 (0,0))->some j≠v.ownBlock:=fun hj hno=>by
  grind [ownsRow_ne_a]
 clear hW2;rw[show bX x= .agg #[.int .i64 x.dev, .int .i64 x.inc, .int .i64 x.seq]from rfl];conv=>arg 4;whnf
 gi_wp2_with gi_round_op_a
 conv=>arg 4;whnf
 obtain⟨W2b,hW2b⟩:∃W2b,W2.alloc (.cells #[.int .i64 x.dev, .int .i64 x.inc, .int .i64 x.seq] 70)=W2b:=⟨_,rfl⟩;have hrow2b:W2b.ownsRow w0.heap.size 70 3 v ss.length (fS ss):=by rw[<-hW2b];exact hrow2.alloc _
 have hs2b:W2b.heap.size=W2.heap.size+1:=by rw[<-hW2b];simp
 have hold2b:∀k,k<W2.heap.size->W2b.heap[k]? =W2.heap[k]? :=fun k hk=>by rw[<-hW2b];grind [Below.heap_alloc]
 have y0:W2b.cell? ⟨W2.heap.size,0,none⟩=some (.int .i64 x.dev):=by rw[<-hW2b];simp
 have y1:W2b.cell? ⟨W2.heap.size,1,none⟩=some (.int .i64 x.inc):=by rw[<-hW2b];simp
 have y2:W2b.cell? ⟨W2.heap.size,2,none⟩=some (.int .i64 x.seq):=by rw[<-hW2b];simp
 rw[hs2]at y0 y1 y2;have hcells:∀j u,([Value.int .i64 x.dev, .int .i64 x.inc, .int .i64 x.seq]:List Value)[j]? =some u->W2b.cell? ((⟨W.heap.size+1,0,none⟩:Addr).add j)=some u:=fun j u hj=>by
  rw[Addr.add_lit];match j with
  |0=>grind
  |1=>grind
  |2=>grind
  |_+3=>cases hj
 have hb2b:Below w0.heap.size w0 W2b:=by rw[<-hW2b];exact hb2.alloc hb2.size _
 have hz2b:w0.heap.size<=W2b.heap.size:=hb2b.size;gi_wp2_with (first
  |(gi_at_builtin;refine wpListIn_append_own _ rfl _ _ 34 rfl w0.heap.size 70 i0 _ 3 24 Tryz.underlying34 hi hz0 hz1 hz2 rfl (by decide) _ _ _ rfl hrow2b ⟨W.heap.size+1,0,none⟩ 1 1 [.int .i64 x.dev, .int .i64 x.inc, .int .i64 x.seq] rfl rfl hcells (by simp[Value.oneCell']) (by grind [maxLen]) (by omega) hz2b ?_;intro v' w3 hown' hg3 hnil3;have hg3':W2b.grownBy w3 v.ownBlock:=hg3;have hv3:w3.heap[Bs]? =some (.cells #[v] 34 (0,0)):=(hg3'.block Bs (by omega) (ne_of hv2 hne)).trans ((hold2b Bs hBlt).trans hv2);obtain⟨hc3,hf3⟩:=cell_of_box_a hv3;obtain⟨g',cap',cur',rfl,hbase',hgb',hr1,hr2,hr3,hr4⟩:∃g' cap' cur',v'= .slice (some ⟨g',0,none⟩) (ss.length+1) cap'/\w0.heap.size<=g'/\w3.heap[g']? =some (.cells cur' 70 (0,0))/\ss.length+1<=cap'/\cap'<=maxLen/\cur'.size=cap'*3/\cur'.toList.take ((ss.length+1)*3)=fS ss++[.int .i64 x.dev, .int .i64 x.inc, .int .i64 x.seq]:=hown'.2.resolve_left (fun hh=>absurd hh.2 (by omega));go_frame)
  |gi_round_op_a)
 have hL3:w3.heap[l]? =some (.loop {apRec fn sv Bs D .ready none with state:= .busy}):=(hg3'.block l (by omega) (ne_of hL2 (fun cur e=>by cases e))).trans ((hold2b l hl2).trans hL2);have hK3:w3.heap[D]? =some (.deferred (some [])):=(hg3'.block D (by omega) (ne_of hK2 (fun cur e=>by cases e))).trans ((hold2b D hDlt).trans hK2);obtain⟨w4,hw4⟩:∃w4,w3.setCell ⟨Bs,0,none⟩ (.slice (some ⟨g',0,none⟩) (ss.length+1) cap')=w4:=⟨_,rfl⟩;rw[hw4];have hg4:w3.grownBy w4 (some Bs):=by rw[<-hw4];grind [grownBy_setCell0_a]
 have hv4:w4.heap[Bs]? =some (.cells #[.slice (some ⟨g',0,none⟩) (ss.length+1) cap'] 34 (0,0)):=by rw[<-hw4];grind [heap_setCell_box_a]
 have hL4:w4.heap[l]? =some (.loop {apRec fn sv Bs D .ready none with state:= .busy}):=(hg4.block l (Ab.1 hL3).1 (fun e=>hBl (by grind))).trans hL3;have hK4:w4.heap[D]? =some (.deferred (some [])):=(hg4.block D (Ab.1 hK3).1 (fun e=>hDB (by grind))).trans hK3;have hrow4:=hown'.kept hg4 (ownsRow_ne_a hown' hv3 hne);have hl4:l<w4.heap.size:=(Ab.1 hL4).1;have hb3:Below w0.heap.size w0 w3:=hb2b.grown hg3' hz2b (fun k e=>(hrow2b.lt k e).1);have hb4:Below w0.heap.size w0 w4:=hb3.grown hg4 hb3.size (fun k e=>by grind);have hk2b:KeepsWalks W2 W2b:=by rw[<-hW2b];grind [KeepsWalks.alloc]
 have hk4:KeepsWalks W w4:=(((hk1.trans hk2).trans hk2b).trans (KeepsWalks.of_grownBy hg3' (ownsRow_not_walk_a hrow2b))).trans (by rw[<-hw4];exact KeepsWalks.setCell _ _ _);clear hw4;refine⟨_,_,run_endRound none hL4,rfl,⟨⟨_,(World.putObj_heap_other hBl).trans hv4,?_⟩,World.putObj_heap_same hl4,(World.putObj_heap_other hDl).trans hK4,hb4.grown (grownBy_putObj_a _ _ _) hb4.size (fun k e=>by grind)⟩,hk4.trans (KeepsWalks.putObj _ hL4 rfl)⟩;have:=hrow4.kept (grownBy_putObj_a w4 l (.loop {{apRec fn sv Bs D .ready none with state:= .busy}with state:=if(none:Option Code).isNone then .ready else .done,pending:=none})) (ownsRow_ne_a hrow4 hL4 (fun cur e=>by cases e));rw[KY];grind
theorem ZG:∀args w,(callFunc 248 args).run Tryz.prog w= .ok (.enter 248 args) w:=enters_of Tryz.func248 (by kernel_rfl) rfl
theorem TE (n:Nat) (hn:2<=n) (lb:Array Value) (S:List au->Prop) (N:Nat) (hN:N<=1000000) (w:World) (hseq:SeqGives Fence.wide (n - 1) Tryz.prog 248 lb bX S N w):
    CallsIn Fence.wide n Tryz.prog 266 #[.slice none 0 0, .func (.func 248) #[] lb] w fun e w'=>∃(v:Value) (ss:List au),e= .returned v/\S ss/\w'.ownsRow w.heap.size 70 3 v ss.length (fS ss)/\Below w.heap.size w w':=by
  have h1:1<=n:=by omega
  refine callsIn_of_wp_marks Tryz.func266 rfl trivial ?_ rfl;simp only[Tryz.ntmps266,Bb,AW,A7,Nat.reduceAdd,Nat.reduceSub,BN,BM,BZ,BR,Bq,BH];gi_wp2
  refine wpIn_rangeFunc ?_;intro fn hfn;obtain⟨W0,hW0⟩:∃W0,w.alloc (.cells #[.slice none 0 0] 34)=W0:=⟨_,rfl⟩;have hs0:W0.heap.size=w.heap.size+1:=by rw[<-hW0];simp
  have hv0:W0.heap[w.heap.size]? =some (.cells #[.slice none 0 0] 34 (0,0)):=by rw[<-hW0];grind [World.alloc_heap_new]
  have hb0:Below w.heap.size w W0:=by rw[<-hW0];exact(Below.refl _ w).alloc (Ac _) _
  rw[hW0];obtain⟨W1,hW1⟩:∃W1,(W0.alloc (.deferred (some []))).alloc (.loop (apRec fn (.func (.func 248) #[] lb) w.heap.size W0.heap.size .ready none))=W1:=⟨_,rfl⟩;have hold:∀k,k<W0.heap.size->W1.heap[k]? =W0.heap[k]? :=fun k hk=>by
    rw[<-hW1];grind [Below.heap_alloc]
  have hb1:Below w.heap.size w W1:=by rw[<-hW1];exact(hb0.alloc hb0.size _).alloc (by have:=hb0.size;simp;omega) _
  have hs1:W1.heap.size=W0.heap.size+2:=by rw[<-hW1];simp
  have hM:uf w fn (.func (.func 248) #[] lb) w.heap.size (W0.heap.size+1) W0.heap.size [] W1:=
    ⟨⟨_,(hold w.heap.size (by omega)).trans hv0,⟨rfl, .inl ⟨rfl,rfl⟩⟩⟩,
     by rw[<-hW1];have:=World.alloc_heap_new (W0.alloc (.deferred (some []))) (.loop (apRec fn (.func (.func 248) #[] lb) w.heap.size W0.heap.size .ready none));rwa [World.size_alloc]at this,
     by rw[<-hW1];grind [Below.heap_alloc,World.alloc_heap_new],hb1⟩
  refine⟨W0.heap.size+1,[{target:= .collected W0.heap.size,args:=#[]}],W1,{target:= .fn (.func 248) lb,args:=#[.func (.yield (W0.heap.size+1)) #[] #[]]},W1,248,
    #[.func (.yield (W0.heap.size+1)) #[] #[]]++lb,W1,?_,?_,?_,?_,fun _=>h1,?_⟩
  . rw[<-hW1];exact run_enterLoop_outer _ _ _ _ _
  . simp[resolve,go_sem]
  . intro f' hf';simp[Target.leads]at hf';subst hf';trivial
  . grind [invoke,ZG]
  . refine(hseq (W0.heap.size+1) (uf w fn (.func (.func 248) #[] lb) w.heap.size (W0.heap.size+1) W0.heap.size) W1 hb1 (WE _ _ _ _ _ _ _ hb1.size)
      (fun pre x W hJ hl=>SU (n - 1 - 1) w fn _ w.heap.size (W0.heap.size+1) W0.heap.size (by omega) (by omega) (by omega) (Ac _) (by omega) N hN pre x W hJ hl) hM).mono ?_
    rintro e W2 ⟨⟨v0,rfl⟩,ss,hS,h2⟩;obtain⟨v,hv,hrow⟩:=h2.box;have hend:=run_endLoop (P:=Tryz.prog) h2.L (by simp[apRec]);obtain⟨W3,hW3⟩:∃W3,W2.putObj (W0.heap.size+1) (.loop {apRec fn (.func (.func 248) #[] lb) w.heap.size W0.heap.size .ready none with state:= .exhausted})=W3:=⟨_,rfl⟩;rw[hW3]at hend;have hne:∀cur:Array Value,Obj.cells #[v] 34 (0,0)≠ .cells cur 70 (0,0):=fun cur e=>by
      have:=(Obj.cells.inj e).2.1;grind
    have hg3:W2.grownBy W3 (some (W0.heap.size+1)):=by rw[<-hW3];grind [grownBy_putObj_a]
    have hv3:W3.heap[w.heap.size]? =some (.cells #[v] 34 (0,0)):=by rw[<-hW3];grind [World.putObj_heap_other]
    have hK3:W3.heap[W0.heap.size]? =some (.deferred (some [])):=by rw[<-hW3];exact(World.putObj_heap_other (by omega)).trans h2.K
    have hrow3:=hrow.kept hg3 (ownsRow_ne_a hrow h2.L (fun cur e=>by cases e));have hb3:Below w.heap.size w W3:=h2.below.grown hg3 h2.below.size (fun k e=>by grind);obtain⟨hc3,hf3⟩:=cell_of_box_a hv3;clear hW3;refine⟨none,W3,hend,?_⟩;gi_wp2
    rw[<-hs0];refine⟨by simp, .inl ⟨_,_,rfl,run_takeDeferred hK3,?_⟩⟩;exact⟨_,results_tmp rfl _ _ _,v,ss,rfl,hS,hrow3.kept (grownBy_putObj_a _ _ _) (ownsRow_ne_a hrow3 hK3 (fun cur e=>by cases e)),hb3.grown (grownBy_putObj_a _ _ _) hb3.size (fun k e=>by grind)⟩
theorem SY (n:Nat) (hn:3<=n) (lb:Array Value) (S:List au->Prop) (N:Nat) (hN:N<=1000000) (w:World) (hseq:SeqGives Fence.wide (n - 1 - 1) Tryz.prog 248 lb bX S N w):
  CallsIn Fence.wide n Tryz.prog 246 #[.func (.func 248) #[] lb] w fun e w'=>∃(v:Value) (ss:List au),e= .returned v/\S ss/\w'.ownsRow w.heap.size 70 3 v ss.length (fS ss)/\Below w.heap.size w w':=by
 have h1:1<=n:=by omega
 refine callsIn_of_wp Tryz.func246 rfl trivial ?_ rfl;simp only[Tryz.ntmps246,Bb,AW,A7,Nat.reduceAdd,Nat.reduceSub,BN,BM,BZ,BR,Bq,BH];have hf253:Fence.wide.fn 266:=trivial;have hs:=TE (n - 1) (by omega) lb S N hN w hseq;gi_wp2_with (gi_at_call 266;refine hs.mono ?_;rintro e w' ⟨v,ss,rfl,hS,hrow,hb⟩)
 go_ret;exact⟨v,ss,rfl,hS,hrow,hb⟩
end Go.Proofs
namespace Go.Proofs
open Go.Shelf
def si:Go.Shelf.Ren:=⟨fun|6=>247|15=>168|14=>267|28=>212|29=>213|20=>274|21=>275|22=>276|23=>277|24=>278|25=>279|26=>280|27=>281|46=>283|47=>242|48=>243|49=>284|50=>285|57=>286|n=>n,fun|22=>34|24=>70|25=>204|3=>3|39=>198|0=>0|53=>229|55=>231|4=>4|46=>223|45=>222|50=>139|5=>5|9=>9|66=>248|70=>252|76=>263|77=>264|n=>n,fun|n=>n⟩
theorem Tb:Go.Proofs.SlLaysF0.n6 Tryz.prog si:={
 mixed:=by kernel_rfl
 f6:=⟨Tryz.f247.name,by decide,Tryz.func247.trans (Aj some (by kernel_rfl))⟩
 f14:=⟨Tryz.f267.name,by decide,Tryz.func267.trans (Aj some (by kernel_rfl))⟩
 f15:=Tryz.func168.trans (Aj some (by kernel_rfl))
 f20:=⟨Tryz.f274.name,by decide,Tryz.func274.trans (Aj some (by kernel_rfl))⟩
 f21:=⟨Tryz.f275.name,by decide,Tryz.func275.trans (Aj some (by kernel_rfl))⟩
 f22:=⟨Tryz.f276.name,by decide,Tryz.func276.trans (Aj some (by kernel_rfl))⟩
 f23:=⟨Tryz.f277.name,by decide,Tryz.func277.trans (Aj some (by kernel_rfl))⟩
 f24:=⟨Tryz.f278.name,by decide,Tryz.func278.trans (Aj some (by kernel_rfl))⟩
 f25:=⟨Tryz.f279.name,by decide,Tryz.func279.trans (Aj some (by kernel_rfl))⟩
 f26:=⟨Tryz.f280.name,by decide,Tryz.func280.trans (Aj some (by kernel_rfl))⟩
 f27:=⟨Tryz.f281.name,by decide,Tryz.func281.trans (Aj some (by kernel_rfl))⟩
 f28:=Tryz.func212.trans (Aj some (by kernel_rfl))
 f29:=Tryz.func213.trans (Aj some (by kernel_rfl))
 f46:=⟨Tryz.f283.name,by decide,Tryz.func283.trans (Aj some (by kernel_rfl))⟩
 f47:=Tryz.func242.trans (Aj some (by kernel_rfl))
 f48:=Tryz.func243.trans (Aj some (by kernel_rfl))
 f49:=⟨Tryz.f284.name,by decide,Tryz.func284.trans (Aj some (by kernel_rfl))⟩
 f50:=⟨Tryz.f285.name,by decide,Tryz.func285.trans (Aj some (by kernel_rfl))⟩
 f57:=⟨Tryz.f286.name,by decide,Tryz.func286.trans (Aj some (by kernel_rfl))⟩
 t0:=Tryz.underlying0
 a0:=Tryz.isAgg0
 z0:=Tryz.sizeOf0
 v0:=Tryz.zeroValue0
 t3:=Tryz.underlying3
 a3:=Tryz.isAgg3
 z3:=Tryz.sizeOf3
 v3:=Tryz.zeroValue3
 t4:=Tryz.underlying4
 a4:=Tryz.isAgg4
 z4:=Tryz.sizeOf4
 v4:=Tryz.zeroValue4
 t5:=Tryz.underlying5
 a5:=Tryz.isAgg5
 z5:=Tryz.sizeOf5
 v5:=Tryz.zeroValue5
 t9:=Tryz.underlying9
 a9:=Tryz.isAgg9
 z9:=Tryz.sizeOf9
 v9:=Tryz.zeroValue9
 t22:=Tryz.underlying34
 a22:=Tryz.isAgg34
 z22:=Tryz.sizeOf34
 v22:=Tryz.zeroValue34
 t25:=Tryz.underlying204
 a25:=Tryz.isAgg204
 z25:=Tryz.sizeOf204
 v25:=Tryz.zeroValue204
 t39:=Tryz.underlying198
 a39:=Tryz.isAgg198
 z39:=Tryz.sizeOf198
 v39:=Tryz.zeroValue198
 t45:=Tryz.underlying222
 a45:=Tryz.isAgg222
 z45:=Tryz.sizeOf222
 v45:=Tryz.zeroValue222
 t46:=Tryz.underlying223
 a46:=Tryz.isAgg223
 z46:=Tryz.sizeOf223
 v46:=Tryz.zeroValue223
 t50:=Tryz.underlying139
 a50:=Tryz.isAgg139
 z50:=Tryz.sizeOf139
 v50:=Tryz.zeroValue139
 t53:=Tryz.underlying229
 a53:=Tryz.isAgg229
 z53:=Tryz.sizeOf229
 v53:=Tryz.zeroValue229
 t55:=Tryz.underlying231
 a55:=Tryz.isAgg231
 z55:=Tryz.sizeOf231
 v55:=Tryz.zeroValue231
 t66:=Tryz.underlying248
 a66:=Tryz.isAgg248
 z66:=Tryz.sizeOf248
 v66:=Tryz.zeroValue248
 t70:=Tryz.underlying252
 a70:=Tryz.isAgg252
 z70:=Tryz.sizeOf252
 v70:=Tryz.zeroValue252
 t76:=Tryz.underlying263
 a76:=Tryz.isAgg263
 z76:=Tryz.sizeOf263
 v76:=Tryz.zeroValue263
 t77:=Tryz.underlying264
 a77:=Tryz.isAgg264
 z77:=Tryz.sizeOf264
 v77:=Tryz.zeroValue264}
def sh:Go.Shelf.Ren:=⟨fun|6=>119|15=>168|14=>167|28=>212|29=>213|20=>204|21=>205|22=>206|23=>207|24=>208|25=>209|26=>210|27=>211|46=>241|47=>242|48=>243|49=>244|50=>245|57=>265|n=>n,fun|22=>165|24=>57|25=>167|3=>3|39=>198|0=>0|53=>229|55=>231|4=>4|46=>223|45=>222|50=>139|5=>5|9=>9|66=>248|70=>252|76=>263|77=>264|n=>n,fun|n=>n⟩
theorem Ta:Go.Proofs.SlLaysF0.n6 Tryz.prog sh:={
 mixed:=by kernel_rfl
 f6:=⟨Tryz.f119.name,by decide,Tryz.func119.trans (Aj some (by kernel_rfl))⟩
 f14:=⟨Tryz.f167.name,by decide,Tryz.func167.trans (Aj some (by kernel_rfl))⟩
 f15:=Tryz.func168.trans (Aj some (by kernel_rfl))
 f20:=⟨Tryz.f204.name,by decide,Tryz.func204.trans (Aj some (by kernel_rfl))⟩
 f21:=⟨Tryz.f205.name,by decide,Tryz.func205.trans (Aj some (by kernel_rfl))⟩
 f22:=⟨Tryz.f206.name,by decide,Tryz.func206.trans (Aj some (by kernel_rfl))⟩
 f23:=⟨Tryz.f207.name,by decide,Tryz.func207.trans (Aj some (by kernel_rfl))⟩
 f24:=⟨Tryz.f208.name,by decide,Tryz.func208.trans (Aj some (by kernel_rfl))⟩
 f25:=⟨Tryz.f209.name,by decide,Tryz.func209.trans (Aj some (by kernel_rfl))⟩
 f26:=⟨Tryz.f210.name,by decide,Tryz.func210.trans (Aj some (by kernel_rfl))⟩
 f27:=⟨Tryz.f211.name,by decide,Tryz.func211.trans (Aj some (by kernel_rfl))⟩
 f28:=Tryz.func212.trans (Aj some (by kernel_rfl))
 f29:=Tryz.func213.trans (Aj some (by kernel_rfl))
 f46:=⟨Tryz.f241.name,by decide,Tryz.func241.trans (Aj some (by kernel_rfl))⟩
 f47:=Tryz.func242.trans (Aj some (by kernel_rfl))
 f48:=Tryz.func243.trans (Aj some (by kernel_rfl))
 f49:=⟨Tryz.f244.name,by decide,Tryz.func244.trans (Aj some (by kernel_rfl))⟩
 f50:=⟨Tryz.f245.name,by decide,Tryz.func245.trans (Aj some (by kernel_rfl))⟩
 f57:=⟨Tryz.f265.name,by decide,Tryz.func265.trans (Aj some (by kernel_rfl))⟩
 t0:=Tryz.underlying0
 a0:=Tryz.isAgg0
 z0:=Tryz.sizeOf0
 v0:=Tryz.zeroValue0
 t3:=Tryz.underlying3
 a3:=Tryz.isAgg3
 z3:=Tryz.sizeOf3
 v3:=Tryz.zeroValue3
 t4:=Tryz.underlying4
 a4:=Tryz.isAgg4
 z4:=Tryz.sizeOf4
 v4:=Tryz.zeroValue4
 t5:=Tryz.underlying5
 a5:=Tryz.isAgg5
 z5:=Tryz.sizeOf5
 v5:=Tryz.zeroValue5
 t9:=Tryz.underlying9
 a9:=Tryz.isAgg9
 z9:=Tryz.sizeOf9
 v9:=Tryz.zeroValue9
 t22:=Tryz.underlying165
 a22:=Tryz.isAgg165
 z22:=Tryz.sizeOf165
 v22:=Tryz.zeroValue165
 t25:=Tryz.underlying167
 a25:=Tryz.isAgg167
 z25:=Tryz.sizeOf167
 v25:=Tryz.zeroValue167
 t39:=Tryz.underlying198
 a39:=Tryz.isAgg198
 z39:=Tryz.sizeOf198
 v39:=Tryz.zeroValue198
 t45:=Tryz.underlying222
 a45:=Tryz.isAgg222
 z45:=Tryz.sizeOf222
 v45:=Tryz.zeroValue222
 t46:=Tryz.underlying223
 a46:=Tryz.isAgg223
 z46:=Tryz.sizeOf223
 v46:=Tryz.zeroValue223
 t50:=Tryz.underlying139
 a50:=Tryz.isAgg139
 z50:=Tryz.sizeOf139
 v50:=Tryz.zeroValue139
 t53:=Tryz.underlying229
 a53:=Tryz.isAgg229
 z53:=Tryz.sizeOf229
 v53:=Tryz.zeroValue229
 t55:=Tryz.underlying231
 a55:=Tryz.isAgg231
 z55:=Tryz.sizeOf231
 v55:=Tryz.zeroValue231
 t66:=Tryz.underlying248
 a66:=Tryz.isAgg248
 z66:=Tryz.sizeOf248
 v66:=Tryz.zeroValue248
 t70:=Tryz.underlying252
 a70:=Tryz.isAgg252
 z70:=Tryz.sizeOf252
 v70:=Tryz.zeroValue252
 t76:=Tryz.underlying263
 a76:=Tryz.isAgg263
 z76:=Tryz.sizeOf263
 v76:=Tryz.zeroValue263
 t77:=Tryz.underlying264
 a77:=Tryz.isAgg264
 z77:=Tryz.sizeOf264
 v77:=Tryz.zeroValue264}
end Go.Proofs
namespace Go.Proofs
open Go Go.Am Go.RowKit Go.Sy Go.Gm Go.Maps Go.Sort Go.Shelf
section
theorem Ph {w w':World} (h:Below w.heap.size w w') (hd:w.drawn<=w'.drawn):∃q os,w'=grow (w.drewN q) os:=by
 refine⟨w'.drawn - w.drawn,w'.heap.extract w.heap.size w'.heap.size,?_⟩;unfold grow World.drewN
 cases w' with
 |mk heap tape drawn os output=>
  obtain⟨h1,h2,h3,h4,h5⟩:=h;simp only at h1 h2 h3 h4 h5 hd⊢;subst h1;subst h2;subst h3;congr 1
  all_goals grind
def kJ (x:au):List Value:=[.int .i64 x.dev, .int .i64 x.inc, .int .i64 x.seq]
def kr (x:aG):List Value:=[.string ⟨x.name.toArray⟩, .string ⟨x.domain.toArray⟩, .string ⟨x.path.toArray⟩]
def ow (x y:aG):Int:=if ff x y then -1 else 1
section
variable [Inhabited aK]
theorem qyX:CO IE zH:=bB (C:=zH) (cfg:=fun y=>bL pD (cR y)) bh (fun _=>rfl) (fun _=>qm) (n:=400) (by
 rintro⟨x,y⟩ -;refine⟨(x,y),?_⟩
 repeat' first|exact trivial|exact rfl|refine ax (fun _=>?_) fun _=>?_|apply And.intro)
def OU:aL:={Y:=aG×aG,pre:=fun _=>True,args:=fun y=>[.agg y.1.enc, .agg y.2.enc],res:=fun y=>i64 (ow y.1 y.2)}
theorem QQ:CO rX OU:=bB (C:=OU) (cfg:=fun y=>bL pD (cR y)) bh (fun _=>rfl) (fun _=>qm) (n:=400) (by
 rintro⟨x,y⟩ -;refine⟨(x,y),?_⟩
 repeat first|refine⟨rfl,?_⟩|refine⟨trivial,?_⟩
 repeat' first|exact trivial|exact rfl|refine ax (fun _=>?_) fun _=>?_|apply And.intro
 all_goals grind [ow])
end
theorem qzh:SWO (ltOf oE) where
 irrefl x:=by
  have:= @xn ⟨⟨True,#[]⟩⟩ x;exact this
 trans x y z h1 h2:= @xo ⟨⟨True,#[]⟩⟩ x y z h1 h2
 ntrans x y z h1 h2:=by
  letI:Inhabited aK:=⟨⟨True,#[]⟩⟩
  have h1:¬cA x y=true:=by rw[Eb];exact h1
  have h2:¬cA y z=true:=by rw[Eb];exact h2
  show cA x z=false
  rw[<-Eb];rw[vb]at*;omega
theorem yF (x y:aG):ltOf ow x y=ff x y:=by
 grind [ltOf,ow]
theorem qzi:SWO (ltOf ow) where
 irrefl x:=by
  letI:Inhabited aK:=⟨⟨True,#[]⟩⟩
  rw[yF];exact rh x
 trans x y z h1 h2:=by
  letI:Inhabited aK:=⟨⟨True,#[]⟩⟩
  rw[yF]at*;grind [qj]
 ntrans x y z h1 h2:=by
  letI:Inhabited aK:=⟨⟨True,#[]⟩⟩
  rw[yF]at*;grind [sQ,qj]
theorem Oa {Fz:Nat->Option AO} {n:Nat} (x:au) [Inhabited aK]:aT Fz (.agg x.enc) (dz n (.agg (kJ x).toArray)):=Ha [x.dev,x.inc,x.seq]
theorem Gg {Fz:Nat->Option AO} {n:Nat} (k:aG) [Inhabited aK]:aT Fz (.agg k.enc) (dz n (.agg (kr k).toArray)):=by
 unfold dz;refine .agg rfl fun i c v hc hv=>?_
 have hj:i<3:=(Ae.1 hc).1;unfold aG.enc at hc;match i,hj with
 |0,_|1,_|2,_=>cases hc;cases hv;exact .str _
theorem SA (aC off size:Nat) (w:World):CmpLays Tryz.prog 217 #[] kJ 3 oE aC off size w:=by
 intro m os dk _ x y;letI:Inhabited aK:=⟨⟨True,#[]⟩⟩
 have h:=mo bh.ok qyX (fn:=Tryz.f217) (hfn:=by kernel_rfl) (hb:=rfl) (y:=(x,y)) trivial (args:=[.agg (kJ x).toArray, .agg (kJ y).toArray]) (w:=sortWorldK kJ 3 w aC off m dk os) (PL.cons (Oa x) (PL.cons (Oa y) PL.nil)) (cX.o8 rfl _);refine Calls.mono h ?_;rintro e w' ⟨v,rfl,hv,hbel,hd⟩;have hv:v= .int .i64 (oE x y):=ji hv;exact⟨by rw[hv],Ph hbel (hd trivial)⟩
theorem To (aC off size:Nat) (w:World):CmpLays Tryz.prog 120 #[] kr 3 ow aC off size w:=by
 intro m os dk _ x y;letI:Inhabited aK:=⟨⟨True,#[]⟩⟩
 have h:=mo bh.ok QQ (fn:=Tryz.f120) (hfn:=by kernel_rfl) (hb:=rfl) (y:=(x,y)) trivial (args:=[.agg (kr x).toArray, .agg (kr y).toArray]) (w:=sortWorldK kr 3 w aC off m dk os) (PL.cons (Gg x) (PL.cons (Gg y) PL.nil)) (cX.o8 rfl _);refine Calls.mono h ?_;rintro e w' ⟨v,rfl,hv,hbel,hd⟩;have hv:v= .int .i64 (ow x y):=ji hv;exact⟨by rw[hv],Ph hbel (hd trivial)⟩
theorem T9:∀w,(isAgg (si.t 24)).run Tryz.prog w= .ok true w:=fun w=>by kernel_rfl
theorem Ux:∀w,(Go.sizeOf (si.t 24)).run Tryz.prog w= .ok 3 w:=fun w=>by kernel_rfl
theorem Ug:∀w,(isAgg (sh.t 24)).run Tryz.prog w= .ok true w:=fun w=>by kernel_rfl
theorem UC:∀w,(Go.sizeOf (sh.t 24)).run Tryz.prog w= .ok 3 w:=fun w=>by kernel_rfl
theorem CA (x:au):∀v∈kJ x,v.oneCell'=true:=by
 intro v hv;simp only[kJ,Ap,BG,Dm]at hv;rcases hv with rfl|rfl|rfl<;>rfl
theorem CD (x:aG):∀v∈kr x,v.oneCell'=true:=by
 intro v hv;simp only[kr,Ap,BG,Dm]at hv;rcases hv with rfl|rfl|rfl<;>rfl
theorem UJ (aC off cap:Nat) (d:Array au) (w:World) (hH:HoldsK kJ 3 w aC off d) (hblk:aC<w.heap.size) (hsz:d.size<4611686018427387904):
  Calls Tryz.prog 247 #[.slice (some ⟨aC,off,none⟩) d.size cap, .func (.func 217) #[] #[]] w fun e w'=>e= .returned (.tuple #[])/\ ∃d' n os,PermIn 0 d.size d d'/\SortedIn (ltOf oE) 0 d.size d'/\w'=sortWorldK kJ 3 w aC off n d' os:=
 AnyQ.slices_SortFunc Tb 3 T9 Ux kJ (fun _=>rfl) CA oE qzh 217 #[] aC off cap d w (enters_of Tryz.func217 (by kernel_rfl) rfl) (SA aC off d.size w) hH hblk hsz
theorem UK (aC off cap:Nat) (d:Array aG) (w:World) (hH:HoldsK kr 3 w aC off d) (hblk:aC<w.heap.size) (hsz:d.size<4611686018427387904):
  Calls Tryz.prog 119 #[.slice (some ⟨aC,off,none⟩) d.size cap, .func (.func 120) #[] #[]] w fun e w'=>e= .returned (.tuple #[])/\ ∃d' n os,PermIn 0 d.size d d'/\SortedIn (ltOf ow) 0 d.size d'/\w'=sortWorldK kr 3 w aC off n d' os:=
 AnyQ.slices_SortFunc Ta 3 Ug UC kr (fun _=>rfl) CD ow qzi 120 #[] aC off cap d w (enters_of Tryz.func120 (by kernel_rfl) rfl) (To aC off d.size w) hH hblk hsz
end
section
section
variable [Inhabited aK]
def zp (g:FuncId):aL:={Y:=Unit,pre:=fun _=>True,args:=fun _=>[.nils, .fn g [] []],res:=fun _=> .bO []}
theorem qyW:CO Tq (zp IE):=bB (C:=zp IE) (cfg:=fun y=>bL pD (cR y)) bh (fun _=>rfl) (fun _=>qm) (n:=3000) (by
 rintro⟨⟩ -
 (conv=>whnf)
 trivial)
theorem qvQ:CO Ts (zp rX):=bB (C:=zp rX) (cfg:=fun y=>bL pD (cR y)) bh (fun _=>rfl) (fun _=>qm) (n:=3000) (by
 rintro⟨⟩ -
 (conv=>whnf)
 trivial)
end
theorem MO [Inhabited aK] {P:Program} {tab:bC} (ok:bZ P tab) {f:FuncId} {C:aL} (hc:Go.Sy.cI P tab f C) {fn:Func} {body:Code} (hfn:tab.fns.get f=some fn) (hb:fn.body=some body) {y:C.Y} (hy:C.pre y) {args:List Value} {avs:List AV} (hconc:∀E,bK E avs=args) {w:World}
  (hs:PL (bY tab w).get (C.args y) avs) (hw:cX w):Calls P f args.toArray w (fun e w'=>∃v,e= .returned v/\Rd w' (fun _=>True) true (C.res y) v/\Below w.heap.size w w'/\((default:aK).dr->w.drawn<=w'.drawn)):=by
 intro cs;have hP:=ok.fns f fn hfn;have hdom:∀i o,(bY tab w).get i=some o->i<(bY tab w).next:=fun i o hi=>(ph tab w (E:=⟨fun i=>i,fun _=>0⟩) (fun _ _=>rfl)).eG i o hi
 let E:Env:=⟨fun i=>i,fun _=>0⟩
 let D:Nat->Prop:=fun i=>i<w.heap.size
 have hag:∀E',aw D E E'->∀i,i<w.heap.size->E'.aC i=i:=fun E' he i hi=>(he i hi).1
 have hR:Rel D E (KS.old w.heap.size) {fr:=ak.enter fn f body avs .normal,cs:=[],h:=bY tab w} cs (Frame.enter P f args.toArray .normal) cs w:=by
  refine⟨fun E' he=>⟨ph tab w (hag E' he),?_,rfl⟩,fun i h=>h,rr _ _ _ _ _,fun f hf=>by cases hf⟩;rw[<-nh hP hb,hconc]
 obtain⟨v,h',⟨Fz',_,f2,hsim,_⟩,fr',w',v',E',D',s1,s2,s3,s4,s5,s6,s7,s8,s9,s10⟩:=hc fn body hfn hb y hy (bY tab w).get (bY tab w) _ (fun _ _ h=>h) hdom hs.1 hs.2 D E _ cs _ cs w hR hw.lC;obtain⟨g1,g2⟩:=s4 E' (aw.refl _ _);subst g2;exact⟨.returned (ag E' v),w',fr',⟨_,rfl,vB g1 f2 hsim,⟨s8.os,s8.tape,s8.output,s8.size,s8.block⟩,s8.drawn⟩,s1,s2,s3⟩
theorem OY [Inhabited aK] {w:World} {p:Nat->Prop} {g:Bool} {v:Value} (h:Rd w p g (.bO []) v):v= .tuple #[]:=by
 cases h with
 | @bO cs vs h1 h2=>
  grind
theorem UI (w:World):Calls Tryz.prog 247 #[.slice none 0 0, .func (.func 217) #[] #[]] w fun e w'=>e= .returned (.tuple #[])/\Below w.heap.size w w':=by
 letI:Inhabited aK:=⟨⟨True,#[]⟩⟩
 refine Calls.mono (MO bh.ok qyW (fn:=Tryz.f247) (hfn:=rfl) (hb:=rfl) (y:=()) trivial (args:=[.slice none 0 0, .func (.func 217) #[] #[]]) (avs:=[.nils, .fn (.func 217) [] []]) (fun E=>by simp[ag]) (w:=w) (PL.cons .nils (PL.cons (.fn (xs:=[]) (ys:=[]) (us:=[]) (vs:=[]) rfl rfl (fun i x u h=>(by grind)) (fun i x u h=>(by grind))) PL.nil)) (cX.o8 rfl _)) ?_;rintro e w' ⟨v,rfl,hv,hb,_⟩;exact⟨by rw[OY hv],hb⟩
theorem SN (w:World):Calls Tryz.prog 119 #[.slice none 0 0, .func (.func 120) #[] #[]] w fun e w'=>e= .returned (.tuple #[])/\Below w.heap.size w w':=by
 letI:Inhabited aK:=⟨⟨True,#[]⟩⟩
 refine Calls.mono (MO bh.ok qvQ (fn:=Tryz.f119) (hfn:=rfl) (hb:=rfl) (y:=()) trivial (args:=[.slice none 0 0, .func (.func 120) #[] #[]]) (avs:=[.nils, .fn (.func 120) [] []]) (fun E=>by simp[ag]) (w:=w) (PL.cons .nils (PL.cons (.fn (xs:=[]) (ys:=[]) (us:=[]) (vs:=[]) rfl rfl (fun i x u h=>(by grind)) (fun i x u h=>(by grind))) PL.nil)) (cX.o8 rfl _)) ?_;rintro e w' ⟨v,rfl,hv,hb,_⟩;exact⟨by rw[OY hv],hb⟩
end
end Go.Proofs
namespace Go.Gm
open Go Go.RowKit Go.Maps Go.Proofs Go.ChangeMaps
section
variable {P:Program} {K V:Type} [DecidableEq K]
theorem VB {es:List MapEntry} (hs:(es.map (·.born)).Pairwise (· < ·)) {j:Nat} (hj:j<es.length) {n:Nat} (hn:es[j].born=n):es.findIdx? (fun e=>((e.born:Int)==(n:Int)))=some j:=by
 rw[DZ];grind [List.pairwise_iff_getElem]
theorem Vn {es:Array MapEntry} (hs:(es.toList.map (·.born)).Pairwise (· < ·)) {j:Nat} (hj:j<es.size) {n:Nat} (hn:es[j].born=n):es.findIdx? (fun e=>((e.born:Int)==(n:Int)))=some j:=by
 obtain⟨l⟩:=es;rw[List.findIdx?_toArray];exact VB hs hj hn
theorem aA.entry {w:World} {b:Nat} {enc:K->Value} {encV:V->Value} {L:List (K×V)} (h:aA w b enc encV L) {T Te t:TypeId} (hK:KeyLaw P T enc) (ht:P.underlying t=some (.map T Te)) {z:V} (hz:∀w:World,(zeroValue Te).run P w= .ok (encV z) w) (k:K) (val:V):
  ∃ (v:Value) (n:Nat) (o o':Obj),(Instr.mapEntry t (.map (some b)) (enc k)).run P w= .ok (.tuple #[v,goInt n]) (World.aY w b o)/\(Instr.entryStore t (.map (some b)) (goInt n) (encV val)).run P (World.aY w b o)= .ok () (World.aY (World.aY w b o) b o')/\l6 (World.aY w b o) b/\
    aA (World.aY (World.aY w b o) b o') b enc encV (cD L k val)/\(aA (World.aY w b o) b enc encV L\/k∉L.map (·.1)/\aA (World.aY w b o) b enc encV (L++[(k,z)])):=by
 obtain⟨⟨es,clk,hb,hr,hs,hc⟩,hnd⟩:=h;have hf:=ve hK k w es.toList L hr;have hgo:(getObj b).run P w= .ok (.map es clk) w:=by grind [getObj,Sem.run]
 cases e:idxOf k encV L 0 with
 |none=>
  have hk:=gN.1 e;have h1:(Instr.mapEntry t (.map (some b)) (enc k)).run P w= .ok (.tuple #[encV z,goInt clk]) (World.aY w b (.map (es.push ⟨enc k,encV z,clk⟩) (clk+1))):=by
    unfold Instr.mapEntry;simp only[Sem.run_bind,run_underlying ht,Result.andThen_ok,hgo,hK.jd,hf,e,hz,qo hb,Sem.run_pure]
  have hb1:(World.aY w b (.map (es.push ⟨enc k,encV z,clk⟩) (clk+1))).heap[b]? =some (.map (es.push ⟨enc k,encV z,clk⟩) (clk+1)):=by rw[nm hb,An rfl]
  have hgo1:(getObj b).run P (World.aY w b (.map (es.push ⟨enc k,encV z,clk⟩) (clk+1)))= .ok (.map (es.push ⟨enc k,encV z,clk⟩) (clk+1)) (World.aY w b (.map (es.push ⟨enc k,encV z,clk⟩) (clk+1))):=by grind [getObj,Sem.run]
  have hbig:(((es.push ⟨enc k,encV z,clk⟩).toList.map (·.born)).Pairwise (· < ·)):=by
    rw[Array.toList_push,BE,Dp];grind
  have hfi:(es.push ⟨enc k,encV z,clk⟩).findIdx? (fun e=>((e.born:Int)==(clk:Int)))=some es.size:=by
    grind
  have h2:∀x:Value,(Instr.entryStore t (.map (some b)) (goInt clk) x).run P (World.aY w b (.map (es.push ⟨enc k,encV z,clk⟩) (clk+1)))= .ok () (World.aY (World.aY w b (.map (es.push ⟨enc k,encV z,clk⟩) (clk+1))) b (.map ((es.push ⟨enc k,encV z,clk⟩).modify es.size fun e=>{e with val:=x}) (clk+1))):=fun x=>by
    unfold Instr.entryStore;simp only[Sem.run_bind,hgo1,Result.andThen_ok,asInt,asIntOf,goInt,Sem.run_pure,hfi,qo hb1]
  have hmod:((es.push ⟨enc k,encV z,clk⟩).modify es.size fun e=>{e with val:=encV val}).toList=es.toList++[⟨enc k,encV val,clk⟩]:=by
    rw[Du,Array.toList_push];apply BO
    intro i;rw[Dq];by_cases hi:es.size=i
    . subst hi;simp[<-Array.length_toList]
    . rcases Nat.lt_or_ge i es.size with h'|h'
      . simp[hi,AS,h']
      . obtain⟨m,hm⟩:∃m,i - es.size=m+1:=⟨i - es.size - 1,by omega⟩;simp[hi,Bh,h',hm]
  refine⟨_,clk,_,_,h1,h2 (encV val),⟨_,_,hb1⟩,⟨⟨_,_,by rw[nm hb1,An rfl],?_,?_,?_⟩,x6 hnd k val⟩, .inr ⟨hk,⟨_,_,hb1,?_,hbig,?_⟩,?_⟩⟩
  . grind [cD,iz]
  . rw[hmod,BE,Dp];refine⟨hs,by simp,fun a ha c hc'=>?_⟩;obtain⟨x,hx,rfl⟩:=AL.1 ha;simp at hc';subst hc';exact hc x hx
  all_goals grind [iz]
 |some q=>
  obtain⟨j,u⟩:=q;obtain⟨n,hj,hn,g1,g2,_⟩:=yD e;simp only[AA]at hj;subst hj;have hlen:es.size=L.length:=by simpa using Aj List.length hr
  have hn':j<es.size:=by omega
  have hkey:es[j].key=enc k:=by
    have:=Aj (fun l=>(l[j]?).map Prod.fst) hr;simp[hn',hn]at this;rw[this,g1]
  have hks:(Instr.keyThatStays (((es[j]?).map fun x:MapEntry=>x.key).getD (enc k)) (enc k)).run P w= .ok (enc k) w:=by
    simp[hn',hkey,Instr.keyThatStays,hK.bits]
  have hsame:(es.modify j fun e=>{e with key:=enc k})=es:=by
    apply B8
    intro i;rw[Array.getElem?_modify];by_cases hi:j=i
    . subst hi;rw[An rfl,AU hn'];simp only[BD,<-hkey]
    . rw[Al hi]
  have h1:(Instr.mapEntry t (.map (some b)) (enc k)).run P w= .ok (.tuple #[u,goInt es[j].born]) (World.aY w b (.map es clk)):=by
    unfold Instr.mapEntry;simp only[Sem.run_bind,run_underlying ht,Result.andThen_ok,hgo,hK.jd,hf,e,hks,hsame,qo hb,Sem.run_pure];simp[hn']
  have hb1:(World.aY w b (.map es clk)).heap[b]? =some (.map es clk):=by rw[nm hb,An rfl]
  have hgo1:(getObj b).run P (World.aY w b (.map es clk))= .ok (.map es clk) (World.aY w b (.map es clk)):=by simp[getObj,Sem.run,hb1]
  have hfi:es.findIdx? (fun e=>((e.born:Int)==(es[j].born:Int)))=some j:=by
    exact Vn hs (j:=j) hn' rfl
  have h2:∀x:Value,(Instr.entryStore t (.map (some b)) (goInt es[j].born) x).run P (World.aY w b (.map es clk))= .ok () (World.aY (World.aY w b (.map es clk)) b (.map (es.modify j fun e=>{e with val:=x}) clk)):=fun x=>by
    unfold Instr.entryStore;simp only[Sem.run_bind,hgo1,Result.andThen_ok,asInt,asIntOf,goInt,Sem.run_pure,hfi,qo hb1]
  have hput:cD L k val=L.set j (k,val):=by
    have:=Qa hnd hn val;rw[g1]at this;omega
  have hborn:(es.modify j fun e=>{e with val:=encV val}).toList.map (·.born)=es.toList.map (·.born):=by
    apply BO
    intro i;rw[AI,AI,Du,Dq];by_cases h:j=i
    . simp[h,B5]
    . simp[h]
  refine⟨_,es[j].born,_,_,h1,h2 (encV val),⟨_,_,hb1⟩,⟨⟨_,_,by rw[nm hb1,An rfl],?_,by rw[hborn];exact hs,fun x hx=>?_⟩,x6 hnd k val⟩, .inl ⟨⟨_,_,hb1,hr,hs,hc⟩,hnd⟩⟩
  . rw[hput];unfold iz at hr⊢;apply BO
    intro i;have hri:=Aj (fun l=>l[i]?) hr;simp only[AI]at hri⊢;rw[Du,Dq,D5];by_cases h:j=i
    . subst h;simp[hn,hn',hkey]
    simp_all
  . have hm:x.born∈(es.modify j fun e=>{e with val:=encV val}).toList.map (·.born):=AL.2 ⟨x,hx,rfl⟩;rw[hborn]at hm;obtain⟨y,hy,he⟩:=AL.1 hm;rw[<-he];exact hc y hy
end
end Go.Gm
namespace Go.Proofs
open Go Go.Am Go.RowKit Go.Sy Go.Gm Go.Maps Go.Sort Go.Shelf
theorem yx (l:List au) {j:Nat} (hj:j<l.length*3):(fS l)[j]? =some ((kJ l.toArray[j / 3]!)[j % 3]!):=by
 have hi:j / 3<l.length:=by omega
 obtain⟨e0,e1,e2⟩:=sO l (j / 3) hi;have hg:l.toArray[j / 3]! =l[j / 3]:=by rw[BJ _ _ (by omega)];simp
 rw[hg];rcases(by omega:j=j / 3*3\/j=j / 3*3+1\/j=j / 3*3+2)with e|e|e
 . have hm:j % 3=0:=by omega
   rw[hm];conv=>lhs;rw[e]
   exact e0
 . have hm:j % 3=1:=by omega
   rw[hm];conv=>lhs;rw[e]
   exact e1
 . have hm:j % 3=2:=by omega
   rw[hm];conv=>lhs;rw[e]
   exact e2
theorem PE {w:World} {g:Nat} {cur:Array Value} {l:List au} (hg:w.heap[g]? =some (.cells cur 70 (0,0))) (h4:cur.toList.take (l.length*3)=fS l):HoldsK kJ 3 w g 0 l.toArray:=by
 intro j hj;have hj':j<l.length*3:=by simp_all
 have h2:=Aj (fun l=>l[j]?) h4;simp only[A3,An hj',A8]at h2;rw[yx l hj']at h2;grind [World.cell?,get_flatK,World.frozen?]
theorem Xm {w:World} {g:Nat} {l:List au} {c:Nat} (hc:l.length<=c) (h:HoldsK kJ 3 w g 0 l.toArray):cL w l (.slice (some ⟨g,0,none⟩) l.length c):=by
 by_cases h0:l=[]
 . subst h0;exact .inl ⟨rfl,_,_,rfl⟩
 have hlen:0<l.length:=A4.2 h0;have hcell:∀j,j<l.length*3->w.cell? ⟨g,j,none⟩=(fS l)[j]? :=fun j hj=>by
   have:=(h j (by simp_all)).1;rw[AA]at this;rw[this,yx l hj,get_flatK kJ 3 l.toArray j (by omega)];rfl
 have h1:=hcell 0 (by omega);have hb:∃arr e fz,w.heap[g]? =some (.cells arr e fz):=by
   rw[yx l (by omega)]at h1;grind [World.cell?]
 obtain⟨arr,e,fz,hb⟩:=hb;have harr:∀j,j<l.length*3->arr[j]? =(fS l)[j]? :=fun j hj=>by
   have:=hcell j hj;grind [World.cell?]
 refine .inr ⟨g,0,c,arr,e,fz,rfl,hb,hc,?_,fun i hi=>?_⟩
 all_goals grind [yx,sO]
theorem Xa {l:List au} (hn:l.Nodup) {d':Array au} (hp:PermIn 0 l.toArray.size l.toArray d') (hs:SortedIn (ltOf oE) 0 l.toArray.size d'):d'.toList=dL cA l/\d'.size=l.length:=by
 letI:Inhabited aK:=⟨⟨True,#[]⟩⟩
 obtain⟨h1,_,h3⟩:=hp;have hsz:d'.size=l.length:=by omega
 have hperm:d'.toList.Perm l:=by
  rw[show d'.extract 0 l.toArray.size=d' by rw[<-h1];simp]at h3;grind
 have hnd:d'.toList.Nodup:=hperm.nodup_iff.2 hn;refine⟨vS ?_ fun x=>hperm.mem_iff,hsz⟩;rw[AJ];intro i j hi hj hij;simp only[Array.length_toList]at hi hj;have:=hs i j (Ao _) hij (by omega);rw[BJ d' j hj,BJ d' i hi]at this;have hlt:cA d'[j] d'[i]=false:=this;have hne:d'[i]≠d'[j]:=by
  have:=AJ.1 hnd i j (by omega) (by omega) hij;grind
 grind [EU]
theorem VK (w:World) (g off n:Nat) (d:Array au) (os:Array Obj) {B:Nat} (hg:B<=g) (hB:B<=w.heap.size):Below B w (sortWorldK kJ 3 w g off n d os):=by
 refine⟨rfl,rfl,rfl,size_sortWorldK_c kJ 3 w g off n d os,fun k hk=>?_⟩;grind [sortWorldK,grow,putRowK,putRow,mapBlock,Sort.ahead]
theorem TQ {w:World} {base:Nat} {v:Value} {l:List au} (hn:l.Nodup) (h:w.ownsRow base 70 3 v l.length (fS l)) (hl:l.length<=1000000) (hbase:base<=w.heap.size):
   Calls Tryz.prog 247 #[v, .func (.func 217) #[] #[]] w fun e w'=>e= .returned (.tuple #[])/\cL w' (dL cA l) v/\lg base (dL cA l) v/\Below base w w':=by
 rcases h.2 with⟨rfl,h0⟩|⟨g,cap,cur,rfl,hbg,hg,h1,h2,h3,h4⟩
 . have hl0:l=[]:=AY.1 h0;subst hl0;refine(UI w).mono ?_;rintro e w' ⟨rfl,hb⟩;exact⟨rfl, .inl ⟨rfl,_,_,rfl⟩, .inl rfl,hb.mono hbase⟩
 . have hgl:=(Ab.1 hg).1;have hs:=UJ g 0 cap l.toArray w (PE hg h4) hgl (by grind);rw[show l.toArray.size=l.length by simp]at hs;refine hs.mono ?_;rintro e w' ⟨rfl,d',n,os,hp,hso,rfl⟩;obtain⟨hd,hsz⟩:=Xa hn (d':=d') (by omega) (by omega);have hH:=holdsK_sortWorldK_c kJ 3 w g 0 l.toArray d' n os (PE hg h4) hgl (by omega);have hlen:(dL cA l).length=l.length:=by rw[<-hd];omega
   refine⟨rfl,?_, .inr ⟨g,0,_,_,rfl,hbg⟩,VK w g 0 n d' os hbg hbase⟩;rw[<-hlen];refine Xm (by omega) ?_;rw[<-hd];omega
end Go.Proofs
namespace Go.Proofs
open Go Go.Am Go.RowKit Go.Sy Go.Gm
def wD:af:=⟨⟨0,0,0⟩,⟨0,0,0⟩,0,⟨[],[],[]⟩,⟨[],false,false,false,false,0,0,0⟩,[]⟩
def dP:Array Value:=#[.int .i64 0, .int .i64 0, .int .i64 0, .int .i64 0, .int .i64 0, .int .i64 0, .int .i64 0, .string ⟨#[]⟩, .string ⟨#[]⟩, .string ⟨#[]⟩, .string ⟨#[]⟩, .bool false, .bool false, .bool false, .bool false, .int .i64 0, .int .i64 0, .int .i64 0, .slice none 0 0]
theorem Kk {w:World} {bk:Nat} {L:List (au×(Value×af))} (hm:aA w bk bX rN L) (d:au):(Instr.lookup 102 (.map (some bk)) (bX d) true).run Tryz.prog w= .ok (.tuple #[((aH L d).map (·.1)).getD (iK wD (.slice none 0 0)), .bool (aH L d).isSome]) w:=by
 rw[hm.lookup jc Tryz.underlying102 (z:=iK wD (.slice none 0 0)) (by kernel_rfl) d true]
 cases aH L d<;>rfl
theorem xm {B:Nat} {w0:World} {b:Nat} (hb:B<=b):∀(vs:List Value) (o:Nat) (w:World),Below B w0 w->Below B w0 (w.setCells b o vs)
 |[],_,_,h=>h
 |v::r,o,w,h=>by
  rw[World.setCells];exact xm hb r (o+1) _ (h.setCell hb v)
theorem Wh (W:World):(W.alloc (.cells dP 78)).drew.there W.heap.size 0 19:=fun j hj=>by
 have h:(W.alloc (.cells dP 78)).drew.heap[W.heap.size]? =some (.cells dP 78 (0,0)):=by
  show(W.alloc (.cells dP 78)).heap[W.heap.size]? =_
  rw[ni,An rfl]
 have hs:dP.size=19:=rfl;simp_all
theorem Tg (W:World) (e:af) (v:Value) (hv:v.oneCell'=true):∃W4,(iK e v).cells.size=19/\(storeCells ⟨W.heap.size,0,none⟩ (iK e v).cells.toList).run Tryz.prog (W.alloc (.cells dP 78)).drew= .ok () W4/\Below W.heap.size W W4/\
  W4.cell? ⟨W.heap.size,6,none⟩=some (.int .i64 e.kind)/\W4.cell? ⟨W.heap.size,7,none⟩=some (cY e.key.name)/\W4.cell? ⟨W.heap.size,8,none⟩=some (cY e.key.domain)/\W4.cell? ⟨W.heap.size,9,none⟩=some (cY e.key.path):=by
 have hth:=Wh W;have hr:=World.rangeAt_setCells_same (W.alloc (.cells dP 78)).drew W.heap.size 0 [.int .i64 e.dot.dev, .int .i64 e.dot.inc, .int .i64 e.dot.seq, .int .i64 e.bA.wall, .int .i64 e.bA.count, .int .i64 e.bA.dev, .int .i64 e.kind,cY e.key.name,cY e.key.domain,cY e.key.path,
  cY e.aa.value, .bool e.aa.aD, .bool e.aa.aM, .bool e.aa.aF, .bool e.aa.persistent, .int .i64 e.aa.aR, .int .i64 e.aa.ai, .int .i64 e.aa.access,v] hth
 refine⟨_,rfl,run_storeCells_cells (P:=Tryz.prog) W.heap.size 0 (iK e v).cells.toList 0 _ (fun j hj=>(by simpa using(hth j hj).1)) (fun j hj=>(by simp)) ?_,xm (Ac _) _ _ _ ((Below.refl W.heap.size W).alloc (Ac _) _).drew,hr 6 _ rfl,hr 7 _ rfl,hr 8 _ rfl,hr 9 _ rfl⟩;intro x hx;rw[Fl]at hx;simp only[Value.cells,Ap,BG,Dm]at hx;rcases hx with rfl|rfl|rfl|rfl|rfl|rfl|rfl|rfl|rfl|rfl|rfl|rfl|rfl|rfl|rfl|rfl|rfl|rfl|rfl
 all_goals first|exact hv|rfl
section
theorem SC (d:au) (w:World):(Builtin.delete_ #[104,70] 0 #[.map none,bX d]).run Tryz.prog w= .ok (.tuple #[]) w:=by
 have h:(Instr.checkKey true 10000 70 (bX d)).run Tryz.prog w= .ok () w:=jc.jd true d w;simp_all[Builtin.delete_]
section
variable {K V:Type} [DecidableEq K]
theorem ZB {A:List (K×V)} {k:K} (h:aH A k=none):dA A k=A:=by
 grind [dA,List.filter_eq_self,dg]
theorem qxT (A:List (K×V)) (k:K) (v:V):dA (cD A k v) k=dA A k:=by
 have key:∀A:List (K×V),(A.map fun x=>if k=x.1 then(k,v)else x).filter (fun x=> !decide (k=x.1))=A.filter fun x=> !decide (k=x.1):=by
  intro A;induction A with
  |nil=>rfl
  |cons x A ih=>
   rw[A0,B7,B7,ih];by_cases e:k=x.1<;>simp[e]
 unfold cD dA;split
 all_goals grind
end
theorem yj {S:Nat->Prop} {w:World} {j:Nat} {o:Obj} (hm:l6 w j) (hS:S j):fa S w (World.aY w j o):=⟨rfl,rfl,rfl,by simp[World.aY],fun k _ hk=>gI hm fun e=>hk (by rw[e];exact hS)⟩
theorem Tryz.kill {w:World} {n b bk ba bd bs bv:Nat} {G:bH} (h:cW w n b bk ba bd bs bv G) (d:au):
  Calls Tryz.prog 56 #[.pointer (some ⟨b,0,none⟩),bX d] w fun e' w'=>e'= .returned (.tuple #[])/\fa (dY bk ba bd bv G) w w'/\cW w' n b bk ba bd bs bv (kX G d):=by
 obtain⟨e,v,is,hv,hk,his,hG⟩:∃(e:af) (v:Value) (is:Bool),v.oneCell'=true/\((aH G.kept d).map (·.1)).getD (iK wD (.slice none 0 0))=iK e v/\(aH G.kept d).isSome=is/\
   kX G d={G with dead:=cD G.dead d 1,alive:=if is=true/\e.kind=1 then oL G.alive e.key d else G.alive}:=by
  cases hg:aH G.kept d with
  |none=>exact⟨wD, .slice none 0 0,false,rfl,rfl,rfl,by unfold kX;rw[hg];simp⟩
  |some x=>
   obtain⟨v,hx,hd⟩:=h.ev _ (ng hg);refine⟨x.2,v,true,?_,hx,rfl,by unfold kX;rw[hg];simp⟩;rcases hd with⟨_,a,c,rfl⟩|⟨_,_,_,_,_,_,rfl,_⟩<;>rfl
 obtain⟨G2,hG2⟩:∃G2,kX G d=G2:=⟨_,rfl⟩;rw[hG2]at hG⊢;obtain⟨W,hW⟩:∃W,(w.alloc (.cells #[.int .i64 d.dev, .int .i64 d.inc, .int .i64 d.seq] 70))=W:=⟨_,rfl⟩;have hb:Below w.heap.size w W:=by rw[<-hW];exact(Below.refl w.heap.size w).alloc (Ac _) _
 have h0:=h.below hb;have d0:W.cell? ⟨w.heap.size,0,none⟩=some (.int .i64 d.dev):=by rw[<-hW];simp
 have d1:W.cell? ⟨w.heap.size,1,none⟩=some (.int .i64 d.inc):=by rw[<-hW];simp
 have d2:W.cell? ⟨w.heap.size,2,none⟩=some (.int .i64 d.seq):=by rw[<-hW];simp
 have hsz:W.heap.size=w.heap.size+1:=by rw[<-hW];simp
 have h1:=h0.below (Below.refl W.heap.size W).drew;have c2:=h0.c2;obtain⟨es,clk,hu,hmu⟩:=h1.md.update jc Tryz.underlying104 d 1;have h2:=h1.pK hmu;have hmb:l6 W.drew bd:=aA.isMap h1.md;obtain⟨W2,hW2⟩:∃W2,World.aY W.drew bd (.map es clk)=W2:=⟨_,rfl⟩;have d0':W2.cell? ⟨w.heap.size,0,none⟩=some (.int .i64 d.dev):=by rw[<-hW2];exact rj hmb d0
 have d1':W2.cell? ⟨w.heap.size,1,none⟩=some (.int .i64 d.inc):=by rw[<-hW2];exact rj hmb d1
 have d2':W2.cell? ⟨w.heap.size,2,none⟩=some (.int .i64 d.seq):=by rw[<-hW2];exact rj hmb d2
 rw[hW2]at hu h2;have hbut:fa (dY bk ba bd bv G) w W2:=by
  refine(mq hb.drew).more (T:=(· =bd)) ⟨by rw[<-hW2];rfl,by rw[<-hW2];rfl,by rw[<-hW2];rfl,by rw[<-hW2];simp[World.aY],fun k _ hk=>by rw[<-hW2];exact gI hmb hk⟩ ?_;rintro i _ rfl;unfold dY;simp
 have hsz2:w.heap.size<W2.heap.size:=by rw[<-hW2];simp[World.aY,hsz]
 obtain⟨W4,hs19,hst,hb4,k6,k7,k8,k9⟩:=Tg W2 e v hv;obtain⟨u,hue⟩:∃u,u=iK e v:=⟨_,rfl⟩;rw[<-hue]at hst hk hs19;clear hue hv;obtain⟨W3,hW3⟩:∃W3,W2.alloc (.cells dP 78)=W3:=⟨_,rfl⟩;have hb3:Below W2.heap.size W2 W3:=by rw[<-hW3];exact(Below.refl W2.heap.size W2).alloc (Ac _) _
 rw[hW3]at hst;have h3:=h2.below hb3.drew;have c0:W3.cell? ⟨b,0,none⟩=some (.map (some bk)):=(h2.below hb3).c0;have d0'':W3.cell? ⟨w.heap.size,0,none⟩=some (.int .i64 d.dev):=(hb3.cell hsz2).trans d0';have d1'':W3.cell? ⟨w.heap.size,1,none⟩=some (.int .i64 d.inc):=(hb3.cell hsz2).trans d1';have d2'':W3.cell? ⟨w.heap.size,2,none⟩=some (.int .i64 d.seq):=(hb3.cell hsz2).trans d2';have h2d:=h2.below (Below.refl W2.heap.size W2).drew;have c0a:=h2.c0;have hlk:=Kk h3.iP d;have hlka:=Kk h2d.iP d;have h4:=h2.below hb4;have e0:W4.cell? ⟨w.heap.size,0,none⟩=some (.int .i64 d.dev):=(hb4.cell hsz2).trans d0';have e1:W4.cell? ⟨w.heap.size,1,none⟩=some (.int .i64 d.inc):=(hb4.cell hsz2).trans d1';have e2:W4.cell? ⟨w.heap.size,2,none⟩=some (.int .i64 d.seq):=(hb4.cell hsz2).trans d2';rw[show G.kept=({G with dead:=cD G.dead d 1}:bH).kept from rfl]at hk his;rw[hk,his]at hlk hlka;rw[show bX d= .agg #[.int .i64 d.dev, .int .i64 d.inc, .int .i64 d.seq]from rfl]at hlk hlka hu⊢;rw[show cO 1= .int .i64 1 from rfl]at hu;unfold dP at hW3;simp only[Value.cells]at hst hs19;clear h h0 h1 hmu hW2 h3 h2d hk;go_enter Tryz.func56,Tryz.ntmps56
 go_wp2_with fail
 go_region
 go_wp2_with fail
 go_region
 have hbut4:fa (dY bk ba bd bv G) w W4:=hbut.more (mq (S:=fun _=>False) hb4) fun _ _ h=>h.elim
 by_cases hin:is=true/\e.kind=1
 case neg=>
  rw[Al hin]at hG;have h5:cW W4 n b bk ba bd bs bv G2:=by rw[hG];exact h4
  clear hG2 hG
  cases is with
  |false=>
   go_wp2;refine bodyPost_ret (results_none rfl _ _ _) rfl ?_;exact⟨rfl,hbut4,h5⟩
  |true=>
   have hkd:¬e.kind=1:=fun hh=>hin ⟨rfl,hh⟩
   go_wp2;refine bodyPost_ret (results_none rfl _ _ _) rfl ?_;exact⟨rfl,hbut4,h5⟩
 case pos=>
  obtain⟨rfl,hkd⟩:=hin;rw[An ⟨rfl,hkd⟩]at hG;rw[hkd]at k6;have h4d:=h4.below (Below.refl W4.heap.size W4).drew;have c1:=h4.c1;have hlk4:=jZ h4d.ma e.key;rw[show dw e.key= .agg #[cY e.key.name,cY e.key.domain,cY e.key.path]from rfl]at hlk4;unfold oL at hG
  cases hj:aH G.alive e.key with
  |none=>
   rw[show({G with dead:=cD G.dead d 1}:bH).alive=G.alive from rfl,hj]at hlk4;rw[hj]at hG;simp only[BW]at hlk4;have hdn:=SC d W4.drew;rw[show bX d= .agg #[.int .i64 d.dev, .int .i64 d.inc, .int .i64 d.seq]from rfl]at hdn;have h5:=h4d.below (Below.refl W4.drew.heap.size W4.drew).drew;have h6:=h5.below (Below.refl W4.drew.drew.heap.size W4.drew.drew).drew;have hlk5:=jZ h5.ma e.key;rw[show dw e.key= .agg #[cY e.key.name,cY e.key.domain,cY e.key.path]from rfl]at hlk5;rw[show({G with dead:=cD G.dead d 1}:bH).alive=G.alive from rfl,hj]at hlk5;simp only[BW]at hlk5;obtain⟨es6,clk6,hu6,hm6⟩:=h6.ma.delete (ts:=#[103,57]) (ty:=0) Co Tryz.underlying103 e.key rfl;rw[show dw e.key= .agg #[cY e.key.name,cY e.key.domain,cY e.key.path]from rfl]at hu6;have h7:=h6.kE hm6;rw[show({G with dead:=cD G.dead d 1}:bH).alive=G.alive from rfl,ZB hj]at h7;have hb7:fa (dY bk ba bd bv G) w (World.aY W4.drew.drew.drew ba (.map es6 clk6)):=hbut4.drew.drew.drew.trans (yj (S:=dY bk ba bd bv G) (aA.isMap h6.ma) (by unfold dY;simp));have h8:cW (World.aY W4.drew.drew.drew ba (.map es6 clk6)) n b bk ba bd bs bv G2:=by rw[hG];exact h7
   clear h4 h4d h5 h6 h7 hm6 hG hG2;go_wp2_with fail
   go_region
   go_wp2_with fail
   go_region
   go_wp2_with fail
   go_region
   go_wp2;go_end0
   exact⟨rfl,hb7,h8⟩
  |some x=>
   obtain⟨j,L⟩:=x;have hj':aH ({G with dead:=cD G.dead d 1}:bH).alive e.key=some (j,L):=hj;rw[hj']at hlk4;rw[hj]at hG;simp only[BD]at hlk4;simp only at hG;have hjm:=ng hj';obtain⟨es5,clk5,hu5,hm5⟩:=(h4d.mi _ hjm).delete (ts:=#[104,70]) (ty:=0) jc Tryz.underlying104 d rfl;rw[show bX d= .agg #[.int .i64 d.dev, .int .i64 d.inc, .int .i64 d.seq]from rfl]at hu5;have h5:=h4d.iY hj' hm5;have hmj:l6 W4.drew j:=aA.isMap (h4d.mi _ hjm);have hb5:fa (dY bk ba bd bv G) w (World.aY W4.drew j (.map es5 clk5)):=hbut4.drew.trans (yj (S:=dY bk ba bd bv G) hmj (by unfold dY;simp only[Ap,AL];exact .inr (.inr (.inr (.inr ⟨_,ng hj,rfl⟩)))));obtain⟨W5,hW5⟩:∃W5,World.aY W4.drew j (.map es5 clk5)=W5:=⟨_,rfl⟩;have q7:W5.cell? ⟨W2.heap.size,7,none⟩=some (cY e.key.name):=by rw[<-hW5];exact rj hmj k7
   have q8:W5.cell? ⟨W2.heap.size,8,none⟩=some (cY e.key.domain):=by rw[<-hW5];exact rj hmj k8
   have q9:W5.cell? ⟨W2.heap.size,9,none⟩=some (cY e.key.path):=by rw[<-hW5];exact rj hmj k9
   rw[hW5]at hu5 h5 hb5;have c1':=h5.c1;have hget:aH (cD G.alive e.key (j,dA L d)) e.key=some (j,dA L d):=by rw[jC];simp
   have h6:=h5.below (Below.refl W5.heap.size W5).drew;have hlk6:=jZ h6.ma e.key;rw[show dw e.key= .agg #[cY e.key.name,cY e.key.domain,cY e.key.path]from rfl,show({G with dead:=cD G.dead d 1,alive:=cD G.alive e.key (j,dA L d)}:bH).alive=cD G.alive e.key (j,dA L d)from rfl,hget]at hlk6;simp only[BD]at hlk6;obtain⟨esl,clkl,hbl,hszl⟩:=(h6.mi _ (ng hget)).len;have hlen:(Builtin.len_ #[104] 3 #[.map (some j)]).run Tryz.prog W5.drew= .ok (.int .i64 (dA L d).length) W5.drew:=by
     rw[run_len_map W5.drew 104 3 j esl clkl (by simp[Program.mapKeyOf,Program.mapElemOf,Tryz.underlying104]) hbl,hszl];rfl
   by_cases hnil:dA L d=[]
   . rw[An hnil]at hG;have hz:((dA L d).length:Int)=0:=by rw[hnil];rfl
     rw[hz]at hlen;have h7:=h6.below (Below.refl W5.drew.heap.size W5.drew).drew;obtain⟨es8,clk8,hu8,hm8⟩:=h7.ma.delete (ts:=#[103,57]) (ty:=0) Co Tryz.underlying103 e.key rfl;rw[show dw e.key= .agg #[cY e.key.name,cY e.key.domain,cY e.key.path]from rfl]at hu8;have h8:=h7.kE hm8;rw[show({G with dead:=cD G.dead d 1,alive:=cD G.alive e.key (j,dA L d)}:bH).alive=cD G.alive e.key (j,dA L d)from rfl,qxT]at h8;have hb9:fa (dY bk ba bd bv G) w (World.aY W5.drew.drew ba (.map es8 clk8)):=hb5.drew.drew.trans (yj (S:=dY bk ba bd bv G) (aA.isMap h7.ma) (by unfold dY;simp));have h9:cW (World.aY W5.drew.drew ba (.map es8 clk8)) n b bk ba bd bs bv G2:=by rw[hG];exact h8
     clear h4 h4d h5 h6 h7 h8 hm8 hm5 hG hG2 hget hbl hnil hj hj' hW5;go_wp2_with fail
     go_region
     go_wp2_with fail
     go_region
     go_wp2_with fail
     go_region
     go_wp2;go_end0
     exact⟨rfl,hb9,h9⟩
   . rw[Al hnil]at hG;have hz:decide (((dA L d).length:Int)=0)=false:=AQ (by
      intro h0;exact hnil (AY.1 (by omega)))
     have h9:cW W5.drew n b bk ba bd bs bv G2:=by rw[hG];exact h6
     have hz':((((dA L d).length:Int))==0)=false:=by simpa using hz
     clear h4 h4d h5 h6 hm5 hG hG2 hget hbl hj hj' hW5;go_wp2_with fail
     go_region
     go_wp2_with fail
     go_region
     go_wp2;go_end0
     exact⟨rfl,hb5.drew,h9⟩
end
def db (e:af) (v:Value):List Value:=[.int .i64 e.dot.dev, .int .i64 e.dot.inc, .int .i64 e.dot.seq, .int .i64 e.bA.wall, .int .i64 e.bA.count, .int .i64 e.bA.dev, .int .i64 e.kind,cY e.key.name,cY e.key.domain,cY e.key.path,
 cY e.aa.value, .bool e.aa.aD, .bool e.aa.aM, .bool e.aa.aF, .bool e.aa.persistent, .int .i64 e.aa.aR, .int .i64 e.aa.ai, .int .i64 e.aa.access,v]
theorem EV {e:af} {v:Value} (hv:v.oneCell'=true):∀x∈db e v,x.oneCell'=true:=by
 intro x hx;simp only[db,Ap,BG,Dm]at hx;rcases hx with rfl|rfl|rfl|rfl|rfl|rfl|rfl|rfl|rfl|rfl|rfl|rfl|rfl|rfl|rfl|rfl|rfl|rfl|rfl
 all_goals first|exact hv|rfl
theorem Th:∃fs,Tryz.prog.underlying 78=some (.struct fs):=⟨_,Tryz.underlying78⟩
theorem SF {W:World} {b:Nat} {e:af} {v:Value} (h:W.rangeAt b 0 (db e v)):(loadVar 78 ⟨b,0,none⟩).run Tryz.prog W= .ok (iK e v) W:=by
 obtain⟨fs,hu⟩:=Th;exact run_loadVar_mid W b 0 78 (db e v) _ h hu rfl (by kernel_rfl)
theorem CV {W:World} {b:Nat} {e:af} {v:Value} (h:W.rangeAt b 0 (db e v)):(loadCellsFrom ⟨b,0,none⟩ 0 19 #[]).run Tryz.prog W= .ok (db e v).toArray W:=by
 have hl:(loadCells ⟨b,0,none⟩ (db e v).length).run Tryz.prog W= .ok (db e v).toArray W:=
  run_loadCells_list (P:=Tryz.prog) W ⟨b,0,none⟩ (db e v) (fun j v hv=>by rw[Addr.add_mid];exact h j v hv)
 exact hl
def Hid (p:Prop):Prop:=p
theorem vD:∃(SZ:Sem Nat) (m:Nat),sizeOf 78=SZ/\(∀w,SZ.run Tryz.prog w= .ok m w)/\Hid (m=19):=⟨_,_,rfl,Tryz.sizeOf78,rfl⟩
theorem KQ {W:World} {b:Nat} {e:af} {v:Value} (hv:v.oneCell'=true) (hth:W.there b 0 19):(iK e v).cells.size=19/\(storeCells ⟨b,0,none⟩ (iK e v).cells.toList).run Tryz.prog W= .ok () (W.setCells b 0 (db e v)):=
 ⟨rfl,run_storeCells_cells (P:=Tryz.prog) b 0 (db e v) 0 W (fun j hj=>(by simpa using(hth j hj).1)) (fun j hj=>(by simpa using(hth j hj).2)) (EV hv)⟩
theorem vr (W:World) (e:af) (v:Value):(W.alloc (.cells (iK e v).cells 78)).rangeAt W.heap.size 0 (db e v):=fun j x hx=>by
 have h:(W.alloc (.cells (iK e v).cells 78)).heap[W.heap.size]? =some (.cells (db e v).toArray 78 (0,0)):=by
  rw[ni,An rfl];rfl
 grind [World.cell?]
theorem gv {W W':World} (hc:kc W W') {b o:Nat} {cs:List Value} (h:W.rangeAt b o cs):W'.rangeAt b o cs:=fun j x hx=>by
 have h1:=h j x hx;refine eo h1 ?_;unfold World.cell? at h1
 cases e:W.heap[b]? with
 |none=>grind
 |some q=>
  cases q with
  |cells arr t fz=>exact hc _ _ _ _ e
  |_=>simp[e]at h1
theorem E6 {W W':World} (hc:kc W W') {b n:Nat} (h:W.there b 0 n) (hn:0<n):W'.there b 0 n:=by
 have h1:=(h 0 hn).1;have hb:W'.heap[b]? =W.heap[b]? :=by
  obtain⟨u,hu⟩:=Bz.1 h1;unfold World.cell? at hu
  cases e:W.heap[b]? with
  |none=>grind
  |some q=>
   cases q with
   |cells arr t fz=>exact hc _ _ _ _ e
   |_=>simp[e]at hu
 intro j hj;have h2:=h j hj;grind [World.cell?,World.frozen?]
theorem ES (W:World) (cs:Array Value):(W.alloc (.cells cs 78)).there W.heap.size 0 cs.size:=fun j hj=>by
 have h:(W.alloc (.cells cs 78)).heap[W.heap.size]? =some (.cells cs 78 (0,0)):=by rw[ni,An rfl]
 simp_all
theorem Xf {W W':World} {b n:Nat} (hb:W'.heap[b]? =W.heap[b]?) (h:W.there b 0 n):W'.there b 0 n:=by
 intro j hj;have h2:=h j hj;grind [World.cell?,World.frozen?]
theorem V1 {W:World} {b:Nat} {e:af} {v v':Value} (h:W.rangeAt b 0 (db e v)):(W.setCell ⟨b,18,none⟩ v').rangeAt b 0 (db e v'):=by
 have h18:=h 18 v rfl;intro j x hx;have hj:j<19:=(Ae.1 hx).1;by_cases e18:j=18
 . subst e18
   cases hx;grind [World.cell?_setCell_same']
 . have hx':(db e v)[j]? =some x:=by
     match j,hj with
     |0,_|1,_|2,_|3,_|4,_|5,_|6,_|7,_|8,_|9,_|10,_|11,_|12,_|13,_|14,_|15,_|16,_|17,_=>exact hx
     |18,_=>omega
   rw[World.cell?_setCell_other]
   . exact h j x hx'
   grind
theorem VO {fn:Func} {t:Tmp} {ty:TypeId} (h:fn.results=#[.cell t ty]) {tmps:Array Value} {w:World} {a:Addr} {v:Value} (hp:tmps.getD t undef= .pointer (some a)) (hl:(loadVar ty a).run Tryz.prog w= .ok v w):(results fn tmps).run Tryz.prog w= .ok v w:=by
 have hp':tmps[t]?.getD undef= .pointer (some a):=by simp_all
 simp_all[results,asAddr]
theorem cL.one {w:World} {l:List au} {v:Value} (h:cL w l v):∃a n c,v= .slice a n c:=by
 rcases h with⟨_,a,c,rfl⟩|⟨_,_,_,_,_,_,rfl,_⟩<;>exact⟨_,_,_,rfl⟩
theorem K2 {B:Nat} (b:Nat):∀(vs:List Value) (o:Nat) (w:World) (k:Nat),k≠b->(w.setCells b o vs).heap[k]? =w.heap[k]?
 |[],_,_,_,_=>rfl
 |v::r,o,w,k,h=>by
  rw[World.setCells,K2 (B:=B) b r (o+1) _ k h];grind [Below.heap_setCell]
theorem size_setCells (b:Nat):∀(vs:List Value) (o:Nat) (w:World),(w.setCells b o vs).heap.size=w.heap.size
 |[],_,_=>rfl
 |v::r,o,w=>by rw[World.setCells,size_setCells b r (o+1)];simp
def qI (w:World) (n:Nat) (u:Value) (e:af):Prop:=∃v,u=iK e v/\dD w n e.over v
theorem qI.ev {w:World} {n:Nat} {u:Value} {e:af} (h:qI w n u e):jm w u e:=by
 obtain⟨v,h1,h2⟩:=h;exact⟨v,h1,h2.cK⟩
theorem qI.mono {w:World} {n m:Nat} {u:Value} {e:af} (h:qI w n u e) (hm:m<=n):qI w m u e:=by
 obtain⟨v,h1,h2⟩:=h;exact⟨v,h1,h2.mono hm⟩
theorem Tn {w3:World} {bx bz n:Nat} {e:af} {v v':Value} (r3:w3.rangeAt bx 0 (db e v)) (t3:w3.there bx 0 19) (t4:w3.there bz 0 19) (hne:bz≠bx) (hd:dD w3 n e.over v') (hx:bx<n) (hz:bz<n):
   ∃cs W4 W5,w3.setCell ⟨bx,18,none⟩ v'=W4/\w3.cell? ⟨bx,18,none⟩=some v/\w3.frozen? ⟨bx,18,none⟩=false/\(loadCellsFrom ⟨bx,0,none⟩ 0 19 #[]).run Tryz.prog W4= .ok cs W4/\cs.size=19/\(storeCells ⟨bz,0,none⟩ cs.toList).run Tryz.prog W4= .ok () W5/\
    (loadVar 78 ⟨bz,0,none⟩).run Tryz.prog W5= .ok (.agg cs) W5/\qI W5 n (.agg cs) e/\ ∀B,B<=bx->B<=bz->Below B w3 W5:=by
 have hv:=hd.one;obtain⟨sa,sn,sc,rfl⟩:=hv;have r4:(w3.setCell ⟨bx,18,none⟩ (.slice sa sn sc)).rangeAt bx 0 (db e (.slice sa sn sc)):=V1 r3;have t5:(w3.setCell ⟨bx,18,none⟩ (.slice sa sn sc)).there bz 0 19:=Xf (Below.heap_setCell _ _ _ _ hne) t4;obtain⟨s19,hst⟩:=KQ (e:=e) (v:= .slice sa sn sc) rfl t5;have r5:=World.rangeAt_setCells_same (w3.setCell ⟨bx,18,none⟩ (.slice sa sn sc)) bz 0 (db e (.slice sa sn sc)) t5;refine⟨(db e (.slice sa sn sc)).toArray,_,_,rfl,r3 18 v rfl,(t3 18 (by omega)).2,CV r4,rfl,hst,SF r5,⟨_,rfl,hd.aV fun b _ hb _=>?_⟩,fun B h1 h2=>?_⟩
 . rw[K2 (B:=0) bz _ _ _ _ (by omega),Below.heap_setCell _ _ _ _ (by grind)]
 . exact xm h2 _ _ _ ((Below.refl _ _).setCell h1 _)
theorem Kw {w:World} {e:af} {u:Value} (h:jm w u e) (hl:e.over.length<=100000):Calls Tryz.prog 53 #[u] w fun e' w'=>∃u',e'= .returned u'/\qI w' w.heap.size u' e/\Below w.heap.size w w':=by
 obtain⟨v,hu,hd⟩:=h;obtain⟨va,vn,vc,hve⟩:=hd.one;obtain⟨cs,hcs⟩:∃cs:Array Value,(db e v).toArray=cs:=⟨_,rfl⟩;have hu':u= .agg cs:=by rw[hu,<-hcs];rfl
 clear hu;subst hu';obtain⟨W,hW⟩:∃W,w.alloc (.cells cs 78)=W:=⟨_,rfl⟩;have hb:Below w.heap.size w W:=by rw[<-hW];exact(Below.refl w.heap.size w).alloc (Ac _) _
 have hr:W.rangeAt w.heap.size 0 (db e v):=by rw[<-hW,<-hcs];exact vr w e v
 have hs:W.heap.size=w.heap.size+1:=by rw[<-hW];simp
 have ht:W.there w.heap.size 0 19:=by
  have:=ES w cs;rw[hW,show cs.size=19 by rw[<-hcs];rfl]at this;omega
 obtain⟨W2,hW2⟩:∃W2,W.alloc (.cells dP 78)=W2:=⟨_,rfl⟩;have hb2:Below W.heap.size W W2:=by rw[<-hW2];exact(Below.refl W.heap.size W).alloc (Ac _) _
 have ht2:W2.there W.heap.size 0 19:=by
  have:=ES W dP;rw[hW2]at this;exact this
 have hs2:W2.heap.size=w.heap.size+2:=by rw[<-hW2];simp[hs]
 have hc2:kc w W2:=fun b arr t fz hx=>dJ hb2 _ _ _ _ (dJ hb _ _ _ _ hx)
 have k18:W2.cell? ⟨w.heap.size,18,none⟩=some v:=gv (dJ hb2) hr 18 v rfl;have hcall:=S9 (hd.cells hc2) hl;rw[hve]at hcall k18;obtain⟨SZ,m,hSZ,hsz,hm⟩:=vD;have hr2:W2.rangeAt w.heap.size 0 (db e v):=gv (dJ hb2) hr;have ht1:W2.there w.heap.size 0 19:=E6 (dJ hb2) ht (by omega);rw[hs]at ht2;unfold dP at hW2;clear hcs hve;go_enter Tryz.func53,Tryz.ntmps53
 go_wp2_with (go_at_call 86;go_loud (refine hcall.mono ?_;rintro e' w3 ⟨v',rfl,hd3,hb3⟩;obtain⟨cs',W4,W5,hW4,k3,f3,x1,s19,hst,x2,hev,hbel⟩:=Tn (gv (dJ hb3) hr2) (E6 (dJ hb3) ht1 (by omega)) (E6 (dJ hb3) ht2 (by omega)) (by omega) hd3 (by omega) (by omega);obtain⟨sa,sn,sc,rfl⟩:=hd3.one;rw[<-(hm:m=19)]at x1 s19;clear hm;have hbf:=(hb.trans ((hb2.mono (by omega)).trans (hb3.mono (by omega)))).trans (hbel w.heap.size (Ac _) (by omega))))
 refine bodyPost_ret (VO rfl rfl x2) rfl ?_;exact⟨_,rfl,hev.mono (by omega),hbf⟩
theorem SE {w:World} {e:af} {u:Value} (h:jm w u e) (hl:e.over.length<=100000):Calls Tryz.prog 53 #[u] w fun e' w'=>∃u',e'= .returned u'/\jm w' u' e/\Below w.heap.size w w':=by
 refine(Kw h hl).mono ?_;rintro e' w' ⟨u',rfl,h1,h2⟩;exact⟨u',rfl,h1.ev,h2⟩
end Go.Proofs
namespace Go.Proofs
open Go Go.Am Go.RowKit Go.Sy Go.Gm Go.Maps Go.Sort Go.Shelf
theorem lg.mono {n m:Nat} {l:List au} {v:Value} (h:lg n l v) (hm:m<=n):lg m l v:=by
 rcases h with h|⟨b,off,k,c,h,hb⟩
 . exact .inl h
 . exact .inr ⟨b,off,k,c,h,Av hm hb⟩
theorem UG (b:Nat) (w:World):Calls Tryz.prog 216 #[.map (some b)] w fun e w'=>e= .returned (.func (.func 248) #[] #[.pointer (some ⟨w.heap.size,0,none⟩)])/\w'=w.alloc (.cells #[.map (some b)] 104):=by
 go_enter Tryz.func216,Tryz.ntmps216
 go_wp2;go_ret;simp_all
theorem Tc {w:World} {Bm b:Nat} {L:DL} (hm:w.cell? ⟨Bm,0,none⟩=some (.map (some b))) (hown:aA w b bX cO L) (hl:L.length<=1000000):
  Calls Tryz.prog 215 #[.func (.func 248) #[] #[.pointer (some ⟨Bm,0,none⟩)], .func (.func 217) #[] #[]] w fun e w'=>∃v,e= .returned v/\cL w' (dL cA (L.map (·.1))) v/\lg w.heap.size (dL cA (L.map (·.1))) v/\Below w.heap.size w w':=by
 letI:Inhabited aK:=⟨⟨True,#[]⟩⟩
 have hcol:=callsIn_wide.1 (SY 3 (Ac _) _ _ L.length hl w (Tx 1 (Ac _) Bm b L w (iB hm) hm hown));go_enter Tryz.func215,Tryz.ntmps215
 go_wp2_with (first
  |(go_at_call 246;refine hcol.mono ?_;rintro e w1 ⟨v,ss,rfl,hS,hrow,hb1⟩;have hnd:ss.Nodup:=hS.nodup_iff.2 hown.nd;have hsl:ss.length<=1000000:=hS.length_eq.trans (Ba _)▸hl;have hsort:=TQ hnd hrow hsl hb1.size)
  |(go_at_call 247;refine hsort.mono ?_;rintro e w2 ⟨rfl,hd,hn,hb2⟩))
 go_ret;have heq:dL cA ss=dL cA (L.map (·.1)):=vS (xC ss) fun x=>by rw[sS];grind
 rw[heq]at hd hn;exact⟨v,rfl,hd,hn,hb1.trans hb2⟩
theorem ID {w:World} {bd:Nat} {L:DL} (hm:aA w bd bX cO L) (d:au):(Instr.lookup 104 (.map (some bd)) (bX d) false).run Tryz.prog w= .ok (.int .i64 ((aH L d).getD 0)) w:=by
 rw[hm.lookup jc Tryz.underlying104 (wR w) d false]
 cases aH L d<;>rfl
theorem XP {K V:Type} [DecidableEq K] [Inhabited V] {L:List (K×V)} {k:K} (hk:k∉L.map (·.1)) (z:V):aH (L++[(k,z)]) k=some z:=by
 have:=jC L k k z;grind [cD]
theorem ZU {K V:Type} [DecidableEq K] {L:List (K×V)} {k:K} {v:V} (x:K):x∈(cD L k v).map (·.1)↔x=k\/x∈L.map (·.1):=by
 have h:=jC L k x v;grind [dg]
theorem qvq {l:List au} {k:Nat} (hlt:k<l.length) {M:DL} {v:Int} (h:∀d,d∈M.map (·.1)↔d∈l.take k):∀d,d∈(cD M l[k] v).map (·.1)↔d∈l.take (k+1):=fun d=>by
 rw[ZU,h,Ei,Ai hlt,Ds];grind
theorem qyg {M:DL} {d:au} {v:Int} {k:Nat} (h:M.length<=k):(cD M d v).length<=k+1:=by
 grind [cD]
theorem qxC {M:DL} {k:Nat} (h:∀d,0<=(aH M d).getD 0/\(aH M d).getD 0<=(k:Int)) {e:au}:∀d,0<=(aH (cD M e ((aH M e).getD 0+1)) d).getD 0/\(aH (cD M e ((aH M e).getD 0+1)) d).getD 0<=((k+1:Nat):Int):=fun d=>by
 rw[jC];have h1:=h e;have h2:=h d;grind
theorem S5 {w:World} {l:List au} {v:Value} (h:cL w l v) (hl:l.length<=1000000):
  Calls Tryz.prog 172 #[v] w fun e w'=>∃v',e= .returned v'/\cL w' (dL cA l) v'/\lg w.heap.size (dL cA l) v'/\Below w.heap.size w w':=by
 letI:Inhabited aK:=⟨⟨True,#[]⟩⟩
 obtain⟨sa,sn,sc,rfl⟩:=h.one;have hsn:sn=l.length:=by
  rcases h with⟨h0,a,c,hh⟩|⟨_,_,_,_,_,_,hh,_⟩
  all_goals grind
 subst hsn;have hmm:= @run_makeMap Tryz.prog;go_enter Tryz.func172,Tryz.ntmps172
 go_wp2;go_loopw [9] (fun i wr=>∃(k:Nat) (M:DL),k<=l.length/\i= .int .i64 k/\aA wr w.heap.size bX cO M/\(∀d,d∈M.map (·.1)↔d∈l.take k)/\M.length<=k/\(∀d,0<=(aH M d).getD 0/\(aH M d).getD 0<=k)/\Below w.heap.size w wr)
  (fun i _=>l.length - (intOf i).toNat)
 case atStart=>exact⟨0,[],Ao _,rfl,sR (by rw[ni,An rfl]),by simp,Ao _,fun d=>by simp[tk],(Below.refl _ _).alloc (Ac _) _⟩
 case round=>
  obtain⟨k,M,hk,rfl,hM,hmem,hml,hcnt,hbr⟩:=hrel;by_cases hlt:k<l.length
  . rcases h with⟨h0,_⟩|⟨ob,off,cap,arr,ty,fz,hh,hob,hcap,hlen,hcells⟩
    . rw[h0]at hlt;grind
    . simp only[Value.slice.injEq]at hh;obtain⟨rfl, -,rfl⟩:=hh;obtain⟨x0,x1,x2⟩:=hcells k hlt;have hobr:=(hbr.block ob (Ab.1 hob).1).trans hob;have cell:∀{j:Nat} {u:Value},arr[j]? =some u->wr.cell? ⟨ob,j,none⟩=some u:=fun hx=>by
       grind [World.cell?]
      have c0:=cell x0;have c1:=cell x1;have c2:=cell x2;obtain⟨W,hW⟩:∃W,wr.alloc (.cells #[.int .i64 l[k].dev, .int .i64 l[k].inc, .int .i64 l[k].seq] 70)=W:=⟨_,rfl⟩;have hbW:Below wr.heap.size wr W:=by rw[<-hW];exact(Below.refl _ _).alloc (Ac _) _
      have d0:W.cell? ⟨wr.heap.size,0,none⟩=some (.int .i64 l[k].dev):=by rw[<-hW];simp
      have d1:W.cell? ⟨wr.heap.size,1,none⟩=some (.int .i64 l[k].inc):=by rw[<-hW];simp
      have d2:W.cell? ⟨wr.heap.size,2,none⟩=some (.int .i64 l[k].seq):=by rw[<-hW];simp
      have hMW:aA W.drew w.heap.size bX cO M:=hM.same (hbW.drew.block _ (Go.Gm.aA.lt hM));have hlk:=ID hMW l[k];have hz0:=(hcnt l[k]).1;have hz1:=(hcnt l[k]).2;have hwr:IntKind.i64.wrap ((aH M l[k]).getD 0+1)=(aH M l[k]).getD 0+1:=IntWalk.i64_in _ (by omega);have hwr':wrap64 ((aH M l[k]).getD 0+1)=(aH M l[k]).getD 0+1:=IntWalk.wrap64_in _ (by omega);obtain⟨ev,en,o1,o2,he1,he2,hmb,hM2,hM1⟩:=hMW.entry jc Tryz.underlying104 (z:=0) (fun w=>wR w) l[k] ((aH M l[k]).getD 0+1);have hlk1:(Instr.lookup 104 (.map (some w.heap.size)) (bX l[k]) false).run Tryz.prog (World.aY W.drew w.heap.size o1)= .ok (.int .i64 ((aH M l[k]).getD 0)) (World.aY W.drew w.heap.size o1):=by
       rcases hM1 with hM1|⟨hk1,hM1⟩
       . grind [ID]
       . rw[ID hM1 l[k],XP hk1,dg.2 hk1];rfl
      have hs1:∀j,j≠w.heap.size->(World.aY W.drew w.heap.size o1).heap[j]? =W.heap[j]? :=fun j hj=>gI hMW.isMap hj
      have hs2:∀j,j≠w.heap.size->(World.aY (World.aY W.drew w.heap.size o1) w.heap.size o2).heap[j]? =W.heap[j]? :=fun j hj=>(gI hmb hj).trans (hs1 j hj)
      have hne:wr.heap.size≠w.heap.size:=Nat.ne_of_gt (Go.Gm.aA.lt hM);have hB2:Below w.heap.size w (World.aY (World.aY W.drew w.heap.size o1) w.heap.size o2):=⟨hbW.os.trans hbr.os,hbW.tape.trans hbr.tape,hbW.output.trans hbr.output,by have h1:=hbW.size;have h2:=hbr.size;simp[World.aY];omega,fun j hj=>((hs2 j (Nat.ne_of_lt hj)).trans (hbW.block j (AE hj hbr.size))).trans (hbr.block j hj)⟩;obtain⟨W1,hW1⟩:∃W1,World.aY W.drew w.heap.size o1=W1:=⟨_,rfl⟩;rw[hW1]at he1 he2 hmb hM2 hlk1 hs1 hs2 hB2;obtain⟨W2,hW2⟩:∃W2,World.aY W1 w.heap.size o2=W2:=⟨_,rfl⟩;rw[hW2]at he2 hM2 hs2 hB2;have p0:W2.cell? ⟨wr.heap.size,0,none⟩=some (.int .i64 l[k].dev):=eo d0 (hs2 _ hne);have p1:W2.cell? ⟨wr.heap.size,1,none⟩=some (.int .i64 l[k].inc):=eo d1 (hs2 _ hne);have p2:W2.cell? ⟨wr.heap.size,2,none⟩=some (.int .i64 l[k].seq):=eo d2 (hs2 _ hne);have q0:W1.cell? ⟨wr.heap.size,0,none⟩=some (.int .i64 l[k].dev):=eo d0 (hs1 _ hne);have q1:W1.cell? ⟨wr.heap.size,1,none⟩=some (.int .i64 l[k].inc):=eo d1 (hs1 _ hne);have q2:W1.cell? ⟨wr.heap.size,2,none⟩=some (.int .i64 l[k].seq):=eo d2 (hs1 _ hne);clear hM1 hmb hMW hs1 hs2;rw[show bX l[k]= .agg #[.int .i64 l[k].dev, .int .i64 l[k].inc, .int .i64 l[k].seq]from rfl]at hlk hlk1 he1;rw[show cO ((aH M l[k]).getD 0+1)= .int .i64 ((aH M l[k]).getD 0+1)from rfl]at he2;unfold goInt at he1 he2;go_wp2;go_region_held3 (fun w'=>w'.cell? ⟨wr.heap.size,0,none⟩=some (.int .i64 l[k].dev)/\w'.cell? ⟨wr.heap.size,1,none⟩=some (.int .i64 l[k].inc)/\w'.cell? ⟨wr.heap.size,2,none⟩=some (.int .i64 l[k].seq)) (simp[*]) (fail)
      all_goals go_wp2
      all_goals (
       go_roundw
       case rel=>exact⟨k+1,_,hlt,by go_num,hM2,qvq hlt hmem,qyg hml,qxC hcnt,hB2⟩
       case measure=>simp[intOf];omega)
  . have hkl:k=l.length:=by omega
    subst hkl;rw[A6]at hmem;have hmk:=UG w.heap.size wr;go_wp2_with (first
      |(go_at_call 216;refine hmk.mono ?_;rintro e w1 ⟨rfl,rfl⟩;have hsf:=Tc (w:=wr.alloc (.cells #[.map (some w.heap.size)] 104)) (Bm:=wr.heap.size) (by simp) (hM.same (Below.heap_alloc _ _ _ (Go.Gm.aA.lt hM))) (Av hml hl))
      |(go_at_call 215;refine hsf.mono ?_;rintro e w2 ⟨v',rfl,hd,hn,hb2⟩))
    go_ret;have heq:dL cA (M.map (·.1))=dL cA l:=vS (xC _) fun x=>by rw[sS];grind
    rw[heq]at hd hn;have hs1:=hbr.size;exact⟨v',rfl,hd,lg.mono hn (by simp;omega),hbr.trans (((Below.refl _ _).alloc hs1 _).trans (hb2.mono (by simp;omega)))⟩
theorem UZ {P:Program} {ops:Array Oper} {o:Oper} {a:Act} {w:World} {K:Act->World->Prop} {Q:Exit->Act->World->Prop} {E:Prop} (hg:o.guard=none) (s x:Operand) (t:TypeId)
  (ho:o.op= .call {callee:= .builtin .append,args:=#[s,x],argTypes:=#[t,t]})
  (base:Nat) (e:TypeId) (i:TypeInfo) (z:Value) (size bytes:Nat) (ht:P.underlying t=some (.slice e)) (hi:P.info? e=some i) (hz:i.zero=some z)
  (hsize:i.size=size) (hby:i.bytes=bytes) (hzs:z.cells.size=size) (hsz:0<size)
  (v:Value) (n:Nat) (xs:List Value) (hs:a.eval s=v) (hown:w.ownsRow base e size v n xs)
  (ad:Addr) (m c:Nat) (news:List Value) (hx:a.eval x= .slice (some ad) m c) (hl:news.length=m*size) (hnews:∀j u,news[j]? =some u->w.cell? (ad.add j)=some u) (h1:∀u∈news,u.oneCell'=true)
  (h63:n+m<=maxLen) (hbytes:(n+m)*bytes<=140737488355328) (hbase:base<=w.heap.size)
  (h:∀v' w',w'.ownsRow base e size v' (n+m) (xs++news)->w.grownBy w' v.ownBlock->K (a.put o.dst v') w'):
  if Region.wanted o (yielded ops a.tmps)=true then Oper.wp P o a w K Q else E:=by
 have hw:Region.wanted o (yielded ops a.tmps)=true:=by grind [Region.wanted]
 rw[An hw];grind [wp_append_own]
def gF (L:List (af×Value)):List Value:=L.flatMap fun x=>db x.1 x.2
theorem Y4 (L:List (af×Value)) (x:af×Value):gF (L++[x])=gF L++db x.1 x.2:=by
 grind [gF]
theorem OD (L:List (af×Value)) (i:Nat) (h:i<L.length) (j:Nat) (hj:j<19):(gF L)[i*19+j]? =(db L[i].1 L[i].2)[j]? :=by
 induction L generalizing i with
 |nil=>grind
 |cons x L ih=>
  have hr:gF (x::L)=db x.1 x.2++gF L:=by grind [gF]
  have hl:(db x.1 x.2).length=19:=rfl;rw[hr];grind
def kA (w:World) (n:Nat) (l:List af) (v:Value):Prop:=∃L:List (af×Value),L.map (·.1)=l/\(∀x∈L,dD w n x.1.over x.2)/\w.ownsRow n 78 19 v L.length (gF L)
theorem sM {w w':World} {base size:Nat} {e:TypeId} {v:Value} {n:Nat} {xs:List Value} (h:w.ownsRow base e size v n xs) (hb:Below w.heap.size w w'):w'.ownsRow base e size v n xs:=by
 refine⟨h.1,?_⟩;rcases h.2 with hn|⟨g,cap,cur,hv,hbg,hg,rest⟩
 . grind
 . exact .inr ⟨g,cap,cur,hv,hbg,(hb.block g (Ab.1 hg).1).trans hg,rest⟩
theorem SG {w:World} {bk:Nat} {K:List (au×(Value×af))} (hm:aA w bk bX rN K) {d:au} {x:Value×af} (hx:aH K d=some x):(Instr.lookup 102 (.map (some bk)) (bX d) false).run Tryz.prog w= .ok x.1 w:=by
 rw[hm.lookup jc Tryz.underlying102 (z:=iK wD (.slice none 0 0)) (by kernel_rfl) d false,hx];rfl
theorem Kj:∃i0 z by0,Tryz.prog.info? 78=some i0/\i0.zero=some z/\i0.size=19/\i0.bytes=by0/\z.cells.size=19/\by0<=1000:=by
 have h:((Tryz.prog.info? 78).bind fun i=>i.zero.map fun z=>(i.size,Nat.ble i.bytes 1000,z.cells.size))=some (19,true,19):=by kernel_rfl
 cases e:Tryz.prog.info? 78 with
 |none=>rw[e]at h;cases h
 | some i=>
  rw[e]at h
  cases ez:i.zero with
  |none=>grind
  |some z=>
   simp_all
theorem Ru (e:af) (v:Value):Array.foldl (fun(cs:Array Value) (x:Value×Nat)=>cs.setIfInBounds x.2 x.1) #[.int .i64 0, .int .i64 0, .int .i64 0, .int .i64 0, .int .i64 0, .int .i64 0, .int .i64 0, .string ⟨#[]⟩, .string ⟨#[]⟩, .string ⟨#[]⟩, .string ⟨#[]⟩, .bool false, .bool false, .bool false, .bool false, .int .i64 0, .int .i64 0, .int .i64 0, .slice none 0 0] ((db e v).toArray.zipIdx) 0 19=(db e v).toArray:=by kernel_rfl
theorem Tryz.sorted {w:World} {n b bk ba bd bs bv:Nat} {G:bH} (h:cW w n b bk ba bd bs bv G) {l:List au} {v:Value} (hd:cL w l v) (hl:l.length<=1000000) (f:au->af) (hf:∀d∈l,∃u,aH G.kept d=some (u,f d)) (hov:∀d∈l,(f d).over.length<=100000):
  Calls Tryz.prog 126 #[.pointer (some ⟨b,0,none⟩),v] w fun e w'=>∃v',e= .returned v'/\kA w' w.heap.size ((dL cA l).map f) v'/\Below w.heap.size w w':=by
 letI:Inhabited aK:=⟨⟨True,#[]⟩⟩
 have hsort:=S5 hd hl;go_enter Tryz.func126,Tryz.ntmps126
 go_wp2_with (go_at_call 172;refine hsort.mono ?_;rintro e w1 ⟨v1,rfl,hd1,hn1,hb1⟩;obtain⟨sa,sn,sc,rfl⟩:=hd1.one)
 have hsn:sn=(dL cA l).length:=by
  rcases hd1 with⟨h0,a,c,hh⟩|⟨_,_,_,_,_,_,hh,_⟩
  all_goals grind
 subst hsn;go_loopw [5,11] (fun v i wr=>∃(k:Nat) (L:List (af×Value)),k<=(dL cA l).length/\i= .int .i64 k/\L.map (·.1)=((dL cA l).take k).map f/\(∀x∈L,dD wr w1.heap.size x.1.over x.2)/\wr.ownsRow w1.heap.size 78 19 v L.length (gF L)/\Below w1.heap.size w1 wr)
  (fun _ i _=>(dL cA l).length - (intOf i).toNat)
 case atStart=>exact⟨0,[],Ao _,rfl,rfl,fun x hx=>absurd hx (by simp),World.ownsRow_nil _ _ _ _,Below.refl _ _⟩
 case round=>
  obtain⟨k,L,hk,rfl,hL,hLd,hrow,hbr1⟩:=hrel;have hbr:=hb1.trans (hbr1.mono hb1.size);have hsl:(dL cA l).length<=l.length:=by have:=yd (less:=cA) l [];grind [dL]
  have hLl:L.length=k:=by
    have:=Aj List.length hL;grind
  by_cases hlt:k<(dL cA l).length
  . obtain⟨d,hdk⟩:∃d,(dL cA l)[k]=d:=⟨_,rfl⟩;have hdl:d∈l:=by rw[<-sS (less:=cA),<-hdk];grind
    obtain⟨u,hu⟩:=hf d hdl;have hev0:jm w u (f d):=h.ev _ ((Gn h.iP.nd).1 hu);rcases hd1 with⟨h0,_⟩|⟨ob,off,cap,arr,ty,fz,hh,hob,hcap,hlen,hcells⟩
    . rw[h0]at hlt;grind
    . simp only[Value.slice.injEq]at hh;obtain⟨rfl, -,rfl⟩:=hh;obtain⟨x0,x1,x2⟩:=hcells k hlt;rw[hdk]at x0 x1 x2;have hobr:=(hbr1.block ob (Ab.1 hob).1).trans hob;have cell:∀{j:Nat} {u:Value},arr[j]? =some u->wr.cell? ⟨ob,j,none⟩=some u:=fun hx=>by
       grind [World.cell?]
      have c0:=cell x0;have c1:=cell x1;have c2:=cell x2;obtain⟨W,hW⟩:∃W,wr.alloc (.cells #[.int .i64 d.dev, .int .i64 d.inc, .int .i64 d.seq] 70)=W:=⟨_,rfl⟩;have hbW:Below wr.heap.size wr W:=by rw[<-hW];exact(Below.refl _ _).alloc (Ac _) _
      have hrowW:W.drew.ownsRow w1.heap.size 78 19 u5 L.length (gF L):=by rw[<-hW];exact hrow.alloc _
      have d0:W.cell? ⟨wr.heap.size,0,none⟩=some (.int .i64 d.dev):=by rw[<-hW];simp
      have d1:W.cell? ⟨wr.heap.size,1,none⟩=some (.int .i64 d.inc):=by rw[<-hW];simp
      have d2:W.cell? ⟨wr.heap.size,2,none⟩=some (.int .i64 d.seq):=by rw[<-hW];simp
      have hB:Below w.heap.size w W.drew:=(hbr.trans (hbW.mono hbr.size)).drew;have hmb:=iB h.c0;have d3:W.cell? ⟨b,0,none⟩=some (.map (some bk)):=eo h.c0 (hB.block b hmb);have hmW:aA W.drew bk bX rN G.kept:=h.iP.same (hB.block _ (Go.Gm.aA.lt h.iP));have hlk:=SG hmW hu;have hcl:=Kw (hev0.cells (dJ hB)) (hov d hdl);rw[show bX d= .agg #[.int .i64 d.dev, .int .i64 d.inc, .int .i64 d.seq]from rfl]at hlk;obtain⟨i0,z0,by0,hi,hz0,hz1,hz2,hz3,hz4⟩:=Kj;have hWs:wr.heap.size<W.heap.size:=by rw[<-hW];simp
      have hL1:L.length+1<=1000001:=by omega
      have hbyt:(L.length+1)*by0<=140737488355328:=Av (Nat.mul_le_mul hL1 hz4) (by decide);have hmax:L.length+1<=maxLen:=by grind [maxLen]
      clear hmW hev0 hcells cell hob hobr x0 x1 x2;simp only[]at hlk;go_wp2;go_region_held3 (fun w'=>w'.cell? ⟨b,0,none⟩=some (.map (some bk))/\w'.cell? ⟨wr.heap.size,0,none⟩=some (.int .i64 d.dev)/\w'.cell? ⟨wr.heap.size,1,none⟩=some (.int .i64 d.inc)/\w'.cell? ⟨wr.heap.size,2,none⟩=some (.int .i64 d.seq)) (simp[*])
       (first
        |(go_at_call 53;(refine hcl.mono ?_;rintro e' w6 ⟨u',rfl,⟨v',hu',hd6⟩,hb6⟩;have e3:=eo d3 (hb6.block _ (by(have:=hbr.size;show b<W.heap.size;omega)));have e0:=eo d0 (hb6.block _ hWs);have e1:=eo d1 (hb6.block _ hWs);have e2:=eo d2 (hb6.block _ hWs);have hone:∀u∈db (f d) v',u.oneCell'=true:=EV (by(obtain⟨_,_,_,hh⟩:=hd6.one;rw[hh];rfl));obtain⟨cs,hcs⟩:∃cs:Array Value,(db (f d) v').toArray=cs:=⟨_,rfl⟩;have hcz:cs.size=19:=(by(rw[<-hcs];rfl));have hu2:u'= .agg cs:=(by(rw[hu',<-hcs];rfl));clear hu';subst hu2;have hfo:=Ru (f d) v';have hra:(w6.alloc (.cells (db (f d) v').toArray 78)).rangeAt w6.heap.size 0 (db (f d) v'):=vr w6 (f d) v';rw[hcs]at hfo hra;have hnl:(db (f d) v').length=1*19:=rfl;obtain⟨nw,hnw⟩:∃nw,db (f d) v'=nw:=⟨_,rfl⟩;rw[hnw]at hone hcs hra hnl;obtain⟨W7,hW7⟩:∃W7,w6.alloc (.cells cs 78)=W7:=⟨_,rfl⟩;rw[hW7]at hra;have hnc:∀j u,nw[j]? =some u->W7.cell? ((⟨w6.heap.size,0,none⟩:Addr).add j)=some u:=(fun j u hj=>by(rw[Addr.add_mid];exact hra j u hj));have s6:=hb6.size;have s7:W7.heap.size=w6.heap.size+1:=(by(subst hW7;simp_all));have hb7:Below w6.heap.size w6 W7:=(by(rw[<-hW7];exact(Below.refl _ _).alloc (Ac _) _));have g3:=eo e3 (hb7.block _ (iB e3));have g0:=eo e0 (hb7.block _ (iB e0));have g1:=eo e1 (hb7.block _ (iB e0));have g2:=eo e2 (hb7.block _ (iB e0));have hrow7:=sM (sM hrowW hb6) hb7))
        |((refine UZ rfl (.tmp 15) (.tmp 23) 25 rfl w1.heap.size 78 i0 z0 19 by0 Tryz.underlying25 hi hz0 hz1 hz2 hz3 (by decide) u5 L.length (gF L) rfl hrow7 ⟨w6.heap.size,0,none⟩ 1 1 nw rfl hnl hnc hone hmax hbyt (by(have:=hbr1.size;show w1.heap.size<=W7.heap.size;have h6:W.heap.size<=w6.heap.size:=s6;omega)) ?_;intro v8 w8 hrow8 hg8;have k3:=eo g3 (hg8.block _ (iB g3) (fun e=>by(have:=(hrow.lt b e.symm).1;have:=hb1.size;omega)));have hne8:some wr.heap.size≠u5.ownBlock:=(fun e=>by(have:=(hrow.lt _ e.symm).2;omega));have k0:=eo g0 (hg8.block _ (iB g0) hne8);have k1:=eo g1 (hg8.block _ (iB g0) hne8);have k2:=eo g2 (hg8.block _ (iB g0) hne8))))
      have hno:∀(b':Nat) (arr':Array Value),W7.heap[b']? =some (.cells arr' 70 (0,0))->w8.heap[b']? =W7.heap[b']? :=fun b' arr' hx=>by
       refine hg8.block b' (Ab.1 hx).1 fun e=>?_
       grind [ownsRow_ne_a]
      have hn8:dD w8 w1.heap.size (f d).over v':=(hd6.mono (by have:=hbr1.size;show w1.heap.size<=W.heap.size;omega)).aV fun b' arr' _ hx=>by
       have h7:=hb7.block b' (Ab.1 hx).1;grind
      have ho8:∀x∈L,dD w8 w1.heap.size x.1.over x.2:=fun x hx=>(hLd x hx).aV fun b' arr' _ hb'=>by
       have hlt':=(Ab.1 hb').1;have h7:W7.heap[b']? =wr.heap[b']? :=((hb7.block b' (by have h6:W.heap.size<=w6.heap.size:=s6;omega)).trans (hb6.block b' (show b'<W.heap.size by omega))).trans (hbW.block b' hlt');grind
      have hB8:Below w1.heap.size w1 w8:=by
       have h1:=hbr1.size;have h6:W.heap.size<=w6.heap.size:=s6;exact(((hbr1.trans (hbW.mono h1)).drew.trans (hb6.mono (show w1.heap.size<=W.heap.size by omega))).trans (hb7.mono (by omega))).grown hg8 (by omega) (fun k e=>(hrow.lt k e).1)
      go_wp2;go_roundw
      case rel=>
       refine⟨k+1,L++[(f d,v')],hlt,by go_num,?_,?_,?_,hB8⟩
       all_goals grind [List.take_succ,gF]
      grind [intOf]
  . have hkl:k=(dL cA l).length:=by omega
    subst hkl;rw[A6]at hL;go_wp2;go_ret;refine⟨_,rfl,⟨L,hL,fun x hx=>(hLd x hx).mono hb1.size,hrow.1,?_⟩,hbr⟩;rcases hrow.2 with hn|⟨g,cap,cur,hv,hbg,rest⟩
    . exact .inl hn
    . exact .inr ⟨g,cap,cur,hv,Av hb1.size hbg,rest⟩
theorem kA.mono {w:World} {n m:Nat} {l:List af} {v:Value} (h:kA w n l v) (hm:m<=n):kA w m l v:=by
 obtain⟨L,h1,h2,h3,h4⟩:=h;refine⟨L,h1,fun x hx=>(h2 x hx).mono hm,h3,?_⟩;rcases h4 with hn|⟨g,cap,cur,hv,hbg,rest⟩
 . exact .inl hn
 . exact .inr ⟨g,cap,cur,hv,Av hm hbg,rest⟩
theorem Uh {w:World} {n b bk ba bd bs bv:Nat} {G:bH} (h:cW w n b bk ba bd bs bv G) (k:aG) {j:Nat} {I:DL} (hj:aH G.alive k=some (j,I)) (f:au->af) (hI:I.length<=1000000)
  (hf:∀d∈I.map (·.1),∃u,aH G.kept d=some (u,f d)) (hov:∀d∈I.map (·.1),(f d).over.length<=100000):
  Calls Tryz.prog 78 #[.pointer (some ⟨b,0,none⟩),dw k] w fun e w'=>∃v',e= .returned v'/\kA w' w.heap.size ((dL cA (I.map (·.1))).map f) v'/\Below w.heap.size w w':=by
 letI:Inhabited aK:=⟨⟨True,#[]⟩⟩
 obtain⟨i0,hi,hz0,hz1,hz2⟩:=Ki;have hmI:aA w j bX cO I:=h.mi _ ((Gn h.ma.nd).1 hj);obtain⟨W,hW⟩:∃W,w.alloc (.cells #[.string ⟨k.name.toArray⟩, .string ⟨k.domain.toArray⟩, .string ⟨k.path.toArray⟩] 57)=W:=⟨_,rfl⟩;have hbW:Below w.heap.size w W:=by rw[<-hW];exact(Below.refl _ _).alloc (Ac _) _
 have sW:W.heap.size=w.heap.size+1:=by subst hW;simp_all
 have d0:W.cell? ⟨w.heap.size,0,none⟩=some (.string ⟨k.name.toArray⟩):=by rw[<-hW];simp
 have d1:W.cell? ⟨w.heap.size,1,none⟩=some (.string ⟨k.domain.toArray⟩):=by rw[<-hW];simp
 have d2:W.cell? ⟨w.heap.size,2,none⟩=some (.string ⟨k.path.toArray⟩):=by rw[<-hW];simp
 have hB:Below w.heap.size w W.drew:=hbW.drew;have d3:W.cell? ⟨b,1,none⟩=some (.map (some ba)):=eo h.c1 (hB.block b (iB h.c1));have hmW:aA W.drew ba dw pF G.alive:=h.ma.same (hB.block _ (Go.Gm.aA.lt h.ma));have hlk:=jZ hmW k;rw[hj,show dw k= .agg #[.string ⟨k.name.toArray⟩, .string ⟨k.domain.toArray⟩, .string ⟨k.path.toArray⟩]from rfl,BD]at hlk;have hmIW:aA W.drew j bX cO I:=hmI.same (hB.block _ (Go.Gm.aA.lt hmI));obtain⟨W1,hrg,hit,hb1,hs1⟩:=hmIW.range Tryz.underlying104;rw[show W.drew.heap.size=W.heap.size from rfl]at hrg hit hs1;have hjl:=Go.Gm.aA.lt hmI;have hbl:=iB h.c1;have e3:=eo d3 (hb1.block b (show b<W.heap.size by omega));have e0:=eo d0 (hb1.block _ (show w.heap.size<W.heap.size by omega));have e1:=eo d1 (hb1.block _ (show w.heap.size<W.heap.size by omega));have e2:=eo d2 (hb1.block _ (show w.heap.size<W.heap.size by omega));have hB1:Below w.heap.size w W1:=hB.trans (hb1.mono (show w.heap.size<=W.heap.size by omega));rw[show dw k= .agg #[.string ⟨k.name.toArray⟩, .string ⟨k.domain.toArray⟩, .string ⟨k.path.toArray⟩]from rfl];clear hmW hmIW;go_enter Tryz.func78,Tryz.ntmps78
 go_wp2;go_region_held3 (fun w'=>w'.cell? ⟨b,1,none⟩=some (.map (some ba))/\w'.cell? ⟨w.heap.size,0,none⟩=some (.string ⟨k.name.toArray⟩)/\w'.cell? ⟨w.heap.size,1,none⟩=some (.string ⟨k.domain.toArray⟩)/\w'.cell? ⟨w.heap.size,2,none⟩=some (.string ⟨k.path.toArray⟩)) (simp[*]) (fail)
 rw[sW]at hit hs1;clear hrg e0 e1 e2 e3 d0 d1 d2 d3 hlk;go_wp2;go_loopw [5] (fun v wr=>∃(ss left:DL),cM wr (w.heap.size+1) j bX cO I ss left/\ss.length+left.length=I.length/\wr.ownsRow W1.heap.size 70 3 v ss.length (fS (ss.map (·.1)))/\Below w.heap.size w wr/\W1.heap.size<=wr.heap.size)
  (fun _ wr=>wr.rangeLeft j (w.heap.size+1))
 case atStart=>exact⟨[],I,hit,by simp,World.ownsRow_nil _ _ _ _,hB1,Ac _⟩
 case round=>
  obtain⟨ss,left,hrg,hcs,hrow,hbr,hbig⟩:=hrel;go_wp2_with (first
    |(at_next;refine K6 _ rfl _ rfl (w.heap.size+1) j rfl hrg ?_ ?_)
    |go_in)
  . intro hl0 hperm;have hpk:(ss.map (·.1)).Perm (I.map (·.1)):=hperm.map _;have hsl:(ss.map (·.1)).length<=1000000:=by rw[hpk.length_eq,Ba];exact hI
    have hrow':wr.ownsRow W1.heap.size 70 3 u5 (ss.map (·.1)).length (fS (ss.map (·.1))):=by rw[Ba];omega
    have hcall:=Tryz.sorted (h.below hbr) (Ys hrow') hsl f (fun d hd=>hf d (hpk.mem_iff.1 hd)) (fun d hd=>hov d (hpk.mem_iff.1 hd));go_wp2_with (go_at_call 126;refine hcall.mono ?_;rintro e w2 ⟨v2,rfl,hev,hb2⟩)
    go_ret;have heq:dL cA (ss.map (·.1))=dL cA (I.map (·.1)):=vS (xC _) fun x=>by rw[sS];grind
    rw[heq]at hev;exact⟨_,rfl,hev.mono hbr.size,hbr.trans (hb2.mono hbr.size)⟩
  . intro d nn left' w2 hrg2 hlt hg2 hs2 hen;rw[show bX d= .agg #[.int .i64 d.dev, .int .i64 d.inc, .int .i64 d.seq]from rfl]at hen⊢;have hr0:=hrg.isWalk;have hrow2:w2.ownsRow W1.heap.size 70 3 u5 ss.length (fS (ss.map (·.1))):=hrow.kept (row:=some (w.heap.size+1)) ⟨hg2.os,hg2.tape,hg2.output,hg2.size,fun i hi hne=>hg2.block i hi fun e=>hne (by rw[e])⟩ (by
     obtain⟨o,ho,hw⟩:=hr0;exact ownsRow_ne_a hrow ho (fun cur e=>by rw[e]at hw;cases hw))
    have hb2:Below w.heap.size w w2:=hbr.trans ⟨hg2.os,hg2.tape,hg2.output,hg2.size,fun i hi=>hg2.block i (AE hi hbr.size) (by omega)⟩;obtain⟨X,hX⟩:∃X,(w2.alloc (.cells #[.int .i64 d.dev, .int .i64 d.inc, .int .i64 d.seq] 70)).alloc (.cells #[.int .i64 d.dev, .int .i64 d.inc, .int .i64 d.seq] 70)=X:=⟨_,rfl⟩;have hrow3:X.ownsRow W1.heap.size 70 3 u5 ss.length (fS (ss.map (·.1))):=by rw[<-hX];exact(hrow2.alloc _).alloc _
    have hk3:KeepsWalks w2 X:=by rw[<-hX];exact(KeepsWalks.alloc _ _).trans (KeepsWalks.alloc _ _)
    have hb3:Below w.heap.size w X:=by rw[<-hX];exact(hb2.alloc hb2.size _).alloc (by have:=hb2.size;simp;omega) _
    have hs3:X.heap.size=wr.heap.size+2:=by rw[<-hX];simp;omega
    have hnc:∀i u,([.int .i64 d.dev, .int .i64 d.inc, .int .i64 d.seq]:List Value)[i]? =some u->X.cell? ((⟨wr.heap.size+1,0,none⟩:Addr).add i)=some u:=fun i u hi=>by
     rw[Addr.add_lit,<-hX,show wr.heap.size+1=(w2.alloc (.cells #[.int .i64 d.dev, .int .i64 d.inc, .int .i64 d.seq] 70)).heap.size from by rw[<-hs2];simp_all];match i with
     |0=>cases hi;simp
     |1=>cases hi;simp
     |2=>cases hi;simp
     |_+3=>cases hi
    have hone:∀u∈([.int .i64 d.dev, .int .i64 d.inc, .int .i64 d.seq]:List Value),u.oneCell'=true:=by simp[Value.oneCell']
    have hlen:ss.length+1<=I.length:=by omega
    have hmax:ss.length+1<=maxLen:=by grind [maxLen]
    go_wp2_with (at_builtin;go_loud (refine wpList_append_own _ rfl _ _ 34 rfl W1.heap.size 70 i0 _ 3 24 Tryz.underlying34 hi hz0 hz1 hz2 rfl (by decide) _ _ _ rfl hrow3 ⟨wr.heap.size+1,0,none⟩ 1 1 [.int .i64 d.dev, .int .i64 d.inc, .int .i64 d.seq] rfl rfl hnc hone hmax (by omega) (by omega) ?_;intro v3 w3 hown hg3 hnil))
    have hrg3:=(hrg2.jJ hk3).jJ (KeepsWalks.of_grownBy hg3 (ownsRow_not_walk_a hrow3));have hs4:=hg3.size;go_roundw
    case rel=>exact⟨ss++[(d,nn)],left',hrg3,by grind,by rw[BE,A0,D3,KY,Bn];omega,hb3.grown hg3 hb3.size (fun k e=>Av hB1.size (hrow3.lt k e).1),by omega⟩
    case measure=>rw[hrg3.left_eq,hrg.left_eq];omega
theorem Ui {w:World} {n b bk ba bd bs bv:Nat} {G:bH} (h:cW w n b bk ba bd bs bv G) (k:aG) (hj:aH G.alive k=none):
  Calls Tryz.prog 78 #[.pointer (some ⟨b,0,none⟩),dw k] w fun e w'=>∃v',e= .returned v'/\kA w' w.heap.size [] v'/\Below w.heap.size w w':=by
 letI:Inhabited aK:=⟨⟨True,#[]⟩⟩
 obtain⟨W,hW⟩:∃W,w.alloc (.cells #[.string ⟨k.name.toArray⟩, .string ⟨k.domain.toArray⟩, .string ⟨k.path.toArray⟩] 57)=W:=⟨_,rfl⟩;have hbW:Below w.heap.size w W:=by rw[<-hW];exact(Below.refl _ _).alloc (Ac _) _
 have sW:W.heap.size=w.heap.size+1:=by subst hW;simp_all
 have d0:W.cell? ⟨w.heap.size,0,none⟩=some (.string ⟨k.name.toArray⟩):=by rw[<-hW];simp
 have d1:W.cell? ⟨w.heap.size,1,none⟩=some (.string ⟨k.domain.toArray⟩):=by rw[<-hW];simp
 have d2:W.cell? ⟨w.heap.size,2,none⟩=some (.string ⟨k.path.toArray⟩):=by rw[<-hW];simp
 have hB:Below w.heap.size w W.drew:=hbW.drew;have d3:W.cell? ⟨b,1,none⟩=some (.map (some ba)):=eo h.c1 (hB.block b (iB h.c1));have hmW:aA W.drew ba dw pF G.alive:=h.ma.same (hB.block _ (Go.Gm.aA.lt h.ma));have hlk:=jZ hmW k;rw[hj,show dw k= .agg #[.string ⟨k.name.toArray⟩, .string ⟨k.domain.toArray⟩, .string ⟨k.path.toArray⟩]from rfl,BW]at hlk;have hrg:=run_range_nilMap (P:=Tryz.prog) W.drew 104 _ _ Tryz.underlying104;have hbl:=iB h.c1;obtain⟨W1,hW1⟩:∃W1,W.drew.alloc (.mapIter none 0 #[] 0)=W1:=⟨_,rfl⟩;have hb1:Below W.heap.size W.drew W1:=by rw[<-hW1];exact(Below.refl W.drew.heap.size W.drew).alloc (Ac _) _
 have hnx:∀ty,(Instr.next (.pointer (some ⟨w.heap.size+1,0,none⟩)) false ty).run Tryz.prog W1= .ok (.tuple #[.bool false]) W1:=fun ty=>by
  have:=run_next_nilMap (P:=Tryz.prog) W.drew ty 0 0 #[];rw[show W.drew.heap.size=w.heap.size+1 from sW,hW1]at this;omega
 rw[hW1]at hrg;have e3:=eo d3 (hb1.block b (show b<W.heap.size by omega));have e0:=eo d0 (hb1.block _ (show w.heap.size<W.heap.size by omega));have e1:=eo d1 (hb1.block _ (show w.heap.size<W.heap.size by omega));have e2:=eo d2 (hb1.block _ (show w.heap.size<W.heap.size by omega));have hB1:Below w.heap.size w W1:=hB.trans (hb1.mono (show w.heap.size<=W.heap.size by omega));have hcall:=Tryz.sorted (h.below hB1) (l:=[]) (v:= .slice none 0 0) (.inl ⟨rfl,_,_,rfl⟩) (Ao _) (fun _=>default) (fun d hd=>by cases hd) (fun d hd=>by cases hd);rw[show dw k= .agg #[.string ⟨k.name.toArray⟩, .string ⟨k.domain.toArray⟩, .string ⟨k.path.toArray⟩]from rfl];clear hmW;go_enter Tryz.func78,Tryz.ntmps78
 go_wp2;go_region_held3 (fun w'=>w'.cell? ⟨b,1,none⟩=some (.map (some ba))/\w'.cell? ⟨w.heap.size,0,none⟩=some (.string ⟨k.name.toArray⟩)/\w'.cell? ⟨w.heap.size,1,none⟩=some (.string ⟨k.domain.toArray⟩)/\w'.cell? ⟨w.heap.size,2,none⟩=some (.string ⟨k.path.toArray⟩)) (simp[*]) (fail)
 clear hrg e0 e1 e2 e3 d0 d1 d2 d3 hlk;go_wp2;go_loopw [5] (fun v wr=>v= .slice none 0 0/\wr=W1) (fun _ _=>0)
 case atStart=>grind
 case round=>
  obtain⟨rfl,rfl⟩:=hrel;go_wp2_with (go_at_call 126;go_loud (refine hcall.mono ?_;rintro e w2 ⟨v2,rfl,hev,hb2⟩))
  go_ret;exact⟨_,rfl,hev.mono hB1.size,hB1.trans (hb2.mono hB1.size)⟩
theorem FM {α:Type} [DecidableEq α]:∀{l m:List α},l.Nodup->(∀x∈l,x∈m)->l.length<=m.length
 |[],_,_,_=>Ao _
 |x::l,m,hn,hs=>by
  have hx:=hs x As;obtain⟨hxl,hn'⟩:=Dr.1 hn;have:=FM (l:=l) (m:=m.erase x) hn' fun y hy=>(List.mem_erase_of_ne (fun e=>hxl (by rw[<-e];exact hy))).2 (hs y (AP _ hy))
  rw[List.length_erase_of_mem hx]at this;have:=List.length_pos_of_mem hx;rw[AW];omega
theorem qve [Inhabited aK] {G:bH} {m:aP} (g:cV G m) {k:aG} {x:Nat×DL} (hx:aH G.alive k=some x) (hn:(x.2.map (·.1)).Nodup):x.2.length<=m.kept.length/\ ∀d∈x.2.map (·.1),∃e∈aW m k,e.dot=d:=by
 have hm:∀d∈x.2.map (·.1),∃e∈aW m k,e.dot=d:=fun d hd=>(g.al k d).1 ⟨x,hx,by
  grind [aH]⟩
 refine⟨?_,hm⟩;have h1:(x.2.map (·.1)).length<=((aW m k).map (·.dot)).length:=FM hn fun d hd=>by
  grind
 rw[Ba,Ba]at h1;exact Av h1 (Av (AZ _ _) (AZ _ _))
theorem Tryz.key {w:World} {n b bk ba bd bs bv:Nat} {G:bH} {m:aP} (h:cW w n b bk ba bd bs bv G) (g:cV G m) (ok:fQ m) (hov:∀e∈m.kept,e.over.length<=100000) (k:aG):
  Calls Tryz.prog 78 #[.pointer (some ⟨b,0,none⟩),dw k] w fun e w'=>∃v',e= .returned v'/\kA w' w.heap.size (aW m k) v'/\Below w.heap.size w w':=by
 letI:Inhabited aK:=⟨⟨True,#[]⟩⟩
 cases hj:aH G.alive k with
 | none=>
  have he:aW m k=[]:=by
   grind [xR]
  rw[he];grind [Ui]
 | some x=>
  obtain⟨j,I⟩:=x;have hnd:(I.map (·.1)).Nodup:=(h.mi _ ((Gn h.ma.nd).1 hj)).nd;obtain⟨hlen,hmem⟩:=qve g hj hnd;have hfe:∀e∈aW m k,(((aH G.kept e.dot).map (·.2)).getD iy)=e:=fun e he=>by
   grind [Nk]
  have hdots:=qvf g (k:=k) (l:=I.map (·.1)) fun d=>by
   rw[g.al];exact⟨fun hd=>hmem d hd,fun⟨e,he,hed⟩=>by
    obtain⟨x,hx,hs⟩:=(g.al k d).2 ⟨e,he,hed⟩;rw[hj]at hx;grind [dg]⟩
  have hk:=Uh h k hj (fun d=>((aH G.kept d).map (·.2)).getD iy) (by have:=ok.kept;have h2:I.length<=m.kept.length:=hlen;omega) (fun d hd=>by
    grind [Nk]) (fun d hd=>by
    obtain⟨e,he,rfl⟩:=hmem d hd;show(((aH G.kept e.dot).map (·.2)).getD iy).over.length<=100000
    rw[hfe e he];exact hov e (AB.1 (AB.1 he).1).1)
  rw[hdots,Dv]at hk;rw[show(aW m k).map ((fun d=>((aH G.kept d).map (·.2)).getD iy) ∘ (·.dot))=aW m k by
   simp_all[BQ]]at hk
  exact hk
end Go.Proofs
namespace Go.Proofs
open Go Go.Am Go.RowKit Go.Sy
section
variable [Inhabited aK]
noncomputable def H4 (f:FuncId):Option aL:=bif Nat.beq f pR then some MJ else zP f
theorem NB:∀g C,H4 g=some C->CO g C:=bg WS F0
theorem Oq:CO pU GI:=bB (cfg:=fun y=>bL H4 (cu pU 4 (qxl y))) bh (fun _=>rfl) (fun _=>NB) (n:=600) (by
 intro (m:aP) (hm:fQ m);have hwl:=LC hm;refine⟨m,?_⟩
 repeat first|refine⟨rfl,?_⟩|refine⟨trivial,?_⟩
 refine⟨hm,?_⟩;refine⟨⟨(0:Nat),Ao _,?_⟩,?_⟩
 . repeat' first|exact trivial|exact rfl|refine ax (fun _=>?_) fun _=>?_|apply And.intro
 intro (x:Nat) hx;have hx:x<=(gQ m).length:=hx;refine ax (fun hlt=>?_) fun hge=>?_
 . have hlt':x<(gQ m).length:=cm hlt;have hf:=vN af.item hlt';have hz:(((gQ m).take x).map af.item).length+1<=60000:=by grind
   (conv=>whnf)
   refine aj.2 ⟨_,cp hlt',?_⟩
   (conv=>whnf)
   refine aj.2 ⟨_,cp hlt',?_⟩;refine⟨(gQ m)[x].item,rfl,?_⟩
   (conv=>whnf)
   refine ae.2 ⟨xh _ hz,?_⟩
   (conv=>whnf)
   refine ae.2 ⟨cj x (by omega),?_⟩;refine⟨(x+1:Nat),hlt',by show(gQ m).length - (x+1)<(gQ m).length - x;omega,?_⟩
   repeat' first|exact trivial|exact rfl|refine ax (fun _=>?_) fun _=>?_|apply And.intro
   all_goals ((conv=>whnf);rw[hf])
 . have hge':(gQ m).length<=x:=gf hge;refine⟨by rw[Aq hge'];rfl,?_⟩
   repeat' first|exact trivial|exact rfl|refine ax (fun _=>?_) fun _=>?_|apply And.intro)
noncomputable def JD (f:FuncId):Option aL:=bif Nat.beq f pU then some GI else H4 f
theorem Zy:∀g C,JD g=some C->CO g C:=bg Oq NB
noncomputable def JE (f:FuncId):Option aL:=bif Nat.beq f Ij then some PT else JD f
theorem Zz:∀g C,JE g=some C->CO g C:=bg Pa Zy
end
end Go.Proofs
namespace Go.Proofs
open Go Go.Am Go.RowKit Go.Sy Go.Gm Go.Maps Go.Sort Go.Shelf
section
theorem qzk {w:World} {n:Nat} {l:List au} {v:Value} (h:dD w n l v):Up w n (cK l) v:=by
 unfold cK;rcases h with⟨rfl,a,c,rfl⟩|⟨b,cap,arr,rfl,hp,hb,hc,hl,hi⟩
 . exact .ch rfl a c
 . refine .bn b 0 cap arr 70 (0,0) 3 (fun i j=>(arr[i*3+j]?).getD (.bool false)) hp hb (by decide) (by omega) (fun _ _ _=>rfl) hc (fun i x j v hx hv=>?_) (fun i x j v hx hv=>?_) (fun i x j v hx hv=>?_)
   all_goals
    have hil:i<l.length:=(Ae.1 hx).1;have hxe:l[i]=x:=(Ae.1 hx).2;obtain⟨e0,e1,e2⟩:=hi i hil;rw[hxe]at e0 e1 e2;have hj:j<3:=(Ae.1 hv).1;match j,hj with
    |0,_=>cases hv;first|rfl|exact(by rw[AA,BC,e0];rfl)|(simp only[BC,e0,Bf];exact .int _ _)
    |1,_=>cases hv;first|rfl|exact(by rw[AA,e1];rfl)|(simp only[e1,Bf];exact .int _ _)
    |2,_=>cases hv;first|rfl|exact(by rw[AA,e2];rfl)|(simp only[e2,Bf];exact .int _ _)
theorem RM {w:World} {n:Nat} {l:List af} {v:Value} (h:kA w n l v):Up w n (cG l) v:=by
 unfold cG;obtain⟨L,rfl,hd,hlen,hr⟩:=h;rcases hr with⟨rfl,h0⟩|⟨g,cap,cur,rfl,hp,hb,hc,hm,hsz,htk⟩
 . exact .fP (by grind)
 . rw[show L.length=(L.map (·.1)).length by simp];have cell:∀i (hi:i<L.length) j,j<19->cur[i*19+j]? =(db L[i].1 L[i].2)[j]? :=fun i hi j hj=>by
     rw[<-OD L i hi j hj,<-htk,A3,An (by omega),A8]
   refine .bn g 0 cap cur 78 (0,0) 19 (fun i j=>(cur[i*19+j]?).getD (.bool false)) hp hb (by decide) (by grind) (fun _ _ _=>rfl) (by grind) (fun i x j v hx hv=>?_) (fun i x j v hx hv=>?_) (fun i x j v hx hv=>?_)
   . have hj:j<19:=(Ae.1 hv).1;match j,hj with
     |0,_|1,_|2,_|3,_|4,_|5,_|6,_|7,_|8,_|9,_|10,_|11,_|12,_|13,_|14,_|15,_|16,_|17,_|18,_=>cases hv;rfl
   all_goals
     have hil:i<L.length:=by simpa using(Ae.1 hx).1
     have hxe:L[i].1=x:=by simpa using(Ae.1 hx).2
     have hdi:=hd _ (AF hil);rw[hxe]at hdi;have hj:j<19:=(Ae.1 hv).1;have hcl:=cell i hil j hj;rw[hxe]at hcl
   . rw[AA,hcl,Ai (show j<(db x L[i].2).length from hj)];rfl
   . show Up w n v ((cur[i*19+j]?).getD _)
     rw[hcl];match j,hj with
     |0,_|1,_|2,_|3,_|4,_|5,_|6,_|15,_|16,_|17,_=>cases hv;exact .int _ _
     |7,_|8,_|9,_|10,_=>cases hv;exact .str _
     |11,_|12,_|13,_|14,_=>cases hv;exact .bool _
     |18,_=>cases hv;exact qzk hdi
variable [Inhabited aK]
structure cT (b:Nat) (m:aP):Prop where
 ok:fQ m
 over:∀e∈m.kept,e.over.length<=100000
 at_:QC fun w=>∃n bk ba bd bs bv G,cW w n b bk ba bd bs bv G/\cV G m
def Jr:aL:={Y:=Nat×aP×aG,pre:=fun y=>cT y.1 y.2.1,args:=fun y=>[.wp ⟨y.1,0,none⟩, .agg y.2.2.enc],res:=fun y=>cG (aW y.2.1 y.2.2)}
theorem rd_key {w:World} {p:Nat->Prop} {g:Bool} {k:aG} {v:Value} (h:Rd w p g (.agg k.enc) v):v=dw k:=by
 cases h with
 | @agg cs vs h1 h2=>
  obtain⟨l⟩:=vs;match l,h1 with
  |[x,y,z],_=>
   have e1:=qt (h2 0 _ _ rfl rfl);have e2:=qt (h2 1 _ _ rfl rfl);have e3:=qt (h2 2 _ _ rfl rfl);subst e1 e2 e3;rfl
theorem Rb (hdr:¬(default:aK).dr):CO JY Jr:=jx bh.ok (by
 rintro⟨b,m,k⟩ hpre w args hold ⟨h1,h2⟩;match args,h1 with
 |[v,u],_=>
 have e1:=IQ (h2 0 _ _ rfl rfl);have e2:=rd_key (h2 1 _ _ rfl rfl);subst e1 e2;obtain⟨n,bk,ba,bd,bs,bv,G,hO,hG⟩:=hpre.at_ w hold;refine(Tryz.key hO hG hpre.ok hpre.over k).mono ?_;rintro e w' ⟨v',rfl,hv,hb⟩;exact⟨_,rfl, .inr (RM hv),hb,fun h=>(hdr h).elim⟩)
end
section
variable [Inhabited aK]
noncomputable def HH (f:FuncId):Option aL:=bif Nat.beq f JY then some Jr else JE f
theorem Nu (hdr:¬(default:aK).dr):∀f C,HH f=some C->CO f C:=bg (Rb hdr) Zz
def NX:aL:={Y:=Nat×aP×aG,pre:=fun y=>cT y.1 y.2.1,args:=fun y=>[.wp ⟨y.1,0,none⟩, .agg y.2.2.enc],res:=fun y=> .bO [.agg (dU y.2.1 y.2.2).1.enc, .bool (dU y.2.1 y.2.2).2]}
def YL (y:Nat×aP×aG):aJ:=let l:=aW y.2.1 y.2.2;{α:=Nat,ok:=fun i=>i+1<=l.length,μ:=fun i=>l.length - i,aV:=[4,7],aO:=fun i=>[(21,cG (l.drop 1)),(22,i64 (Int.ofNat (l.drop 1).length)),(23,i64 i)],bm:=fun i=>[(2, .cells ((dO (l.take (i+1))).getD iy).enc Ch)]}
theorem Mq (hdr:¬(default:aK).dr):CO rZ NX:=bB (cfg:=fun y=>bL HH (cu rZ 6 (YL y))) bh (fun _=>rfl) (fun _=>Nu hdr) (n:=600) (by
 rintro⟨b,m,k⟩ (hm:cT b m);have hkl:=tz hm.ok k;refine⟨(b,m,k),?_⟩
 repeat first|refine⟨rfl,?_⟩|refine⟨trivial,?_⟩
 refine⟨hm,?_⟩
 (conv=>whnf)
 refine ax (fun h0=>?_) fun h0=>?_
 . have he:aW m k=[]:=by
     have h0:(Int.ofNat (aW m k).length==0)=true:=h0;simp_all
   have hw:dU m k=(iy,false):=by unfold dU;rw[he];rfl
   have hw':dU (b,m,k).2.1 (b,m,k).2.2=(iy,false):=hw
   repeat' (first|exact trivial|(with_reducible exact rfl)|((conv=>whnf);first|(apply ax<;>intro)|apply And.intro))
   all_goals (rw[hw'];try rfl)
 . have hp:0<(aW m k).length:=by
     have h0:(Int.ofNat (aW m k).length==0)=false:=h0;grind
   (conv=>whnf)
   refine aj.2 ⟨_,cp hp,?_⟩;refine⟨fun _=>rfl,ae.2 ⟨by rw[Au];exact hp,?_⟩⟩;refine⟨⟨(0:Nat),hp,?_⟩,?_⟩
   . have hw0:(dO ((aW m k).take (0+1))).getD iy=(aW m k)[0]:=by rw[ym hp];rfl
     have hw0':(dO ((aW (b,m,k).2.1 (b,m,k).2.2).take (0+1))).getD iy=(aW m k)[0]:=hw0
     repeat' (first|exact trivial|(with_reducible exact rfl)|((conv=>whnf);first|(apply ax<;>intro)|apply And.intro))
     all_goals first|exact rfl|(rw[hw0'];exact rfl)|((conv=>whnf);exact rfl)
   intro (x:Nat) hx;have hx:x+1<=(aW m k).length:=hx
   (conv=>whnf)
   refine ax (fun hlt=>?_) fun hge=>?_
   . have hlt':x<((aW m k).drop 1).length:=cm hlt;have hx1:x+1<(aW m k).length:=by rw[Bt]at hlt';omega
     have hel:((aW m k).drop 1)[x]=(aW m k)[x+1]:=by rw[B0];grind
     have hn:=ym hx1;obtain⟨y,hy⟩:=v7 (Nat.succ_pos x) hx;have hgd:(dO ((aW m k).take (x+1))).getD iy=y:=by rw[hy];rfl
     rw[hy]at hn;have mu:(aW m k).length - (x+1)<(aW m k).length - x:=by omega
     (conv=>whnf)
     refine aj.2 ⟨_,cp hlt',?_⟩;refine⟨(((aW m k).drop 1)[x].bA,((dO ((aW m k).take (x+1))).getD iy).bA),?_⟩
     repeat first|refine⟨rfl,?_⟩|refine⟨trivial,?_⟩
     (conv=>whnf)
     refine ah.2 ⟨fun h1=> ?gc,fun h1=> ?gd⟩
     case' gc=>
      have h1:lq (aW m k)[x+1].bA y.bA=false:=by
       have h1:(!lq ((aW m k).drop 1)[x].bA ((dO ((aW m k).take (x+1))).getD iy).bA)=true:=h1;rw[hgd,hel]at h1;grind
      have hw:(dO ((aW m k).take (x+1+1))).getD iy=((aW m k).drop 1)[x]:=by rw[hn,hel];grind
     case' gd=>
      have h1:lq (aW m k)[x+1].bA y.bA=true:=by
       have h1:(!lq ((aW m k).drop 1)[x].bA ((dO ((aW m k).take (x+1))).getD iy).bA)=false:=h1;rw[hgd,hel]at h1;grind
      have hw:(dO ((aW m k).take (x+1+1))).getD iy=(dO ((aW m k).take (x+1))).getD iy:=by rw[hn,hgd];grind
     all_goals
      (conv=>whnf)
      refine ae.2 ⟨cj x (by omega),?_⟩;refine⟨(x+1:Nat),hx1,mu,?_⟩
      repeat' (first|exact trivial|(with_reducible exact rfl)|((conv=>whnf);first|(apply ax<;>intro)|apply And.intro))
      all_goals first|exact rfl|(rw[hw];exact rfl)
   . have hge':((aW m k).drop 1).length<=x:=gf hge;have e:(aW m k).take (x+1)=aW m k:=Aq (by rw[Bt]at hge';omega);have h2:(dO (aW m k)).isSome=true:=by
      grind [v7]
     repeat' (first|exact trivial|(with_reducible exact rfl)|((conv=>whnf);first|(apply ax<;>intro)|apply And.intro))
     all_goals first|exact rfl|exact h2.symm|(rw[e];done)|(rw[e];exact rfl))
end
def ln:List aG->List Value
 |[]=>[]
 |k::l=>cY k.name::cY k.domain::cY k.path::ln l
theorem Vp (l:List aG) (x:aG):ln (l++[x])=ln l++[cY x.name,cY x.domain,cY x.path]:=by
 induction l with
 |nil=>rfl
 |cons k l ih=>grind [ln]
theorem EX:∀(l:List aG) (i:Nat) (h:i<l.length),(ln l)[i*3]? =some (cY l[i].name)/\(ln l)[i*3+1]? =some (cY l[i].domain)/\(ln l)[i*3+2]? =some (cY l[i].path)
 |[],i,h=>absurd h (A9 _)
 |k::l,0,_=>⟨rfl,rfl,rfl⟩
 |k::l,i+1,h=>by
  obtain⟨e0,e1,e2⟩:=EX l i (by grind);rw[show(i+1)*3=i*3+3 by omega];exact⟨e0,by rw[show i*3+3+1=(i*3+1)+3 by omega];exact e1,by rw[show i*3+3+2=(i*3+2)+3 by omega];exact e2⟩
theorem Nl (l:List aG) {j:Nat} (hj:j<l.length*3):(ln l)[j]? =some ((kr l.toArray[j / 3]!)[j % 3]!):=by
 have hi:j / 3<l.length:=by omega
 obtain⟨e0,e1,e2⟩:=EX l (j / 3) hi;have hg:l.toArray[j / 3]! =l[j / 3]:=by rw[BJ _ _ (by omega)];simp
 rw[hg];rcases(by omega:j=j / 3*3\/j=j / 3*3+1\/j=j / 3*3+2)with e|e|e
 . have hm:j % 3=0:=by omega
   rw[hm];conv=>lhs;rw[e]
   exact e0
 . have hm:j % 3=1:=by omega
   rw[hm];conv=>lhs;rw[e]
   exact e1
 . have hm:j % 3=2:=by omega
   rw[hm];conv=>lhs;rw[e]
   exact e2
theorem Pj {w:World} {g:Nat} {cur:Array Value} {l:List aG} (hg:w.heap[g]? =some (.cells cur 57 (0,0))) (h4:cur.toList.take (l.length*3)=ln l):HoldsK kr 3 w g 0 l.toArray:=by
 intro j hj;have hj':j<l.length*3:=by simp_all
 have h2:=Aj (fun l=>l[j]?) h4;simp only[A3,An hj',A8]at h2;rw[Nl l hj']at h2;grind [World.cell?,get_flatK,World.frozen?]
def gZ (w:World) (g:Nat) (l:List aG):Prop:=∀i (h:i<l.length),w.cell? ⟨g,i*3,none⟩=some (cY l[i].name)/\w.cell? ⟨g,i*3+1,none⟩=some (cY l[i].domain)/\w.cell? ⟨g,i*3+2,none⟩=some (cY l[i].path)
theorem qyd {w:World} {g:Nat} {l:List aG} (h:HoldsK kr 3 w g 0 l.toArray):gZ w g l:=by
 have hcell:∀j,j<l.length*3->w.cell? ⟨g,j,none⟩=(ln l)[j]? :=fun j hj=>by
  have:=(h j (by simp_all)).1;rw[AA]at this;rw[this,Nl l hj,get_flatK kr 3 l.toArray j (by omega)];rfl
 intro i hi;grind [EX]
theorem gZ.below {w w':World} {g:Nat} {l:List aG} (h:gZ w g l) (hb:w'.heap[g]? =w.heap[g]?):gZ w' g l:=fun i hi=>by
 obtain⟨e0,e1,e2⟩:=h i hi;grind [eo]
theorem Xb {l:List aG} (hn:l.Nodup) {d':Array aG} (hp:PermIn 0 l.toArray.size l.toArray d') (hs:SortedIn (ltOf ow) 0 l.toArray.size d'):d'.toList.Pairwise (fun x y=>ff x y=true)/\(∀x,x∈d'.toList↔x∈l)/\d'.size=l.length:=by
 obtain⟨h1,_,h3⟩:=hp;have hsz:d'.size=l.length:=by omega
 have hperm:d'.toList.Perm l:=by
  rw[show d'.extract 0 l.toArray.size=d' by rw[<-h1];simp]at h3;grind
 have hnd:d'.toList.Nodup:=hperm.nodup_iff.2 hn;refine⟨?_,fun x=>hperm.mem_iff,hsz⟩;rw[AJ];intro i j hi hj hij;simp only[Array.length_toList]at hi hj;have:=hs i j (Ao _) hij (by omega);rw[BJ d' j hj,BJ d' i hi,yF]at this;have hne:d'[i]≠d'[j]:=by
  have:=AJ.1 hnd i j (by omega) (by omega) hij;grind
 grind [sQ]
theorem VL (w:World) (g off n:Nat) (d:Array aG) (os:Array Obj) {B:Nat} (hg:B<=g) (hB:B<=w.heap.size):Below B w (sortWorldK kr 3 w g off n d os):=by
 refine⟨rfl,rfl,rfl,size_sortWorldK_c kr 3 w g off n d os,fun k hk=>?_⟩;grind [sortWorldK,grow,putRowK,putRow,mapBlock,Sort.ahead]
theorem TR {w:World} {base:Nat} {v:Value} {l:List aG} (hn:l.Nodup) (h:w.ownsRow base 57 3 v l.length (ln l)) (hl:l.length<=1000000) (hbase:base<=w.heap.size):
   Calls Tryz.prog 119 #[v, .func (.func 120) #[] #[]] w fun e w'=>e= .returned (.tuple #[])/\Below base w w'/\ ∃ks:List aG,ks.Pairwise (fun x y=>ff x y=true)/\(∀x,x∈ks↔x∈l)/\ks.length=l.length/\(ks=[]\/ ∃g cap,v= .slice (some ⟨g,0,none⟩) l.length cap/\base<=g/\g<w'.heap.size/\gZ w' g ks):=by
 rcases h.2 with⟨rfl,h0⟩|⟨g,cap,cur,rfl,hbg,hg,h1,h2,h3,h4⟩
 . have hl0:l=[]:=AY.1 h0;subst hl0;refine(SN w).mono ?_;rintro e w' ⟨rfl,hb⟩;exact⟨rfl,hb.mono hbase,[],List.Pairwise.nil,fun _=>Iff.rfl,rfl, .inl rfl⟩
 . have hgl:=(Ab.1 hg).1;have hs:=UK g 0 cap l.toArray w (Pj hg h4) hgl (by grind);rw[show l.toArray.size=l.length by simp]at hs;refine hs.mono ?_;rintro e w' ⟨rfl,d',n,os,hp,hso,rfl⟩;obtain⟨hd,hmem,hsz⟩:=Xb hn (d':=d') (by omega) (by omega);have hH:=holdsK_sortWorldK_c kr 3 w g 0 l.toArray d' n os (Pj hg h4) hgl (by omega);have hb:=VL w g 0 n d' os hbg hbase;exact⟨rfl,hb,d'.toList,hd,hmem,by omega, .inr ⟨g,cap,rfl,hbg,AE hgl hb.size,qyd (by omega)⟩⟩
def fc (w:World) (p:Nat->Prop) (l:List au) (v:Value):Prop:=(l=[]/\ ∃a c,v= .slice a 0 c)\/ ∃b off cap arr e fz,v= .slice (some ⟨b,off,none⟩) l.length cap/\p b/\w.heap[b]? =some (.cells arr e fz)/\l.length<=cap/\off+l.length*3<=arr.size/\
 ∀i (h:i<l.length),arr[off+i*3]? =some (.int .i64 l[i].dev)/\arr[off+i*3+1]? =some (.int .i64 l[i].inc)/\arr[off+i*3+2]? =some (.int .i64 l[i].seq)
theorem fc.one {w:World} {p:Nat->Prop} {l:List au} {v:Value} (h:fc w p l v):∃a n c,v= .slice a n c:=by
 rcases h with⟨_,a,c,rfl⟩|⟨_,_,_,_,_,_,rfl,_⟩<;>exact⟨_,_,_,rfl⟩
theorem fc.aV {w w':World} {p q:Nat->Prop} {l:List au} {v:Value} (h:fc w p l v) (hs:∀b,p b->b<w.heap.size->q b/\w'.heap[b]? =w.heap[b]?):fc w' q l v:=by
 rcases h with h|⟨b,off,cap,arr,e,fz,rfl,hp,hb,hr⟩
 . exact .inl h
 . obtain⟨h1,h2⟩:=hs b hp (Ab.1 hb).1;exact .inr ⟨b,off,cap,arr,e,fz,rfl,h1,h2.trans hb,hr⟩
theorem ZC [Inhabited aK] {w:World} {p:Nat->Prop} {g:Bool} {l:List au} {v:Value} (h:Rd w p g (cK l) v):fc w p l v:=by
 unfold cK at h
 cases h with
 |fP h0=>exact .inl ⟨AY.1 h0,_,_,rfl⟩
 |ch h h0 a c=>exact .inl ⟨AY.1 h0,_,_,rfl⟩
 |bn b off cap arr e fz sz u hp hb hs hl hn hc h1 h2=>
  by_cases h0:l=[]
  . subst h0;exact .inl ⟨rfl,_,_,rfl⟩
  . have hsz:sz=3:=by
     obtain⟨x,l',rfl⟩:=Dx h0;exact(hn 0 x rfl).symm
    subst hsz;refine .inr ⟨b,off,cap,arr,e,fz,rfl,hp,hb,hc,hl,fun i hi=>?_⟩;have hx:l[i]? =some l[i]:=Ai hi;have e0:=h1 i _ 0 _ hx rfl;have e1:=h1 i _ 1 _ hx rfl;have e2:=h1 i _ 2 _ hx rfl;rw[ji (h2 i _ 0 _ hx rfl)]at e0;rw[ji (h2 i _ 1 _ hx rfl)]at e1;rw[ji (h2 i _ 2 _ hx rfl)]at e2;grind
def Cq (w:World) (p:Nat->Prop) (u:Value) (e:af):Prop:=∃v,u=iK e v/\fc w p e.over v
theorem Rs [Inhabited aK] {w:World} {p:Nat->Prop} {g:Bool} {e:af} {u:Value} (h:Rd w p g (.agg e.enc) u):Cq w p u e:=by
 cases h with
 | @agg cs vs h1 h2=>
  obtain⟨l⟩:=vs;have hlen:l.length=19:=h1.symm;match l,hlen with
  |[a0,a1,a2,a3,a4,a5,a6,a7,a8,a9,a10,a11,a12,a13,a14,a15,a16,a17,a18],_=>
   have e0:=ji (h2 0 _ _ rfl rfl);have e1:=ji (h2 1 _ _ rfl rfl);have e2:=ji (h2 2 _ _ rfl rfl);have e3:=ji (h2 3 _ _ rfl rfl);have e4:=ji (h2 4 _ _ rfl rfl);have e5:=ji (h2 5 _ _ rfl rfl);have e6:=ji (h2 6 _ _ rfl rfl);have e7:=qt (h2 7 _ _ rfl rfl);have e8:=qt (h2 8 _ _ rfl rfl);have e9:=qt (h2 9 _ _ rfl rfl);have e10:=qt (h2 10 _ _ rfl rfl);have e11:=tq (h2 11 _ _ rfl rfl);have e12:=tq (h2 12 _ _ rfl rfl);have e13:=tq (h2 13 _ _ rfl rfl);have e14:=tq (h2 14 _ _ rfl rfl);have e15:=ji (h2 15 _ _ rfl rfl);have e16:=ji (h2 16 _ _ rfl rfl);have e17:=ji (h2 17 _ _ rfl rfl);have e18:=ZC (h2 18 _ _ rfl rfl);subst e0 e1 e2 e3 e4 e5 e6 e7 e8 e9 e10 e11 e12 e13 e14 e15 e16 e17;exact⟨a18,rfl,e18⟩
theorem Yh [Inhabited aK] {w:World} {p:Nat->Prop} {g:Bool} {e:af} {b:Bool} {v:Value} (h:Rd w p g (.bO [.agg e.enc, .bool b]) v):∃u,v= .tuple #[u, .bool b]/\Cq w p u e:=by
 cases h with
 | @bO cs vs h1 h2=>
  obtain⟨l⟩:=vs;match l,h1 with
  |[x,y],_=>
   have e2:=tq (h2 1 _ _ rfl rfl);subst e2;exact⟨x,rfl,Rs (h2 0 _ _ rfl rfl)⟩
theorem WA {wr W8 w9:World} {base sz n m lo:Nat} {ty:TypeId} {v v9:Value} {xs:List Value} (hrow:wr.ownsRow base ty sz v n xs) (h8:Below wr.heap.size wr W8) (hg:W8.grownBy w9 v.ownBlock) (hat:v9.ownBlock=v.ownBlock\/v9.ownBlock=some W8.heap.size)
   {L:List (af×Value)} (hL:∀x∈L,fc wr (fun b=>m<=b/\some b≠v.ownBlock) x.1.over x.2) {e:af} {v':Value} (hlo:wr.heap.size<=lo) (hm:m<=lo) (hn:fc W8 (fun b=>lo<=b) e.over v'):
   ∀x∈L++[(e,v')],fc w9 (fun b=>m<=b/\some b≠v9.ownBlock) x.1.over x.2:=by
 have key:∀b,b<W8.heap.size->some b≠v.ownBlock->some b≠v9.ownBlock/\w9.heap[b]? =W8.heap[b]? :=fun b hb hne=>by
   refine⟨?_,hg.block b hb hne⟩;grind
 have hs:=h8.size;intro x hx;rcases Ds.1 hx with hx|hx
 . refine(hL x hx).aV fun b hp hb=>?_
   obtain⟨k1,k2⟩:=key b (by omega) hp.2;exact⟨⟨hp.1,k1⟩,k2.trans (h8.block b hb)⟩
 . rw[DW.1 hx];refine hn.aV fun b hp hb=>?_
   have hp:lo<=b:=hp;obtain⟨k1,k2⟩:=key b hb (fun e=>by have:=(hrow.lt b e.symm).2;omega);grind
theorem cX.below [Inhabited aK] {w w':World} (h:cX w) (hb:Below w.heap.size w w'):cX w':=fun b hlt=>(hb.block b (h.lt hlt)).trans (h b hlt)
theorem Ut [Inhabited aK] (hdr:¬(default:aK).dr) {b:Nat} {m:aP} (hS:cT b m) (k:aG) {w:World} (hw:cX w):
  Calls Tryz.prog 122 #[.pointer (some ⟨b,0,none⟩),dw k] w fun e w'=>∃u,e= .returned (.tuple #[u, .bool (dU m k).2])/\Cq w' (fun b=>w.heap.size<=b) u (dU m k).1/\Below w.heap.size w w':=by
 have h:=SS bh.ok (Mq hdr) (fn:=Tryz.f122) (hfn:=by kernel_rfl) (hb:=rfl) (y:=(b,m,k)) hS (args:=[.pointer (some ⟨b,0,none⟩), .agg (kr k).toArray]) (w:=w) (PL.cons (.wp _) (PL.cons (Gg k) PL.nil)) hw;refine Calls.mono h ?_;rintro e w' ⟨v,rfl,hv,hbel,_⟩;obtain⟨u,rfl,hu⟩:=Yh hv;grind
theorem UA:∃i0,Tryz.prog.info? 57=some i0/\i0.zero=some (.agg #[.string ⟨#[]⟩, .string ⟨#[]⟩, .string ⟨#[]⟩])/\i0.size=3/\i0.bytes=48:=by
 have h:(Tryz.prog.info? 57).map (fun i=>(i.zero,i.size,i.bytes))=some (some (.agg #[.string ⟨#[]⟩, .string ⟨#[]⟩, .string ⟨#[]⟩]),3,48):=by kernel_rfl
 simp_all
theorem T7 (w5:World) (e:af) (v:Value) (hv:v.oneCell'=true):∃W7,(storeCells ⟨w5.heap.size,0,none⟩ (db e v).toArray.toList).run Tryz.prog (w5.alloc (.cells dP 78))= .ok () W7/\(loadCellsFrom ⟨w5.heap.size,0,none⟩ 0 19 #[]).run Tryz.prog W7= .ok (db e v).toArray W7/\Below w5.heap.size w5 W7/\W7.heap.size=w5.heap.size+1:=by
 have hth:(w5.alloc (.cells dP 78)).there w5.heap.size 0 19:=ES w5 dP;obtain⟨_,hst⟩:=KQ (e:=e) (v:=v) hv hth;have r5:=World.rangeAt_setCells_same (w5.alloc (.cells dP 78)) w5.heap.size 0 (db e v) hth;refine⟨_,hst,CV r5,xm (Ac _) _ _ _ ((Below.refl w5.heap.size w5).alloc (Ac _) _),?_⟩;rw[size_setCells];simp_all
theorem qx4 (e:af) (v:Value) (mm:Nat) (h:mm=19):Array.foldl (fun(cs:Array Value) (x:Value×Nat)=>cs.setIfInBounds x.2 x.1) (Array.map (fun x=>([.int .i64 0, .int .i64 0, .int .i64 0, .int .i64 0, .int .i64 0, .int .i64 0, .int .i64 0, .string ⟨#[]⟩, .string ⟨#[]⟩, .string ⟨#[]⟩, .string ⟨#[]⟩, .bool false, .bool false, .bool false, .bool false, .int .i64 0, .int .i64 0, .int .i64 0, .slice none 0 0]:List Value)[x % 19]?.getD default) (Array.range mm)) ((db e v).toArray.zipIdx) 0 mm=(db e v).toArray:=by
 subst h;kernel_rfl
theorem YY {P:Program} {ops:Array Oper} {Q:Exit->Act->World->Prop} {rest:List Oper} {a:Act} {W W':World} (h:W=W') (hk:wpList P ops Q rest a W'):wpList P ops Q rest a W:=h▸hk
theorem WD [Inhabited aK] {G:bH} {m:aP} (g:cV G m) (hn:(G.alive.map (·.1)).Nodup):G.alive.length<=m.kept.length:=by
 have:=FM (m:=m.kept.map (·.key)) hn fun k hk=>by
  have hs:(aH G.alive k).isSome=true:=by
   grind [aH]
  obtain⟨e,he⟩:=Ep _ ((xR g k).1 hs);have h2:=AB.1 he;exact AL.2 ⟨e,(AB.1 h2.1).1,by grind⟩
 grind
theorem Ti [Inhabited aK] (hdr:¬(default:aK).dr) {b:Nat} {m:aP} (hS:cT b m) {w:World} (hw:cX w):
  Calls Tryz.prog 71 #[.pointer (some ⟨b,0,none⟩)] w fun e w'=>∃v L,e= .returned v/\L.map (·.1)=gQ m/\(∀x∈L,fc w' (fun b=>w.heap.size<=b) x.1.over x.2)/\w'.ownsRow w.heap.size 78 19 v L.length (gF L)/\Below w.heap.size w w':=by
 obtain⟨i0,hi,hz0,hz1,hz2⟩:=UA;obtain⟨n,bk,ba,bd,bs,bv,G,hO,hG⟩:=hS.at_ w hw;have hA:G.alive.length<=50000:=Av (WD hG hO.ma.nd) hS.ok.kept;have c1:=hO.c1;go_enter Tryz.func71,Tryz.ntmps71
 go_wp2_with (first
  |(at_range;refine U1 _ rfl _ 103 rfl Tryz.underlying103 ba rfl hO.ma ?_;intro w1 hit hb1 hs1)
  |go_in)
 go_frame
 have hbl:=iB c1;go_loopw [3] (fun v wr=>∃(ss left:List (aG×(Nat×DL))),cM wr w.heap.size ba dw pF G.alive ss left/\ss.length+left.length=G.alive.length/\wr.ownsRow w1.heap.size 57 3 v ss.length (ln (ss.map (·.1)))/\Below w.heap.size w wr/\w1.heap.size<=wr.heap.size)
  (fun _ wr=>wr.rangeLeft ba w.heap.size)
 case atStart=>exact⟨[],G.alive,hit,by simp,World.ownsRow_nil _ _ _ _,hb1,Ac _⟩
 case round=>
  obtain⟨ss,left,hrg,hcs,hrow,hbr,hbig⟩:=hrel;go_wp2_with (first
    |(at_next;refine K6 _ rfl _ rfl w.heap.size ba rfl hrg ?_ ?_)
    |go_in)
  . intro hl0 hperm;have hpk:(ss.map (·.1)).Perm (G.alive.map (·.1)):=hperm.map _;have hnd:(ss.map (·.1)).Nodup:=hpk.nodup_iff.2 hO.ma.nd;have hsl:(ss.map (·.1)).length<=1000000:=by rw[hpk.length_eq,Ba];omega
    have hrow':wr.ownsRow w1.heap.size 57 3 u3 (ss.map (·.1)).length (ln (ss.map (·.1))):=by rw[Ba];omega
    obtain⟨sa,sc,rfl⟩:∃sa sc,u3= .slice sa ss.length sc:=by
     rcases hrow.2 with⟨h1,h2⟩|⟨g,cap,_,h1,_⟩
     all_goals grind
    have hcall:=TR hnd hrow' hsl hbig;go_wp2_with (go_at_call 119;go_loud (refine hcall.mono ?_;rintro e w2 ⟨rfl,hb2,ks,hso,hmem,hlen,hks⟩))
    rw[Ba]at hlen hks;have hB2:Below w.heap.size w w2:=hbr.trans (hb2.mono hb1.size);have hw2:cX w2:=cX.below hw hB2;obtain⟨i4,z4,by4,hi4,hz40,hz41,hz42,hz43,hz44⟩:=Kj;go_loopw [5,29] (fun v i wr=>∃(j:Nat) (L:List (af×Value)),j<=ss.length/\i= .int .i64 j/\L.map (·.1)=(ks.take j).map (fun k=>(dU m k).1)/\(∀x∈L,fc wr (fun b=>w2.heap.size<=b/\some b≠v.ownBlock) x.1.over x.2)/\wr.ownsRow w2.heap.size 78 19 v L.length (gF L)/\Below w2.heap.size w2 wr)
     (fun _ i _=>ss.length - (intOf i).toNat)
    case atStart=>exact⟨0,[],Ao _,rfl,rfl,fun x hx=>absurd hx (by simp),World.ownsRow_nil _ _ _ _,Below.refl _ _⟩
    case round=>
     obtain⟨j,L,hj,rfl,hL,hLd,hrowL,hbj⟩:=hrel;have hbw:Below w.heap.size w wr:=hB2.trans (hbj.mono hB2.size);have hLl:L.length=j:=by
       have:=Aj List.length hL;grind
     by_cases hlt:j<ss.length
     . have hltk:j<ks.length:=by omega
       obtain⟨g,cap,hv,hbg,hg2,hka⟩:∃g cap,(Value.slice sa ss.length sc)= .slice (some ⟨g,0,none⟩) ss.length cap/\w1.heap.size<=g/\g<w2.heap.size/\gZ w2 g ks:=hks.resolve_left (fun e=>by rw[e]at hltk;grind);simp only[Value.slice.injEq]at hv;obtain⟨rfl, -,rfl⟩:=hv;obtain⟨c0,c1',c2⟩:=hka.below (hbj.block g hg2) j hltk;obtain⟨k,hk⟩:∃k,ks[j]=k:=⟨_,rfl⟩;rw[hk]at c0 c1' c2;obtain⟨W,hW⟩:∃W,wr.alloc (.cells #[.string ⟨k.name.toArray⟩, .string ⟨k.domain.toArray⟩, .string ⟨k.path.toArray⟩] 57)=W:=⟨_,rfl⟩;have hbW:Below wr.heap.size wr W:=by rw[<-hW];exact(Below.refl _ _).alloc (Ac _) _
       have d0:W.cell? ⟨wr.heap.size,0,none⟩=some (.string ⟨k.name.toArray⟩):=by rw[<-hW];simp
       have d1:W.cell? ⟨wr.heap.size,1,none⟩=some (.string ⟨k.domain.toArray⟩):=by rw[<-hW];simp
       have d2:W.cell? ⟨wr.heap.size,2,none⟩=some (.string ⟨k.path.toArray⟩):=by rw[<-hW];simp
       have hcall:=Ut hdr hS k (w:=W) (cX.below hw (hbw.trans (hbW.mono hbw.size)));rw[show dw k= .agg #[.string ⟨k.name.toArray⟩, .string ⟨k.domain.toArray⟩, .string ⟨k.path.toArray⟩]from rfl]at hcall;obtain⟨SZ,mm,hSZ,hsz,hm⟩:=vD;have hz0':dP=dP:=rfl;have hm0:¬mm=0:=by have h:mm=19:=hm;omega
       have hmx:¬16777216<mm:=by have h:mm=19:=hm;omega
       have hL1:L.length+1<=1000001:=by omega
       have hbyt:(L.length+1)*by4<=140737488355328:=Av (Nat.mul_le_mul hL1 hz44) (by decide);have hmax:L.length+1<=maxLen:=by grind [maxLen]
       clear hz0';go_wp2_with (first
         |(go_at_call 122;(refine hcall.mono ?_;rintro e w5 ⟨u,rfl,⟨v',hu',hd5⟩,hb5⟩;obtain⟨W7,hst,hld,hb7,hs7⟩:=T7 w5 (dU m k).1 v' (by(obtain⟨_,_,_,hh⟩:=hd5.one;rw[hh];rfl));have hone:∀u∈db (dU m k).1 v',u.oneCell'=true:=EV (by(obtain⟨_,_,_,hh⟩:=hd5.one;rw[hh];rfl));obtain⟨cs,hcs⟩:∃cs:Array Value,(db (dU m k).1 v').toArray=cs:=⟨_,rfl⟩;have hcz:cs.size=19:=(by(rw[<-hcs];rfl));have hu2:u= .agg cs:=(by(rw[hu',<-hcs];rfl));clear hu';subst hu2;have hfo:=qx4 (dU m k).1 v' mm hm;have hnl:(db (dU m k).1 v').length=1*19:=rfl;rw[hcs]at hfo hst hld;obtain⟨nw,hnw⟩:∃nw,db (dU m k).1 v'=nw:=⟨_,rfl⟩;rw[hnw]at hone hcs hnl;rw[<-(hm:mm=19)]at hld hcz;unfold dP at hst;obtain⟨W8,hW8⟩:∃W8,W7.alloc (.cells cs 78)=W8:=⟨_,rfl⟩;have hb8:Below W7.heap.size W7 W8:=(by(rw[<-hW8];exact(Below.refl _ _).alloc (Ac _) _));have hra:W8.rangeAt W7.heap.size 0 nw:=(by(rw[<-hW8,<-hcs,<-hnw];exact vr W7 (dU m k).1 v'));have hnc:∀j u,nw[j]? =some u->W8.cell? ((⟨w5.heap.size+1,0,none⟩:Addr).add j)=some u:=(fun j u hj=>by(rw[Addr.add_mid,<-hs7];exact hra j u hj));have hrow8:=sM (sM (sM (sM hrowL hbW) hb5) hb7) hb8;have s5:=hb5.size;have s8:=hb8.size))
         |(at_builtin;go_loud ((first|refine YY (W':=W8) (by grind) ?_|skip);refine wpList_append_own_at _ rfl _ _ 25 rfl w2.heap.size 78 i4 _ 19 by4 Tryz.underlying25 hi4 hz40 hz41 hz42 hz43 (by decide) _ _ _ rfl hrow8 ⟨w5.heap.size+1,0,none⟩ 1 1 nw rfl hnl hnc hone hmax hbyt (by(have:=hbj.size;have:=hbW.size;omega)) ?_;intro v9 w9 hrow9 hg9 hnil9 hat9)))
       refine⟨⟨j+1,L++[((dU m k).1,v')],hlt,by go_num,?_,?_,?_,?_⟩,?_⟩
       . rw[BE,hL,Ei,Ai hltk,hk,BE];rfl
       . have h1:=hbW.size;have h2:=hb5.size;refine WA hrowL (((hbW.trans (hb5.mono h1)).trans (hb7.mono (by omega))).trans (hb8.mono (by omega))) hg9 hat9 hLd h1 (by have:=hbj.size;omega) (hd5.aV fun b hp hb=>⟨hp,?_⟩);exact(hb8.block b (AE hb hb7.size)).trans (hb7.block b hb)
       . rw[Y4,Bn];simp_all
       . have h1:=hbj.size;have h2:=hbW.size;exact((((hbj.trans (hbW.mono h1)).trans (hb5.mono (by omega))).trans (hb7.mono (by omega))).trans (hb8.mono (by omega))).grown hg9 (by omega) (fun k e=>(hrow8.lt k e).1)
       . simp[intOf];omega
     . have hjl:j=ss.length:=by omega
       subst hjl;have hall:ks.take ss.length=ks:=Aq (by omega);rw[hall,Xl hG hso fun k=>by
         rw[hmem,hpk.mem_iff];grind [aH]]at hL
       go_wp2;go_ret;refine⟨_,L,rfl,hL,fun x hx=>(hLd x hx).aV fun b hp _=>⟨Av hB2.size hp.1,rfl⟩,⟨hrowL.1,?_⟩,hbw⟩;rcases hrowL.2 with hn|⟨g,cap,cur,hv,hbg,rest⟩
       . exact .inl hn
       . exact .inr ⟨g,cap,cur,hv,Av hB2.size hbg,rest⟩
  . intro k jI jL left' w2 hrg2 hlt hg2 hs2 hen;rw[show dw k= .agg #[.string ⟨k.name.toArray⟩, .string ⟨k.domain.toArray⟩, .string ⟨k.path.toArray⟩]from rfl]at hen⊢;have hr0:=hrg.isWalk;have hrow2:w2.ownsRow w1.heap.size 57 3 u3 ss.length (ln (ss.map (·.1))):=hrow.kept (row:=some w.heap.size) ⟨hg2.os,hg2.tape,hg2.output,hg2.size,fun i hi hne=>hg2.block i hi fun e=>hne (by rw[e])⟩ (by
     obtain⟨o,ho,hw⟩:=hr0;exact ownsRow_ne_a hrow ho (fun cur e=>by rw[e]at hw;cases hw))
    have hb2:Below w.heap.size w w2:=hbr.trans ⟨hg2.os,hg2.tape,hg2.output,hg2.size,fun i hi=>hg2.block i (AE hi hbr.size) (by omega)⟩;obtain⟨X,hX⟩:∃X,(w2.alloc (.cells #[.string ⟨k.name.toArray⟩, .string ⟨k.domain.toArray⟩, .string ⟨k.path.toArray⟩] 57)).alloc (.cells #[.string ⟨k.name.toArray⟩, .string ⟨k.domain.toArray⟩, .string ⟨k.path.toArray⟩] 57)=X:=⟨_,rfl⟩;have hrow3:X.ownsRow w1.heap.size 57 3 u3 ss.length (ln (ss.map (·.1))):=by rw[<-hX];exact(hrow2.alloc _).alloc _
    have hk3:KeepsWalks w2 X:=by rw[<-hX];exact(KeepsWalks.alloc _ _).trans (KeepsWalks.alloc _ _)
    have hb3:Below w.heap.size w X:=by rw[<-hX];exact(hb2.alloc hb2.size _).alloc (by have:=hb2.size;simp;omega) _
    have hs3:X.heap.size=wr.heap.size+2:=by rw[<-hX];simp;omega
    have hnc:∀i u,([.string ⟨k.name.toArray⟩, .string ⟨k.domain.toArray⟩, .string ⟨k.path.toArray⟩]:List Value)[i]? =some u->X.cell? ((⟨wr.heap.size+1,0,none⟩:Addr).add i)=some u:=fun i u hi=>by
     rw[Addr.add_lit,<-hX,show wr.heap.size+1=(w2.alloc (.cells #[.string ⟨k.name.toArray⟩, .string ⟨k.domain.toArray⟩, .string ⟨k.path.toArray⟩] 57)).heap.size from by rw[<-hs2];simp_all];match i with
     |0=>cases hi;simp
     |1=>cases hi;simp
     |2=>cases hi;simp
     |_+3=>cases hi
    have hone:∀u∈([.string ⟨k.name.toArray⟩, .string ⟨k.domain.toArray⟩, .string ⟨k.path.toArray⟩]:List Value),u.oneCell'=true:=by simp[Value.oneCell']
    have hlen:ss.length+1<=G.alive.length:=by omega
    have hmax:ss.length+1<=maxLen:=by grind [maxLen]
    go_wp2_with (at_builtin;go_loud (refine wpList_append_own _ rfl _ _ 165 rfl w1.heap.size 57 i0 _ 3 48 Tryz.underlying165 hi hz0 hz1 hz2 rfl (by decide) _ _ _ rfl hrow3 ⟨wr.heap.size+1,0,none⟩ 1 1 [.string ⟨k.name.toArray⟩, .string ⟨k.domain.toArray⟩, .string ⟨k.path.toArray⟩] rfl rfl hnc hone hmax (by omega) (by omega) ?_;intro v3 w3 hown hg3 hnil))
    have hrg3:=(hrg2.jJ hk3).jJ (KeepsWalks.of_grownBy hg3 (ownsRow_not_walk_a hrow3));have hs4:=hg3.size;go_roundw
    case rel=>exact⟨ss++[(k,(jI,jL))],left',hrg3,by grind,by rw[BE,A0,D3,Vp,Bn];omega,hb3.grown hg3 hb3.size (fun k e=>Av hb1.size (hrow3.lt k e).1),by omega⟩
    case measure=>rw[hrg3.left_eq,hrg.left_eq];omega
section
theorem qwj {w:World} {p:Nat->Prop} {n:Nat} {l:List au} {v:Value} (hp:∀b,p b->n<=b) (h:fc w p l v):Up w n (cK l) v:=by
 unfold cK;rcases h with⟨rfl,a,c,rfl⟩|⟨b,off,cap,arr,ty,fz,rfl,hpb,hb,hc,hl,hi⟩
 . exact .ch rfl a c
 . refine .bn b off cap arr ty fz 3 (fun i j=>(arr[off+i*3+j]?).getD (.bool false)) (hp b hpb) hb (by decide) hl (fun _ _ _=>rfl) hc (fun i x j v hx hv=>?_) (fun i x j v hx hv=>?_) (fun i x j v hx hv=>?_)
   all_goals
    have hil:i<l.length:=(Ae.1 hx).1;have hxe:l[i]=x:=(Ae.1 hx).2;obtain⟨e0,e1,e2⟩:=hi i hil;rw[hxe]at e0 e1 e2;have hj:j<3:=(Ae.1 hv).1;match j,hj with
    |0,_=>cases hv;first|rfl|exact(by rw[BC,e0];rfl)|(simp only[BC,e0,Bf];exact .int _ _)
    |1,_=>cases hv;first|rfl|exact(by rw[e1];rfl)|(simp only[e1,Bf];exact .int _ _)
    |2,_=>cases hv;first|rfl|exact(by rw[e2];rfl)|(simp only[e2,Bf];exact .int _ _)
theorem RL {w:World} {p:Nat->Prop} {n:Nat} {L:List (af×Value)} {v:Value} (hp:∀b,p b->n<=b) (hd:∀x∈L,fc w p x.1.over x.2) (h:w.ownsRow n 78 19 v L.length (gF L)):Up w n (cG (L.map (·.1))) v:=by
 unfold cG;obtain⟨hlen,hr⟩:=h;rcases hr with⟨rfl,h0⟩|⟨g,cap,cur,rfl,hpp,hb,hc,hm,hsz,htk⟩
 . exact .fP (by grind)
 . rw[show L.length=(L.map (·.1)).length by simp];have cell:∀i (hi:i<L.length) j,j<19->cur[i*19+j]? =(db L[i].1 L[i].2)[j]? :=fun i hi j hj=>by
     rw[<-OD L i hi j hj,<-htk,A3,An (by omega),A8]
   refine .bn g 0 cap cur 78 (0,0) 19 (fun i j=>(cur[i*19+j]?).getD (.bool false)) hpp hb (by decide) (by grind) (fun _ _ _=>rfl) (by grind) (fun i x j v hx hv=>?_) (fun i x j v hx hv=>?_) (fun i x j v hx hv=>?_)
   . have hj:j<19:=(Ae.1 hv).1;match j,hj with
     |0,_|1,_|2,_|3,_|4,_|5,_|6,_|7,_|8,_|9,_|10,_|11,_|12,_|13,_|14,_|15,_|16,_|17,_|18,_=>cases hv;rfl
   all_goals
     have hil:i<L.length:=by simpa using(Ae.1 hx).1
     have hxe:L[i].1=x:=by simpa using(Ae.1 hx).2
     have hdi:=hd _ (AF hil);rw[hxe]at hdi;have hj:j<19:=(Ae.1 hv).1;have hcl:=cell i hil j hj;rw[hxe]at hcl
   . rw[AA,hcl,Ai (show j<(db x L[i].2).length from hj)];rfl
   . show Up w n v ((cur[i*19+j]?).getD _)
     rw[hcl];match j,hj with
     |0,_|1,_|2,_|3,_|4,_|5,_|6,_|15,_|16,_|17,_=>cases hv;exact .int _ _
     |7,_|8,_|9,_|10,_=>cases hv;exact .str _
     |11,_|12,_|13,_|14,_=>cases hv;exact .bool _
     |18,_=>cases hv;exact qwj hp hdi
variable [Inhabited aK]
def MK:aL:={Y:=Nat×aP,pre:=fun y=>cT y.1 y.2,args:=fun y=>[.wp ⟨y.1,0,none⟩],res:=fun y=>cG (gQ y.2)}
theorem WT (hdr:¬(default:aK).dr):CO xb MK:=jx bh.ok (by
 rintro⟨b,m⟩ hpre w args hold ⟨h1,h2⟩;match args,h1 with
 |[v],_=>
 have e1:=IQ (h2 0 _ _ rfl rfl);subst e1;refine(Ti hdr hpre hold).mono ?_;rintro e w' ⟨v',L,rfl,hL,hd,hr,hb⟩;refine⟨_,rfl, .inr ?_,hb,fun h=>(hdr h).elim⟩;show Up w' w.heap.size (cG (gQ m)) v'
 rw[<-hL];exact RL (fun _ h=>h) hd hr)
noncomputable def HJ (f:FuncId):Option aL:=bif Nat.beq f xb then some MK else bif Nat.beq f rZ then some NX else HH f
theorem Nv (hdr:¬(default:aK).dr):∀f C,HJ f=some C->CO f C:=bg (WT hdr) (bg (Mq hdr) (Nu hdr))
end
section
variable [Inhabited aK]
abbrev Mp:=Option (Nat×aP)
def Mp.arg:Mp->SV|none=> .bq|some y=> .wp ⟨y.1,0,none⟩
def Mp.m:Mp->aP|none=>⟨[],[],[]⟩|some y=>y.2
def Mp.at:Mp->Prop|none=>True|some y=>cT y.1 y.2
noncomputable def Mp.ia (c:FuncId->Option aL):Mp->FuncId->Option aL|none=>bu|some _=>c
noncomputable def Mp.mr (a:Nat×aP->FuncId->Nat->Option aJ):Mp->FuncId->Nat->Option aJ|none=>fun _ _=>none|some y=>a y
theorem Kl {c:FuncId->Option aL} (h:∀f C,c f=some C->CO f C) (y:Mp):∀f C,y.ia c f=some C->CO f C:=by
 cases y with
 |none=>exact eX
 |some y=>exact h
def GJ:aL:={Y:=Mp,pre:=fun y=>y.at,args:=fun y=>[y.arg],res:=fun y=>items (iH y.m)}
def qxm (y:Nat×aP):aJ:=let l:=gQ y.2;{α:=Nat,ok:=fun i=>i<=l.length,μ:=fun i=>l.length - i,aV:=[],aO:=fun i=>[(3, .own 0),(7,cG l),(8,i64 (Int.ofNat l.length)),(9,i64 i)],bm:=fun i=>[(0,px ((l.take i).map af.item))]}
theorem Ot (hdr:¬(default:aK).dr):CO qd GJ:=bB (cfg:=fun(y:Mp)=>bL (Mp.ia HJ y) (Mp.mr (fun z=>cu qd 3 (qxm z)) y)) bh (fun _=>rfl) (fun(y:Mp)=>Kl (Nv hdr) y) (n:=600) (by
 rintro(_|⟨b,m⟩) hm
 . repeat' first|exact trivial|exact rfl|refine ax (fun _=>?_) fun _=>?_|apply And.intro
 have hm:cT b m:=hm;have hwl:=LC hm.ok;refine⟨(b,m),?_⟩
 repeat first|refine⟨rfl,?_⟩|refine⟨trivial,?_⟩
 refine⟨hm,?_⟩;refine⟨⟨(0:Nat),Ao _,?_⟩,?_⟩
 . repeat' first|exact trivial|exact rfl|refine ax (fun _=>?_) fun _=>?_|apply And.intro
   all_goals exact aj.2 ⟨_,rfl,ae.2 ⟨rfl,fun _=>rfl⟩⟩
 intro (x:Nat) hx;have hx:x<=(gQ m).length:=hx;refine ax (fun hlt=>?_) fun hge=>?_
 . have hlt':x<(gQ m).length:=cm hlt;have hf:=vN af.item hlt';have hz:(((gQ m).take x).map af.item).length+1<=60000:=by grind
   refine aj.2 ⟨_,cp hlt',?_⟩;refine⟨(gQ m)[x].item,rfl,?_⟩;refine ae.2 ⟨xh _ hz,?_⟩;refine ae.2 ⟨cj x (by omega),?_⟩;refine⟨(x+1:Nat),hlt',by show(gQ m).length - (x+1)<(gQ m).length - x;omega,?_⟩
   repeat' first|exact trivial|exact rfl|refine ax (fun _=>?_) fun _=>?_|apply And.intro
   all_goals ((conv=>whnf);rw[hf])
 . have hge':(gQ m).length<=x:=gf hge;refine⟨by rw[Aq hge'];rfl,?_⟩
   repeat' first|exact trivial|exact rfl|refine ax (fun _=>?_) fun _=>?_|apply And.intro)
noncomputable def Jx (f:FuncId):Option aL:=bif Nat.beq f qd then some GJ else HJ f
theorem Zs (hdr:¬(default:aK).dr):∀f C,Jx f=some C->CO f C:=bg (Ot hdr) (Nv hdr)
def PO:aL:={Y:=Mp×aG,pre:=fun y=>y.1.at,args:=fun y=>[y.1.arg, .agg y.2.enc],res:=fun y=>cK (l9 y.1.m y.2)}
def QE (y:Nat×aP×aG):aJ:=let l:=aW y.2.1 y.2.2;{α:=Nat,ok:=fun i=>i<=l.length,μ:=fun i=>l.length - i,aV:=[3],aO:=fun i=>[(5, .own 1),(10,cG l),(11,i64 (Int.ofNat l.length)),(12,i64 i)],bm:=fun i=>[(1, .arr au ((l.take i).map (·.dot)) au.enc Ty.mR)]}
theorem qyw (hdr:¬(default:aK).dr):CO CU PO:=bB (cfg:=fun(y:Mp×aG)=>bL (Mp.ia Jx y.1) (Mp.mr (fun z=>cu CU 3 (QE (z.1,z.2,y.2))) y.1)) bh (fun _=>rfl) (fun(y:Mp×aG)=>Kl (Zs hdr) y.1) (n:=600) (by
 rintro⟨_|⟨b,m⟩,k⟩ hm
 . repeat' first|exact trivial|exact rfl|refine ax (fun _=>?_) fun _=>?_|apply And.intro
 have hm:cT b m:=hm;have hkl:=tz hm.ok k;refine⟨(b,m,k),?_⟩
 repeat first|refine⟨rfl,?_⟩|refine⟨trivial,?_⟩
 refine⟨hm,?_⟩;refine⟨⟨(0:Nat),Ao _,?_⟩,?_⟩
 . repeat' first|exact trivial|exact rfl|refine ax (fun _=>?_) fun _=>?_|apply And.intro
   all_goals exact aj.2 ⟨_,rfl,ae.2 ⟨rfl,fun _=>rfl⟩⟩
 intro (x:Nat) hx;have hx:x<=(aW m k).length:=hx;refine ax (fun hlt=>?_) fun hge=>?_
 . have hlt':x<(aW m k).length:=cm hlt;have hf:=vN (fun e:af=>e.dot) hlt';refine aj.2 ⟨_,cp hlt',?_⟩;refine⟨(aW m k)[x].dot,rfl,?_⟩;refine ae.2 ⟨I5 _ (by grind),?_⟩;refine ae.2 ⟨cj x (by omega),?_⟩;refine⟨(x+1:Nat),hlt',by show(aW m k).length - (x+1)<(aW m k).length - x;omega,?_⟩
   repeat' first|exact trivial|exact rfl|refine ax (fun _=>?_) fun _=>?_|apply And.intro
   all_goals ((conv=>whnf);rw[hf])
 . have hge':(aW m k).length<=x:=gf hge;refine⟨by rw[Aq hge'];rfl,?_⟩
   repeat' first|exact trivial|exact rfl|refine ax (fun _=>?_) fun _=>?_|apply And.intro)
end
end Go.Proofs
