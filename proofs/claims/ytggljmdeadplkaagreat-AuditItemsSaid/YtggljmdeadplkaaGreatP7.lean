/- Part 7: an evaluator, proved sound, and its use at this seat; no condition. -/
import Derived.Shelf.SlSortCmp.WholeK
import Derived.Shelf.SlIter.Nil
import Derived.Shelf.SortM.Plain
import Derived.Shelf.SortM.SortNone
import Derived.Shelf.SlicesE.Clone
import Derived.Test.YtggljmdeadplkaaGreatProg
import Derived.WalkKit
import Derived.Test.YtggljmdeadplkaaGreatP6
set_option linter.unusedSimpArgs false
set_option linter.unusedVariables false
set_option linter.unusedSectionVars false
set_option linter.deprecated false
set_option maxRecDepth 100000
set_option maxHeartbeats 40000000
namespace Go.Proofs
open Go Go.Am Go.RowKit Go.Sy
section
variable [Inhabited aL]
def LC:aH:={Y:=Bs,pre:=fun y=>y.length<=1000000,args:=fun y=>[.str y],res:=fun y=> .str (dz y)}
noncomputable def p9 (f:FuncId):Option aH:=bif Nat.beq f Eh then some LC else bif Nat.beq f mS then some CG else wi f
theorem rr:∀g C,p9 g=some C->CO g C:=bM KV (bM Kd y9)
def ib (s:Bs):Bs×Int:=if 256<s.length then([],3)else if bU (dz s)||eX (dz s)then(dz s,0)else([],1)
def jT (s:Bs):Bool:=bA (Int.ofNat s.length) 256&&(bU s||eX s)
def CD:aH:={Y:=Bs,pre:=fun _=>True,args:=fun y=>[.str y],res:=fun y=> .bg [.str (ib y).1,i64 (ib y).2]}
def zP:aH:={Y:=Bs,pre:=fun _=>True,args:=fun y=>[.str y],res:=fun y=> .bool (jT y)}
def ic (s:Bs):Bool:= !s.any cS&&(bP s 59).isNone&&decide (gx s=s)
def zS:aH:={Y:=Bs,pre:=fun y=>y.length<=1000000,args:=fun y=>[.str y],res:=fun y=> .bool (ic y)}
def rO (x:cr):Bool:=within x.aM (-1099511627776) 1099511627776&&within x.aq 0 1099511627776&&within x.access 0 1099511627776&&(x.persistent||x.aM==1099511627776)
def ig (x:aa):Bool:= !(x.key.name==[])&&bA (Int.ofNat x.key.name.length) 256&&ic x.key.name&&(bP x.key.name 61).isNone&&bA (Int.ofNat x.ab.value.length) 1024&&ic x.ab.value&&jT x.key.domain&&decide (x.key.path.head? =some 47)&&bA (Int.ofNat x.key.path.length) 256&&rO x.ab
def rG:aH:={Y:=aa,pre:=fun y=>y.key.name.length<=1000000/\y.ab.value.length<=1000000,args:=fun y=>[.agg y.enc],res:=fun y=> .bool (ig y)}
theorem H9 (s:Bs):(dz s).length=s.length:=by simp[dz]
theorem KJ:CO Eu CD:=bO (cfg:=fun y=>eg p9 (cF y)) bD (fun _=>rfl) (fun _=>rr) (n:=600) (by
 intro (s:Bs) _
 (conv=>whnf)
 refine aP (fun h=>?_) fun h=>?_
 . have h:256<s.length:=by
     have h:bj 256 (Int.ofNat s.length)=true:=h;rw[bF,Ac,Aa]at h;omega
   have e:ib s=([],3):=by unfold ib;rw[Ai h]
   (conv=>whnf)
   refine⟨by rw[e],?_⟩
   (conv=>whnf)
   refine⟨by rw[e],?_⟩
   repeat' (first|exact trivial|exact rfl|((conv=>whnf);first|(apply aP<;>intro)|apply And.intro))
 have h:¬256<s.length:=by
   have h:bj 256 (Int.ofNat s.length)=false:=h;rw[bF,Ae,Aa]at h;omega
 have hl:=H9 s
 (conv=>whnf)
 refine⟨s,?_⟩
 repeat ((conv=>whnf);first|refine⟨rfl,?_⟩|refine⟨trivial,?_⟩)
 refine⟨by show s.length<=1000000;omega,?_⟩
 (conv=>whnf)
 refine⟨dz s,?_⟩
 repeat ((conv=>whnf);first|refine⟨rfl,?_⟩|refine⟨trivial,?_⟩)
 refine⟨by show(dz s).length<=100000;omega,?_⟩;have bad:(bU (dz s)||eX (dz s))=false->ib s=([],1):=fun hn=>by unfold ib;rw[Ah h,hn];rfl
 have good:(bU (dz s)||eX (dz s))=true->ib s=(dz s,0):=fun hn=>by unfold ib;rw[Ah h,hn];rfl
 (conv=>whnf)
 refine aP (fun hn=>?_) fun hn=>?_
 . have hn:bU (dz s)=false:=by simpa using hn
   rw[hn,Dt]at bad good
   (conv=>whnf)
   refine⟨dz s,?_⟩
   repeat ((conv=>whnf);first|refine⟨rfl,?_⟩|refine⟨trivial,?_⟩)
   refine⟨by show(dz s).length<=100000;omega,?_⟩
   (conv=>whnf)
   refine aP (fun ha=>?_) fun ha=>?_
   . have e:=bad (by simpa using ha)
     (conv=>whnf)
     refine⟨by rw[e],?_⟩
     (conv=>whnf)
     refine⟨by rw[e],?_⟩
     repeat' (first|exact trivial|exact rfl|((conv=>whnf);first|(apply aP<;>intro)|apply And.intro))
   . have e:=good (by simpa using ha)
     (conv=>whnf)
     refine⟨by rw[e],?_⟩
     (conv=>whnf)
     refine⟨by rw[e],?_⟩
     repeat' (first|exact trivial|exact rfl|((conv=>whnf);first|(apply aP<;>intro)|apply And.intro))
 . have hn:bU (dz s)=true:=by simpa using hn
   have e:=good (by rw[hn];rfl)
   (conv=>whnf)
   refine⟨by rw[e],?_⟩
   (conv=>whnf)
   refine⟨by rw[e],?_⟩
   repeat' (first|exact trivial|exact rfl|((conv=>whnf);first|(apply aP<;>intro)|apply And.intro)))
theorem JF:CO qo zP:=bO (cfg:=fun y=>eg p9 (cF y)) bD (fun _=>rfl) (fun _=>rr) (n:=600) (by
 intro (s:Bs) _
 (conv=>whnf)
 refine aP (fun h=>?_) fun h=>?_
 . have h:bA (Int.ofNat s.length) 256=true:=h;have hl:s.length<=100000:=by rw[dN,Ac,Aa]at h;omega
   (conv=>whnf)
   refine⟨s,?_⟩
   repeat ((conv=>whnf);first|refine⟨rfl,?_⟩|refine⟨trivial,?_⟩)
   refine⟨hl,?_⟩
   (conv=>whnf)
   refine aP (fun hn=>?_) fun hn=>?_
   . have hn:bU s=true:=hn
     (conv=>whnf)
     refine⟨by show true=jT s;simp only[jT,h,hn,BR,Bool.and_self],?_⟩
     repeat' (first|exact trivial|exact rfl|((conv=>whnf);first|(apply aP<;>intro)|apply And.intro))
   . have hn:bU s=false:=hn
     (conv=>whnf)
     refine⟨s,?_⟩
     repeat ((conv=>whnf);first|refine⟨rfl,?_⟩|refine⟨trivial,?_⟩)
     refine⟨hl,?_⟩
     (conv=>whnf)
     refine⟨by show eX s=jT s;simp only[jT,h,hn,Dt,Ba],?_⟩
     repeat' (first|exact trivial|exact rfl|((conv=>whnf);first|(apply aP<;>intro)|apply And.intro))
 . have h:bA (Int.ofNat s.length) 256=false:=h
   (conv=>whnf)
   refine⟨by show false=jT s;simp only[jT,h,Bf],?_⟩
   repeat' (first|exact trivial|exact rfl|((conv=>whnf);first|(apply aP<;>intro)|apply And.intro)))
theorem IW:CO Eo zS:=bO (cfg:=fun y=>eg p9 (cF y)) bD (fun _=>rfl) (fun _=>rr) (n:=600) (by
 intro (s:Bs) (hs:s.length<=1000000)
 (conv=>whnf)
 refine⟨s,?_⟩
 repeat ((conv=>whnf);first|refine⟨rfl,?_⟩|refine⟨trivial,?_⟩)
 refine⟨hs,?_⟩
 (conv=>whnf)
 refine aP (fun h=>?_) fun h=>?_
 . have h:s.any cS=false:=by
     have h:(!s.any cS)=true:=h
     cases e:s.any cS with
     |false=>rfl
     |true=>rw[e]at h;cases h
   (conv=>whnf)
   refine⟨(s,59),?_⟩
   repeat ((conv=>whnf);first|refine⟨rfl,?_⟩|refine⟨trivial,?_⟩)
   refine⟨hs,?_⟩;have hf:bj (eG s 59) 0=(bP s 59).isNone:=by
     rcases pB s 59 with⟨i,h1,h2,h3⟩|⟨h1,h2⟩
     . rw[h1,h2,bF,Bh];rfl;omega
     . rw[h1,h2];rfl
   (conv=>whnf)
   refine aP (fun h2=>?_) fun h2=>?_
   . have h2:(bP s 59).isNone=true:=by rw[<-hf];exact h2
     (conv=>whnf)
     refine⟨s,?_⟩
     repeat ((conv=>whnf);first|refine⟨rfl,?_⟩|refine⟨trivial,?_⟩)
     refine⟨hs,?_⟩
     (conv=>whnf)
     refine⟨?_,?_⟩
     . show(gx s==s)=ic s
       simp only[ic,h,h2,Dr,Ba];rw[Aw];simp
     . repeat' (first|exact trivial|exact rfl|((conv=>whnf);first|(apply aP<;>intro)|apply And.intro))
   . have h2:(bP s 59).isNone=false:=by rw[<-hf];exact h2
     (conv=>whnf)
     refine⟨by show false=ic s;simp only[ic,h2,Ds,Bf],?_⟩
     repeat' (first|exact trivial|exact rfl|((conv=>whnf);first|(apply aP<;>intro)|apply And.intro))
 . have h:s.any cS=true:=by
     have h:(!s.any cS)=false:=h
     cases e:s.any cS with
     |true=>rfl
     |false=>rw[e]at h;cases h
   (conv=>whnf)
   refine⟨by show false=ic s;simp only[ic,h,BW,Bf],?_⟩
   repeat' (first|exact trivial|exact rfl|((conv=>whnf);first|(apply aP<;>intro)|apply And.intro)))
theorem rz {b:UInt8} {c:Int}:∀{s:Bs},b∈s->nB b=c\/ ∃p∈aB s c,b∈p
 | x :: s,h=>by
  simp only[aB];by_cases hx:nB x=c
  . rw[Ai hx];rcases As.1 h with rfl|h
    . exact .inl hx
    . rcases rz (c:=c) h with h|⟨p,hp,hb⟩
      . exact .inl h
      . exact .inr ⟨p,Au _ hp,hb⟩
  . rw[Ah hx];have ih:b∈s->nB b=c\/ ∃p∈aB s c,b∈p:=fun h=>rz h
    cases e:aB s c with
    |nil=>exact absurd e (lv s c)
    | cons q t=>
      rw[e]at ih;rcases As.1 h with rfl|h
      . exact .inr ⟨b::q,Aj,Aj⟩
      . rcases ih h with h|⟨p,hp,hb⟩
        . exact .inl h
        . rcases As.1 hp with rfl|hp
          . exact .inr ⟨x::p,Aj,Au _ hb⟩
          . exact .inr ⟨p,Au _ hp,hb⟩
theorem Jx {b:UInt8} (h:nB b<65\/90<nB b):fL b=b:=by
 unfold fL;unfold nB at h;simp only[Aa]at h;rw[Ah (by omega)]
theorem ug {s:Bs} (h:∀b∈s,nB b<65\/90<nB b):dz s=s:=by
 have e:s.map fL=s.map id:=Ec fun b hb=>Jx (h b hb)
 rw[List.map_id]at e;exact e
theorem Hf {s:Bs} (h:bU s=true):dz s=s:=by
 simp only[bU,Ad,Aq]at h;refine ug fun b hb=>?_
 rcases rz (c:=46) hb with h1|⟨p,hp,hb⟩
 . omega
 . have h2:=h.2 p hp;simp only[di,Ad,Aq]at h2;have h3:=h2.1.1.2 b hb;simp only[eT,A4,Ad,Ac,AK]at h3;omega
theorem GL {s:Bs} (h:eX s=true):dz s=s:=by
 unfold eX at h;rcases A4 .. ▸h with h|h
 . simp only[dO,Ad,Aq]at h;refine ug fun b hb=>?_
   rcases rz (c:=46) hb with h1|⟨p,hp,hb⟩
   . omega
   . have h2:=h.2 p hp;simp only[eP,Ad,Ac]at h2;have h3:=qT (s:=p) (by omega) b hb;simp only[cy,Ad,Ac]at h3;omega
 . simp only[dK,Ad,Aq,Ac,AK]at h;obtain⟨⟨⟨⟨h1,h2⟩,h3⟩,h4⟩,h5⟩:=h
   cases s with
   |nil=>simp at h1
   | cons x s=>
     simp only[Dm,AW]at h3;subst h3;rcases List.eq_nil_or_concat s with rfl|⟨t,z,rfl⟩
     . simp at h1
     . have hz:z=93:=by
         rw[show(91::t.concat z:Bs)=(91::t)++[z] by simp,List.getLast?_concat]at h4;simpa using h4
       subst hz;have e:((91::t.concat 93:Bs).drop 1).take ((91::t.concat 93:Bs).length - 2)=t:=by simp[D7]
       rw[e]at h5;refine ug fun b hb=>?_
       simp only[As,D7,AU,BV,De]at hb;rcases hb with rfl|hb|rfl
       . right;decide
       . have h6:=h5 b hb;simp only[cg,A4,Ad,Ac,AK]at h6;omega
       . right;decide
theorem G3 (s:Bs):(decide ((ib s).2=0)&&decide ((ib s).1=s))=jT s:=by
 rw[Aw];unfold ib jT;simp only[Ad,Ac,dN,Aa];by_cases h:256<s.length
 . rw[Ai h];simp;omega
 . rw[Ah h];constructor
   . intro hh;split at hh
     . rename_i hn;have e:dz s=s:=hh.2;rw[e]at hn;exact⟨by omega,hn⟩
     . simp at hh
   . rintro⟨_,hn⟩;have e:dz s=s:=by
       rcases A4 .. ▸hn with hn|hn
       . exact Hf hn
       . exact GL hn
     rw[e,Ai hn];exact⟨rfl,rfl⟩
noncomputable def wm (f:FuncId):Option aH:=bif Nat.beq f Eu then some CD else bif Nat.beq f qo then some zP else bif Nat.beq f Eo then some zS else p9 f
theorem yL:∀g C,wm g=some C->CO g C:=bM KJ (bM JF (bM IW rr))
def vK (x:aa):Bool:= !(x.key.name==[])&&fT x.key.name 256 [59,61]&&fT x.ab.value 1024 [59]&&((ib x.key.domain).2==0)&&((ib x.key.domain).1==x.key.domain)&&decide (x.key.path.head? =some 47)&&bA (Int.ofNat x.key.path.length) 256&&rO x.ab
theorem Hv (x:aa):vK x=ig x:=by
 have h1:∀(s:Bs) (m:Int),fT s m [59]=(bA (Int.ofNat s.length) m&&ic s):=fun s m=>by
  unfold fT ic;rw[Aw];simp[nB];grind
 have h2:fT x.key.name 256 [59,61]=(bA (Int.ofNat x.key.name.length) 256&&ic x.key.name&&(bP x.key.name 61).isNone):=by
  unfold fT ic;rw[Aw];simp[nB];grind
 have h3:=G3 x.key.domain;unfold vK ig;rw[h1,h2,<-h3];rw[Aw];simp;grind
theorem EI (b:UInt8):b=47↔(b.toNat:Int)=47:=by
 constructor
 . rintro rfl;rfl
 . intro h;exact Dl.1 (by rw[show(47:UInt8).toNat=47 from rfl];omega)
theorem IY:CO qu rG:=bO (cfg:=fun y=>eg wm (cF y)) bD (fun _=>rfl) (fun _=>yL) (n:=800) (by
 rintro⟨⟨n,d,p⟩,v,b1,b2,b3,b4,e,c,a⟩ ⟨(hn:n.length<=1000000),(hv:v.length<=1000000)⟩;rcases p with _|⟨p0,p⟩
 all_goals
  (conv=>whnf)
  refine⟨d,?_⟩
  repeat ((conv=>whnf);first|refine⟨rfl,?_⟩|refine⟨trivial,?_⟩)
  (conv=>whnf)
  refine⟨(e, -1099511627776,1099511627776),?_⟩
  repeat' (first|exact trivial|(with_reducible exact rfl)|((conv=>whnf);first|(apply aP<;>intro)|apply And.intro)|((conv=>whnf);refine⟨(c,0,1099511627776),?_⟩;(conv=>whnf);refine⟨rfl,?_⟩)|((conv=>whnf);refine⟨(a,0,1099511627776),?_⟩;(conv=>whnf);refine⟨rfl,?_⟩)|((conv=>whnf);refine⟨(n,256,[59,61]),?_⟩;(conv=>whnf);refine⟨rfl,?_⟩)|((conv=>whnf);refine⟨(v,1024,[59]),?_⟩;(conv=>whnf);refine⟨rfl,?_⟩))
 all_goals first|exact hn|exact hv|exact rfl|(show(2:Nat)<=100;decide)|(show(1:Nat)<=100;decide)|skip
 all_goals (rw[<-Hv])
 all_goals (simp_all[vK,rO,EI]))
end
section
variable [Inhabited aL]
theorem JM (s:Bs) (c:Int):bA 0 (eG s c)= !(bP s c).isNone:=by
 rcases pB s c with⟨i,h1,h2,h3⟩|⟨h1,h2⟩
 . rw[h1,h2,dN,Bo (by omega)];rfl
 . rw[h1,h2];rfl
theorem KD (a b:Int):bj a b= !bA b a:=by
 rw[bF,dN,Aw,Ac,AG,Ae];omega
theorem IZ:CO En rG:=bO (cfg:=fun y=>eg wm (cF y)) bD (fun _=>rfl) (fun _=>yL) (n:=800) (by
 rintro⟨⟨n,d,p⟩,v,b1,b2,b3,b4,e,c,a⟩ ⟨(hn:n.length<=1000000),(hv:v.length<=1000000)⟩;rcases p with _|⟨p0,p⟩
 all_goals
  repeat' (first|exact trivial|(with_reducible exact rfl)|((conv=>whnf);first|(apply aP<;>intro)|apply And.intro)|((conv=>whnf);refine⟨n,?_⟩;(conv=>whnf);refine⟨rfl,?_⟩)|((conv=>whnf);refine⟨v,?_⟩;(conv=>whnf);refine⟨rfl,?_⟩)|((conv=>whnf);refine⟨d,?_⟩;(conv=>whnf);refine⟨rfl,?_⟩)|((conv=>whnf);refine⟨(n,61),?_⟩;(conv=>whnf);refine⟨rfl,?_⟩))
 all_goals first|exact hn|exact hv|exact rfl|skip
 all_goals (simp only[ig,rO,within])
 all_goals (simp_all[KD,JM,EI,DP])
 all_goals trace_state)
end
section
variable [Inhabited aL]
def dA (c:aw) (x:aa) (now:Int):Int:=if ig x=false then 1 else if gI x.ab now then 4 else if x.ab.ay=false/\eo c.rules x.key.domain=true then 14 else 0
def mA (x:aa):Prop:=x.key.name.length<=2000/\x.key.domain.length<=2000/\x.key.path.length<=2000/\x.ab.value.length<=2000
noncomputable def l3 (f:FuncId):Option aH:=bif Nat.beq f qu then some rG else bif Nat.beq f En then some rG else bif Nat.beq f qt then some oY else bif Nat.beq f qw then some CU else sM f
theorem zH:∀f C,l3 f=some C->CO f C:=bM IY (bM IZ (bM M8 (bM K4 uO)))
def LB:aH:={Y:=aw×aa×Int,pre:=fun y=>gk y.1.rules/\mA y.2.1,args:=fun y=>[.agg y.1.enc, .agg y.2.1.enc,i64 y.2.2],res:=fun y=>i64 (dA y.1 y.2.1 y.2.2)}
theorem KQ:CO Mx LB:=bO (cfg:=fun(_:aw×aa×Int)=>eg l3 (fun _ _=>none)) bD (fun _=>rfl) (fun _=>zH) (n:=800) (by
 rintro⟨c,x,now⟩ ⟨hr,hx⟩;have hr:gk c.rules:=hr;have hx:mA x:=hx;obtain⟨x1,x2,x3,x4⟩:=hx
 (conv=>whnf)
 refine⟨x,?_⟩
 repeat ((conv=>whnf);first|refine⟨rfl,?_⟩|refine⟨trivial,?_⟩)
 refine⟨⟨by show x.key.name.length<=1000000;omega,by show x.ab.value.length<=1000000;omega⟩,?_⟩
 (conv=>whnf)
 refine aP (fun h=>?_) fun h=>?_
 . have h:(!ig x)=true:=h;have h:ig x=false:=by simpa using h
   (conv=>whnf)
   refine⟨?_,trivial⟩;show aj 1 (dA c x now)
   unfold dA;rw[Ai h]
 . have h:(!ig x)=false:=h;have h:ig x=true:=by simpa using h
   (conv=>whnf)
   refine⟨(x.ab,now),?_⟩
   repeat ((conv=>whnf);first|refine⟨rfl,?_⟩|refine⟨trivial,?_⟩)
   (conv=>whnf)
   refine aP (fun h2=>?_) fun h2=>?_
   . have h2:gI x.ab now=true:=h2
     (conv=>whnf)
     refine⟨?_,trivial⟩;show aj 4 (dA c x now)
     unfold dA;rw[Ah (by rw[h];simp),Ai h2]
   . have h2:gI x.ab now=false:=h2
     (conv=>whnf)
     refine aP (fun h3=>?_) fun h3=>?_
     . have h3:(!x.ab.ay)=true:=h3;have h3:x.ab.ay=false:=by simpa using h3
       (conv=>whnf)
       refine⟨(c.rules,x.key.domain),?_⟩
       repeat ((conv=>whnf);first|refine⟨rfl,?_⟩|refine⟨trivial,?_⟩)
       refine⟨⟨hr,by show x.key.domain.length<=100000;omega⟩,?_⟩
       (conv=>whnf)
       refine aP (fun h4=>?_) fun h4=>?_
       . have h4:eo c.rules x.key.domain=true:=h4
         (conv=>whnf)
         refine⟨?_,trivial⟩;show aj 14 (dA c x now)
         unfold dA;rw[Ah (by rw[h];simp),Ah (by rw[h2];simp),Ai ⟨h3,h4⟩]
       . have h4:eo c.rules x.key.domain=false:=h4
         (conv=>whnf)
         refine⟨?_,trivial⟩;show aj 0 (dA c x now)
         unfold dA;rw[Ah (by rw[h];simp),Ah (by rw[h2];simp),Ah (by rw[h4];simp)]
     . have h3:(!x.ab.ay)=false:=h3;have h3:x.ab.ay=true:=by simpa using h3
       (conv=>whnf)
       refine⟨?_,trivial⟩;show aj 0 (dA c x now)
       unfold dA;rw[Ah (by rw[h];simp),Ah (by rw[h2];simp),Ah (by rw[h3];simp)])
def iV (c:aw) (now:Int):List aa->Int
 |[]=>0
 |x::l=>if dA c x now=0 then iV c now l else dA c x now
def gn (c:aw) (l:List aa) (x:aa):Bool:=decide (c.total<(l.length:Int))||decide (c.domain<((fc l x.key.domain).length:Int))
def ep (c:aw) (l:List aa) (now:Int):Int:=if dG c≠0 then dG c else if fC l=false then 6 else if iV c now l≠0 then iV c now l else if l.any (gn c l)then 9 else 0
theorem ue {c:aw} {now:Int}:∀{l:List aa} {i:Nat} (h:i<l.length),(∀x∈l.take i,dA c x now=0)->dA c l[i] now≠0->iV c now l=dA c l[i] now
 |x::l,0,_,_,h2=>by
  have h2:dA c x now≠0:=h2;show(if dA c x now=0 then iV c now l else dA c x now)=dA c x now
  rw[Ah h2]
 |x::l,i+1,h,h1,h2=>by
  unfold iV;rw[Ai (h1 x (by simp))];exact ue (by simpa using h) (fun y hy=>h1 y (by simp[hy])) h2
theorem tU {c:aw} {now:Int}:∀{l:List aa},(∀x∈l,dA c x now=0)->iV c now l=0
 |[],_=>rfl
 |x::l,h=>by unfold iV;rw[Ai (h x Aj)];exact tU fun y hy=>h y (Au _ hy)
theorem xm {c:aw} (h:dG c=0) (h2:∀s∈c.rules,s.length<=100000):gk c.rules:=by
 unfold dG at h;split at h
 . cases h
 . unfold gR at h;split at h
   . cases h
   . split at h
     . exact⟨by omega,h2,by assumption⟩
     . cases h
def pk (y:aw×List aa×Int):Prop:=mz y.1/\y.2.1.length<=1000/\ ∀x∈y.2.1,mA x
def yY:aH:={Y:=aw×List aa×Int,pre:=pk,args:=fun y=>[.agg y.1.enc,items y.2.1,i64 y.2.2],res:=fun y=>i64 (ep y.1 y.2.1 y.2.2)}
def sZ (y:aw×List aa×Int):aE:={α:=Nat,ok:=fun i=>dG y.1=0/\fC y.2.1=true/\i<=y.2.1.length/\ ∀x∈y.2.1.take i,dA y.1 x y.2.2=0,μ:=fun i=>y.2.1.length - i,bu:=[2,3],aV:=fun i=>[(1,items y.2.1),(8,i64 i)],bK:=fun _=>[]}
def tb (y:aw×List aa×Int):aE:={α:=Nat,ok:=fun i=>dG y.1=0/\fC y.2.1=true/\iV y.1 y.2.2 y.2.1=0/\i<=y.2.1.length/\ ∀x∈y.2.1.take i,gn y.1 y.2.1 x=false,μ:=fun i=>y.2.1.length - i,bu:=[3],aV:=fun i=>[(1,items y.2.1),(10,i64 i)],bK:=fun _=>[]}
theorem HG : CO kZ yY:=bO (cfg:=fun y=>eg l3 (iI kZ 7 (sZ y) (cq kZ 17 (tb y)))) bD (fun _=>rfl) (fun _=>zH) (n:=1200) (by
 rintro⟨c,l,now⟩ ⟨hr,hl,hs⟩;have hr:mz c:=hr;have hl:l.length<=1000:=hl;have hs:∀x∈l,mA x:=hs
 (conv=>whnf)
 refine⟨c,?_⟩
 repeat ((conv=>whnf);first|refine⟨rfl,?_⟩|refine⟨trivial,?_⟩)
 refine⟨hr,?_⟩
 (conv=>whnf)
 refine aP (fun h=>?_) fun h=>?_
 . have h:(!(dG c==0))=true:=h;have h:dG c≠0:=by simpa using h
   (conv=>whnf)
   refine⟨?_,trivial⟩;show dG c=ep c l now
   unfold ep;rw[Ai h]
 . have h : (!(dG c==0))=false:=h;have h:dG c=0:=by simpa using h
   have hR:=xm h hr.2
   (conv=>whnf)
   refine⟨l,?_⟩
   repeat ((conv=>whnf);first|refine⟨rfl,?_⟩|refine⟨trivial,?_⟩)
   refine⟨by show l.length<=10000;omega,?_⟩
   (conv=>whnf)
   refine aP (fun h2=>?_) fun h2=>?_
   . have h2:(!fC l)=true:=h2;have h2:fC l=false:=by simpa using h2
     (conv=>whnf)
     refine⟨?_,trivial⟩;show 6=ep c l now
     unfold ep;rw[Ah (by simp[h]),Ai h2]
   . have h2 :(!fC l)=false:=h2;have h2:fC l=true:=by simpa using h2
     (conv=>whnf)
     refine⟨⟨(0:Nat),⟨h,h2,A7 _,by simp⟩,?_⟩,?_⟩
     . repeat' (first|exact trivial|exact rfl|((conv=>whnf);first|(apply aP<;>intro)|apply And.intro))
     intro (i:Nat) hi;have i1:i<=l.length:=hi.2.2.1;have i2:∀x∈l.take i,dA c x now=0:=hi.2.2.2
     (conv=>whnf)
     refine aP (fun hlt=>?_) fun hge=>?_
     . have hlt':i<l.length:=cp hlt;obtain⟨x1,x2,x3,x4⟩:=hs l[i] (Av hlt');have mu:l.length - (i+1)<l.length - i:=by omega
       have hA:ep c l now=if iV c now l≠0 then iV c now l else if l.any (gn c l)then 9 else 0:=by unfold ep;rw[Ah (by simp[h]),Ah (by simp[h2])]
       have hit:=fun e=>ue (c:=c) (now:=now) hlt' i2 e
       (conv=>whnf)
       refine au.2 ⟨_,dH hlt',?_⟩
       (conv=>whnf)
       refine⟨l[i],?_⟩
       repeat ((conv=>whnf);first|refine⟨rfl,?_⟩|refine⟨trivial,?_⟩)
       refine⟨⟨by show l[i].key.name.length<=1000000;omega,by show l[i].ab.value.length<=1000000;omega⟩,?_⟩
       (conv=>whnf)
       refine aP (fun h3=>?_) fun h3=>?_
       . have h3:(!ig l[i])=true:=h3;have h3:ig l[i]=false:=by simpa using h3
         have e:dA c l[i] now=1:=by unfold dA;rw[Ai h3]
         (conv=>whnf)
         refine⟨?_,trivial⟩;show 1=ep c l now
         rw[hA,hit (by rw[e];decide),e];rfl
       have h3:(!ig l[i])=false:=h3;have h3:ig l[i]=true:=by simpa using h3
       (conv=>whnf)
       refine⟨(l[i].ab,now),?_⟩
       repeat ((conv=>whnf);first|refine⟨rfl,?_⟩|refine⟨trivial,?_⟩)
       (conv=>whnf)
       refine aP (fun h4=>?_) fun h4=>?_
       . have h4:gI l[i].ab now=true:=h4;have e:dA c l[i] now=4:=by unfold dA;rw[Ah (by rw[h3];simp),Ai h4]
         (conv=>whnf)
         refine⟨?_,trivial⟩;show 4=ep c l now
         rw[hA,hit (by rw[e];decide),e];rfl
       have h4:gI l[i].ab now=false:=h4;have hnext:dA c l[i] now=0->∀x∈l.take (i+1),dA c x now=0:=fun e x hx=>by
         rw[Al hlt']at hx;rcases AU.1 hx with hx|hx
         . exact i2 x hx
         . rw[AQ.1 hx];exact e
       (conv=>whnf)
       refine aP (fun h5=>?_) fun h5=>?_
       . have h5:(!l[i].ab.ay)=true:=h5;have h5:l[i].ab.ay=false:=by simpa using h5
         (conv=>whnf)
         refine⟨(c.rules,l[i].key.domain),?_⟩
         repeat ((conv=>whnf);first|refine⟨rfl,?_⟩|refine⟨trivial,?_⟩)
         refine⟨⟨hR,by show l[i].key.domain.length<=100000;omega⟩,?_⟩
         (conv=>whnf)
         refine aP (fun h6=>?_) fun h6=>?_
         . have h6:eo c.rules l[i].key.domain=true:=h6;have e:dA c l[i] now=14:=by unfold dA;rw[Ah (by rw[h3];simp),Ah (by rw[h4];simp),Ai ⟨h5,h6⟩]
           (conv=>whnf)
           refine⟨?_,trivial⟩;show 14=ep c l now
           rw[hA,hit (by rw[e];decide),e];rfl
         . have h6:eo c.rules l[i].key.domain=false:=h6;have e:dA c l[i] now=0:=by unfold dA;rw[Ah (by rw[h3];simp),Ah (by rw[h4];simp),Ah (by rw[h6];simp)]
           (conv=>whnf)
           refine ag.2 ⟨cB i (by omega),?_⟩
           (conv=>whnf)
           refine⟨(i+1:Nat),⟨h,h2,hlt',hnext e⟩,mu,?_⟩
           repeat' (first|exact trivial|exact rfl|((conv=>whnf);first|(apply aP<;>intro)|apply And.intro))
       . have h5:(!l[i].ab.ay)=false:=h5;have h5:l[i].ab.ay=true:=by simpa using h5
         have e:dA c l[i] now=0:=by unfold dA;rw[Ah (by rw[h3];simp),Ah (by rw[h4];simp),Ah (by rw[h5];simp)]
         (conv=>whnf)
         refine ag.2 ⟨cB i (by omega),?_⟩
         (conv=>whnf)
         refine⟨(i+1:Nat),⟨h,h2,hlt',hnext e⟩,mu,?_⟩
         repeat' (first|exact trivial|exact rfl|((conv=>whnf);first|(apply aP<;>intro)|apply And.intro))
     . have hge':=ff hge;have hil:l.take i=l:=Ax (by have hge':¬(i:Int)<(l.length:Int):=hge';omega);rw[hil]at i2;have h3:=tU i2;have hA:ep c l now=if l.any (gn c l)then 9 else 0:=by unfold ep;rw[Ah (by simp[h]),Ah (by simp[h2]),Ah (by simp[h3])]
       (conv=>whnf)
       refine⟨⟨(0:Nat),⟨h,h2,h3,A7 _,by simp⟩,?_⟩,?_⟩
       . repeat' (first|exact trivial|exact rfl|((conv=>whnf);first|(apply aP<;>intro)|apply And.intro))
       intro (j:Nat) hj;have j1:j<=l.length:=hj.2.2.2.1;have j2:∀x∈l.take j,gn c l x=false:=hj.2.2.2.2
       (conv=>whnf)
       refine aP (fun hlt=>?_) fun hge=>?_
       . have hlt':j<l.length:=cp hlt;have mu:l.length - (j+1)<l.length - j:=by omega
         have hyes:gn c l l[j]=true->ep c l now=9:=fun e=>by
           rw[hA,Ai];exact Bz.2 ⟨_,Av hlt',e⟩
         have hnext:gn c l l[j]=false->∀x∈l.take (j+1),gn c l x=false:=fun e x hx=>by
           rw[Al hlt']at hx;rcases AU.1 hx with hx|hx
           . exact j2 x hx
           . rw[AQ.1 hx];exact e
         (conv=>whnf)
         refine aP (fun h7=>?_) fun h7=>?_
         . have h7:bj c.total (Int.ofNat l.length)=true:=h7;rw[bF]at h7;have e:gn c l l[j]=true:=by
             unfold gn;rw[show decide (c.total<(l.length:Int))=true from h7,BR]
           (conv=>whnf)
           refine⟨?_,trivial⟩;show 9=ep c l now
           exact(hyes e).symm
         . have h7:bj c.total (Int.ofNat l.length)=false:=h7;rw[bF]at h7
           (conv=>whnf)
           refine au.2 ⟨_,dH hlt',?_⟩
           (conv=>whnf)
           refine⟨(l,l[j].key.domain),?_⟩
           repeat ((conv=>whnf);first|refine⟨rfl,?_⟩|refine⟨trivial,?_⟩)
           refine⟨by show l.length<=10000;omega,?_⟩
           (conv=>whnf)
           refine aP (fun h8=>?_) fun h8=>?_
           . have h8:bj c.domain (Int.ofNat (fc l l[j].key.domain).length)=true:=h8;rw[bF]at h8;have e:gn c l l[j]=true:=by
              unfold gn;rw[show decide (c.domain<((fc l l[j].key.domain).length:Int))=true from h8,DY]
             (conv=>whnf)
             refine⟨?_,trivial⟩;show 9=ep c l now
             exact(hyes e).symm
           . have h8:bj c.domain (Int.ofNat (fc l l[j].key.domain).length)=false:=h8;rw[bF]at h8;have e:gn c l l[j]=false:=by
              unfold gn;rw[show decide (c.total<(l.length:Int))=false from h7,show decide (c.domain<((fc l l[j].key.domain).length:Int))=false from h8];rfl
             (conv=>whnf)
             refine ag.2 ⟨cB j (by omega),?_⟩
             (conv=>whnf)
             refine⟨(j+1:Nat),⟨h,h2,h3,hlt',hnext e⟩,mu,?_⟩
             repeat' (first|exact trivial|exact rfl|((conv=>whnf);first|(apply aP<;>intro)|apply And.intro))
       . (conv=>whnf)
         refine⟨?_,trivial⟩;have hge':=ff hge;have hil:l.take j=l:=Ax (by have hge':¬(j:Int)<(l.length:Int):=hge';omega);rw[hil]at j2;show 0=ep c l now
         rw[hA,Ah];intro e;obtain⟨x,hx,hx2⟩:=Bz.1 e;rw[j2 x hx]at hx2;cases hx2)
end
end Go.Proofs
namespace Go.Proofs
open Go.Shelf
def qp:Go.Shelf.Ren:=⟨fun|7=>264|10=>313|n=>n,fun|23=>60|26=>9|3=>3|28=>310|0=>0|27=>309|33=>103|4=>4|n=>n,fun|n=>n⟩
theorem Ew:Go.Proofs.SlLaysZ.n7 Tryz.prog qp:={
 mixed:=by kernel_rfl
 f7:=⟨Tryz.f264.name,by decide,Tryz.func264.trans (Az some (by kernel_rfl))⟩
 f10:=⟨Tryz.f313.name,by decide,Tryz.func313.trans (Az some (by kernel_rfl))⟩
 t0:=Tryz.underlying0
 a0:=Tryz.isAgg0
 z0:=Tryz.sizeOf0
 v0:=Tryz.zeroValue0
 t4:=Tryz.underlying4
 a4:=Tryz.isAgg4
 z4:=Tryz.sizeOf4
 v4:=Tryz.zeroValue4
 t23:=Tryz.underlying60
 a23:=Tryz.isAgg60
 z23:=Tryz.sizeOf60
 v23:=Tryz.zeroValue60
 t26:=Tryz.underlying9
 a26:=Tryz.isAgg9
 z26:=Tryz.sizeOf9
 v26:=Tryz.zeroValue9
 t27:=Tryz.underlying309
 a27:=Tryz.isAgg309
 z27:=Tryz.sizeOf309
 v27:=Tryz.zeroValue309
 t28:=Tryz.underlying310
 a28:=Tryz.isAgg310
 z28:=Tryz.sizeOf310
 v28:=Tryz.zeroValue310
 t33:=Tryz.underlying103
 a33:=Tryz.isAgg103
 z33:=Tryz.sizeOf103
 v33:=Tryz.zeroValue103}
def qn:Go.Shelf.Ren:=⟨fun|6=>263|8=>311|9=>312|11=>338|13=>206|12=>339|23=>241|24=>242|14=>355|15=>356|16=>357|17=>358|18=>359|19=>360|20=>361|21=>362|22=>363|25=>369|26=>288|27=>289|28=>370|29=>371|30=>372|31=>374|n=>n,fun|26=>9|28=>310|24=>22|0=>0|3=>3|37=>246|48=>283|50=>285|4=>4|40=>277|39=>276|45=>160|5=>5|9=>9|51=>323|55=>327|57=>362|58=>363|33=>103|n=>n,fun|n=>n⟩
theorem Mu:Go.Proofs.SlLaysZ.n6 Tryz.prog qn:={
 mixed:=by kernel_rfl
 f6:=⟨Tryz.f263.name,by decide,Tryz.func263.trans (Az some (by kernel_rfl))⟩
 f8:=⟨Tryz.f311.name,by decide,Tryz.func311.trans (Az some (by kernel_rfl))⟩
 f11:=⟨Tryz.f338.name,by decide,Tryz.func338.trans (Az some (by kernel_rfl))⟩
 t0:=Tryz.underlying0
 a0:=Tryz.isAgg0
 z0:=Tryz.sizeOf0
 v0:=Tryz.zeroValue0
 t24:=Tryz.underlying22
 a24:=Tryz.isAgg22
 z24:=Tryz.sizeOf22
 v24:=Tryz.zeroValue22
 t26:=Tryz.underlying9
 a26:=Tryz.isAgg9
 z26:=Tryz.sizeOf9
 v26:=Tryz.zeroValue9
 t28:=Tryz.underlying310
 a28:=Tryz.isAgg310
 z28:=Tryz.sizeOf310
 v28:=Tryz.zeroValue310
 i26:=by kernel_rfl}
def Nl:Go.Shelf.Ren:=⟨fun|6=>312|8=>206|9=>339|19=>241|20=>242|21=>355|22=>356|23=>357|24=>358|25=>359|26=>360|27=>361|28=>362|29=>363|36=>369|31=>288|32=>289|37=>370|38=>371|39=>372|41=>374|n=>n,fun|27=>22|29=>9|3=>3|32=>246|26=>22|0=>0|44=>283|46=>285|4=>4|36=>277|35=>276|41=>160|5=>5|9=>9|53=>323|57=>327|63=>362|64=>363|n=>n,fun|n=>n⟩
theorem Ex:Go.Proofs.SlLaysM.n6 Tryz.prog Nl:={
 mixed:=by kernel_rfl
 f6:=⟨Tryz.f312.name,by decide,Tryz.func312.trans (Az some (by kernel_rfl))⟩
 f8:=Tryz.func206.trans (Az some (by kernel_rfl))
 f9:=⟨Tryz.f339.name,by decide,Tryz.func339.trans (Az some (by kernel_rfl))⟩
 f19:=Tryz.func241.trans (Az some (by kernel_rfl))
 f20:=Tryz.func242.trans (Az some (by kernel_rfl))
 f21:=⟨Tryz.f355.name,by decide,Tryz.func355.trans (Az some (by kernel_rfl))⟩
 f22:=⟨Tryz.f356.name,by decide,Tryz.func356.trans (Az some (by kernel_rfl))⟩
 f23:=⟨Tryz.f357.name,by decide,Tryz.func357.trans (Az some (by kernel_rfl))⟩
 f24:=⟨Tryz.f358.name,by decide,Tryz.func358.trans (Az some (by kernel_rfl))⟩
 f25:=⟨Tryz.f359.name,by decide,Tryz.func359.trans (Az some (by kernel_rfl))⟩
 f26:=⟨Tryz.f360.name,by decide,Tryz.func360.trans (Az some (by kernel_rfl))⟩
 f27:=⟨Tryz.f361.name,by decide,Tryz.func361.trans (Az some (by kernel_rfl))⟩
 f28:=⟨Tryz.f362.name,by decide,Tryz.func362.trans (Az some (by kernel_rfl))⟩
 f29:=⟨Tryz.f363.name,by decide,Tryz.func363.trans (Az some (by kernel_rfl))⟩
 f31:=Tryz.func288.trans (Az some (by kernel_rfl))
 f32:=Tryz.func289.trans (Az some (by kernel_rfl))
 f36:=⟨Tryz.f369.name,by decide,Tryz.func369.trans (Az some (by kernel_rfl))⟩
 f37:=⟨Tryz.f370.name,by decide,Tryz.func370.trans (Az some (by kernel_rfl))⟩
 f38:=⟨Tryz.f371.name,by decide,Tryz.func371.trans (Az some (by kernel_rfl))⟩
 f39:=⟨Tryz.f372.name,by decide,Tryz.func372.trans (Az some (by kernel_rfl))⟩
 f41:=⟨Tryz.f374.name,by decide,Tryz.func374.trans (Az some (by kernel_rfl))⟩
 t0:=Tryz.underlying0
 a0:=Tryz.isAgg0
 z0:=Tryz.sizeOf0
 v0:=Tryz.zeroValue0
 t3:=Tryz.underlying3
 a3:=Tryz.isAgg3
 z3:=Tryz.sizeOf3
 v3:=Tryz.zeroValue3
 t4:=Tryz.underlying4
 a4:=Tryz.isAgg4
 z4:=Tryz.sizeOf4
 v4:=Tryz.zeroValue4
 t5:=Tryz.underlying5
 a5:=Tryz.isAgg5
 z5:=Tryz.sizeOf5
 v5:=Tryz.zeroValue5
 t9:=Tryz.underlying9
 a9:=Tryz.isAgg9
 z9:=Tryz.sizeOf9
 v9:=Tryz.zeroValue9
 t26:=Tryz.underlying22
 a26:=Tryz.isAgg22
 z26:=Tryz.sizeOf22
 v26:=Tryz.zeroValue22
 t27:=Tryz.underlying22
 a27:=Tryz.isAgg22
 z27:=Tryz.sizeOf22
 v27:=Tryz.zeroValue22
 t29:=Tryz.underlying9
 a29:=Tryz.isAgg9
 z29:=Tryz.sizeOf9
 v29:=Tryz.zeroValue9
 t32:=Tryz.underlying246
 a32:=Tryz.isAgg246
 z32:=Tryz.sizeOf246
 v32:=Tryz.zeroValue246
 t35:=Tryz.underlying276
 a35:=Tryz.isAgg276
 z35:=Tryz.sizeOf276
 v35:=Tryz.zeroValue276
 t36:=Tryz.underlying277
 a36:=Tryz.isAgg277
 z36:=Tryz.sizeOf277
 v36:=Tryz.zeroValue277
 t41:=Tryz.underlying160
 a41:=Tryz.isAgg160
 z41:=Tryz.sizeOf160
 v41:=Tryz.zeroValue160
 t44:=Tryz.underlying283
 a44:=Tryz.isAgg283
 z44:=Tryz.sizeOf283
 v44:=Tryz.zeroValue283
 t46:=Tryz.underlying285
 a46:=Tryz.isAgg285
 z46:=Tryz.sizeOf285
 v46:=Tryz.zeroValue285
 t53:=Tryz.underlying323
 a53:=Tryz.isAgg323
 z53:=Tryz.sizeOf323
 v53:=Tryz.zeroValue323
 t57:=Tryz.underlying327
 a57:=Tryz.isAgg327
 z57:=Tryz.sizeOf327
 v57:=Tryz.zeroValue327
 t63:=Tryz.underlying362
 a63:=Tryz.isAgg362
 z63:=Tryz.sizeOf362
 v63:=Tryz.zeroValue362
 t64:=Tryz.underlying363
 a64:=Tryz.isAgg363
 z64:=Tryz.sizeOf363
 v64:=Tryz.zeroValue363}
end Go.Proofs
namespace Go.Proofs
open Go.RowKit Go.Maps Go.Sort Go.Shelf
-- maps.Keys[map[string]int,string,int] (function 101; its iterator 140) · slices.Sorted[string] (100) · slices.Sort[[]string,string] (139) · the map's type 135, the keys' 9
theorem Mw (m:Nat):AnyZ.SortsIn Tryz.prog qn Fence.wide m:=
  ⟨fun aK off cap ss W hH hblk hsz=>callsIn_wide.2 (AnyM.slices_Sort_string Ex aK off cap ss W hH hblk hsz),
   fun p cap W=>callsIn_wide.2 (AnyM.slices_Sort_string_none Ex p cap W)⟩
theorem Nj (mb:Option Nat) (W:World):CallsIn Fence.wide 5 Tryz.prog 264 #[.map mb] W fun e w'=>e= .returned (.func (.func 313) #[] #[.pointer (some ⟨W.heap.size,0,none⟩)])/\w'=W.alloc (.cells #[.map mb] 60):=
 AnyZ.keys_in Ew Fence.wide 5 trivial rfl mb W
set_option maxHeartbeats 1000000 in
theorem wJ {H:Type} (b nn:Nat) (D0:DataW H) (R:Value->Option (DataW H×List MemPlace)) (w:World) (hown:w.ownsMap Tryz.prog 9 R b nn D0) (hmax:Maps.size D0<=maxLen) (hbytes:Maps.size D0*16<=140737488355328):
  CallsIn Fence.wide 5 Tryz.prog 263 #[.func (.func 313) #[] #[.pointer (some ⟨w.heap.size,0,none⟩)]] (w.alloc (.cells #[.map (some b)] 60)) fun e w'=>∃(v:Value) (ss:List (List UInt8)),e= .returned v/\ss.Perm (strKeys D0)/\
   w'.ownsRow (w.alloc (.cells #[.map (some b)] 60)).heap.size 9 1 v ss.length ((ss.mergeSort (fun x y=>decide (x<=y))).map encStr)/\(v= .slice none 0 0↔ss=[])/\Below (w.alloc (.cells #[.map (some b)] 60)).heap.size (w.alloc (.cells #[.map (some b)] 60)) w':=by
 have hbl:=hown.lt;have hseq:SeqGives Fence.wide 2 Tryz.prog 313 #[.pointer (some ⟨w.heap.size,0,none⟩)] encStr (fun ss=>ss.Perm (strKeys D0)) (Maps.size D0) (w.alloc (.cells #[.map (some b)] 60)):=
  AnyZ.keys_gives (ρ:=qp) {Ew with} Fence.wide _ trivial rfl (by omega) w.heap.size b nn D0 _ (by simp) (by simp) (by
   obtain⟨es,clock,hb,Ft,hs,hD⟩:=hown;exact⟨es,clock,(Below.heap_alloc _ _ b hbl).trans hb,Ft,hs,hD⟩)
 exact AnyZ.sorted_in Mu Fence.wide 5 trivial trivial trivial trivial rfl (by omega) (Mw _) (enters_of Tryz.func312 (by kernel_rfl) rfl) 313 #[.pointer (some ⟨w.heap.size,0,none⟩)] trivial (enters_of Tryz.func313 (by kernel_rfl) rfl) _ _ hmax hbytes _ hseq
-- THE CALLER's WALK over 'slices.Sorted(maps.Keys(m))' (inside '(callsIn_wide (n := 6)).1'; 'have hfK : Fence.wide.fn 264 := trivial', 'have hfS : Fence.wide.fn 263 := trivial' ahead): THE TWO ARMS TO PASTE:
--   gi_wp2_with (first
--     | (gi_at_call 264; refine (Nj _ _).mono ?_; rintro e w' ⟨rfl, rfl⟩)
--     | (gi_at_call 263; refine (wJ b nn D0 R w hown hmax hbytes).mono ?_; rintro e w' ⟨v, ss, rfl, hS, hrow, hnil, hb⟩))
-- maps.Keys[map[biscotti/api.qy]int,biscotti/api.qy,int]: its keys are of no string's kind: not laid by this program
end Go.Proofs
namespace Go.Proofs
open Go Go.Am Go.RowKit Go.Sy Go.Maps Go.Sort Go.Shelf Go.WideMaps
section
variable [Inhabited aL]
theorem jI:Keyed Tryz.prog 9:=string_keyed Tryz.underlying9
theorem wD (w:World):(zeroValue 3).run Tryz.prog w= .ok (.int .i64 0) w:=by kernel_rfl
theorem Kz {s:Bs} (h:s.length<=maxLen):keyOf Tryz.prog 9 (bC s)=some (.string s):=by
 have:=keyOf_string_mk (s:=⟨s.toArray⟩) Tryz.underlying9 (by simpa [ByteArray.size]using h);simpa using this
theorem rowAt.cells {w:World} {b off:Nat} {l:List aa} (h:rowAt w b off l) {i:Nat} {x:aa} (hx:l[i]? =some x):
  w.cell? ⟨b,off+i*11,none⟩=some (bC x.key.name)/\w.cell? ⟨b,off+i*11+1,none⟩=some (bC x.key.domain)/\w.cell? ⟨b,off+i*11+2,none⟩=some (bC x.key.path)/\
  w.cell? ⟨b,off+i*11+3,none⟩=some (bC x.ab.value)/\w.cell? ⟨b,off+i*11+4,none⟩=some (.bool x.ab.ay)/\w.cell? ⟨b,off+i*11+5,none⟩=some (.bool x.ab.aT)/\
  w.cell? ⟨b,off+i*11+6,none⟩=some (.bool x.ab.aD)/\w.cell? ⟨b,off+i*11+7,none⟩=some (.bool x.ab.persistent)/\w.cell? ⟨b,off+i*11+8,none⟩=some (.int .i64 x.ab.aM)/\
  w.cell? ⟨b,off+i*11+9,none⟩=some (.int .i64 x.ab.aq)/\w.cell? ⟨b,off+i*11+10,none⟩=some (.int .i64 x.ab.access):=
 ⟨h i x 0 _ hx rfl,h i x 1 _ hx rfl,h i x 2 _ hx rfl,h i x 3 _ hx rfl,h i x 4 _ hx rfl,h i x 5 _ hx rfl,h i x 6 _ hx rfl,h i x 7 _ hx rfl,h i x 8 _ hx rfl,h i x 9 _ hx rfl,h i x 10 _ hx rfl⟩
end
end Go.Proofs
namespace Go.Proofs
open Go Go.Am Go.RowKit Go.Sy Go.Maps Go.Sort Go.Shelf
section
theorem Kl {Fz:Nat->Option AO} {n:Nat} (x:aa):aG Fz (.agg x.enc) (ee n (.agg (ka x).toArray)):=by
 unfold ee;refine .agg (by simp[ka,aa.enc]) fun i c v hc hv=>?_
 have hj:i<11:=(Ao.1 hc).1;unfold aa.enc at hc;unfold ka at hv;match i,hj with
 |0,_|1,_|2,_|3,_=>cases hc;cases hv;exact .str _
 |4,_|5,_|6,_|7,_=>cases hc;cases hv;exact .bool _
 |8,_|9,_|10,_=>cases hc;cases hv;exact .int _ _
section
variable [Inhabited aL]
end
section
variable [Inhabited aL]
theorem Cu {Fz:Nat->Option AO} {n:Nat} (k:bh):aG Fz (.agg k.enc) (ee n (.agg #[bC k.name,bC k.domain,bC k.path])):=by
 unfold ee;refine .agg rfl fun i c v hc hv=>?_
 have hj:i<3:=(Ao.1 hc).1;unfold bh.enc at hc;match i,hj with
 |0,_|1,_|2,_=>cases hc;cases hv;exact .str _
end
end
section
variable [Inhabited aL]
end
end Go.Proofs
namespace Go.Proofs
open Go Go.Am Go.RowKit Go.Sy
section
variable [Inhabited aL]
end
section
variable [Inhabited aL]
def EE (x:bp) (a i:Int):Bool:=x.dev==a&&(x.inc==i&&true)
def getM (l:List bp) (a i:Int):Int:=match l.find? (fun x=>EE x a i)with|some x=>x.seq|none=>0
def tv (l:List bp) (d:bp):Bool:=oC d&&bA d.seq (getM l d.dev d.inc)
def Lw (x:bp) (a i:Int):Bool:=bif !(x.dev==a)then bj x.dev a else bj x.inc i
def Kq (a i n:Int) (s:List bp×Bool) (x:bp):List bp×Bool:=
 let s1:=bif !s.2&& !Lw x a i then(s.1++[⟨a,i,n⟩],true)else s
 bif EE x a i then s1 else(s1.1++[x],s1.2)
def fW (y:List bp×Int×Int×Int) (x:Nat):List bp×Bool:=(y.1.take x).foldl (Kq y.2.1 y.2.2.1 y.2.2.2) ([],false)
end
end Go.Proofs
