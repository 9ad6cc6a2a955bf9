/- Part 6: an evaluator, proved sound, and its use at this seat; no condition. -/
import Derived.Test.YtmfohfbdddlilaaGreatP5
set_option linter.unusedSimpArgs false
set_option linter.unusedVariables false
set_option linter.unusedSectionVars false
set_option linter.deprecated false
set_option maxRecDepth 100000
set_option maxHeartbeats 4000000
namespace Go.Proofs
open Go Go.Am Go.RowKit Go.Sy
section
variable [Inhabited aF]
def Ql:aP:={Y:=Bs,pre:=fun y=>y.length<=1000000,args:=fun y=>[.str y],res:=fun y=> .str (eJ y)}
noncomputable def sX (f:FuncId):Option aP:=bif Nat.beq f Jj then some Ql else bif Nat.beq f px then some Is else zb f
theorem uD:∀g C,sX g=some C->CO g C:=bX Pq (bX Pu Gr)
def kh (s:Bs):Bs×Int:=if 256<s.length then([],3)else if fp (eJ s)||gA (eJ s)then(eJ s,0)else([],1)
def mn (s:Bs):Bool:=bG (Int.ofNat s.length) 256&&(fp s||gA s)
def Im:aP:={Y:=Bs,pre:=fun _=>True,args:=fun y=>[.str y],res:=fun y=> .bj [.str (kh y).1,i64 (kh y).2]}
def HL:aP:={Y:=Bs,pre:=fun _=>True,args:=fun y=>[.str y],res:=fun y=> .bool (mn y)}
def kn (s:Bs):Bool:= !s.any dR&&(cr s 59).isNone&&decide (jx s=s)
def HQ:aP:={Y:=Bs,pre:=fun y=>y.length<=1000000,args:=fun y=>[.str y],res:=fun y=> .bool (kn y)}
def vp (x:eF):Bool:=kL x.cA (-1099511627776) 1099511627776&&kL x.bE 0 1099511627776&&kL x.access 0 1099511627776&&(x.persistent||x.cA==1099511627776)
def qL (x:aH):Bool:= !(x.key.name==[])&&bG (Int.ofNat x.key.name.length) 256&&kn x.key.name&&(cr x.key.name 61).isNone&&bG (Int.ofNat x.ae.value.length) 1024&&kn x.ae.value&&mn x.key.domain&&decide (x.key.path.head? =some 47)&&bG (Int.ofNat x.key.path.length) 256&&vp x.ae
def vh:aP:={Y:=aH,pre:=fun y=>y.key.name.length<=1000000/\y.ae.value.length<=1000000,args:=fun y=>[.agg y.enc],res:=fun y=> .bool (qL y)}
theorem M5 (s:Bs):(eJ s).length=s.length:=by simp[eJ]
theorem P3:CO JJ Im:=bZ (cfg:=fun y=>bU sX (dM y)) bH (fun _=>rfl) (fun _=>uD) (n:=600) (by
 intro (s:Bs) _
 (conv=>whnf)
 refine aA (fun h=>?_) fun h=>?_
 . have h:256<s.length:=by
     have h:bV 256 (Int.ofNat s.length)=true:=h;rw[cm,Ae,Aa]at h;omega
   have e:kh s=([],3):=by unfold kh;rw[if_pos h]
   (conv=>whnf)
   refine⟨by rw[e],?_⟩
   (conv=>whnf)
   refine⟨by rw[e],?_⟩
   repeat' (first|exact trivial|exact rfl|((conv=>whnf);first|(apply aA<;>intro)|apply And.intro))
 have h:¬256<s.length:=by
   have h:bV 256 (Int.ofNat s.length)=false:=h;rw[cm,Ai,Aa]at h;omega
 have hl:=M5 s
 (conv=>whnf)
 refine⟨s,?_⟩
 repeat ((conv=>whnf);first|refine⟨rfl,?_⟩|refine⟨trivial,?_⟩)
 refine⟨by show s.length<=1000000;omega,?_⟩
 (conv=>whnf)
 refine⟨eJ s,?_⟩
 repeat ((conv=>whnf);first|refine⟨rfl,?_⟩|refine⟨trivial,?_⟩)
 refine⟨by show(eJ s).length<=100000;omega,?_⟩;have bad:(fp (eJ s)||gA (eJ s))=false->kh s=([],1):=fun hn=>by unfold kh;rw[if_neg h,hn];rfl
 have good:(fp (eJ s)||gA (eJ s))=true->kh s=(eJ s,0):=fun hn=>by unfold kh;rw[if_neg h,hn];rfl
 (conv=>whnf)
 refine aA (fun hn=>?_) fun hn=>?_
 . have hn:fp (eJ s)=false:=by simpa using hn
   rw[hn,Bool.false_or]at bad good
   (conv=>whnf)
   refine⟨eJ s,?_⟩
   repeat ((conv=>whnf);first|refine⟨rfl,?_⟩|refine⟨trivial,?_⟩)
   refine⟨by show(eJ s).length<=100000;omega,?_⟩
   (conv=>whnf)
   refine aA (fun ha=>?_) fun ha=>?_
   . have e:=bad (by simpa using ha)
     (conv=>whnf)
     refine⟨by rw[e],?_⟩
     (conv=>whnf)
     refine⟨by rw[e],?_⟩
     repeat' (first|exact trivial|exact rfl|((conv=>whnf);first|(apply aA<;>intro)|apply And.intro))
   . have e:=good (by simpa using ha)
     (conv=>whnf)
     refine⟨by rw[e],?_⟩
     (conv=>whnf)
     refine⟨by rw[e],?_⟩
     repeat' (first|exact trivial|exact rfl|((conv=>whnf);first|(apply aA<;>intro)|apply And.intro))
 . have hn:fp (eJ s)=true:=by simpa using hn
   have e:=good (by rw[hn];rfl)
   (conv=>whnf)
   refine⟨by rw[e],?_⟩
   (conv=>whnf)
   refine⟨by rw[e],?_⟩
   repeat' (first|exact trivial|exact rfl|((conv=>whnf);first|(apply aA<;>intro)|apply And.intro)))
theorem OS:CO tp HL:=bZ (cfg:=fun y=>bU sX (dM y)) bH (fun _=>rfl) (fun _=>uD) (n:=600) (by
 intro (s:Bs) _
 (conv=>whnf)
 refine aA (fun h=>?_) fun h=>?_
 . have h:bG (Int.ofNat s.length) 256=true:=h;have hl:s.length<=100000:=by rw[fg,Ae,Aa]at h;omega
   (conv=>whnf)
   refine⟨s,?_⟩
   repeat ((conv=>whnf);first|refine⟨rfl,?_⟩|refine⟨trivial,?_⟩)
   refine⟨hl,?_⟩
   (conv=>whnf)
   refine aA (fun hn=>?_) fun hn=>?_
   . have hn:fp s=true:=hn
     (conv=>whnf)
     refine⟨by show true=mn s;simp only[mn,h,hn,D5,Ez],?_⟩
     repeat' (first|exact trivial|exact rfl|((conv=>whnf);first|(apply aA<;>intro)|apply And.intro))
   . have hn:fp s=false:=hn
     (conv=>whnf)
     refine⟨s,?_⟩
     repeat ((conv=>whnf);first|refine⟨rfl,?_⟩|refine⟨trivial,?_⟩)
     refine⟨hl,?_⟩
     (conv=>whnf)
     refine⟨by show gA s=mn s;simp only[mn,h,hn,Bool.false_or,Bn],?_⟩
     repeat' (first|exact trivial|exact rfl|((conv=>whnf);first|(apply aA<;>intro)|apply And.intro))
 . have h:bG (Int.ofNat s.length) 256=false:=h
   (conv=>whnf)
   refine⟨by show false=mn s;simp only[mn,h,Bc],?_⟩
   repeat' (first|exact trivial|exact rfl|((conv=>whnf);first|(apply aA<;>intro)|apply And.intro)))
theorem N6:CO JA HQ:=bZ (cfg:=fun y=>bU sX (dM y)) bH (fun _=>rfl) (fun _=>uD) (n:=600) (by
 intro (s:Bs) (hs:s.length<=1000000)
 (conv=>whnf)
 refine⟨s,?_⟩
 repeat ((conv=>whnf);first|refine⟨rfl,?_⟩|refine⟨trivial,?_⟩)
 refine⟨hs,?_⟩
 (conv=>whnf)
 refine aA (fun h=>?_) fun h=>?_
 . have h:s.any dR=false:=by
     have h:(!s.any dR)=true:=h
     cases e:s.any dR with
     |false=>rfl
     |true=>rw[e]at h;cases h
   (conv=>whnf)
   refine⟨(s,59),?_⟩
   repeat ((conv=>whnf);first|refine⟨rfl,?_⟩|refine⟨trivial,?_⟩)
   refine⟨hs,?_⟩;have hf:bV (gI s 59) 0=(cr s 59).isNone:=by
     rcases xG s 59 with⟨i,h1,h2,h3⟩|⟨h1,h2⟩
     . rw[h1,h2,cm,Bu];rfl;omega
     . rw[h1,h2];rfl
   (conv=>whnf)
   refine aA (fun h2=>?_) fun h2=>?_
   . have h2:(cr s 59).isNone=true:=by rw[<-hf];exact h2
     (conv=>whnf)
     refine⟨s,?_⟩
     repeat ((conv=>whnf);first|refine⟨rfl,?_⟩|refine⟨trivial,?_⟩)
     refine⟨hs,?_⟩
     (conv=>whnf)
     refine⟨?_,?_⟩
     . show(jx s==s)=kn s
       simp only[kn,h,h2,Df,Bn];rw[A4];simp
     . repeat' (first|exact trivial|exact rfl|((conv=>whnf);first|(apply aA<;>intro)|apply And.intro))
   . have h2:(cr s 59).isNone=false:=by rw[<-hf];exact h2
     (conv=>whnf)
     refine⟨by show false=kn s;simp only[kn,h2,BT,Bc],?_⟩
     repeat' (first|exact trivial|exact rfl|((conv=>whnf);first|(apply aA<;>intro)|apply And.intro))
 . have h:s.any dR=true:=by
     have h:(!s.any dR)=false:=h
     cases e:s.any dR with
     |true=>rfl
     |false=>rw[e]at h;cases h
   (conv=>whnf)
   refine⟨by show false=kn s;simp only[kn,h,BH,Bc],?_⟩
   repeat' (first|exact trivial|exact rfl|((conv=>whnf);first|(apply aA<;>intro)|apply And.intro)))
theorem uy {b:UInt8} {c:Int}:∀{s:Bs},b∈s->nB b=c\/ ∃p∈aO s c,b∈p
 | x :: s,h=>by
  simp only[aO];by_cases hx:nB x=c
  . rw[if_pos hx];rcases Aj.1 h with rfl|h
    . exact .inl hx
    . rcases uy (c:=c) h with h|⟨p,hp,hb⟩
      . exact .inl h
      . exact .inr ⟨p,An _ hp,hb⟩
  . rw[if_neg hx];have ih:b∈s->nB b=c\/ ∃p∈aO s c,b∈p:=fun h=>uy h
    cases e:aO s c with
    |nil=>exact absurd e (MV s c)
    | cons q t=>
      rw[e]at ih;rcases Aj.1 h with rfl|h
      . exact .inr ⟨b::q,Ao,Ao⟩
      . rcases ih h with h|⟨p,hp,hb⟩
        . exact .inl h
        . rcases Aj.1 hp with rfl|hp
          . exact .inr ⟨x::p,Ao,An _ hb⟩
          . exact .inr ⟨p,An _ hp,hb⟩
theorem OF {b:UInt8} (h:nB b<65\/90<nB b):iD b=b:=by
 unfold iD;unfold nB at h;simp only[Aa]at h;rw[if_neg (by omega)]
theorem xm {s:Bs} (h:∀b∈s,nB b<65\/90<nB b):eJ s=s:=by
 have e:s.map iD=s.map id:=Dc fun b hb=>OF (h b hb)
 rw[Fo]at e;exact e
theorem LJ {s:Bs} (h:fp s=true):eJ s=s:=by
 simp only[fp,Ab,AE]at h;refine xm fun b hb=>?_
 rcases uy (c:=46) hb with h1|⟨p,hp,hb⟩
 . omega
 . have h2:=h.2 p hp;simp only[eI,Ab,AE]at h2;have h3:=h2.1.1.2 b hb;simp only[gB,BL,Ab,Ae,BJ]at h3;omega
theorem Ls {s:Bs} (h:gA s=true):eJ s=s:=by
 unfold gA at h;rcases BL .. ▸h with h|h
 . simp only[fi,Ab,AE]at h;refine xm fun b hb=>?_
   rcases uy (c:=46) hb with h1|⟨p,hp,hb⟩
   . omega
   . have h2:=h.2 p hp;simp only[gf,Ab,Ae]at h2;have h3:=ue (s:=p) (by omega) b hb;simp only[cX,Ab,Ae]at h3;omega
 . simp only[eT,Ab,AE,Ae,BJ]at h;obtain⟨⟨⟨⟨h1,h2⟩,h3⟩,h4⟩,h5⟩:=h
   cases s with
   |nil=>simp at h1
   | cons x s=>
     simp only[ER,AL]at h3;subst h3;rcases List.eq_nil_or_concat s with rfl|⟨t,z,rfl⟩
     . simp at h1
     . have hz:z=93:=by
         rw[show(91::t.concat z:Bs)=(91::t)++[z] by simp,List.getLast?_concat]at h4;simpa using h4
       subst hz;have e:((91::t.concat 93:Bs).drop 1).take ((91::t.concat 93:Bs).length - 2)=t:=by simp[Fk]
       rw[e]at h5;refine xm fun b hb=>?_
       simp only[Aj,Fk,Ba,BX,DT]at hb;rcases hb with rfl|hb|rfl
       . right;decide
       . have h6:=h5 b hb;simp only[cJ,BL,Ab,Ae,BJ]at h6;omega
       . right;decide
theorem MI (s:Bs):(decide ((kh s).2=0)&&decide ((kh s).1=s))=mn s:=by
 rw[A4];unfold kh mn;simp only[Ab,Ae,fg,Aa];by_cases h:256<s.length
 . rw[if_pos h];simp;omega
 . rw[if_neg h];constructor
   . intro hh;split at hh
     . rename_i hn;have e:eJ s=s:=hh.2;rw[e]at hn;exact⟨by omega,hn⟩
     . simp at hh
   . rintro⟨_,hn⟩;have e:eJ s=s:=by
       rcases BL .. ▸hn with hn|hn
       . exact LJ hn
       . exact Ls hn
     rw[e,if_pos hn];exact⟨rfl,rfl⟩
noncomputable def vQ (f:FuncId):Option aP:=bif Nat.beq f JJ then some Im else bif Nat.beq f tp then some HL else bif Nat.beq f JA then some HQ else sX f
theorem x6:∀g C,vQ g=some C->CO g C:=bX P3 (bX OS (bX N6 uD))
def yS (x:aH):Bool:= !(x.key.name==[])&&iK x.key.name 256 [59,61]&&iK x.ae.value 1024 [59]&&((kh x.key.domain).2==0)&&((kh x.key.domain).1==x.key.domain)&&decide (x.key.path.head? =some 47)&&bG (Int.ofNat x.key.path.length) 256&&vp x.ae
theorem MN (x:aH):yS x=qL x:=by
 have h1:∀(s:Bs) (m:Int),iK s m [59]=(bG (Int.ofNat s.length) m&&kn s):=fun s m=>by
  unfold iK kn;rw[A4];simp[nB];grind
 have h2:iK x.key.name 256 [59,61]=(bG (Int.ofNat x.key.name.length) 256&&kn x.key.name&&(cr x.key.name 61).isNone):=by
  unfold iK kn;rw[A4];simp[nB];grind
 have h3:=MI x.key.domain;unfold yS qL;rw[h1,h2,<-h3];rw[A4];simp;grind
theorem JY (b:UInt8):b=47↔(b.toNat:Int)=47:=by
 constructor
 . rintro rfl;rfl
 . intro h;exact El.1 (by rw[show(47:UInt8).toNat=47 from rfl];omega)
theorem N7:CO tw vh:=bZ (cfg:=fun y=>bU vQ (dM y)) bH (fun _=>rfl) (fun _=>x6) (n:=800) (by
 rintro⟨⟨n,d,p⟩,v,b1,b2,b3,b4,e,c,a⟩ ⟨(hn:n.length<=1000000),(hv:v.length<=1000000)⟩;rcases p with _|⟨p0,p⟩
 all_goals
  (conv=>whnf)
  refine⟨d,?_⟩
  repeat ((conv=>whnf);first|refine⟨rfl,?_⟩|refine⟨trivial,?_⟩)
  (conv=>whnf)
  refine⟨(e, -1099511627776,1099511627776),?_⟩
  repeat' (first|exact trivial|(with_reducible exact rfl)|((conv=>whnf);first|(apply aA<;>intro)|apply And.intro)|((conv=>whnf);refine⟨(c,0,1099511627776),?_⟩;(conv=>whnf);refine⟨rfl,?_⟩)|((conv=>whnf);refine⟨(a,0,1099511627776),?_⟩;(conv=>whnf);refine⟨rfl,?_⟩)|((conv=>whnf);refine⟨(n,256,[59,61]),?_⟩;(conv=>whnf);refine⟨rfl,?_⟩)|((conv=>whnf);refine⟨(v,1024,[59]),?_⟩;(conv=>whnf);refine⟨rfl,?_⟩))
 all_goals first|exact hn|exact hv|exact rfl|(show(2:Nat)<=100;decide)|(show(1:Nat)<=100;decide)|skip
 all_goals (rw[<-MN])
 all_goals (simp_all[yS,vp,JY]))
end
section
variable [Inhabited aF]
theorem O3 (s:Bs) (c:Int):bG 0 (gI s c)= !(cr s c).isNone:=by
 rcases xG s c with⟨i,h1,h2,h3⟩|⟨h1,h2⟩
 . rw[h1,h2,fg,BD (by omega)];rfl
 . rw[h1,h2];rfl
theorem PX (a b:Int):bV a b= !bG b a:=by
 rw[cm,fg,A4,Ae,AI,Ai];omega
theorem N8:CO Jz vh:=bZ (cfg:=fun y=>bU vQ (dM y)) bH (fun _=>rfl) (fun _=>x6) (n:=800) (by
 rintro⟨⟨n,d,p⟩,v,b1,b2,b3,b4,e,c,a⟩ ⟨(hn:n.length<=1000000),(hv:v.length<=1000000)⟩;rcases p with _|⟨p0,p⟩
 all_goals
  repeat' (first|exact trivial|(with_reducible exact rfl)|((conv=>whnf);first|(apply aA<;>intro)|apply And.intro)|((conv=>whnf);refine⟨n,?_⟩;(conv=>whnf);refine⟨rfl,?_⟩)|((conv=>whnf);refine⟨v,?_⟩;(conv=>whnf);refine⟨rfl,?_⟩)|((conv=>whnf);refine⟨d,?_⟩;(conv=>whnf);refine⟨rfl,?_⟩)|((conv=>whnf);refine⟨(n,61),?_⟩;(conv=>whnf);refine⟨rfl,?_⟩))
 all_goals first|exact hn|exact hv|exact rfl|skip
 all_goals (simp only[qL,vp,kL])
 all_goals (simp_all[PX,O3,JY,Ea])
 all_goals trace_state)
end
end Go.Proofs
