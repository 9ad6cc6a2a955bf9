/- Part 8: an evaluator, proved sound, and its use at this seat; no condition. -/
import Derived.Test.YtmfohfbdddlilaaGreatP7
set_option linter.unusedSimpArgs false
set_option linter.unusedVariables false
set_option linter.unusedSectionVars false
set_option linter.deprecated false
set_option maxRecDepth 100000
set_option maxHeartbeats 4000000
namespace Go.Proofs
open Go Go.Am Go.RowKit Go.Sy
section
variable [Inhabited aD]
def Np:aP:={Y:=Bs,pre:=fun y=>y.length<=1000000,args:=fun y=>[.str y],res:=fun y=> .str (dW y)}
noncomputable def xW (f:FuncId):Option aP:=bif Nat.beq f rS then some Np else bif Nat.beq f oW then some Gh else xP f
theorem Ck:∀g C,xW g=some C->CO g C:=cW N0 (cW N3 CE)
def jV (s:Bs):Bs×Int:=if 256<s.length then([],3)else if fO (dW s)||jc (dW s)then(dW s,0)else([],1)
def xy (s:Bs):Bool:=bZ (Int.ofNat s.length) 256&&(fO s||jc s)
def Gd:aP:={Y:=Bs,pre:=fun _=>True,args:=fun y=>[.str y],res:=fun y=> .bB [.str (jV y).1,i64 (jV y).2]}
def pZ (s:Bs):Bool:= !s.any fy&&(cf s 59).isNone&&decide (lZ s=s)
def xi (x:dP):Bool:=mG x.aW (-1099511627776) 1099511627776&&mG x.aG 0 1099511627776&&mG x.access 0 1099511627776&&(x.persistent||x.aW==1099511627776)
def ui (x:aa):Bool:= !(x.key.name==[])&&bZ (Int.ofNat x.key.name.length) 256&&pZ x.key.name&&(cf x.key.name 61).isNone&&bZ (Int.ofNat x.ab.value.length) 1024&&pZ x.ab.value&&xy x.key.domain&&decide (x.key.path.head? =some 47)&&bZ (Int.ofNat x.key.path.length) 256&&xi x.ab
def FK:aP:={Y:=aa,pre:=fun y=>y.key.name.length<=1000000/\y.ab.value.length<=1000000,args:=fun y=>[.agg y.enc],res:=fun y=> .bool (ui y)}
theorem Kk (s:Bs):(dW s).length=s.length:=by simp[dW]
theorem NT:CO sb Gd:=cZ (cfg:=fun y=>eK xW (eD y)) ch (fun _=>rfl) (fun _=>Ck) (n:=600) (by
 intro (s:Bs) _
 (conv=>whnf)
 refine bN (fun h=>?_) fun h=>?_
 . have h:256<s.length:=by
     have h:cH 256 (Int.ofNat s.length)=true:=h;rw[dY,Ah,Ak]at h;omega
   have e:jV s=([],3):=by unfold jV;rw[if_pos h]
   (conv=>whnf)
   refine⟨by rw[e],?_⟩
   (conv=>whnf)
   refine⟨by rw[e],?_⟩
   repeat' (first|exact trivial|exact rfl|((conv=>whnf);first|(apply bN<;>intro)|apply And.intro))
 have h:¬256<s.length:=by
   have h:cH 256 (Int.ofNat s.length)=false:=h;rw[dY,Ao,Ak]at h;omega
 have hl:=Kk s
 (conv=>whnf)
 refine⟨s,?_⟩
 repeat ((conv=>whnf);first|refine⟨rfl,?_⟩|refine⟨trivial,?_⟩)
 refine⟨by show s.length<=1000000;omega,?_⟩
 (conv=>whnf)
 refine⟨dW s,?_⟩
 repeat ((conv=>whnf);first|refine⟨rfl,?_⟩|refine⟨trivial,?_⟩)
 refine⟨by show(dW s).length<=100000;omega,?_⟩;have bad:(fO (dW s)||jc (dW s))=false->jV s=([],1):=fun hn=>by unfold jV;rw[if_neg h,hn];rfl
 have good:(fO (dW s)||jc (dW s))=true->jV s=(dW s,0):=fun hn=>by unfold jV;rw[if_neg h,hn];rfl
 (conv=>whnf)
 refine bN (fun hn=>?_) fun hn=>?_
 . have hn:fO (dW s)=false:=by simpa using hn
   rw[hn,Bool.false_or]at bad good
   (conv=>whnf)
   refine⟨dW s,?_⟩
   repeat ((conv=>whnf);first|refine⟨rfl,?_⟩|refine⟨trivial,?_⟩)
   refine⟨by show(dW s).length<=100000;omega,?_⟩
   (conv=>whnf)
   refine bN (fun ha=>?_) fun ha=>?_
   . have e:=bad (by simpa using ha)
     (conv=>whnf)
     refine⟨by rw[e],?_⟩
     (conv=>whnf)
     refine⟨by rw[e],?_⟩
     repeat' (first|exact trivial|exact rfl|((conv=>whnf);first|(apply bN<;>intro)|apply And.intro))
   . have e:=good (by simpa using ha)
     (conv=>whnf)
     refine⟨by rw[e],?_⟩
     (conv=>whnf)
     refine⟨by rw[e],?_⟩
     repeat' (first|exact trivial|exact rfl|((conv=>whnf);first|(apply bN<;>intro)|apply And.intro))
 . have hn:fO (dW s)=true:=by simpa using hn
   have e:=good (by rw[hn];rfl)
   (conv=>whnf)
   refine⟨by rw[e],?_⟩
   (conv=>whnf)
   refine⟨by rw[e],?_⟩
   repeat' (first|exact trivial|exact rfl|((conv=>whnf);first|(apply bN<;>intro)|apply And.intro)))
theorem tb {b:UInt8} {c:Int}:∀{s:Bs},b∈s->nB b=c\/ ∃p∈bq s c,b∈p
 | x :: s,h=>by
  simp only[bq];by_cases hx:nB x=c
  . rw[if_pos hx];rcases Ag.1 h with rfl|h
    . exact .inl hx
    . rcases tb (c:=c) h with h|⟨p,hp,hb⟩
      . exact .inl h
      . exact .inr ⟨p,Al _ hp,hb⟩
  . rw[if_neg hx];have ih:b∈s->nB b=c\/ ∃p∈bq s c,b∈p:=fun h=>tb h
    cases e:bq s c with
    |nil=>exact absurd e (K8 s c)
    | cons q t=>
      rw[e]at ih;rcases Ag.1 h with rfl|h
      . exact .inr ⟨b::q,An,An⟩
      . rcases ih h with h|⟨p,hp,hb⟩
        . exact .inl h
        . rcases Ag.1 hp with rfl|hp
          . exact .inr ⟨x::p,An,Al _ hb⟩
          . exact .inr ⟨p,Al _ hp,hb⟩
theorem MM {b:UInt8} (h:nB b<65\/90<nB b):gW b=b:=by
 unfold gW;unfold nB at h;simp only[Ak]at h;rw[if_neg (by omega)]
theorem vS {s:Bs} (h:∀b∈s,nB b<65\/90<nB b):dW s=s:=by
 have e:s.map gW=s.map id:=B9 fun b hb=>MM (h b hb)
 rw[Fa]at e;exact e
theorem Kf {s:Bs} (h:fO s=true):dW s=s:=by
 simp only[fO,Ab,AA]at h;refine vS fun b hb=>?_
 rcases tb (c:=46) hb with h1|⟨p,hp,hb⟩
 . omega
 . have h2:=h.2 p hp;simp only[fF,Ab,AA]at h2;have h3:=h2.1.1.2 b hb;simp only[qc,BF,Ab,Ah,B6]at h3;omega
theorem Jn {s:Bs} (h:jc s=true):dW s=s:=by
 unfold jc at h;rcases BF .. ▸h with h|h
 . simp only[gO,Ab,AA]at h;refine vS fun b hb=>?_
   rcases tb (c:=46) hb with h1|⟨p,hp,hb⟩
   . omega
   . have h2:=h.2 p hp;simp only[jd,Ab,Ah]at h2;have h3:=zF (s:=p) (by omega) b hb;simp only[eP,Ab,Ah]at h3;omega
 . simp only[fC,Ab,AA,Ah,B6]at h;obtain⟨⟨⟨⟨h1,h2⟩,h3⟩,h4⟩,h5⟩:=h
   cases s with
   |nil=>simp at h1
   | cons x s=>
     simp only[List.head?_cons,AI]at h3;subst h3;rcases List.eq_nil_or_concat s with rfl|⟨t,z,rfl⟩
     . simp at h1
     . have hz:z=93:=by
         rw[show(91::t.concat z:Bs)=(91::t)++[z] by simp,List.getLast?_concat]at h4;simpa using h4
       subst hz;have e:((91::t.concat 93:Bs).drop 1).take ((91::t.concat 93:Bs).length - 2)=t:=by simp[E6]
       rw[e]at h5;refine vS fun b hb=>?_
       simp only[Ag,E6,Bc,BT,DQ]at hb;rcases hb with rfl|hb|rfl
       . right;decide
       . have h6:=h5 b hb;simp only[ed,BF,Ab,Ah,B6]at h6;omega
       . right;decide
theorem KF (s:Bs):(decide ((jV s).2=0)&&decide ((jV s).1=s))=xy s:=by
 rw[Bh];unfold jV xy;simp only[Ab,Ah,gT,Ak];by_cases h:256<s.length
 . rw[if_pos h];simp;omega
 . rw[if_neg h];constructor
   . intro hh;split at hh
     . rename_i hn;have e:dW s=s:=hh.2;rw[e]at hn;exact⟨by omega,hn⟩
     . simp at hh
   . rintro⟨_,hn⟩;have e:dW s=s:=by
       rcases BF .. ▸hn with hn|hn
       . exact Kf hn
       . exact Jn hn
     rw[e,if_pos hn];exact⟨rfl,rfl⟩
noncomputable def xX (f:FuncId):Option aP:=bif Nat.beq f sb then some Gd else xW f
theorem Cl:∀g C,xX g=some C->CO g C:=cW NT Ck
def xz (x:aa):Bool:= !(x.key.name==[])&&ib x.key.name 256 [59,61]&&ib x.ab.value 1024 [59]&&((jV x.key.domain).2==0)&&((jV x.key.domain).1==x.key.domain)&&decide (x.key.path.head? =some 47)&&bZ (Int.ofNat x.key.path.length) 256&&xi x.ab
theorem KY (x:aa):xz x=ui x:=by
 have h1:∀(s:Bs) (m:Int),ib s m [59]=(bZ (Int.ofNat s.length) m&&pZ s):=fun s m=>by
  unfold ib pZ;rw[Bh];simp[nB];grind
 have h2:ib x.key.name 256 [59,61]=(bZ (Int.ofNat x.key.name.length) 256&&pZ x.key.name&&(cf x.key.name 61).isNone):=by
  unfold ib pZ;rw[Bh];simp[nB];grind
 have h3:=KF x.key.domain;unfold xz ui;rw[h1,h2,<-h3];rw[Bh];simp;grind
theorem QM (b:UInt8):b=47↔(b.toNat:Int)=47:=by
 constructor
 . rintro rfl;rfl
 . intro h;exact Ee.1 (by rw[show(47:UInt8).toNat=47 from rfl];omega)
theorem Mb:CO rQ FK:=cZ (cfg:=fun y=>eK xX (eD y)) ch (fun _=>rfl) (fun _=>Cl) (n:=800) (by
 rintro⟨⟨n,d,p⟩,v,b1,b2,b3,b4,e,c,a⟩ ⟨(hn:n.length<=1000000),(hv:v.length<=1000000)⟩;rcases p with _|⟨p0,p⟩
 all_goals
  (conv=>whnf)
  refine⟨d,?_⟩
  repeat ((conv=>whnf);first|refine⟨rfl,?_⟩|refine⟨trivial,?_⟩)
  (conv=>whnf)
  refine⟨(e, -1099511627776,1099511627776),?_⟩
  repeat' (first|exact trivial|(with_reducible exact rfl)|((conv=>whnf);first|(apply bN<;>intro)|apply And.intro)|((conv=>whnf);refine⟨(c,0,1099511627776),?_⟩;(conv=>whnf);refine⟨rfl,?_⟩)|((conv=>whnf);refine⟨(a,0,1099511627776),?_⟩;(conv=>whnf);refine⟨rfl,?_⟩)|((conv=>whnf);refine⟨(n,256,[59,61]),?_⟩;(conv=>whnf);refine⟨rfl,?_⟩)|((conv=>whnf);refine⟨(v,1024,[59]),?_⟩;(conv=>whnf);refine⟨rfl,?_⟩))
 all_goals first|exact hn|exact hv|exact rfl|(show(2:Nat)<=100;decide)|(show(1:Nat)<=100;decide)|skip
 all_goals (rw[<-KY])
 all_goals (simp_all[xz,xi,QM]))
end
section
variable [Inhabited aD]
end
end Go.Proofs
