/- Part 7: an evaluator, proved sound, and its use at this seat; no condition. -/
import Derived.Test.YtggljmdeadplkaaGreatP6
set_option linter.unusedSimpArgs false
set_option linter.unusedVariables false
set_option linter.unusedSectionVars false
set_option linter.deprecated false
set_option maxRecDepth 100000
set_option maxHeartbeats 4000000
namespace Go.Proofs
open Go Go.Am Go.RowKit Go.Sy
section
variable [Inhabited aI]
def O2:aQ:={Y:=Bs,pre:=fun y=>y.length<=1000000,args:=fun y=>[.str y],res:=fun y=> .str (ep y)}
noncomputable def rX (f:FuncId):Option aQ:=bif Nat.beq f G8 then some O2 else bif Nat.beq f oT then some Gn else ye f
theorem tF:∀g C,rX g=some C->CO g C:=bU Oj (bU NB E9)
def jM (s:Bs):Bs×Int:=if 256<s.length then([],3)else if dE (ep s)||gi (ep s)then(ep s,0)else([],1)
def lS (s:Bs):Bool:=bA (Int.ofNat s.length) 256&&(dE s||gi s)
def Gk:aQ:={Y:=Bs,pre:=fun _=>True,args:=fun y=>[.str y],res:=fun y=> .bj [.str (jM y).1,i64 (jM y).2]}
def FM:aQ:={Y:=Bs,pre:=fun _=>True,args:=fun y=>[.str y],res:=fun y=> .bool (lS y)}
def jP (s:Bs):Bool:= !s.any dA&&(cu s 59).isNone&&decide (iV s=s)
def FN:aQ:={Y:=Bs,pre:=fun y=>y.length<=1000000,args:=fun y=>[.str y],res:=fun y=> .bool (jP y)}
def ug (x:db):Bool:=within x.bp (-1099511627776) 1099511627776&&within x.aG 0 1099511627776&&within x.access 0 1099511627776&&(x.persistent||x.bp==1099511627776)
def qa (x:ag):Bool:= !(x.key.name==[])&&bA (Int.ofNat x.key.name.length) 256&&jP x.key.name&&(cu x.key.name 61).isNone&&bA (Int.ofNat x.aa.value.length) 1024&&jP x.aa.value&&lS x.key.domain&&decide (x.key.path.head? =some 47)&&bA (Int.ofNat x.key.path.length) 256&&ug x.aa
def tW:aQ:={Y:=ag,pre:=fun y=>y.key.name.length<=1000000/\y.aa.value.length<=1000000,args:=fun y=>[.agg y.enc],res:=fun y=> .bool (qa y)}
theorem Kw (s:Bs):(ep s).length=s.length:=by simp[ep]
theorem N9:CO Ho Gk:=bZ (cfg:=fun y=>cC rX (cM y)) bJ (fun _=>rfl) (fun _=>tF) (n:=600) (by
 intro (s:Bs) _
 (conv=>whnf)
 refine aE (fun h=>?_) fun h=>?_
 . have h:256<s.length:=by
     have h:bO 256 (Int.ofNat s.length)=true:=h;rw[cp,Ae,Aa]at h;omega
   have e:jM s=([],3):=by unfold jM;rw[An h]
   (conv=>whnf)
   refine⟨by rw[e],?_⟩
   (conv=>whnf)
   refine⟨by rw[e],?_⟩
   repeat' (first|exact trivial|exact rfl|((conv=>whnf);first|(apply aE<;>intro)|apply And.intro))
 have h:¬256<s.length:=by
   have h:bO 256 (Int.ofNat s.length)=false:=h;rw[cp,Ag,Aa]at h;omega
 have hl:=Kw s
 (conv=>whnf)
 refine⟨s,?_⟩
 repeat ((conv=>whnf);first|refine⟨rfl,?_⟩|refine⟨trivial,?_⟩)
 refine⟨by show s.length<=1000000;omega,?_⟩
 (conv=>whnf)
 refine⟨ep s,?_⟩
 repeat ((conv=>whnf);first|refine⟨rfl,?_⟩|refine⟨trivial,?_⟩)
 refine⟨by show(ep s).length<=100000;omega,?_⟩;have bad:(dE (ep s)||gi (ep s))=false->jM s=([],1):=fun hn=>by unfold jM;rw[Ai h,hn];rfl
 have good:(dE (ep s)||gi (ep s))=true->jM s=(ep s,0):=fun hn=>by unfold jM;rw[Ai h,hn];rfl
 (conv=>whnf)
 refine aE (fun hn=>?_) fun hn=>?_
 . have hn:dE (ep s)=false:=by simpa using hn
   rw[hn,Bool.false_or]at bad good
   (conv=>whnf)
   refine⟨ep s,?_⟩
   repeat ((conv=>whnf);first|refine⟨rfl,?_⟩|refine⟨trivial,?_⟩)
   refine⟨by show(ep s).length<=100000;omega,?_⟩
   (conv=>whnf)
   refine aE (fun ha=>?_) fun ha=>?_
   . have e:=bad (by simpa using ha)
     (conv=>whnf)
     refine⟨by rw[e],?_⟩
     (conv=>whnf)
     refine⟨by rw[e],?_⟩
     repeat' (first|exact trivial|exact rfl|((conv=>whnf);first|(apply aE<;>intro)|apply And.intro))
   . have e:=good (by simpa using ha)
     (conv=>whnf)
     refine⟨by rw[e],?_⟩
     (conv=>whnf)
     refine⟨by rw[e],?_⟩
     repeat' (first|exact trivial|exact rfl|((conv=>whnf);first|(apply aE<;>intro)|apply And.intro))
 . have hn:dE (ep s)=true:=by simpa using hn
   have e:=good (by rw[hn];rfl)
   (conv=>whnf)
   refine⟨by rw[e],?_⟩
   (conv=>whnf)
   refine⟨by rw[e],?_⟩
   repeat' (first|exact trivial|exact rfl|((conv=>whnf);first|(apply aE<;>intro)|apply And.intro)))
theorem M4:CO sr FM:=bZ (cfg:=fun y=>cC rX (cM y)) bJ (fun _=>rfl) (fun _=>tF) (n:=600) (by
 intro (s:Bs) _
 (conv=>whnf)
 refine aE (fun h=>?_) fun h=>?_
 . have h:bA (Int.ofNat s.length) 256=true:=h;have hl:s.length<=100000:=by rw[eI,Ae,Aa]at h;omega
   (conv=>whnf)
   refine⟨s,?_⟩
   repeat ((conv=>whnf);first|refine⟨rfl,?_⟩|refine⟨trivial,?_⟩)
   refine⟨hl,?_⟩
   (conv=>whnf)
   refine aE (fun hn=>?_) fun hn=>?_
   . have hn:dE s=true:=hn
     (conv=>whnf)
     refine⟨by show true=lS s;simp only[lS,h,hn,DG,Bool.and_self],?_⟩
     repeat' (first|exact trivial|exact rfl|((conv=>whnf);first|(apply aE<;>intro)|apply And.intro))
   . have hn:dE s=false:=hn
     (conv=>whnf)
     refine⟨s,?_⟩
     repeat ((conv=>whnf);first|refine⟨rfl,?_⟩|refine⟨trivial,?_⟩)
     refine⟨hl,?_⟩
     (conv=>whnf)
     refine⟨by show gi s=lS s;simp only[lS,h,hn,Bool.false_or,A9],?_⟩
     repeat' (first|exact trivial|exact rfl|((conv=>whnf);first|(apply aE<;>intro)|apply And.intro))
 . have h:bA (Int.ofNat s.length) 256=false:=h
   (conv=>whnf)
   refine⟨by show false=lS s;simp only[lS,h,A4],?_⟩
   repeat' (first|exact trivial|exact rfl|((conv=>whnf);first|(apply aE<;>intro)|apply And.intro)))
theorem Mi:CO Hg FN:=bZ (cfg:=fun y=>cC rX (cM y)) bJ (fun _=>rfl) (fun _=>tF) (n:=600) (by
 intro (s:Bs) (hs:s.length<=1000000)
 (conv=>whnf)
 refine⟨s,?_⟩
 repeat ((conv=>whnf);first|refine⟨rfl,?_⟩|refine⟨trivial,?_⟩)
 refine⟨hs,?_⟩
 (conv=>whnf)
 refine aE (fun h=>?_) fun h=>?_
 . have h:s.any dA=false:=by
     have h:(!s.any dA)=true:=h
     cases e:s.any dA with
     |false=>rfl
     |true=>rw[e]at h;cases h
   (conv=>whnf)
   refine⟨(s,59),?_⟩
   repeat ((conv=>whnf);first|refine⟨rfl,?_⟩|refine⟨trivial,?_⟩)
   refine⟨hs,?_⟩;have hf:bO (gu s 59) 0=(cu s 59).isNone:=by
     rcases wH s 59 with⟨i,h1,h2,h3⟩|⟨h1,h2⟩
     . rw[h1,h2,cp,AU];rfl;omega
     . rw[h1,h2];rfl
   (conv=>whnf)
   refine aE (fun h2=>?_) fun h2=>?_
   . have h2:(cu s 59).isNone=true:=by rw[<-hf];exact h2
     (conv=>whnf)
     refine⟨s,?_⟩
     repeat ((conv=>whnf);first|refine⟨rfl,?_⟩|refine⟨trivial,?_⟩)
     refine⟨hs,?_⟩
     (conv=>whnf)
     refine⟨?_,?_⟩
     . show(iV s==s)=jP s
       simp only[jP,h,h2,Dq,A9];rw[AE];simp
     . repeat' (first|exact trivial|exact rfl|((conv=>whnf);first|(apply aE<;>intro)|apply And.intro))
   . have h2:(cu s 59).isNone=false:=by rw[<-hf];exact h2
     (conv=>whnf)
     refine⟨by show false=jP s;simp only[jP,h2,BA,A4],?_⟩
     repeat' (first|exact trivial|exact rfl|((conv=>whnf);first|(apply aE<;>intro)|apply And.intro))
 . have h:s.any dA=true:=by
     have h:(!s.any dA)=false:=h
     cases e:s.any dA with
     |true=>rfl
     |false=>rw[e]at h;cases h
   (conv=>whnf)
   refine⟨by show false=jP s;simp only[jP,h,BN,A4],?_⟩
   repeat' (first|exact trivial|exact rfl|((conv=>whnf);first|(apply aE<;>intro)|apply And.intro)))
theorem tp {b:UInt8} {c:Int}:∀{s:Bs},b∈s->nB b=c\/ ∃p∈aM s c,b∈p
 | x :: s,h=>by
  simp only[aM];by_cases hx:nB x=c
  . rw[An hx];rcases Al.1 h with rfl|h
    . exact .inl hx
    . rcases tp (c:=c) h with h|⟨p,hp,hb⟩
      . exact .inl h
      . exact .inr ⟨p,Aw _ hp,hb⟩
  . rw[Ai hx];have ih:b∈s->nB b=c\/ ∃p∈aM s c,b∈p:=fun h=>tp h
    cases e:aM s c with
    |nil=>exact absurd e (Cp s c)
    | cons q t=>
      rw[e]at ih;rcases Al.1 h with rfl|h
      . exact .inr ⟨b::q,Ap,Ap⟩
      . rcases ih h with h|⟨p,hp,hb⟩
        . exact .inl h
        . rcases Al.1 hp with rfl|hp
          . exact .inr ⟨x::p,Ap,Aw _ hb⟩
          . exact .inr ⟨p,Aw _ hp,hb⟩
theorem ML {b:UInt8} (h:nB b<65\/90<nB b):hU b=b:=by
 unfold hU;unfold nB at h;simp only[Aa]at h;rw[Ai (by omega)]
theorem wm {s:Bs} (h:∀b∈s,nB b<65\/90<nB b):ep s=s:=by
 have e:s.map hU=s.map id:=BH fun b hb=>ML (h b hb)
 rw[EP]at e;exact e
theorem J3 {s:Bs} (h:dE s=true):ep s=s:=by
 simp only[dE,Ad,Aq]at h;refine wm fun b hb=>?_
 rcases tp (c:=46) hb with h1|⟨p,hp,hb⟩
 . omega
 . have h2:=h.2 p hp;simp only[eo,Ad,Aq]at h2;have h3:=h2.1.1.2 b hb;simp only[gk,Da,Ad,Ae,BX]at h3;omega
theorem JI {s:Bs} (h:gi s=true):ep s=s:=by
 unfold gi at h;rcases Da .. ▸h with h|h
 . simp only[eP,Ad,Aq]at h;refine wm fun b hb=>?_
   rcases tp (c:=46) hb with h1|⟨p,hp,hb⟩
   . omega
   . have h2:=h.2 p hp;simp only[fN,Ad,Ae]at h2;have h3:=tu (s:=p) (by omega) b hb;simp only[cT,Ad,Ae]at h3;omega
 . simp only[eA,Ad,Aq,Ae,BX]at h;obtain⟨⟨⟨⟨h1,h2⟩,h3⟩,h4⟩,h5⟩:=h
   cases s with
   |nil=>simp at h1
   | cons x s=>
     simp only[Ek,A1]at h3;subst h3;rcases List.eq_nil_or_concat s with rfl|⟨t,z,rfl⟩
     . simp at h1
     . have hz:z=93:=by
         rw[show(91::t.concat z:Bs)=(91::t)++[z] by simp,List.getLast?_concat]at h4;simpa using h4
       subst hz;have e:((91::t.concat 93:Bs).drop 1).take ((91::t.concat 93:Bs).length - 2)=t:=by simp[EJ]
       rw[e]at h5;refine wm fun b hb=>?_
       simp only[Al,EJ,A6,BZ,DP]at hb;rcases hb with rfl|hb|rfl
       . right;decide
       . have h6:=h5 b hb;simp only[cI,Da,Ad,Ae,BX]at h6;omega
       . right;decide
theorem KW (s:Bs):(decide ((jM s).2=0)&&decide ((jM s).1=s))=lS s:=by
 rw[AE];unfold jM lS;simp only[Ad,Ae,eI,Aa];by_cases h:256<s.length
 . rw[An h];simp;omega
 . rw[Ai h];constructor
   . intro hh;split at hh
     . rename_i hn;have e:ep s=s:=hh.2;rw[e]at hn;exact⟨by omega,hn⟩
     . simp at hh
   . rintro⟨_,hn⟩;have e:ep s=s:=by
       rcases Da .. ▸hn with hn|hn
       . exact J3 hn
       . exact JI hn
     rw[e,An hn];exact⟨rfl,rfl⟩
noncomputable def uP (f:FuncId):Option aQ:=bif Nat.beq f Ho then some Gk else bif Nat.beq f sr then some FM else bif Nat.beq f Hg then some FN else rX f
theorem wM:∀g C,uP g=some C->CO g C:=bU N9 (bU M4 (bU Mi tF))
def xR (x:ag):Bool:= !(x.key.name==[])&&iq x.key.name 256 [59,61]&&iq x.aa.value 1024 [59]&&((jM x.key.domain).2==0)&&((jM x.key.domain).1==x.key.domain)&&decide (x.key.path.head? =some 47)&&bA (Int.ofNat x.key.path.length) 256&&ug x.aa
theorem K7 (x:ag):xR x=qa x:=by
 have h1:∀(s:Bs) (m:Int),iq s m [59]=(bA (Int.ofNat s.length) m&&jP s):=fun s m=>by
  unfold iq jP;rw[AE];simp[nB];grind
 have h2:iq x.key.name 256 [59,61]=(bA (Int.ofNat x.key.name.length) 256&&jP x.key.name&&(cu x.key.name 61).isNone):=by
  unfold iq jP;rw[AE];simp[nB];grind
 have h3:=KW x.key.domain;unfold xR qa;rw[h1,h2,<-h3];rw[AE];simp;grind
theorem HC (b:UInt8):b=47↔(b.toNat:Int)=47:=by
 constructor
 . rintro rfl;rfl
 . intro h;exact Ej.1 (by rw[show(47:UInt8).toNat=47 from rfl];omega)
theorem Mk:CO sB tW:=bZ (cfg:=fun y=>cC uP (cM y)) bJ (fun _=>rfl) (fun _=>wM) (n:=800) (by
 rintro⟨⟨n,d,p⟩,v,b1,b2,b3,b4,e,c,a⟩ ⟨(hn:n.length<=1000000),(hv:v.length<=1000000)⟩;rcases p with _|⟨p0,p⟩
 all_goals
  (conv=>whnf)
  refine⟨d,?_⟩
  repeat ((conv=>whnf);first|refine⟨rfl,?_⟩|refine⟨trivial,?_⟩)
  (conv=>whnf)
  refine⟨(e, -1099511627776,1099511627776),?_⟩
  repeat' (first|exact trivial|(with_reducible exact rfl)|((conv=>whnf);first|(apply aE<;>intro)|apply And.intro)|((conv=>whnf);refine⟨(c,0,1099511627776),?_⟩;(conv=>whnf);refine⟨rfl,?_⟩)|((conv=>whnf);refine⟨(a,0,1099511627776),?_⟩;(conv=>whnf);refine⟨rfl,?_⟩)|((conv=>whnf);refine⟨(n,256,[59,61]),?_⟩;(conv=>whnf);refine⟨rfl,?_⟩)|((conv=>whnf);refine⟨(v,1024,[59]),?_⟩;(conv=>whnf);refine⟨rfl,?_⟩))
 all_goals first|exact hn|exact hv|exact rfl|(show(2:Nat)<=100;decide)|(show(1:Nat)<=100;decide)|skip
 all_goals (rw[<-K7])
 all_goals (simp_all[xR,ug,HC]))
end
section
variable [Inhabited aI]
theorem Nc (s:Bs) (c:Int):bA 0 (gu s c)= !(cu s c).isNone:=by
 rcases wH s c with⟨i,h1,h2,h3⟩|⟨h1,h2⟩
 . rw[h1,h2,eI,A7 (by omega)];rfl
 . rw[h1,h2];rfl
theorem N3 (a b:Int):bO a b= !bA b a:=by
 rw[cp,eI,AE,Ae,AA,Ag];omega
theorem Ml:CO Hf tW:=bZ (cfg:=fun y=>cC uP (cM y)) bJ (fun _=>rfl) (fun _=>wM) (n:=800) (by
 rintro⟨⟨n,d,p⟩,v,b1,b2,b3,b4,e,c,a⟩ ⟨(hn:n.length<=1000000),(hv:v.length<=1000000)⟩;rcases p with _|⟨p0,p⟩
 all_goals
  repeat' (first|exact trivial|(with_reducible exact rfl)|((conv=>whnf);first|(apply aE<;>intro)|apply And.intro)|((conv=>whnf);refine⟨n,?_⟩;(conv=>whnf);refine⟨rfl,?_⟩)|((conv=>whnf);refine⟨v,?_⟩;(conv=>whnf);refine⟨rfl,?_⟩)|((conv=>whnf);refine⟨d,?_⟩;(conv=>whnf);refine⟨rfl,?_⟩)|((conv=>whnf);refine⟨(n,61),?_⟩;(conv=>whnf);refine⟨rfl,?_⟩))
 all_goals first|exact hn|exact hv|exact rfl|skip
 all_goals (simp only[qa,ug,within])
 all_goals (simp_all[N3,Nc,HC,DI])
 all_goals trace_state)
end
section
variable [Inhabited aI]
def nH (x:ag):Bool:=decide (x=xe)
def eS (e:ae):Bool:=eB e.dot&&mD e.bY&&(e.bY.dev==e.dot.dev)&&gP e.dot e.over&&(bif e.kind==2 then nH e.item&&bO 0 (Int.ofNat e.over.length)else bif e.kind==1 then qa e.item else false)
def jw (e:ae):Prop:=e.key.name.length<=1000000/\e.aa.value.length<=1000000
noncomputable def qv (f:FuncId):Option aQ:=bif Nat.beq f sB then some tW else bif Nat.beq f Hf then some tW else bif Nat.beq f pe then some (eK (fun _=>True) fun e=>gP e.dot e.over)else bif Nat.beq f o7 then some (eK (fun _=>True) gO)else bif Nat.beq f oO then some v7 else uP f
theorem rF:∀g C,qv g=some C->CO g C:=bU Mk (bU Ml (bU Nz (bU EU (bU zU wM))))
theorem C3 (x y:ag):x=y↔(x.key.name=y.key.name/\x.key.domain=y.key.domain/\x.key.path=y.key.path)/\x.aa.value=y.aa.value/\x.aa.aR=y.aa.aR/\x.aa.bG=y.aa.bG/\x.aa.aS=y.aa.aS/\x.aa.persistent=y.aa.persistent/\x.aa.bp=y.aa.bp/\x.aa.aG=y.aa.aG/\x.aa.access=y.aa.access:=by
 constructor
 . rintro rfl;simp
 . rintro⟨⟨h1,h2,h3⟩,h4⟩
   cases x;cases y;rename_i k c k' c'
   cases k;cases k';cases c;cases c';simp_all
theorem EV:CO He (eK jw eS):=bZ (C:=eK jw eS) (cfg:=fun y=>cC qv (cM y)) bJ (fun _=>rfl) (fun _=>rF) (n:=800) (by
 rintro⟨d,st,kd,ky,ck,l⟩ ⟨(hn:ky.name.length<=1000000),(hv:ck.value.length<=1000000)⟩
 (conv=>whnf)
 refine⟨d,?_⟩
 repeat' (first|exact trivial|(with_reducible exact rfl)|((conv=>whnf);first|(apply aE<;>intro)|apply And.intro)|((conv=>whnf);refine⟨st,?_⟩;(conv=>whnf);refine⟨rfl,?_⟩)|((conv=>whnf);refine⟨(⟨d,st,kd,ky,ck,l⟩:ae),?_⟩;(conv=>whnf);refine⟨rfl,?_⟩)|((conv=>whnf);refine⟨(⟨ky,ck⟩:ag),?_⟩;(conv=>whnf);refine⟨rfl,?_⟩))
 all_goals first|exact hn|exact hv|skip
 all_goals (simp only[eK,eS,nH,ae.item])
 all_goals (simp_all[C3,xe,uh])
 all_goals trace_state)
def Gi (d:ak) (l:List ak):aK:={α:=Nat,ok:=fun i=>i<=l.length/\ ∀j (h:j<l.length),j<i->il d l j h=true,μ:=fun i=>l.length - i,bn:=[1],aU:=fun i=>[(3,i64 i)],bP:=fun _=>[]}
theorem Lr:CO o8 (eK jw eS):=bZ (C:=eK jw eS) (cfg:=fun(y:ae)=>cC qv (cX o8 4 (Gi y.dot y.over))) bJ (fun _=>rfl) (fun _=>rF) (n:=800) (by
 rintro⟨d,st,kd,ky,ck,l⟩ ⟨(hkn:ky.name.length<=1000000),(hv:ck.value.length<=1000000)⟩
 (conv=>whnf)
 refine⟨d,?_⟩
 repeat ((conv=>whnf);first|refine⟨rfl,?_⟩|refine⟨trivial,?_⟩)
 (conv=>whnf)
 refine aE (fun h1=>?_) fun h1=>?_
 . (conv=>whnf)
   refine⟨?_,?_⟩
   . simp only[eK,eS,nH,ae.item];simp_all
   . repeat' (first|exact trivial|exact rfl|((conv=>whnf);first|(apply aE<;>intro)|apply And.intro))
 (conv=>whnf)
 refine⟨st,?_⟩
 repeat ((conv=>whnf);first|refine⟨rfl,?_⟩|refine⟨trivial,?_⟩)
 (conv=>whnf)
 refine aE (fun h2=>?_) fun h2=>?_
 . (conv=>whnf)
   refine⟨?_,?_⟩
   . simp only[eK,eS,nH,ae.item];simp_all
   . repeat' (first|exact trivial|exact rfl|((conv=>whnf);first|(apply aE<;>intro)|apply And.intro))
 (conv=>whnf)
 refine aE (fun h3=>?_) fun h3=>?_
 . (conv=>whnf)
   refine⟨?_,?_⟩
   . simp only[eK,eS,nH,ae.item];simp_all
   . repeat' (first|exact trivial|exact rfl|((conv=>whnf);first|(apply aE<;>intro)|apply And.intro))
 (conv=>whnf)
 refine aE (fun h4=>?_) fun h4=>?_
 . (conv=>whnf)
   refine⟨?_,?_⟩
   . have h4:64<l.length:=by
       have h4:bO 64 (Int.ofNat l.length)=true:=h4;rw[cp,Ae,Aa]at h4;omega
     have:gP d l=false:=by unfold gP;rw[AU (by omega)];rfl
     simp only[eK,eS,nH,ae.item,this,BA,A4]
   . repeat' (first|exact trivial|exact rfl|((conv=>whnf);first|(apply aE<;>intro)|apply And.intro))
 have h:l.length<=64:=by
   have h4:bO 64 (Int.ofNat l.length)=false:=h4;rw[cp,Ag,Aa]at h4;omega
 have noR:gP d l=false->false=eS ⟨d,st,kd,ky,ck,l⟩:=fun hh=>by simp only[eS,hh,BA,A4]
 have hd:eB d=true:=by simpa using h1
 have hs:mD st=true:=by
   have h2:(!mD st)=false:=h2;simpa using h2
 have he:(st.dev==d.dev)=true:=by
   have h3:(!(st.dev==d.dev))=false:=h3;simpa using h3
 have hR:gP d l=true->eS ⟨d,st,kd,ky,ck,l⟩=(bif kd==2 then nH ⟨ky,ck⟩&&bO 0 (Int.ofNat l.length)else bif kd==1 then qa ⟨ky,ck⟩else false):=fun hh=>by simp only[eS,hd,hs,he,hh,A9,ae.item]
 clear h1 h2 h3 h4
 (conv=>whnf)
 refine⟨⟨(0:Nat),⟨Ax _,fun _ _ h=>absurd h (Br _)⟩,?_⟩,?_⟩
 . repeat' (first|exact trivial|exact rfl|((conv=>whnf);first|(apply aE<;>intro)|apply And.intro))
 intro (x:Nat) hx;obtain⟨hx,hn'⟩:=hx;have hx:x<=l.length:=hx
 (conv=>whnf)
 refine aE (fun hlt=>?_) fun hge=>?_
 . have hlt':x<l.length:=cN hlt;have no:=CE (d:=d) hlt';have yes:il d l x hlt'=true->(Gi d l).ok (x+1:Nat):=fun hy=>⟨hlt',fun j hj hjx=>by
     rcases DT j x with h1|h1
     . exact hn' j hj h1
     . have e:j=x:=by omega
       subst e;exact hy⟩
   have mu:l.length - (x+1)<l.length - x:=by omega
   (conv=>whnf)
   refine aA.2 ⟨_,ee hlt',?_⟩
   (conv=>whnf)
   refine⟨l[x],?_⟩
   repeat ((conv=>whnf);first|refine⟨rfl,?_⟩|refine⟨trivial,?_⟩)
   (conv=>whnf)
   refine aE (fun h1=>?_) fun h1=>?_
   . have h1:eB l[x]=false:=by
       have h1:(!eB l[x])=true:=h1;simpa using h1
     (conv=>whnf)
     refine⟨noR (no (by simp only[il,h1,A4])),?_⟩
     repeat' (first|exact trivial|exact rfl|((conv=>whnf);first|(apply aE<;>intro)|apply And.intro))
   have h1:eB l[x]=true:=by
     have h1:(!eB l[x])=false:=h1;simpa using h1
   (conv=>whnf)
   refine ah.2 ⟨fun h2=> ?ga,fun h2=> ?gb⟩
   case' ga=>
     have hx0:0<x:=by
       have h2:bO 0 (x:Int)=true:=h2;rw[cp,Ae]at h2;omega
     have hx1:x - 1<l.length:=by omega
     have hget:l[((x:Int) - 1).toNat]? =some l[x - 1]:=by
       rw[show((x:Int) - 1).toNat=x - 1 by omega,Af hx1]
     (conv=>whnf)
     refine aq.2 ⟨by rw[gj];omega,?_⟩
     (conv=>whnf)
     refine aq.2 ⟨by rw[kO,Ae];omega,?_⟩
     (conv=>whnf)
     refine aA.2 ⟨_,hget,?_⟩
     (conv=>whnf)
     refine⟨(l[x - 1],l[x]),?_⟩
     repeat ((conv=>whnf);first|refine⟨rfl,?_⟩|refine⟨trivial,?_⟩)
     (conv=>whnf)
     refine ah.2 ⟨fun h3=> ?gc,fun h3=> ?gd⟩
     case gc=>
       have h3:bR l[x - 1] l[x]=false:=by
         have h3:(!bR l[x - 1] l[x])=true:=h3;simpa using h3
       (conv=>whnf)
       refine⟨noR (no (by simp only[il,h1,h3,AU (show ¬x=0 by omega),D4,BA,A4])),?_⟩
       repeat' (first|exact trivial|exact rfl|((conv=>whnf);first|(apply aE<;>intro)|apply And.intro))
     case' gd=>
       have h3:bR l[x - 1] l[x]=true:=by
         have h3:(!bR l[x - 1] l[x])=false:=h3;simpa using h3
       have hA:il d l x hlt'= !(l[x].dev==d.dev&&l[x].inc==d.inc&&bA d.seq l[x].seq):=by simp only[il,h1,h3,Dp,Dh,A9]
   case' gb=>
     have hx0:x=0:=by
       have h2:bO 0 (x:Int)=false:=h2;rw[cp,Ag]at h2;omega
     have hA:il d l x hlt'= !(l[x].dev==d.dev&&l[x].inc==d.inc&&bA d.seq l[x].seq):=by simp only[il,h1,A7 hx0,DG,Dh,A9]
   all_goals
     (conv=>whnf)
     refine aE (fun h4=>?_) fun h4=>?_
     . have h4:(l[x].dev==d.dev&&l[x].inc==d.inc)=true:=by simpa using h4
       (conv=>whnf)
       refine aE (fun h5=>?_) fun h5=>?_
       . have h5:bA d.seq l[x].seq=true:=h5;rw[h4,h5]at hA
         (conv=>whnf)
         refine⟨noR (no hA),?_⟩
         repeat' (first|exact trivial|exact rfl|((conv=>whnf);first|(apply aE<;>intro)|apply And.intro))
       . have h5:bA d.seq l[x].seq=false:=h5;rw[h4,h5]at hA
         (conv=>whnf)
         refine aq.2 ⟨dg x (by omega),?_⟩
         (conv=>whnf)
         refine⟨(x+1:Nat),yes hA,mu,?_⟩
         repeat' (first|exact trivial|exact rfl|((conv=>whnf);first|(apply aE<;>intro)|apply And.intro))
     . have h4:(l[x].dev==d.dev&&l[x].inc==d.inc)=false:=by
         cases e:(l[x].dev==d.dev&&l[x].inc==d.inc)with
         |false=>rfl
         |true=>
          have e':(l[x].dev==d.dev&&(l[x].inc==d.inc&&true))=false:=h4;rw[Dh,e]at e';cases e'
       rw[h4]at hA
       (conv=>whnf)
       refine aq.2 ⟨dg x (by omega),?_⟩
       (conv=>whnf)
       refine⟨(x+1:Nat),yes hA,mu,?_⟩
       repeat' (first|exact trivial|exact rfl|((conv=>whnf);first|(apply aE<;>intro)|apply And.intro))
 . have hge':l.length<=x:=gN hge;have hov:gP d l=true:=by
     unfold gP;rw[A7 h,A7 fun i hi=>hn' i hi (AK hi hge')];rfl
   have hR:=hR hov
   repeat' (first|exact trivial|(with_reducible exact rfl)|((conv=>whnf);first|(apply aE<;>intro)|apply And.intro)|((conv=>whnf);refine⟨(⟨ky,ck⟩:ag),?_⟩;(conv=>whnf);refine⟨rfl,?_⟩))
   all_goals first|exact hkn|exact hv|skip
   all_goals (show _=eS ⟨d,st,kd,ky,ck,l⟩)
   all_goals (rw[hR];simp only[nH];clear hR noR hn')
   all_goals (simp_all[C3,xe,uh])
   all_goals trace_state)
end
section
variable [Inhabited aI]
def eQ (x:ak) (a i:Int):Bool:=x.dev==a&&(x.inc==i&&true)
def getM (l:List ak) (a i:Int):Int:=match l.find? (fun x=>eQ x a i)with|some x=>x.seq|none=>0
def ct (l:List ak) (d:ak):Bool:=eB d&&bA d.seq (getM l d.dev d.inc)
def kh (x:ak) (a i:Int):Bool:=bif !(x.dev==a)then bO x.dev a else bO x.inc i
def eO (a i n:Int) (s:List ak×Bool) (x:ak):List ak×Bool:=
 let s1:=bif !s.2&& !kh x a i then(s.1++[⟨a,i,n⟩],true)else s
 bif eQ x a i then s1 else(s1.1++[x],s1.2)
def fB (l:List ak) (a i n:Int):List ak:=let s:=l.foldl (eO a i n) ([],false);bif s.2 then s.1 else s.1++[⟨a,i,n⟩]
def nV (l:List ak):Prop:=l.length<=100000
def GQ:aQ:={Y:=List ak×Int×Int,pre:=fun y=>nV y.1,args:=fun y=>[cf y.1, .agg [i64 y.2.1,i64 y.2.2]],res:=fun y=>i64 (getM y.1 y.2.1 y.2.2)}
def P5 (y:List ak×Int×Int):aK:={α:=Nat,ok:=fun x=>x<=y.1.length/\ ∀j (h:j<y.1.length),j<x->eQ y.1[j] y.2.1 y.2.2=false,μ:=fun x=>y.1.length - x,bn:=[3],aU:=fun x=>[(0,cf y.1),(5,i64 x)],bP:=fun _=>[]}
def u7:aQ:={Y:=List ak×ak,pre:=fun y=>nV y.1,args:=fun y=>[cf y.1, .agg y.2.enc],res:=fun y=> .bool (ct y.1 y.2)}
def FI:aQ:={Y:=ak×Int×Int,pre:=fun _=>True,args:=fun y=>[.agg [i64 y.1.dev,i64 y.1.inc], .agg [i64 y.2.1,i64 y.2.2]],res:=fun y=> .bool (kh y.1 y.2.1 y.2.2)}
def GU:aQ:={Y:=List ak×Int×Int×Int,pre:=fun y=>nV y.1,args:=fun y=>[cf y.1, .agg [i64 y.2.1,i64 y.2.2.1],i64 y.2.2.2],res:=fun y=>cf (fB y.1 y.2.1 y.2.2.1 y.2.2.2)}
def bW (y:List ak×Int×Int×Int) (x:Nat):List ak×Bool:=(y.1.take x).foldl (eO y.2.1 y.2.2.1 y.2.2.2) ([],false)
def P7 (y:List ak×Int×Int×Int):aK:={α:=Nat,ok:=fun x=>x<=y.1.length,μ:=fun x=>y.1.length - x,bn:=[4],aU:=fun x=>[(0,cf y.1),(2,i64 y.2.2.2),(7, .own 1),(8, .bool (bW y x).2),(9,i64 x)],bP:=fun x=>[(1, .arr ak (bW y x).1 ak.enc HB)]}
theorem KD {α:Type} {p:α->Bool} {l:List α} (h:∀j (h:j<l.length),p l[j]=false):l.find? p=none:=by
 rw[D7];intro x hx;obtain⟨j,hj,rfl⟩:=AS hx;rw[h j hj];simp
theorem Nb {α:Type} {p:α->Bool} {l:List α} {x:Nat} (hx:x<l.length) (h:∀j (h:j<l.length),j<x->p l[j]=false) (hp:p l[x]=true):l.find? p=some l[x]:=by
 rw[List.find?_eq_some_iff_getElem];exact⟨hp,x,hx,rfl,fun j hj=>by rw[h j (by omega) hj];rfl⟩
theorem MW:CO Hj FI:=bZ (cfg:=fun y=>cC qv (cM y)) bJ (fun _=>rfl) (fun _=>rF) (n:=400) (by
 rintro⟨⟨a,b,c⟩,d,e⟩ -
 repeat' (first|exact trivial|exact rfl|((conv=>whnf);first|(apply aE<;>intro)|apply And.intro))
 all_goals (simp_all[kh,Bool.cond_eq_ite]))
theorem On:CO pq GQ:=bZ (cfg:=fun y=>cC qv (cX pq 2 (P5 y))) bJ (fun _=>rfl) (fun _=>rF) (n:=400) (by
 rintro⟨l,a,i⟩ (hl:l.length<=100000)
 (conv=>whnf)
 refine⟨⟨(0:Nat),⟨Ax _,fun _ _ h=>absurd h (Br _)⟩,?_⟩,?_⟩
 . repeat' (first|exact trivial|exact rfl|((conv=>whnf);first|(apply aE<;>intro)|apply And.intro))
 intro (x:Nat) hx;obtain⟨hx,hn⟩:=hx;have hx:x<=l.length:=hx;have hn:∀j (h:j<l.length),j<x->eQ l[j] a i=false:=hn
 (conv=>whnf)
 refine aE (fun hlt=>?_) fun hge=>?_
 . have hlt':x<l.length:=cN hlt
   (conv=>whnf)
   refine aA.2 ⟨_,ee hlt',?_⟩
   (conv=>whnf)
   refine aE (fun h=>?_) fun h=>?_
   . have h:eQ l[x] a i=true:=h
     (conv=>whnf)
     refine aA.2 ⟨_,ee hlt',?_⟩
     (conv=>whnf)
     refine⟨?_,?_⟩
     . show l[x].seq=getM l a i
       unfold getM;rw[Nb hlt' hn h]
     . repeat' (first|exact trivial|exact rfl|((conv=>whnf);first|(apply aE<;>intro)|apply And.intro))
   . have h:eQ l[x] a i=false:=h
     (conv=>whnf)
     refine aq.2 ⟨dg x (by omega),?_⟩
     (conv=>whnf)
     refine⟨(x+1:Nat),⟨hlt',fun j hj hjx=>?_⟩,by show l.length - (x+1)<l.length - x;omega,?_⟩
     . rcases DT j x with h1|h1
       . exact hn j hj h1
       . have e:j=x:=by omega
         subst e;exact h
     . repeat' (first|exact trivial|exact rfl|((conv=>whnf);first|(apply aE<;>intro)|apply And.intro))
 . have hge':l.length<=x:=gN hge
   (conv=>whnf)
   refine⟨?_,?_⟩
   . show 0=getM l a i
     unfold getM;rw[KD fun j hj=>hn j hj (by omega)]
   . repeat' (first|exact trivial|exact rfl|((conv=>whnf);first|(apply aE<;>intro)|apply And.intro)))
noncomputable def uQ (f:FuncId):Option aQ:=bif Nat.beq f He then some (eK jw eS)else bif Nat.beq f o8 then some (eK jw eS)else bif Nat.beq f Hj then some FI else bif Nat.beq f pq then some GQ else qv f
theorem wN:∀g C,uQ g=some C->CO g C:=bU EV (bU Lr (bU MW (bU On rF)))
theorem xW:CO mZ u7:=bZ (cfg:=fun y=>cC uQ (cM y)) bJ (fun _=>rfl) (fun _=>wN) (n:=400) (by
 rintro⟨l,d⟩ (hl:l.length<=100000)
 (conv=>whnf)
 refine⟨d,?_⟩
 repeat ((conv=>whnf);first|refine⟨rfl,?_⟩|refine⟨trivial,?_⟩)
 (conv=>whnf)
 refine aE (fun h=>?_) fun h=>?_
 . have h:eB d=true:=h
   (conv=>whnf)
   refine⟨(l,d.dev,d.inc),?_⟩
   repeat ((conv=>whnf);first|refine⟨rfl,?_⟩|refine⟨trivial,?_⟩)
   refine⟨hl,?_⟩
   (conv=>whnf)
   refine⟨?_,?_⟩
   . show bA d.seq (getM l d.dev d.inc)=ct l d
     unfold ct;rw[h];rfl
   . repeat' (first|exact trivial|exact rfl|((conv=>whnf);first|(apply aE<;>intro)|apply And.intro))
 . have h:eB d=false:=h
   (conv=>whnf)
   refine⟨?_,?_⟩
   . show false=ct l d
     unfold ct;rw[h];rfl
   . repeat' (first|exact trivial|exact rfl|((conv=>whnf);first|(apply aE<;>intro)|apply And.intro)))
theorem Ji (a i n:Int) (s:List ak×Bool) (x:ak):(eO a i n s x).1.length<=s.1.length+2:=by
 unfold eO
 cases(!s.2&& !kh x a i)<;>cases eQ x a i<;>simp
theorem xd (y:List ak×Int×Int×Int):∀{x:Nat},x<=y.1.length->(bW y x).1.length<=2*x
 |0,_=>by simp[bW]
 |x+1,h=>by
  have h1:=xd y (x:=x) (by omega);have h2:bW y (x+1)=eO y.2.1 y.2.2.1 y.2.2.2 (bW y x) y.1[x]:=pG _ _ h;have h3:=Ji y.2.1 y.2.2.1 y.2.2.2 (bW y x) y.1[x];rw[h2];omega
theorem O4:CO pv GU:=bZ (cfg:=fun y=>cC uQ (cX pv 4 (P7 y))) bJ (fun _=>rfl) (fun _=>wN) (n:=600) (by
 rintro⟨l,a,i,n⟩ (hl:l.length<=100000)
 (conv=>whnf)
 refine⟨⟨(0:Nat),Ax _,?_⟩,?_⟩
 . repeat' (first|exact trivial|exact rfl|((conv=>whnf);first|(apply aE<;>intro)|apply And.intro))
 intro (x:Nat) hx;have hx:x<=l.length:=hx
 (conv=>whnf)
 refine aE (fun hlt=>?_) fun hge=>?_
 . have hlt':x<l.length:=cN hlt;have hf:bW (l,a,i,n) (x+1)=eO a i n (bW (l,a,i,n) x) l[x]:=pG _ _ hlt';have hlen:(bW (l,a,i,n) x).1.length<=2*x:=xd _ hx;have ap:∀M:List ak,M.length<=300000->(Nat.ble ((M.length+1)*24) 16777216&&Nat.ble (M.length+1) 16777216)=true:=fun M h=>by
     rw[Ad,AY,AY];omega
   have mu:l.length - (x+1)<l.length - x:=by omega
   have hL1:(bW (l,a,i,n) x).1.length<=300000:=by omega
   have hL2:((bW (l,a,i,n) x).1++[(⟨a,i,n⟩:ak)]).length<=300000:=by simp;omega
   (conv=>whnf)
   refine ah.2 ⟨fun h1=> ?ga,fun h1=> ?gb⟩
   case' ga=>
     have h1:(bW (l,a,i,n) x).2=false:=by simpa using h1
     (conv=>whnf)
     refine aA.2 ⟨_,ee hlt',?_⟩
     (conv=>whnf)
     refine⟨(l[x],a,i),?_⟩
     repeat ((conv=>whnf);first|refine⟨rfl,?_⟩|refine⟨trivial,?_⟩)
     (conv=>whnf)
     refine ah.2 ⟨fun h2=> ?gc,fun h2=> ?gd⟩
     case' gc=>
       have h2:kh l[x] a i=false:=by
        have h2:(!kh l[x] a i)=true:=h2;simpa using h2
       have hst:eO a i n (bW (l,a,i,n) x) l[x]=(bif eQ l[x] a i then((bW (l,a,i,n) x).1++[⟨a,i,n⟩],true)else((bW (l,a,i,n) x).1++[⟨a,i,n⟩]++[l[x]],true)):=by
        simp only[eO,h1,h2,Dq,Bool.and_self,Bv]
       (conv=>whnf)
       refine⟨(⟨a,i,n⟩:ak),rfl,?_⟩
       (conv=>whnf)
       refine aq.2 ⟨ap _ hL1,?_⟩
     case' gd=>
       have h2:kh l[x] a i=true:=by
        have h2:(!kh l[x] a i)=false:=h2;simpa using h2
       have hst:eO a i n (bW (l,a,i,n) x) l[x]=(bif eQ l[x] a i then((bW (l,a,i,n) x).1,(bW (l,a,i,n) x).2)else((bW (l,a,i,n) x).1++[l[x]],(bW (l,a,i,n) x).2)):=by
        simp only[eO,h1,h2,BN,BA,AQ]
        cases eQ l[x] a i<;>simp[<-h1]
   case' gb=>
     have h1:(bW (l,a,i,n) x).2=true:=by simpa using h1
     have hst:eO a i n (bW (l,a,i,n) x) l[x]=(bif eQ l[x] a i then((bW (l,a,i,n) x).1,(bW (l,a,i,n) x).2)else((bW (l,a,i,n) x).1++[l[x]],(bW (l,a,i,n) x).2)):=by
       simp only[eO,h1,BN,A4,AQ]
       cases eQ l[x] a i<;>simp[<-h1]
   all_goals
     rw[hst]at hf
     (conv=>whnf)
     refine aA.2 ⟨_,ee hlt',?_⟩
     (conv=>whnf)
     refine aE (fun h3=>?_) fun h3=>?_
     . have h3:eQ l[x] a i=false:=by
        have h3:(!eQ l[x] a i)=true:=h3;simpa using h3
       rw[h3,AQ]at hf
       (conv=>whnf)
       refine aA.2 ⟨_,ee hlt',?_⟩
       (conv=>whnf)
       refine⟨l[x],rfl,?_⟩
       (conv=>whnf)
       refine aq.2 ⟨by first|exact ap _ hL1|exact ap _ hL2,?_⟩
       (conv=>whnf)
       refine aq.2 ⟨dg x (by omega),?_⟩
       (conv=>whnf)
       refine⟨(x+1:Nat),hlt',mu,?_⟩
       repeat' (first|exact trivial|exact rfl|((conv=>whnf);first|(apply aE<;>intro)|apply And.intro))
       all_goals ((conv=>whnf);rw[hf])
     . have h3:eQ l[x] a i=true:=by
        have h3:(!eQ l[x] a i)=false:=h3;simpa using h3
       rw[h3,Bv]at hf
       (conv=>whnf)
       refine aq.2 ⟨dg x (by omega),?_⟩
       (conv=>whnf)
       refine⟨(x+1:Nat),hlt',mu,?_⟩
       repeat' (first|exact trivial|exact rfl|((conv=>whnf);first|(apply aE<;>intro)|apply And.intro))
       all_goals ((conv=>whnf);rw[hf])
 . have hge':l.length<=x:=gN hge;have hall:fB l a i n=(bif (bW (l,a,i,n) x).2 then(bW (l,a,i,n) x).1 else(bW (l,a,i,n) x).1++[⟨a,i,n⟩]):=by
     unfold fB bW;rw[Av hge']
   have hlen:(bW (l,a,i,n) x).1.length<=2*x:=xd _ hx
   (conv=>whnf)
   refine aE (fun h1=>?_) fun h1=>?_
   . have h1:(bW (l,a,i,n) x).2=false:=by simpa using h1
     rw[h1,AQ]at hall
     (conv=>whnf)
     refine⟨(⟨a,i,n⟩:ak),rfl,?_⟩
     (conv=>whnf)
     refine aq.2 ⟨by show(Nat.ble (((bW (l,a,i,n) x).1.length+1)*24) 16777216&&Nat.ble ((bW (l,a,i,n) x).1.length+1) 16777216)=true;rw[Ad,AY,AY];omega,?_⟩
     (conv=>whnf)
     refine⟨by rw[hall],?_⟩
     repeat' (first|exact trivial|exact rfl|((conv=>whnf);first|(apply aE<;>intro)|apply And.intro))
   . have h1:(bW (l,a,i,n) x).2=true:=by simpa using h1
     rw[h1,Bv]at hall
     (conv=>whnf)
     refine⟨by rw[hall],?_⟩
     repeat' (first|exact trivial|exact rfl|((conv=>whnf);first|(apply aE<;>intro)|apply And.intro)))
noncomputable def yg (f:FuncId):Option aQ:=bif Nat.beq f mZ then some u7 else bif Nat.beq f pv then some GU else uQ f
theorem Fj:∀g C,yg g=some C->CO g C:=bU xW (bU O4 wN)
end
end Go.Proofs
