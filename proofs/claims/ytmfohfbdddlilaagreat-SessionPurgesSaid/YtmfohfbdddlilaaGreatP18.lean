/- Part 18: an evaluator, proved sound, and its use at this seat; no condition. -/
import Derived.KernelRfl
import Derived.Test.YtmfohfbdddlilaaGreatP5
set_option linter.unusedSimpArgs false
set_option linter.unusedVariables false
set_option linter.unusedSectionVars false
set_option linter.deprecated false
set_option maxRecDepth 100000
set_option maxHeartbeats 4000000
namespace Go.Proofs
open Go Go.Am Go.RowKit Go.Sy
section
variable [Inhabited aL]
theorem XA {c:az} {l:List aa} {now:Int} (h:gD c≠0):dL (c,l,now)=([],gD c):=by unfold dL;rw[if_pos h]
theorem Nn {c:az} {l:List aa} {now:Int} (h:gD c=0) (hr:iE l=true):dL (c,l,now)=(fX (aD c) (cY c) l now,0):=by unfold dL;rw[if_neg (by simpa using h)];simp[hr]
theorem XB (c:az) (l:List aa) (now:Int):(dL (c,l,now)).1.length<=l.length:=by
 unfold dL;split
 . simp
 . split
   . exact Ws _ _ _ _
   . simp
theorem Tu {c:az} (h:gD c=0):1<=c.domain/\1<=c.total:=by
 unfold gD at h;split at h
 . cases h
 . omega
theorem MG {y:az×List aa×Int} (h:(dL y).2≠0):iw y=([],(dL y).2):=by unfold iw;rw[if_pos h]
theorem F8 {y:az×List aa×Int} (h:(dL y).2=0):iw y=(iU y.2.1 (dL y).1,0):=by unfold iw;rw[if_neg (by simpa using h)]
theorem T6 (l:List aa):iU l l=[]:=by
 unfold iU;rw[DW];intro x hx;simp[hx]
theorem Mt (l k:List aa):(iU l k).length<=l.length:=AL _ _
theorem Zk (hG:∀g C,yj g=some C->CO g C):CO nF Gx:=bZ (cfg:=fun y=>bH yj (cD nF 6 (tp y))) bC (fun _=>rfl) (fun _=>hG) (n:=800) (by
 rw[OC];rintro⟨c,l,now⟩ ⟨hr,hl,hsh⟩;have hl:l.length<=10000:=hl;have hk:=XB c l now;refine⟨(c,l,now),rfl,rfl,rfl,rfl,rfl,rfl,⟨hr,hl,hsh⟩,ah.2 ⟨fun hc=>?_,fun hc=>?_⟩⟩
 . have hc:(dL (c,l,now)).2≠0:=by simpa using hc
   have he:=MG hc;exact⟨by rw[he],by show(dL (c,l,now)).2=_;rw[he],trivial⟩
 have hc:(dL (c,l,now)).2=0:=by simpa using hc
 have he:=F8 hc;refine⟨⟨0,Aw _,?_⟩,?_⟩
 . (repeat' (first|exact trivial|exact rfl|exact(fun _=>rfl)|apply And.intro))
 intro x hx;refine ah.2 ⟨fun hlt=>?_,fun hge=>⟨?_,by rw[he],trivial⟩⟩
 . have hlt':x<l.length:=cB hlt;have hlen:=Mt (l.take x) (dL (c,l,now)).1;have hx2:(l.take x).length<=x:=by simp;omega
   have hf:iU (l.take (x+1)) (dL (c,l,now)).1=iU (l.take x) (dL (c,l,now)).1++if decide (l[x]∉(dL (c,l,now)).1)then[l[x]]else[]:=lG (p:=fun z=>decide (z∉(dL (c,l,now)).1)) hlt'
   have hmu:l.length - (x+1)<l.length - x:=by omega
   refine au.2 ⟨_,cO hlt',((dL (c,l,now)).1,l[x]),rfl,rfl,rfl,rfl,rfl,rfl,rfl,rfl,rfl,rfl,rfl,rfl,by show(dL (c,l,now)).1.length<=10000;omega,ah.2 ⟨fun h1=>⟨l[x],rfl,ag.2 ⟨by simp only[Aa,AG,AA,AK];omega,ag.2 ⟨cu x (by omega),x+1,hlt',hmu,?_⟩⟩⟩,fun h1=>ag.2 ⟨cu x (by omega),x+1,hlt',hmu,?_⟩⟩⟩
   . have h1:l[x]∉(dL (c,l,now)).1:=by simpa using h1
     simp only[h1,Bl,decide_true,if_true]at hf
     (repeat' (first|exact trivial|exact rfl|exact(fun _=>rfl)|apply And.intro))
     all_goals (rw[hf])
   . have h1:l[x]∈(dL (c,l,now)).1:=by simpa using h1
     simp only[h1,Dt,EP,Ak,AB,Bu]at hf
     (repeat' (first|exact trivial|exact rfl|exact(fun _=>rfl)|apply And.intro))
     all_goals (rw[hf])
 . rw[he];show SV.ar aa (iU (l.take x) (dL (c,l,now)).1) aa.enc=SV.ar aa (iU l (dL (c,l,now)).1) aa.enc
   rw[sq (gQ hge)])
theorem Yn {n:Nat} (h:bI 300 (Int.ofNat n)=true):¬n<=300:=by rw[cr,Ad,Ac]at h;omega
theorem WR {n:Nat} (h:bI 300 (Int.ofNat n)=false):n<=300:=by rw[cr,Ah,Ac]at h;omega
theorem Vn (hG:∀g C,qR g=some C->CO g C):∀g C,yj g=some C->CO g C:=bR (Zq (KU hG)) (KU hG)
end
end Go.Proofs
