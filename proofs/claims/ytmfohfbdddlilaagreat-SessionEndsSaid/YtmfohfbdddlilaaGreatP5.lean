/- Part 5: an evaluator, proved sound, and its use at this seat; no condition. -/
import Derived.KernelRfl
import Derived.WalkKit
import Derived.Laws.IdiomStrings
import Derived.Test.YtmfohfbdddlilaaGreatP3
import Derived.Test.YtmfohfbdddlilaaGreatP4
set_option linter.unusedSimpArgs false
set_option linter.unusedVariables false
set_option linter.unusedSectionVars false
set_option linter.deprecated false
set_option maxRecDepth 100000
set_option maxHeartbeats 4000000
namespace Go.Proofs
open Go Go.Am Go.RowKit Go.Sy
section
variable [Inhabited aF]
end
section
variable [Inhabited aF]
theorem _root_.Go.Proofs.ag.ext_iff {x y:ag}:x=y↔x.dev=y.dev/\x.inc=y.inc/\x.seq=y.seq:=⟨fun h=>by subst h;exact⟨rfl,rfl,rfl⟩,fun h=>ag.ext' h.1 h.2.1 h.2.2⟩
theorem qE (a b:ag):(a.dev==b.dev&&(a.inc==b.inc&&true)&&(a.seq==b.seq&&true))=decide (a=b):=by
 rw[A4];simp[ag.ext_iff,and_assoc]
structure aa where
 dot:ag
 aV:dm
 kind:Int
 key:aC
 ae:eF
 over:List ag
deriving DecidableEq,Inhabited
def cz (l:List ag):SV:= .aJ ag l ag.enc
def aa.enc (x:aa):List SV:=[.int .i64 x.dot.dev, .int .i64 x.dot.inc, .int .i64 x.dot.seq, .int .i64 x.aV.wall, .int .i64 x.aV.count, .int .i64 x.aV.dev, .int .i64 x.kind, .str x.key.name, .str x.key.domain, .str x.key.path,
 .str x.ae.value, .bool x.ae.bI, .bool x.ae.cK, .bool x.ae.bJ, .bool x.ae.persistent, .int .i64 x.ae.cA, .int .i64 x.ae.bE, .int .i64 x.ae.access,cz x.over]
def aa.item (x:aa):aH:=⟨x.key,x.ae⟩
structure ay where
 ctx:List ag
 kept:List aa
 dead:List ag
def cI (l:List aa):SV:= .aJ aa l aa.enc
def ay.enc (x:ay):List SV:=[cz x.ctx,cI x.kept,cz x.dead]
noncomputable def TE:TypeId->Option View:=fun t=>bif Nat.beq t Ty.string then some ⟨Bs,eR⟩else bif Nat.beq t zt then some ⟨aH,aH.enc⟩else bif Nat.beq t Ty.mD then some ⟨ag,ag.enc⟩else bif Nat.beq t Jx then some ⟨ag,ag.enc⟩else bif Nat.beq t wv then some ⟨aa,aa.enc⟩else none
noncomputable def bU (gm:FuncId->Option aP) (kW:FuncId->Nat->Option aK):iq:={tab:=pc,view:=TE,gm,kW}
section
variable {α:Type} [DecidableEq α] (less:α->α->Bool)
def cC (l:List α) (d:α):Nat:=(l.takeWhile fun x=>less x d).length
def fu (l:List α) (d:α):List α:=if l[cC less l d]? =some d then l else l.take (cC less l d)++d::l.drop (cC less l d)
def cw (l:List α):List α:=l.foldl (fu less) []
variable {less}
omit [DecidableEq α] in
theorem oX (L:List α) (d:α):cC less L d<=L.length:=(Em _).length_le
omit [DecidableEq α] in
theorem xK {L:List α} {d:α} {k:Nat} (hk:k<=cC less L d) (h:k<L.length) (hl:less L[k] d=true):k+1<=cC less L d:=by
 apply Bv;intro hn;have e:cC less L d=k:=by omega
 unfold cC at e;have:=Jp (p:=fun x=>less x d) (l:=L) (by omega);simp only[e]at this;rw[hl]at this
 cases this
omit [DecidableEq α] in
theorem xL {L:List α} {d:α} {k:Nat} (hk:k<=cC less L d) (h:k<L.length) (hl:less L[k] d=false):k=cC less L d:=by
 apply Bv;intro hn;obtain⟨h1,h2⟩:=Ij (p:=fun x=>less x d) (l:=L) (j:=k) (by show k<cC less L d;omega);rw[hl]at h2
 cases h2
theorem Ns (L:List α) (d:α):(fu less L d).length<=L.length+1:=by
 unfold fu;have:=oX (less:=less) L d;split
 . omega
 . simp;omega
theorem qu:∀(l a:List α),(l.foldl (fu less) a).length<=a.length+l.length
 |[],a=>by simp
 |x::l,a=>by
  have h1:=qu l (fu less a x);have h2:=Ns (less:=less) a x;simp only[BF,A1];omega
end
def wK (l:List ag):Prop:=l.length<=1000000
def IU:aP:={Y:=List ag×ag,pre:=fun y=>wK y.1,args:=fun y=>[cz y.1, .agg y.2.enc],res:=fun y=> .bool (decide (y.2∈y.1))}
def RQ (y:List ag×ag):aK:={α:=Nat,ok:=fun i=>i<=y.1.length/\ ∀j (h:j<y.1.length),j<i->y.1[j]≠y.2,μ:=fun i=>y.1.length - i,aU:=[3],aR:=fun i=>[(0,cz y.1),(5,i64 i)],bD:=fun _=>[]}
def Iu:aP:={Y:=List ag,pre:=fun y=>y.length<=300000,args:=fun y=>[cz y],res:=fun y=>cz (cw bu y)}
def QB (y:List ag):aK:={α:=Nat,ok:=fun i=>i<=y.length,μ:=fun i=>y.length - i,aU:=[],aR:=fun i=>[(0,cz y),(3,cz (cw bu (y.take i))),(4,i64 i)],bD:=fun _=>[],eW:=[3]}
def O9 (y:List ag):aK:={α:=Nat×Nat,ok:=fun x=>∃h:x.1<y.length,x.2<=cC bu (cw bu (y.take x.1)) y[x.1],μ:=fun x=>(cw bu (y.take x.1)).length - x.2,aU:=[],aR:=fun x=>[(0,cz y),(3,cz (cw bu (y.take x.1))),(4,i64 x.1),(5,i64 x.2)],bD:=fun _=>[],link:=some fun a b=>b.1=a.1}
theorem PA:CO nG Iu:=bZ (cfg:=fun y=>bU nU (sr nG 6 (O9 y) (cS nG 3 (QB y)))) bH (fun _=>rfl) (fun _=>oN) (n:=600) (by
 intro (l:List ag) hpre;have hpre:l.length<=300000:=hpre
 (conv=>whnf)
 refine⟨⟨(0:Nat),Av _,?_⟩,?_⟩
 . repeat' (first|exact trivial|exact rfl|((conv=>whnf);first|(apply aA<;>intro)|apply And.intro))
 intro (x:Nat) hx
 (conv=>whnf)
 refine aA (fun hlt=>?_) fun hge=>?_
 . have hlt':x<l.length:=cY hlt
   (conv=>whnf)
   refine⟨((x,0):Nat×Nat),⟨((x,0):Nat×Nat),⟨⟨hlt',Av _⟩,rfl⟩,?_⟩,?_⟩
   . repeat' (first|exact trivial|exact rfl|((conv=>whnf);first|(apply aA<;>intro)|apply And.intro))
   rintro⟨x1,k⟩ ⟨⟨h1,h2⟩,hx1⟩;have hx1:x1=x:=hx1;subst hx1;have hn:cw bu (l.take (x1+1))=fu bu (cw bu (l.take x1)) l[x1]:=nP (fu bu) ([]:List ag) hlt';have hlen:(cw bu (l.take x1)).length<=x1:=by have:=qu (less:=bu) (l.take x1) [];unfold cw;simp at this⊢;omega
   have hk:k<=cC bu (cw bu (l.take x1)) l[x1]:=h2;have hkp:=oX (less:=bu) (cw bu (l.take x1)) l[x1];have hkl:k<=(cw bu (l.take x1)).length:=by omega
   have hmu:l.length - (x1+1)<l.length - x1:=by omega
   (conv=>whnf)
   refine aA (fun hlt2=>?_) fun hge2=>?_
   . have hlt2':k<(cw bu (l.take x1)).length:=cY hlt2
     (conv=>whnf)
     refine ar.2 ⟨_,dz hlt2',?_⟩
     (conv=>whnf)
     refine ar.2 ⟨_,dz hlt',?_⟩
     (conv=>whnf)
     refine⟨((cw bu (l.take x1))[k],l[x1]),?_⟩
     repeat ((conv=>whnf);first|refine⟨rfl,?_⟩|refine⟨trivial,?_⟩)
     (conv=>whnf)
     refine aA (fun hl=>?_) fun hl=>?_
     . have hl:bu (cw bu (l.take x1))[k] l[x1]=true:=hl
       (conv=>whnf)
       refine ah.2 ⟨cM k (by omega),?_⟩
       (conv=>whnf)
       refine⟨((x1,k+1):Nat×Nat),⟨⟨hlt',xK hk hlt2' hl⟩,rfl⟩,by show(cw bu (l.take x1)).length - (k+1)<(cw bu (l.take x1)).length - k;omega,?_⟩
       repeat' (first|exact trivial|exact rfl|((conv=>whnf);first|(apply aA<;>intro)|apply And.intro))
     . have hl:bu (cw bu (l.take x1))[k] l[x1]=false:=hl;have hkk:k=cC bu (cw bu (l.take x1)) l[x1]:=xL hk hlt2' hl
       (conv=>whnf)
       refine aj.2 ⟨fun he=>absurd he (by simp;omega),fun he=>?_⟩
       (conv=>whnf)
       refine ar.2 ⟨_,dz hlt2',?_⟩
       (conv=>whnf)
       refine ar.2 ⟨_,dz hlt',?_⟩
       (conv=>whnf)
       refine aA (fun hne=>?_) fun hne=>?_
       . repeat (first|((conv=>whnf);refine⟨fun _=>rfl,?_⟩)|((conv=>whnf);refine⟨fun _=>⟨rfl,rfl⟩,?_⟩)|((conv=>whnf);refine ah.2 ⟨by(simp only[Ab,AW,Bj,A1,Bb,Bz,BY];omega),?_⟩)|((conv=>whnf);refine ah.2 ⟨cM _ (by omega),?_⟩)|((conv=>whnf);refine ar.2 ⟨_,dz (by assumption),?_⟩)|((conv=>whnf);refine⟨_,rfl,?_⟩))
         refine⟨(x1+1:Nat),hlt',hmu,?_⟩
         repeat' (first|exact trivial|exact rfl|((conv=>whnf);first|(apply aA<;>intro)|apply And.intro))
         all_goals ((conv=>whnf);rw[hn];unfold fu;rw[<-hkk,if_neg (by rw[Ag hlt2'];simp only[AJ,qE]at hne;simpa using hne)];first|(simp;done)|(simp[cz];done)|(simp;rfl))
       . (conv=>whnf)
         refine ah.2 ⟨cM x1 (by omega),?_⟩
         (conv=>whnf)
         refine⟨(x1+1:Nat),hlt',hmu,?_⟩
         repeat' (first|exact trivial|exact rfl|((conv=>whnf);first|(apply aA<;>intro)|apply And.intro))
         all_goals ((conv=>whnf);rw[hn];unfold fu;rw[<-hkk,if_pos (by rw[Ag hlt2'];simp only[AJ,qE]at hne;simpa using hne)];try rfl)
   . have hge2':(cw bu (l.take x1)).length<=k:=fY hge2;have hkk:k=cC bu (cw bu (l.take x1)) l[x1]:=by omega
     (conv=>whnf)
     refine aj.2 ⟨fun he=>?_,fun he=>absurd he (by simp;omega)⟩
     repeat (first|((conv=>whnf);refine⟨fun _=>rfl,?_⟩)|((conv=>whnf);refine⟨fun _=>⟨rfl,rfl⟩,?_⟩)|((conv=>whnf);refine ah.2 ⟨by(simp only[Ab,AW,Bj,A1,Bb,Bz,BY];omega),?_⟩)|((conv=>whnf);refine ah.2 ⟨cM _ (by omega),?_⟩)|((conv=>whnf);refine ar.2 ⟨_,dz (by assumption),?_⟩)|((conv=>whnf);refine⟨_,rfl,?_⟩))
     refine⟨(x1+1:Nat),hlt',hmu,?_⟩
     repeat' (first|exact trivial|exact rfl|((conv=>whnf);first|(apply aA<;>intro)|apply And.intro))
     all_goals ((conv=>whnf);rw[hn];unfold fu;rw[<-hkk,if_neg (by rw[Bl hge2'];simp)];first|(simp;done)|(simp[cz];done)|(simp;rfl))
 . (conv=>whnf)
   refine⟨by rw[MY (kC hge)],?_⟩
   (conv=>whnf)
   trivial)
theorem Rp:CO pU IU:=bZ (cfg:=fun y=>bU nU (cS pU 2 (RQ y))) bH (fun _=>rfl) (fun _=>oN) (n:=600) (by
 rintro⟨l,d⟩ (hpre:l.length<=1000000)
 (conv=>whnf)
 refine⟨⟨(0:Nat),⟨Av _,fun _ _ h=>absurd h (A9 _)⟩,?_⟩,?_⟩
 . repeat' (first|exact trivial|exact rfl|((conv=>whnf);first|(apply aA<;>intro)|apply And.intro))
 intro (x:Nat) hx;obtain⟨hx,hn⟩:=hx
 (conv=>whnf)
 refine aA (fun hlt=>?_) fun hge=>?_
 . have hlt':x<l.length:=cY hlt
   (conv=>whnf)
   refine ar.2 ⟨_,dz hlt',?_⟩
   (conv=>whnf)
   refine aA (fun h=>?_) fun h=>?_
   . have h:decide (l[x]=d)=true:=by rw[<-qE];exact h
     (conv=>whnf)
     refine⟨(BD (by rw[<-BC h];exact AF hlt')).symm,?_⟩
     repeat' (first|exact trivial|exact rfl|((conv=>whnf);first|(apply aA<;>intro)|apply And.intro))
   . have h:decide (l[x]=d)=false:=by rw[<-qE];exact h
     (conv=>whnf)
     refine ah.2 ⟨cM x (by omega),?_⟩
     (conv=>whnf)
     refine⟨(x+1:Nat),⟨hlt',fun j hj hjx=>?_⟩,by show l.length - (x+1)<l.length - x;omega,?_⟩
     . rcases D3 j x with h1|h1
       . exact hn j hj h1
       . have:j=x:=by omega
         subst this;simpa using h
     . repeat' (first|exact trivial|exact rfl|((conv=>whnf);first|(apply aA<;>intro)|apply And.intro))
 . have hge':l.length<=x:=fY hge
   (conv=>whnf)
   refine⟨(Bu fun hm=>?_).symm,?_⟩
   . obtain⟨j,hj,he⟩:=BB hm;exact hn j hj (AU hj hge') he
   . repeat' (first|exact trivial|exact rfl|((conv=>whnf);first|(apply aA<;>intro)|apply And.intro)))
noncomputable def qU (f:FuncId):Option aP:=bif Nat.beq f nG then some Iu else bif Nat.beq f pU then some IU else nU f
theorem rX:∀g C,qU g=some C->CO g C:=bX PA (bX Rp oN)
end
section
variable [Inhabited aF]
def iJ (d:ag) (l:List ag) (i:Nat) (h:i<l.length):Bool:=eL l[i]&&(decide (i=0)||bu (l[i - 1]'(by omega)) l[i])&& !(l[i].dev==d.dev&&l[i].inc==d.inc&&bG d.seq l[i].seq)
def gT (d:ag) (l:List ag):Bool:=decide (l.length<=64)&&decide (∀i (h:i<l.length),iJ d l i h=true)
def iw (e:aa):Bool:=bG (Int.ofNat e.over.length) 100&&bG (Int.ofNat e.key.name.length) 2000&&bG (Int.ofNat e.key.domain.length) 2000&&bG (Int.ofNat e.key.path.length) 2000&&bG (Int.ofNat e.ae.value.length) 2000
def fb (pre:aa->Prop) (p:aa->Bool):aP:={Y:=aa,pre:=pre,args:=fun y=>[.agg y.enc],res:=fun y=> .bool (p y)}
def xz:aP:={Y:=List aa×Int,pre:=fun y=>y.2<=1000000,args:=fun y=>[cI y.1,i64 y.2],res:=fun y=> .bool (bG (Int.ofNat y.1.length) y.2&&y.1.all iw)}
def Ly (y:List aa×Int):aK:={α:=Nat,ok:=fun i=>i<=y.1.length/\(y.1.take i).all iw=true,μ:=fun i=>y.1.length - i,aU:=[],aR:=fun i=>[(0,cI y.1),(5,i64 i)],bD:=fun _=>[]}
theorem GS:CO pD (fb (fun _=>True) iw):=bZ (cfg:=fun y=>bU di (dM y)) bH (fun _=>rfl) (fun _=>rZ) (n:=400) (by
 intro (e:aa) _
 repeat' (first|exact trivial|exact rfl|((conv=>whnf);first|(apply aA<;>intro)|apply And.intro))
 all_goals (simp_all[iw]))
noncomputable def zd (f:FuncId):Option aP:=bif Nat.beq f pD then some (fb (fun _=>True) iw)else qU f
theorem Gs:∀g C,zd g=some C->CO g C:=bX GS rX
theorem CY:CO pn xz:=bZ (cfg:=fun y=>bU zd (cS pn 4 (Ly y))) bH (fun _=>rfl) (fun _=>Gs) (n:=400) (by
 rintro⟨l,m⟩ (hm:m<=1000000)
 (conv=>whnf)
 refine aA (fun h=>?_) fun h=>?_
 . have h:bG (Int.ofNat l.length) m=false:=by
     have h:bV m (Int.ofNat l.length)=true:=h;rw[cm,Ae]at h;rw[fg,Ai];omega
   (conv=>whnf)
   refine⟨by show false=_;rw[h];rfl,?_⟩
   repeat' (first|exact trivial|exact rfl|((conv=>whnf);first|(apply aA<;>intro)|apply And.intro))
 have h:bG (Int.ofNat l.length) m=true:=by
   have h:bV m (Int.ofNat l.length)=false:=h;rw[cm,Ai]at h;rw[fg,Ae];omega
 have hlen:l.length<=1000000:=by rw[fg,Ae,Aa]at h;omega
 (conv=>whnf)
 refine⟨⟨(0:Nat),⟨Av _,by simp⟩,?_⟩,?_⟩
 . repeat' (first|exact trivial|exact rfl|((conv=>whnf);first|(apply aA<;>intro)|apply And.intro))
 intro (x:Nat) hx;obtain⟨hx,hn⟩:=hx;have hx:x<=l.length:=hx;have hn:(l.take x).all iw=true:=hn
 (conv=>whnf)
 refine aA (fun hlt=>?_) fun hge=>?_
 . have hlt':x<l.length:=cY hlt
   (conv=>whnf)
   refine ar.2 ⟨_,dz hlt',?_⟩
   (conv=>whnf)
   refine⟨l[x],?_⟩
   repeat ((conv=>whnf);first|refine⟨rfl,?_⟩|refine⟨trivial,?_⟩)
   (conv=>whnf)
   refine aA (fun h1=>?_) fun h1=>?_
   . have h1:(!iw l[x])=true:=h1
     (conv=>whnf)
     refine⟨?_,?_⟩
     . show false=(bG (Int.ofNat l.length) m&&l.all iw)
       rw[h,Bn,eq_comm,List.all_eq_false];exact⟨l[x],AF hlt',by simpa using h1⟩
     . repeat' (first|exact trivial|exact rfl|((conv=>whnf);first|(apply aA<;>intro)|apply And.intro))
   . have h1:(!iw l[x])=false:=h1
     (conv=>whnf)
     refine ah.2 ⟨cM x (by omega),?_⟩
     (conv=>whnf)
     refine⟨(x+1:Nat),⟨hlt',?_⟩,by show l.length - (x+1)<l.length - x;omega,?_⟩
     . show(l.take (x+1)).all iw=true
       rw[Az hlt',List.all_append,hn];simpa using h1
     . repeat' (first|exact trivial|exact rfl|((conv=>whnf);first|(apply aA<;>intro)|apply And.intro))
 . have hge':l.length<=x:=fY hge;rw[As hge']at hn
   (conv=>whnf)
   refine⟨by show true=(bG (Int.ofNat l.length) m&&l.all iw);rw[h,hn];rfl,?_⟩
   repeat' (first|exact trivial|exact rfl|((conv=>whnf);first|(apply aA<;>intro)|apply And.intro)))
theorem Gc {d:ag} {l:List ag} {x:Nat} (hx:x<l.length) (h:iJ d l x hx=false):gT d l=false:=by
 unfold gT;rw[Bool.and_eq_false_iff];right;refine Bu fun hall=>?_
 rw[hall x hx]at h;cases h
def Jh (d:ag) (l:List ag) (ks:List Nat) (s1 s2 s3:Nat):aK:={α:=Nat,ok:=fun i=>i<=l.length/\ ∀j (h:j<l.length),j<i->iJ d l j h=true,μ:=fun i=>l.length - i,aU:=ks,aR:=fun i=>[(s1,cz l),(s2,i64 (Int.ofNat l.length)),(s3,i64 i)],bD:=fun _=>[]}
theorem Pt:CO pJ (fb (fun _=>True) fun e=>gT e.dot e.over):=bZ (C:=fb (fun _=>True) fun e=>gT e.dot e.over) (cfg:=fun(y:aa)=>bU zd (cS pJ 4 (Jh y.dot y.over [1] 10 11 12))) bH (fun _=>rfl) (fun _=>Gs) (n:=600) (by
 rintro⟨d,st,kd,ky,ck,l⟩ -
 (conv=>whnf)
 refine aA (fun h=>?_) fun h=>?_
 . have h:64<l.length:=by
     have h:bV 64 (Int.ofNat l.length)=true:=h;rw[cm,Ae,Aa]at h;omega
   (conv=>whnf)
   refine⟨by show false=gT d l;unfold gT;rw[Bu (by omega)];rfl,?_⟩
   repeat' (first|exact trivial|exact rfl|((conv=>whnf);first|(apply aA<;>intro)|apply And.intro))
 have h:l.length<=64:=by
   have h:bV 64 (Int.ofNat l.length)=false:=h;rw[cm,Ai,Aa]at h;omega
 (conv=>whnf)
 refine⟨⟨(0:Nat),⟨Av _,fun _ _ h=>absurd h (A9 _)⟩,?_⟩,?_⟩
 . repeat' (first|exact trivial|exact rfl|((conv=>whnf);first|(apply aA<;>intro)|apply And.intro))
 intro (x:Nat) hx;obtain⟨hx,hn⟩:=hx;have hx:x<=l.length:=hx
 (conv=>whnf)
 refine aA (fun hlt=>?_) fun hge=>?_
 . have hlt':x<l.length:=cY hlt;have no:=Gc (d:=d) hlt';have yes:iJ d l x hlt'=true->(Jh d l [1] 10 11 12).ok (x+1:Nat):=fun hy=>⟨hlt',fun j hj hjx=>by
     rcases D3 j x with h1|h1
     . exact hn j hj h1
     . have e:j=x:=by omega
       subst e;exact hy⟩
   have mu:l.length - (x+1)<l.length - x:=by omega
   (conv=>whnf)
   refine ar.2 ⟨_,dz hlt',?_⟩
   (conv=>whnf)
   refine⟨l[x],?_⟩
   repeat ((conv=>whnf);first|refine⟨rfl,?_⟩|refine⟨trivial,?_⟩)
   (conv=>whnf)
   refine aA (fun h1=>?_) fun h1=>?_
   . have h1:eL l[x]=false:=by
       have h1:(!eL l[x])=true:=h1;simpa using h1
     (conv=>whnf)
     refine⟨by show false=gT d l;rw[no (by simp only[iJ,h1,Bc])],?_⟩
     repeat' (first|exact trivial|exact rfl|((conv=>whnf);first|(apply aA<;>intro)|apply And.intro))
   have h1:eL l[x]=true:=by
     have h1:(!eL l[x])=false:=h1;simpa using h1
   (conv=>whnf)
   refine aj.2 ⟨fun h2=> ?ga,fun h2=> ?gb⟩
   case' ga=>
     have hx0:0<x:=by
       have h2:bV 0 (x:Int)=true:=h2;rw[cm,Ae]at h2;omega
     have hx1:x - 1<l.length:=by omega
     have hget:l[((x:Int) - 1).toNat]? =some l[x - 1]:=by
       rw[show((x:Int) - 1).toNat=x - 1 by omega,Ag hx1]
     (conv=>whnf)
     refine ah.2 ⟨by rw[gJ];omega,?_⟩
     (conv=>whnf)
     refine ah.2 ⟨by rw[mB,Ae];omega,?_⟩
     (conv=>whnf)
     refine ar.2 ⟨_,hget,?_⟩
     (conv=>whnf)
     refine⟨(l[x - 1],l[x]),?_⟩
     repeat ((conv=>whnf);first|refine⟨rfl,?_⟩|refine⟨trivial,?_⟩)
     (conv=>whnf)
     refine aj.2 ⟨fun h3=> ?gc,fun h3=> ?gd⟩
     case gc=>
       have h3:bu l[x - 1] l[x]=false:=by
         have h3:(!bu l[x - 1] l[x])=true:=h3;simpa using h3
       (conv=>whnf)
       refine⟨by show false=gT d l;rw[no (by simp only[iJ,h1,h3,Bu (show ¬x=0 by omega),Ey,BT,Bc])],?_⟩
       repeat' (first|exact trivial|exact rfl|((conv=>whnf);first|(apply aA<;>intro)|apply And.intro))
     case' gd=>
       have h3:bu l[x - 1] l[x]=true:=by
         have h3:(!bu l[x - 1] l[x])=false:=h3;simpa using h3
       have hA:iJ d l x hlt'= !(l[x].dev==d.dev&&l[x].inc==d.inc&&bG d.seq l[x].seq):=by simp only[iJ,h1,h3,EI,DA,Bn]
   case' gb=>
     have hx0:x=0:=by
       have h2:bV 0 (x:Int)=false:=h2;rw[cm,Ai]at h2;omega
     have hA:iJ d l x hlt'= !(l[x].dev==d.dev&&l[x].inc==d.inc&&bG d.seq l[x].seq):=by simp only[iJ,h1,BD hx0,D5,DA,Bn]
   all_goals
     (conv=>whnf)
     refine aA (fun h4=>?_) fun h4=>?_
     . have h4:(l[x].dev==d.dev&&l[x].inc==d.inc)=true:=by simpa using h4
       (conv=>whnf)
       refine aA (fun h5=>?_) fun h5=>?_
       . have h5:bG d.seq l[x].seq=true:=h5;rw[h4,h5]at hA
         (conv=>whnf)
         refine⟨by show false=gT d l;rw[no hA],?_⟩
         repeat' (first|exact trivial|exact rfl|((conv=>whnf);first|(apply aA<;>intro)|apply And.intro))
       . have h5:bG d.seq l[x].seq=false:=h5;rw[h4,h5]at hA
         (conv=>whnf)
         refine ah.2 ⟨cM x (by omega),?_⟩
         (conv=>whnf)
         refine⟨(x+1:Nat),yes hA,mu,?_⟩
         repeat' (first|exact trivial|exact rfl|((conv=>whnf);first|(apply aA<;>intro)|apply And.intro))
     . have h4:(l[x].dev==d.dev&&l[x].inc==d.inc)=false:=by
         cases e:(l[x].dev==d.dev&&l[x].inc==d.inc)with
         |false=>rfl
         |true=>
          have e':(l[x].dev==d.dev&&(l[x].inc==d.inc&&true))=false:=h4;rw[DA,e]at e';cases e'
       rw[h4]at hA
       (conv=>whnf)
       refine ah.2 ⟨cM x (by omega),?_⟩
       (conv=>whnf)
       refine⟨(x+1:Nat),yes hA,mu,?_⟩
       repeat' (first|exact trivial|exact rfl|((conv=>whnf);first|(apply aA<;>intro)|apply And.intro))
 . have hge':l.length<=x:=fY hge
   (conv=>whnf)
   refine⟨?_,?_⟩
   . show true=gT d l
     unfold gT;rw[BD h,BD fun i hi=>hn i hi (AU hi hge')];rfl
   . repeat' (first|exact trivial|exact rfl|((conv=>whnf);first|(apply aA<;>intro)|apply And.intro)))
end
section
variable [Inhabited aF]
def dR (b:UInt8):Bool:=(bV (nB b) 32&& !(nB b==9))||nB b==127
def iv (b:UInt8):Bool:=nB b==32||nB b==9
def iy (s:Bs):Bs:=s.dropWhile iv
def iS (s:Bs):Bs:=(s.reverse.dropWhile iv).reverse
def jx (s:Bs):Bs:=iS (iy s)
def mJ:aP:={Y:=Bs,pre:=fun y=>y.length<=1000000,args:=fun y=>[.str y],res:=fun y=> .bool (y.any dR)}
def wE (y:Bs):aK:={α:=Nat,ok:=fun i=>i<=y.length/\(y.take i).any dR=false,μ:=fun i=>y.length - i,aU:=[],aR:=fun i=>[(0, .str y),(5,i64 (Int.ofNat y.length)),(6,i64 i)],bD:=fun _=>[]}
def RM (y:Bs):aK:={α:=Nat,ok:=fun i=>i<=y.length,μ:=fun i=>y.length - i,aU:=[],aR:=fun i=>[(0, .str y),(3, .bool ((y.take i).any dR)),(4,i64 i)],bD:=fun _=>[]}
def Il:aP:={Y:=UInt8,pre:=fun _=>True,args:=fun y=>[.int .u8 (nB y)],res:=fun y=> .bool (iv y)}
def wg:aP:={Y:=Bs,pre:=fun y=>y.length<=1000000,args:=fun y=>[.str y],res:=fun y=> .str (jx y)}
def QC (y:Bs):aK:={α:=Bs,ok:=fun x=>iy x=iy y/\x.length<=y.length,μ:=fun x=>x.length,aU:=[],aR:=fun x=>[(0, .str x)],bD:=fun _=>[]}
def QD (y:Bs):aK:={α:=Bs,ok:=fun x=>iS x=jx y/\x.length<=y.length,μ:=fun x=>x.length,aU:=[],aR:=fun x=>[(0, .str x)],bD:=fun _=>[]}
def Hy (y:Bs):aK:={α:=Nat,ok:=fun i=>i<=y.length/\iy (y.drop i)=iy y,μ:=fun i=>y.length - i,aU:=[],aR:=fun i=>[(0, .str y),(3,i64 i),(4,i64 (Int.ofNat y.length))],bD:=fun _=>[]}
def Hz (y:Bs):aK:={α:=Nat×Nat,ok:=fun x=>x.1<=x.2/\x.2<=y.length/\iS ((y.drop x.1).take (x.2 - x.1))=jx y,μ:=fun x=>x.2,aU:=[],aR:=fun x=>[(0, .str y),(3,i64 x.1),(4,i64 x.2)],bD:=fun _=>[]}
noncomputable def wk (f:FuncId):Option aP:=bif Nat.beq f Jk then some Il else bif Nat.beq f pt then some mJ else bif Nat.beq f pv then some mJ else qU f
noncomputable def zb (f:FuncId):Option aP:=bif Nat.beq f nE then some wg else bif Nat.beq f nF then some wg else wk f
theorem Gy {α:Type} {p:α->Bool} {l:List α} {x:Nat} (h:x<l.length):(l.take (x+1)).any p=((l.take x).any p||p l[x]):=by
 rw[Az h,List.any_append];simp
theorem Gx {α:Type} {p:α->Bool} {l:List α} {x:Nat} (h:l.length<=x):(l.take x).any p=l.any p:=by rw[As h]
theorem QE {α:Type} {p:α->Bool} {l:List α} {x:Nat} (h:x<l.length) (hp:p l[x]=true):l.any p=true:=DR.2 ⟨_,AF h,hp⟩
theorem RX:CO pt mJ:=bZ (cfg:=fun y=>bU qU (cS pt 2 (wE y))) bH (fun _=>rfl) (fun _=>rX) (n:=600) (by
 intro (s:Bs) (hpre:s.length<=1000000)
 (conv=>whnf)
 refine⟨⟨(0:Nat),⟨Av _,by simp⟩,?_⟩,?_⟩
 . repeat' (first|exact trivial|exact rfl|((conv=>whnf);first|(apply aA<;>intro)|apply And.intro))
 intro (x:Nat) hx;obtain⟨hx,hn⟩:=hx
 (conv=>whnf)
 refine aA (fun hlt=>?_) fun hge=>?_
 . have hlt':x<s.length:=cY hlt;have e:dR s[x]=((bV (nB s[x]) 32&& !(nB s[x]==9))||nB s[x]==127):=rfl;have yes:dR s[x]=true->s.any dR=true:=QE hlt';have no:dR s[x]=false->(s.take (x+1)).any dR=false:=fun h=>by rw[Gy hlt',hn,h];rfl
   repeat' (first|exact trivial|exact rfl|((conv=>whnf);refine ar.2 ⟨_,dz (by assumption),?_⟩)|((conv=>whnf);refine ah.2 ⟨cM _ (by omega),?_⟩)|((conv=>whnf);refine ah.2 ⟨?_,?_⟩)|((conv=>whnf);first|(apply aA<;>intro)|apply And.intro))
   all_goals first
    |(refine(yes ?_).symm;clear yes no e hn;simp_all[dR,nB])
    |((conv=>whnf);refine⟨(x+1:Nat),⟨hlt',no (by clear yes no e hn;simp_all[dR,nB])⟩,by show s.length - (x+1)<s.length - x;omega,?_⟩;repeat' (first|exact trivial|exact rfl|((conv=>whnf);first|(apply aA<;>intro)|apply And.intro)))
 . have hge':s.length<=x:=fY hge;rw[Gx hge']at hn
   (conv=>whnf)
   refine⟨hn.symm,?_⟩
   repeat' (first|exact trivial|exact rfl|((conv=>whnf);first|(apply aA<;>intro)|apply And.intro)))
theorem Rg:CO pv mJ:=bZ (cfg:=fun y=>bU qU (cS pv 3 (RM y))) bH (fun _=>rfl) (fun _=>rX) (n:=600) (by
 intro (s:Bs) (hpre:s.length<=1000000)
 (conv=>whnf)
 refine⟨⟨(0:Nat),Av _,?_⟩,?_⟩
 . repeat' (first|exact trivial|exact rfl|((conv=>whnf);first|(apply aA<;>intro)|apply And.intro))
 intro (x:Nat) hx;have hx:x<=s.length:=hx
 (conv=>whnf)
 refine aA (fun hlt=>?_) fun hge=>?_
 . have hlt':x<s.length:=cY hlt;have fin:∀b:Bool,b=((s.take x).any dR||dR s[x])->b=(s.take (x+1)).any dR:=fun b h=>by rw[Gy hlt',h]
   repeat' (first|exact trivial|exact rfl|((conv=>whnf);refine ar.2 ⟨_,dz (by assumption),?_⟩)|((conv=>whnf);refine ah.2 ⟨cM _ (by omega),?_⟩)|((conv=>whnf);refine ah.2 ⟨?_,?_⟩)|((conv=>whnf);first|(apply aA<;>intro)|apply And.intro))
   all_goals ((conv=>whnf);refine⟨(x+1:Nat),hlt',by show s.length - (x+1)<s.length - x;omega,?_⟩;repeat' (first|exact trivial|exact rfl|((conv=>whnf);first|(apply aA<;>intro)|apply And.intro)))
   all_goals (refine fin _ ?_;clear fin;generalize (s.take x).any dR=P at*;simp_all[dR,nB])
 . have hge':s.length<=x:=fY hge
   (conv=>whnf)
   refine⟨Gx hge',?_⟩
   repeat' (first|exact trivial|exact rfl|((conv=>whnf);first|(apply aA<;>intro)|apply And.intro)))
theorem P1:CO Jk Il:=bZ (cfg:=fun y=>bU qU (dM y)) bH (fun _=>rfl) (fun _=>rX) (n:=400) (by
 intro (b:UInt8) _
 repeat' (first|exact trivial|exact rfl|((conv=>whnf);first|(apply aA<;>intro)|apply And.intro))
 all_goals (simp_all[iv]))
theorem xY:∀g C,wk g=some C->CO g C:=bX P1 (bX RX (bX Rg rX))
theorem CF {b:UInt8} {s:Bs} (h:iv b=true):iy (b::s)=iy s:=by unfold iy;rw[Dy,if_pos h]
theorem CG {b:UInt8} {s:Bs} (h:iv b=false):iy (b::s)=b::s:=by unfold iy;rw[Dy,if_neg (by simp[h])]
theorem C5 {b:UInt8} {s:Bs} (h:iv b=true):iS (s++[b])=iS s:=by unfold iS;rw[Ft,DE,Dr,Dy,if_pos h]
theorem C6 {b:UInt8} {s:Bs} (h:iv b=false):iS (s++[b])=s++[b]:=by unfold iS;rw[Ft,DE,Dr,Dy,if_neg (by simp[h])];simp
theorem C4 {s:Bs} (h:s≠[]):(iv (s.getLast h)=true->iS s.dropLast=iS s)/\(iv (s.getLast h)=false->iS s=s):=by
 have e:=List.dropLast_concat_getLast h;constructor
 . intro hb;rw[<-e,C5 hb];simp
 . intro hb;rw[<-e,C6 hb]
theorem RB:CO nE wg:=bZ (cfg:=fun y=>bU wk (sr nE 1 (QC y) (cS nE 3 (QD y)))) bH (fun _=>rfl) (fun _=>xY) (n:=600) (by
 intro (y:Bs) (hpre:y.length<=1000000)
 (conv=>whnf)
 refine⟨⟨y,⟨rfl,Ah _⟩,?_⟩,?_⟩
 . repeat' (first|exact trivial|exact rfl|((conv=>whnf);first|(apply aA<;>intro)|apply And.intro))
 intro (x:Bs) hx;obtain⟨h1,h2⟩:=hx;have h2:x.length<=y.length:=h2
 (conv=>whnf)
 refine aj.2 ⟨fun hne=> ?ne,fun he=> ?eq⟩
 case' eq=>
   have hL:iy x=x:=by
     have he:(!(x==[]))=false:=he;simp at he;subst he;rfl
 case' ne=>
   obtain⟨b,x',rfl⟩:∃b x',x=b::x':=by
     cases x with
     |nil=>cases hne
     |cons b x=>exact⟨b,x,rfl⟩
   (conv=>whnf)
   refine⟨b,?_⟩
   repeat ((conv=>whnf);first|refine⟨rfl,?_⟩|refine⟨trivial,?_⟩)
   (conv=>whnf)
   refine aj.2 ⟨fun hb=> ?bt,fun hb=> ?bf⟩
   case' bf=>have hL:=CG (s:=x') hb
   case bt=>
     (conv=>whnf)
     refine ah.2 ⟨rfl,?_⟩
     (conv=>whnf)
     refine⟨x',⟨by show iy x'=iy y;rw[<-h1,CF hb],by show x'.length<=y.length;simp at h2;omega⟩,by show x'.length<(b::x').length;simp,?_⟩
     repeat' (first|exact trivial|exact rfl|((conv=>whnf);first|(apply aA<;>intro)|apply And.intro))
 all_goals
   rw[hL]at h1
   (conv=>whnf)
   refine⟨⟨_,⟨by show _=iS (iy y);rw[<-h1],h2⟩,?_⟩,?_⟩
   . repeat' (first|exact trivial|exact rfl|((conv=>whnf);first|(apply aA<;>intro)|apply And.intro))
   clear h2;intro (z:Bs) hz;obtain⟨z1,z2⟩:=hz;have z2:z.length<=y.length:=z2;have z1:iS z=jx y:=z1
   (conv=>whnf)
   refine aA (fun hz0=>?_) fun hz0=>?_
   . have hz0:z≠[]:=by
       have hz0:(!(z==[]))=true:=hz0;simpa using hz0
     have hpos:=AZ.2 hz0;have hlast:z[(Int.ofNat z.length - 1).toNat]? =some (z.getLast hz0):=by
       rw[List.getLast_eq_getElem,show(Int.ofNat z.length - 1).toNat=z.length - 1 by simp only[Aa];omega,Ag (by omega)]
     have hdrop:z.take (Int.ofNat z.length - 1).toNat=z.dropLast:=by
       rw[show(Int.ofNat z.length - 1).toNat=z.length - 1 by simp only[Aa];omega,List.dropLast_eq_take]
     have hir:bC .i64 (Int.ofNat z.length - 1)=true:=by rw[gJ];simp only[Aa];omega
     (conv=>whnf)
     refine ah.2 ⟨hir,?_⟩
     (conv=>whnf)
     refine ah.2 ⟨by rw[mB,Ae];simp only[Aa];omega,?_⟩
     (conv=>whnf)
     refine ar.2 ⟨_,hlast,?_⟩
     (conv=>whnf)
     refine⟨z.getLast hz0,?_⟩
     repeat ((conv=>whnf);first|refine⟨rfl,?_⟩|refine⟨trivial,?_⟩)
     (conv=>whnf)
     refine aA (fun hb=>?_) fun hb=>?_
     . (conv=>whnf)
       refine ah.2 ⟨hir,?_⟩
       (conv=>whnf)
       refine ah.2 ⟨by rw[mB,Ae];simp only[Aa];omega,?_⟩
       (conv=>whnf)
       refine ah.2 ⟨by rw[AW];simp only[Aa];omega,?_⟩
       (conv=>whnf)
       refine⟨z.take (Int.ofNat z.length - 1).toNat,⟨?_,?_⟩,?_,?_⟩
       . show iS (z.take (Int.ofNat z.length - 1).toNat)=jx y
         rw[hdrop,(C4 hz0).1 hb];exact z1
       . show(z.take (Int.ofNat z.length - 1).toNat).length<=y.length
         rw[hdrop,Fp];omega
       . show(z.take (Int.ofNat z.length - 1).toNat).length<z.length
         rw[hdrop,Fp];omega
       . repeat' (first|exact trivial|exact rfl|((conv=>whnf);first|(apply aA<;>intro)|apply And.intro))
     . have:=(C4 hz0).2 hb
       (conv=>whnf)
       refine⟨by rw[<-this];exact z1,?_⟩
       repeat' (first|exact trivial|exact rfl|((conv=>whnf);first|(apply aA<;>intro)|apply And.intro))
   . have hz0:z=[]:=by
       have hz0:(!(z==[]))=false:=hz0;simpa using hz0
     subst hz0
     (conv=>whnf)
     refine⟨z1,?_⟩
     repeat' (first|exact trivial|exact rfl|((conv=>whnf);first|(apply aA<;>intro)|apply And.intro)))
theorem zZ {s:Bs} {x:Nat} (h:x<s.length):s.drop x=s[x]::s.drop (x+1):=Ed h
theorem Oy {s:Bs} {a b:Nat} (h1:a<b) (h2:b<=s.length):(s.drop a).take (b - a)=(s.drop a).take (b - 1 - a)++[s[b - 1]'(by omega)]:=by
 have:b - a=b - 1 - a+1:=by omega
 rw[this,Az (by simp;omega)];congr 2
 simp only[B0];congr 1
 omega
theorem PC:CO nF wg:=bZ (cfg:=fun y=>bU wk (sr nF 3 (Hy y) (cS nF 5 (Hz y)))) bH (fun _=>rfl) (fun _=>xY) (n:=600) (by
 intro (y:Bs) (hpre:y.length<=1000000)
 (conv=>whnf)
 refine⟨⟨(0:Nat),⟨Av _,rfl⟩,?_⟩,?_⟩
 . repeat' (first|exact trivial|exact rfl|((conv=>whnf);first|(apply aA<;>intro)|apply And.intro))
 intro (x:Nat) hx;obtain⟨h1,h2⟩:=hx;have h1:x<=y.length:=h1;have h2:iy (y.drop x)=iy y:=h2;have step:∀hx:x<y.length,iv y[x]=true->(Hy y).ok (x+1:Nat):=fun hx hb=>⟨hx,by rw[<-h2,zZ hx,CF hb]⟩
 have mu:∀hx:x<y.length,y.length - (x+1)<y.length - x:=fun hx=>by omega
 have stop:∀hx:x<y.length,iv y[x]=false->y.drop x=iy y:=fun hx hb=>by
   rw[<-h2,zZ hx,CG hb]
 (conv=>whnf)
 refine aj.2 ⟨fun hlt=> ?wa,fun hge=> ?we⟩
 case' we=>
   have hL:y.drop x=iy y:=by
     have hge:y.length<=x:=fY hge;rw[<-h2,Ek hge];rfl
 case' wa=>
   have hlt':x<y.length:=cY hlt
   (conv=>whnf)
   refine ar.2 ⟨_,dz hlt',?_⟩
   (conv=>whnf)
   refine aj.2 ⟨fun hb=> ?wb,fun hb=> ?wc⟩
   case wb=>
     have hb:nB y[x]=32:=by
       have hb:(nB y[x]==32)=true:=hb;simpa using hb
     (conv=>whnf)
     refine ah.2 ⟨cM x (by omega),?_⟩
     (conv=>whnf)
     refine⟨(x+1:Nat),step hlt' (by simp[iv,hb]),mu hlt',?_⟩
     repeat' (first|exact trivial|exact rfl|((conv=>whnf);first|(apply aA<;>intro)|apply And.intro))
   case' wc=>
     have hb:(nB y[x]==32)=false:=hb
     (conv=>whnf)
     refine ar.2 ⟨_,dz hlt',?_⟩
     (conv=>whnf)
     refine aj.2 ⟨fun hc=> ?wd,fun hc=> ?wf⟩
     case wd=>
       have hc:(nB y[x]==9)=true:=hc
       (conv=>whnf)
       refine ah.2 ⟨cM x (by omega),?_⟩
       (conv=>whnf)
       refine⟨(x+1:Nat),step hlt' (by simp only[iv,hb,hc,EI]),mu hlt',?_⟩
       repeat' (first|exact trivial|exact rfl|((conv=>whnf);first|(apply aA<;>intro)|apply And.intro))
     case' wf=>
       have hc:(nB y[x]==9)=false:=hc;have hL:y.drop x=iy y:=stop hlt' (by simp only[iv,hb,hc,Ey])
 all_goals
   clear step mu stop
   (conv=>whnf)
   refine⟨⟨((x,y.length):Nat×Nat),⟨h1,Ah _,by show iS ((y.drop x).take (y.length - x))=iS (iy y);rw[<-hL,As (by simp)]⟩,?_⟩,?_⟩
   . repeat' (first|exact trivial|exact rfl|((conv=>whnf);first|(apply aA<;>intro)|apply And.intro))
   rintro⟨a,b⟩ ⟨k1,k2,k3⟩;have k1:a<=b:=k1;have k2:b<=y.length:=k2;have k3:iS ((y.drop a).take (b - a))=jx y:=k3
   (conv=>whnf)
   refine aA (fun hlt=>?_) fun hge=>?_
   . have hab:a<b:=by
       have hlt:bV (a:Int) (b:Int)=true:=hlt;rw[cm,Ae]at hlt;omega
     have hl:=Oy hab k2;have hbl:b - 1<y.length:=by omega
     have hget:y[((b:Int) - 1).toNat]? =some y[b - 1]:=by
       rw[show((b:Int) - 1).toNat=b - 1 by omega,Ag hbl]
     have hir:bC .i64 ((b:Int) - 1)=true:=by rw[gJ];omega
     have hnn:nn ((b:Int) - 1)=true:=by rw[mB,Ae];omega
     have hb1:((b:Int) - 1)=((b - 1:Nat):Int):=by omega
     have step:iv y[b - 1]=true->(Hz y).ok ((a,b - 1):Nat×Nat):=fun hb=>⟨by show a<=b - 1;omega,by show b - 1<=y.length;omega,by show iS ((y.drop a).take (b - 1 - a))=jx y;rw[<-k3,hl,C5 hb]⟩
     have stop:iv y[b - 1]=false->(y.drop a).take (b - a)=jx y:=fun hb=>by rw[<-k3,hl,C6 hb]
     have mu:b - 1<b:=by omega
     repeat (first|((conv=>whnf);refine ah.2 ⟨hir,?_⟩)|((conv=>whnf);refine ah.2 ⟨hnn,?_⟩)|((conv=>whnf);refine ar.2 ⟨_,hget,?_⟩))
     (conv=>whnf)
     refine aA (fun hb=>?_) fun hb=>?_
     . have hb:(nB y[b - 1]==32)=true:=hb
       repeat (first|((conv=>whnf);refine ah.2 ⟨hir,?_⟩))
       (conv=>whnf)
       refine⟨((a,b - 1):Nat×Nat),step (by simp only[iv,hb,D5]),mu,?_⟩
       repeat' (first|exact trivial|exact rfl|((conv=>whnf);first|(apply aA<;>intro)|apply And.intro))
       all_goals ((conv=>whnf);exact hb1)
     . have hb:(nB y[b - 1]==32)=false:=hb
       repeat (first|((conv=>whnf);refine ah.2 ⟨hir,?_⟩)|((conv=>whnf);refine ah.2 ⟨hnn,?_⟩)|((conv=>whnf);refine ar.2 ⟨_,hget,?_⟩))
       (conv=>whnf)
       refine aA (fun hc=>?_) fun hc=>?_
       . have hc:(nB y[b - 1]==9)=true:=hc
         repeat (first|((conv=>whnf);refine ah.2 ⟨hir,?_⟩))
         (conv=>whnf)
         refine⟨((a,b - 1):Nat×Nat),step (by simp only[iv,hb,hc,EI]),mu,?_⟩
         repeat' (first|exact trivial|exact rfl|((conv=>whnf);first|(apply aA<;>intro)|apply And.intro))
         all_goals ((conv=>whnf);exact hb1)
       . have hc:(nB y[b - 1]==9)=false:=hc;have:=stop (by simp only[iv,hb,hc,Ey])
         (conv=>whnf)
         refine ah.2 ⟨by show(Nat.ble a b&&Nat.ble b y.length)=true;rw[Ab,AW,AW];omega,?_⟩
         (conv=>whnf)
         refine⟨this,?_⟩
         repeat' (first|exact trivial|exact rfl|((conv=>whnf);first|(apply aA<;>intro)|apply And.intro))
   . have hab:a=b:=by
       have hge:bV (a:Int) (b:Int)=false:=hge;rw[cm,Ai]at hge;omega
     subst hab
     (conv=>whnf)
     refine ah.2 ⟨by show(Nat.ble a a&&Nat.ble a y.length)=true;rw[Ab,AW,AW];omega,?_⟩
     (conv=>whnf)
     refine⟨?_,?_⟩
     . show(y.drop a).take (a - a)=jx y
       rw[<-k3,Nat.sub_self,En];rfl
     repeat' (first|exact trivial|exact rfl|((conv=>whnf);first|(apply aA<;>intro)|apply And.intro)))
theorem Gr:∀g C,zb g=some C->CO g C:=bX RB (bX PC xY)
end
section
variable [Inhabited aF]
def iK (s:Bs) (most:Int) (signs:Bs):Bool:=bG (Int.ofNat s.length) most&& !s.any dR&&decide (jx s=s)&&signs.all fun c=>(cr s (nB c)).isNone
def Is:aP:={Y:=Bs×Int×Bs,pre:=fun y=>y.1.length<=1000000/\y.2.2.length<=100,args:=fun y=>[.str y.1,i64 y.2.1, .aJ UInt8 y.2.2 cG],res:=fun y=> .bool (iK y.1 y.2.1 y.2.2)}
def QA (y:Bs×Int×Bs):aK:={α:=Nat,ok:=fun i=>i<=y.2.2.length/\(y.2.2.take i).all (fun c=>(cr y.1 (nB c)).isNone)=true,μ:=fun i=>y.2.2.length - i,aU:=[],aR:=fun i=>[(0, .str y.1),(26, .aJ UInt8 y.2.2 cG),(27,i64 (Int.ofNat y.2.2.length)),(28,i64 i)],bD:=fun _=>[]}
theorem PU {a b:Int} (h:bV a b=true):bG b a=false:=by
 rw[cm,Ae]at h;rw[fg,Ai];omega
theorem PV {a b:Int} (h:bV a b=false):bG b a=true:=by
 rw[cm,Ai]at h;rw[fg,Ae];omega
theorem FJ (s:Bs) (c:Int):(dy s c).2.2=(cr s c).isSome:=by
 unfold dy
 cases cr s c<;>rfl
theorem Pu:CO px Is:=bZ (cfg:=fun y=>bU zb (cS px 4 (QA y))) bH (fun _=>rfl) (fun _=>Gr) (n:=600) (by
 rintro⟨s,m,g⟩ ⟨(hs:s.length<=1000000),(hg:g.length<=100)⟩;have yes:(iK s m g=false)-> .bool false=SV.bool (iK s m g):=fun h=>by rw[h]
 (conv=>whnf)
 refine aA (fun h=>?_) fun h=>?_
 . have h:bG (Int.ofNat s.length) m=false:=PU h;have:iK s m g=false:=by simp only[iK,h,Bc]
   (conv=>whnf)
   refine⟨this.symm,?_⟩
   repeat' (first|exact trivial|exact rfl|((conv=>whnf);first|(apply aA<;>intro)|apply And.intro))
 have h1:bG (Int.ofNat s.length) m=true:=PV h
 (conv=>whnf)
 refine⟨s,?_⟩
 repeat ((conv=>whnf);first|refine⟨rfl,?_⟩|refine⟨hs,?_⟩)
 (conv=>whnf)
 refine aA (fun h=>?_) fun h=>?_
 . have h:s.any dR=true:=h;have:iK s m g=false:=by simp only[iK,h,BH,BT,Bc]
   (conv=>whnf)
   refine⟨this.symm,?_⟩
   repeat' (first|exact trivial|exact rfl|((conv=>whnf);first|(apply aA<;>intro)|apply And.intro))
 have h2:s.any dR=false:=h
 (conv=>whnf)
 refine⟨s,?_⟩
 repeat ((conv=>whnf);first|refine⟨rfl,?_⟩|refine⟨hs,?_⟩)
 (conv=>whnf)
 refine aA (fun h=>?_) fun h=>?_
 . have h:decide (jx s=s)=false:=by
     have h:(!(jx s==s))=true:=h;simpa using h
   have:iK s m g=false:=by simp only[iK,h,BT,Bc]
   (conv=>whnf)
   refine⟨this.symm,?_⟩
   repeat' (first|exact trivial|exact rfl|((conv=>whnf);first|(apply aA<;>intro)|apply And.intro))
 have h3:decide (jx s=s)=true:=by
   have h:(!(jx s==s))=false:=h;simpa using h
 have hp:iK s m g=g.all fun c=>(cr s (nB c)).isNone:=by simp only[iK,h1,h2,h3,Df,Bn]
 (conv=>whnf)
 refine⟨⟨(0:Nat),⟨Av _,by simp⟩,?_⟩,?_⟩
 . repeat' (first|exact trivial|exact rfl|((conv=>whnf);first|(apply aA<;>intro)|apply And.intro))
 intro (x:Nat) hx;obtain⟨hx,hn⟩:=hx;have hx:x<=g.length:=hx;have hn:(g.take x).all (fun c=>(cr s (nB c)).isNone)=true:=hn
 (conv=>whnf)
 refine aA (fun hlt=>?_) fun hge=>?_
 . have hlt':x<g.length:=cY hlt
   (conv=>whnf)
   refine ar.2 ⟨_,dz hlt',?_⟩
   (conv=>whnf)
   refine⟨(s,nB g[x]),?_⟩
   repeat ((conv=>whnf);first|refine⟨rfl,?_⟩|refine⟨hs,?_⟩)
   (conv=>whnf)
   refine aA (fun h=>?_) fun h=>?_
   . have h:(cr s (nB g[x])).isSome=true:=by rw[<-FJ];exact h
     have:iK s m g=false:=by
       rw[hp,List.all_eq_false];exact⟨g[x],AF hlt',by simp[Option.isNone_iff_eq_none,Ea.1 h]⟩
     (conv=>whnf)
     refine⟨this.symm,?_⟩
     repeat' (first|exact trivial|exact rfl|((conv=>whnf);first|(apply aA<;>intro)|apply And.intro))
   . have h:(cr s (nB g[x])).isSome=false:=by rw[<-FJ];exact h
     (conv=>whnf)
     refine ah.2 ⟨cM x (by omega),?_⟩
     (conv=>whnf)
     refine⟨(x+1:Nat),⟨hlt',?_⟩,by show g.length - (x+1)<g.length - x;omega,?_⟩
     . show(g.take (x+1)).all (fun c=>(cr s (nB c)).isNone)=true
       rw[Az hlt',List.all_append,hn];simpa using h
     . repeat' (first|exact trivial|exact rfl|((conv=>whnf);first|(apply aA<;>intro)|apply And.intro))
 . have hge':g.length<=x:=fY hge;rw[As hge']at hn
   (conv=>whnf)
   refine⟨by show true=iK s m g;rw[hp,hn],?_⟩
   repeat' (first|exact trivial|exact rfl|((conv=>whnf);first|(apply aA<;>intro)|apply And.intro)))
end
section
variable [Inhabited aF]
def iD (b:UInt8):UInt8:=if 65<=b.toNat/\b.toNat<=90 then b+32 else b
def eJ (s:Bs):Bs:=s.map iD
def ia (w:World) (b:Nat) (l:Bs):Prop:=∃arr,w.heap[b]? =some (.cells arr 5 (arr.size,arr.size+1))/\l.length<=arr.size/\ ∀j (h:j<l.length),arr[j]? =some (.int .u8 l[j].toNat)
theorem ia.cell {w:World} {b:Nat} {l:Bs} (h:ia w b l) {j:Nat} (hj:j<l.length):w.cell? ⟨b,j,none⟩=some (.int .u8 l[j].toNat):=by
 obtain⟨arr,h1,_,h3⟩:=h;simp[World.cell?,h1,h3 j hj]
theorem ia.free {w:World} {b:Nat} {l:Bs} (h:ia w b l) {j:Nat} (hj:j<l.length):w.frozen? ⟨b,j,none⟩=false:=by
 obtain⟨arr,h1,h2,_⟩:=h;simp[World.frozen?,h1];omega
theorem ia.set {w:World} {b:Nat} {l:Bs} (h:ia w b l) (k:Nat) (c:UInt8):ia (w.setCell ⟨b,k,none⟩ (.int .u8 c.toNat)) b (l.set k c):=by
 obtain⟨arr,h1,h2,h3⟩:=h;have hlt:=(Ac.1 h1).1;refine⟨arr.setIfInBounds k (.int .u8 c.toNat),?_,by simpa using h2,fun j hj=>?_⟩
 . have h4:=(Ac.1 h1).2;simp only[World.setCell,Ds,h1];simp
 . have hj':j<l.length:=by simpa using hj
   rw[Bx,List.getElem_set];by_cases e:k=j
   . subst e;simp;omega
   . simp only[e,Aw];exact h3 j hj'
theorem Ts (b:UInt8) (w:World):Calls Tryz.prog 220 #[.int .u8 b.toNat] w fun e w'=>e= .returned (.int .u8 (iD b).toNat)/\w'=w:=by
 have hb:=b.toNat_lt;by_cases h1:65<=b.toNat
 . by_cases h2:b.toNat<=90
   . go_enter Tryz.func220,Tryz.ntmps220
     go_wp2;go_ret;refine⟨?_,rfl⟩;unfold iD;rw[if_pos ⟨h1,h2⟩];have e:(b+32).toNat=b.toNat+32:=by
      rw[UInt8.toNat_add,show(32:UInt8).toNat=32 from rfl];omega
     rw[e];simp;omega
   . go_enter Tryz.func220,Tryz.ntmps220
     go_wp2;go_ret;refine⟨?_,rfl⟩;unfold iD;rw[if_neg (fun h=>h2 h.2)];rfl
 . go_enter Tryz.func220,Tryz.ntmps220
   go_wp2;go_ret;refine⟨?_,rfl⟩;unfold iD;rw[if_neg (fun h=>h1 h.1)];rfl
theorem Sm (s:Bs) (w:World) (hl:s.length<=1000000):Calls Tryz.prog 172 #[.string ⟨s.toArray⟩] w fun e w'=>e= .returned (.string ⟨(eJ s).toArray⟩)/\Below w.heap.size w w'/\w.drawn<=w'.drawn:=by
 have hcv:= @run_bytes_of_string Tryz.prog;have hcb:= @run_convert_bytes_back Tryz.prog;go_enter Tryz.func172,Tryz.ntmps172
 go_wp2;have hrow0:∀c,ia (w.drew.alloc (.cells (bytesRow ⟨s.toArray⟩ c) 5 ((bytesRow ⟨s.toArray⟩ c).size,(bytesRow ⟨s.toArray⟩ c).size+1))) w.heap.size s:=fun c=>by
  refine⟨bytesRow ⟨s.toArray⟩ c,?_,?_,fun j hj=>?_⟩
  . show(w.heap.push _)[w.heap.size]? =_
    simp
  . simp[bytesRow]
  . rw[bytesRow_at _ _ _ (by simpa using hj)];simp
 go_loopw [9] (fun i wr=>∃k:Nat,k<=s.length/\i= .int .i64 k/\ia wr w.heap.size ((eJ s).take k++s.drop k)/\Below w.heap.size w wr/\w.drawn<=wr.drawn) (fun i _=>s.length - (intOf i).toNat)
 case atStart=>exact⟨0,Av _,rfl,hrow0 _,((Below.refl _ _).drew).alloc (Ah _) _,Fm _⟩
 case round=>
  obtain⟨k,hk,rfl,hrow,hbel,hdr⟩:=hrel;by_cases hlt:k<s.length
  . have hlen:((eJ s).take k++s.drop k).length=s.length:=by simp[eJ];omega
    have hk2:k<((eJ s).take k++s.drop k).length:=by omega
    have hc:=hrow.cell hk2;have hf:=hrow.free hk2;have hel:((eJ s).take k++s.drop k)[k]=s[k]:=by
     rw[List.getElem_append_right (by simp[eJ];omega)];simp[eJ,EP (Nat.le_of_lt hlt)]
    rw[hel]at hc;have hcall:=Ts s[k] wr;go_wp2_with (go_at_call 220;refine hcall.mono ?_;rintro e w1 ⟨rfl,rfl⟩)
    have hset:((eJ s).take k++s.drop k).set k (iD s[k])=(eJ s).take (k+1)++s.drop (k+1):=by
     have hz:k - ((eJ s).take k).length=0:=by simp[eJ];omega
     rw[List.set_append_right _ _ (by simp[eJ];omega),hz,Ed hlt,Az (by simpa [eJ]using hlt),List.set_cons_zero];simp[eJ]
    refine⟨⟨k+1,hlt,by go_num,?_,hbel.setCell (Ah _) _,hdr⟩,by simp[intOf];omega⟩;rw[<-hset];exact hrow.set k _
  . have hkl:k=s.length:=by omega
    subst hkl;have hrow':ia wr w.heap.size (eJ s):=by
     rw[List.drop_length,BW,As (by simp[eJ])]at hrow;exact hrow
    have hback:∀c,(convert 199 9 (.slice (some ⟨w.heap.size,0,none⟩) s.length c)).run Tryz.prog wr= .ok (.string ⟨(eJ s).toArray⟩) wr:=fun c=>by
     have:=hcb wr 199 9 5 ⟨w.heap.size,0,none⟩ c (eJ s) Tryz.underlying199 Tryz.underlying5 Tryz.underlying9 (fun j hj=>by
      have:=hrow'.cell hj;unfold Addr.add;split
      . rename_i h0;subst h0;exact this
      . simpa using this)
     simpa [eJ]using this
    clear hcb hcv hrow0;go_wp2;go_ret;exact⟨rfl,hbel,hdr⟩
theorem Pq:CO Jj {Y:=Bs,pre:=fun y=>y.length<=1000000,args:=fun y=>[.str y],res:=fun y=> .str (eJ y)}:=kv bH.ok (by
 rintro s hs w args - ⟨h1,h2⟩;match args,h1 with
 |[v],_=>
 have hv:v= .string ⟨s.toArray⟩:=by
  have:=h2 0 _ _ rfl rfl
  cases this;rfl
 subst hv;refine(Sm s w hs).mono ?_;rintro e w' ⟨rfl,hb,hd⟩;exact⟨_,rfl, .inr (.str _),hb,fun _=>hd⟩)
end
end Go.Proofs
namespace Go.Proofs
open Go Go.Am Go.RowKit Go.Sy Go.Gm
def ep (a:Int×Int):Value:= .agg #[.int .i64 a.1, .int .i64 a.2]
def bq (d:ag):Value:= .agg #[.int .i64 d.dev, .int .i64 d.inc, .int .i64 d.seq]
def cP (k:aC):Value:= .agg #[.string ⟨k.name.toArray⟩, .string ⟨k.domain.toArray⟩, .string ⟨k.path.toArray⟩]
def ch (n:Int):Value:= .int .i64 n
theorem TA (x y:Int×Int) (w:World):(Op.equal sZ (ep x) (ep y)).run Tryz.prog w= .ok (decide (x=y)) w:=by
 letI:Inhabited aF:=⟨⟨True,#[]⟩⟩
 have h0:eqT Tryz.tab 8 sZ (.agg [.int .i64 x.1, .int .i64 x.2]) (.agg [.int .i64 y.1, .int .i64 y.2])=(if(x.1==y.1)=true then(if(x.2==y.2)=true then .ok true else .ok false)else .ok false:R Bool):=by kernel_rfl
 have h:eqT Tryz.tab 8 sZ (.agg [.int .i64 x.1, .int .i64 x.2]) (.agg [.int .i64 y.1, .int .i64 y.2])= .ok (decide (x=y)):=by
  rw[h0];by_cases e1:x.1=y.1<;>by_cases e2:x.2=y.2<;>simp[e1,e2,Prod.ext_iff]
 exact oT Tryz.jr (E:=⟨fun i=>i,fun _=>0⟩) 8 sZ _ _ _ h 9992 w
theorem TB (x y:ag) (w:World):(Op.equal Ty.mD (bq x) (bq y)).run Tryz.prog w= .ok (decide (x=y)) w:=by
 letI:Inhabited aF:=⟨⟨True,#[]⟩⟩
 have h0:eqT Tryz.tab 8 Ty.mD (.agg [.int .i64 x.dev, .int .i64 x.inc, .int .i64 x.seq]) (.agg [.int .i64 y.dev, .int .i64 y.inc, .int .i64 y.seq])=(do if(<-(if(x.dev==y.dev)=true then(if(x.inc==y.inc)=true then .ok true else .ok false)else .ok false:R Bool))=true then(if(x.seq==y.seq)=true then .ok true else .ok false)else .ok false:R Bool):=by kernel_rfl
 have h:eqT Tryz.tab 8 Ty.mD (.agg [.int .i64 x.dev, .int .i64 x.inc, .int .i64 x.seq]) (.agg [.int .i64 y.dev, .int .i64 y.inc, .int .i64 y.seq])= .ok (decide (x=y)):=by
  rw[h0];by_cases e1:x.dev=y.dev<;>by_cases e2:x.inc=y.inc<;>by_cases e3:x.seq=y.seq
  all_goals first|(rw[BD (ag.ext_iff.2 ⟨e1,e2,e3⟩)];simp only[e1,e2,e3,Eh,if_true];rfl)|(rw[Bu (fun h=>by rw[ag.ext_iff]at h;simp_all)];simp[e1,e2,e3];try rfl)
 exact oT Tryz.jr (E:=⟨fun i=>i,fun _=>0⟩) 8 Ty.mD _ _ _ h 9992 w
theorem PS (x y:aC):x=y↔x.name=y.name/\x.domain=y.domain/\x.path=y.path:=by
 cases x;cases y;simp
theorem TC (x y:aC) (w:World):(Op.equal tb (cP x) (cP y)).run Tryz.prog w= .ok (decide (x=y)) w:=by
 letI:Inhabited aF:=⟨⟨True,#[]⟩⟩
 have h0:eqT Tryz.tab 8 tb (.agg [.str x.name, .str x.domain, .str x.path]) (.agg [.str y.name, .str y.domain, .str y.path])=(if(x.name==y.name)=true then(if(x.domain==y.domain)=true then(if(x.path==y.path)=true then .ok true else .ok false)else .ok false)else .ok false:R Bool):=by kernel_rfl
 have h:eqT Tryz.tab 8 tb (.agg [.str x.name, .str x.domain, .str x.path]) (.agg [.str y.name, .str y.domain, .str y.path])= .ok (decide (x=y)):=by
  rw[h0];by_cases e1:x.name=y.name<;>by_cases e2:x.domain=y.domain<;>by_cases e3:x.path=y.path<;>simp[e1,e2,e3,PS]
 exact oT Tryz.jr (E:=⟨fun i=>i,fun _=>0⟩) 8 tb _ _ _ h 9992 w
theorem zr:KeyLaw Tryz.prog sZ ep:=⟨fun b k w=>by kernel_rfl,TA,fun k=>by simp[Instr.sameBits,ep],⟨_,Tryz.underlying33⟩⟩
theorem gN:KeyLaw Tryz.prog Ty.mD bq:=⟨fun b k w=>by kernel_rfl,TB,fun k=>by simp[Instr.sameBits,bq],⟨_,Tryz.underlying35⟩⟩
theorem yw (a:ByteArray):(a==a)=true:=by
 rw[beq_toListBytes];simp
theorem wq:KeyLaw Tryz.prog tb cP:=⟨fun b k w=>by kernel_rfl,TC,fun k=>by(simp[Instr.sameBits,cP];exact⟨yw _,yw _,yw _⟩),⟨_,Tryz.underlying24⟩⟩
theorem sY (w:World):(zeroValue 3).run Tryz.prog w= .ok (ch 0) w:=by kernel_rfl
theorem kz {w:World} {bs bv:Nat} {L:List ((Int×Int)×Int)} (hs:w.cell? ⟨bs,0,none⟩=some (.map (some bv))) (hm:au w bv ep ch L) (a i:Int):
  Calls Tryz.prog 67 #[.pointer (some ⟨bs,0,none⟩), .agg #[.int .i64 a, .int .i64 i]] w fun e w'=>e= .returned (.int .i64 ((aw L (a,i)).getD 0))/\Below w.heap.size w w':=by
 have hlk:∀w':World,w'.heap[bv]? =w.heap[bv]? ->(Instr.lookup 147 (.map (some bv)) (.agg #[.int .i64 a, .int .i64 i]) false).run Tryz.prog w'= .ok (.int .i64 ((aw L (a,i)).getD 0)) w':=fun w' h=>by
  have:=(hm.same h).lookup zr Tryz.underlying147 (sY w') (a,i) false;simp only[Ak,Aw]at this;rw[show ep (a,i)= .agg #[.int .i64 a, .int .i64 i]from rfl]at this;rw[this]
  cases aw L (a,i)<;>rfl
 have hbv:bv<w.heap.size:=by
  obtain⟨es,clk,h,_⟩:=hm.at_;exact(Ac.1 h).1
 have hbs:bs<w.heap.size:=by
  unfold World.cell? at hs
  cases h:w.heap[bs]? with
  |none=>simp[h]at hs
  |some o=>exact(Ac.1 h).1
 go_enter Tryz.func67,Tryz.ntmps67
 go_wp2;have hl2:=hlk (w.alloc (.cells #[.int .i64 a, .int .i64 i] 33)).drew (Below.heap_alloc w _ bv hbv);have hs2:(w.alloc (.cells #[.int .i64 a, .int .i64 i] 33)).cell? ⟨bs,0,none⟩=some (.map (some bv)):=by
  rw[<-hs];exact((Below.refl w.heap.size w).alloc (Ah _) _).cell hbs
 clear hlk;go_region
 go_wp2;go_ret;exact⟨rfl,((Below.refl w.heap.size w).alloc (Ah _) _).drew⟩
end Go.Proofs
