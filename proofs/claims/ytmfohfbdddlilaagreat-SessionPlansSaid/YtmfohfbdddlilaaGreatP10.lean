/- Part 10: an evaluator, proved sound, and its use at this seat; no condition. -/
import Derived.Test.YtmfohfbdddlilaaGreatP8
import Derived.Test.YtmfohfbdddlilaaGreatP9
set_option linter.unusedSimpArgs false
set_option linter.unusedVariables false
set_option linter.unusedSectionVars false
set_option linter.deprecated false
set_option maxRecDepth 100000
set_option maxHeartbeats 1000000
namespace Go.Proofs
open Go Go.Am Go.RowKit Go.Sy Go.Gm
section
variable [Inhabited aL]
section
variable {α:Type} {less:α->α->Bool}
theorem zj (hir:∀x,less x x=false) (htr:∀x y z,less x y=true->less y z=true->less x z=true):∀{l m:List α},l.Pairwise (fun x y=>less x y=true)->m.Pairwise (fun x y=>less x y=true)->(∀x,x∈l↔x∈m)->l=m
 |[],[],_,_,_=>rfl
 |[],y::m,_,_,h=>by have:=(h y).2 Ar;cases this
 |x::l,[],_,_,h=>by have:=(h x).1 Ar;cases this
 |x::l,y::m,hl,hm,h=>by
  rw[BA]at hl hm;have hxy:x=y:=by
    have h1:=(h x).1 Ar;have h2:=(h y).2 Ar;rcases Ak.1 h1 with h1|h1
    . exact h1
    . rcases Ak.1 h2 with h2|h2
      . exact h2.symm
      . have:=htr _ _ _ (hl.1 y h2) (hm.1 x h1);rw[hir]at this;cases this
  subst hxy;congr 1
  refine zj hir htr hl.2 hm.2 fun z=>?_
  have hz:=h z;constructor
  . intro hz1;rcases Ak.1 (hz.1 (AB _ hz1))with rfl|h2
    . have:=hl.1 z hz1;rw[hir]at this;cases this
    . exact h2
  . intro hz1;rcases Ak.1 (hz.2 (AB _ hz1))with rfl|h2
    . have:=hm.1 z hz1;rw[hir]at this;cases this
    . exact h2
theorem RA [DecidableEq α] (hir:∀x,less x x=false) (htr:∀x y z,less x y=true->less y z=true->less x z=true) (tri:∀x y,less x y=true\/x=y\/less y x=true) {l:List α} (hl:l.Pairwise fun x y=>less x y=true) (e:α):(fT less l e).Pairwise fun x y=>less x y=true:=by
 have key:∀{l:List α},l.Pairwise (fun x y=>less x y=true)->e∈l->l[cX less l e]? =some e:=by
   intro l;induction l with
   |nil=>intro _ h;cases h
   | cons x l ih=>
     intro hl hm;rw[BA]at hl;unfold cX;rw[BC];by_cases h:less x e=true
     . rw[An h];rcases Ak.1 hm with rfl|hm
       . rw[hir]at h;cases h
       . simp only[Az,Bo];exact ih hl.2 hm
     . rw[Aj h];rcases Ak.1 hm with rfl|hm
       . rfl
       . exact absurd (hl.1 e hm) h
 unfold fT;split
 . exact hl
 . rename_i hne;refine zp htr hl fun x hx=>?_
   rcases tri x e with h|h|h
   . exact .inl h
   . subst h;exact absurd (key hl hx) hne
   . exact .inr h
theorem Rc [DecidableEq α] (hir:∀x,less x x=false) (htr:∀x y z,less x y=true->less y z=true->less x z=true) (tri:∀x y,less x y=true\/x=y\/less y x=true) (l:List α):(cz less l).Pairwise fun x y=>less x y=true:=by
 have key:∀(l a:List α),a.Pairwise (fun x y=>less x y=true)->(l.foldl (fT less) a).Pairwise fun x y=>less x y=true:=by
  intro l;induction l with
  |nil=>intro a h;exact h
  |cons x l ih=>intro a h;exact ih _ (RA hir htr tri h x)
 exact key l [] List.Pairwise.nil
end
theorem vL (l:List ar):(cz bI l).Pairwise fun x y=>bI x y=true:=Rc vB (fun _ _ _=>vy) y9 l
theorem uw {l m:List ar} (hl:l.Pairwise fun x y=>bI x y=true) (h:∀x,x∈l↔x∈m):l=cz bI m:=
 zj vB (fun _ _ _=>vy) hl (vL m) fun x=>by rw[h,rG]
theorem cV.al {G:bD} {m:aK} (h:cV G m) (k:aA) (d:ar):gx G.alive k d↔∃e∈aU m k,e.dot=d:=by
 rw[h.yH.al];unfold aU cF lT;simp only[AE,Ac,AS,Ah,BM,Ab];constructor
 . rintro⟨x,h1,h2,h3,h4⟩;have hd:=h.keys d x h1;have hk:=(h.kept x.2).2 ⟨x.1,by rw[hd,h1]⟩;exact⟨x.2,⟨⟨hk,h2,fun hm=>h4 ((h.dead d).2 (hd▸hm))⟩,h3⟩,hd⟩
 . rintro⟨e,⟨⟨hk,h2,h3⟩,h4⟩,rfl⟩;obtain⟨v,hv⟩:=(h.kept e).1 hk;exact⟨(v,e),hv,h2,h4,fun hd=>h3 ((h.dead _).1 hd)⟩
theorem Tf {G:bD} {m:aK} (h:cV G m) (k:aA):((aU m k).map (·.dot)).Pairwise fun x y=>bI x y=true:=by
 rw[DO];exact Ew ((BR).trans BR) h.sorted
theorem U5 {G:bD} {m:aK} (h:cV G m) {k:aA} {l:List ar} (hl:∀d,d∈l↔gx G.alive k d):cz bI l=(aU m k).map (·.dot):=
 (uw (Tf h k) fun d=>by rw[hl,h.al];simp).symm
theorem Ln {G:bD} {m:aK} (h:cV G m) {k:aA} {e:ae} (he:e∈aU m k):∃v,aE G.kept e.dot=some (v,e):=
 (h.kept e).1 (AE.1 (AE.1 he).1).1
theorem tZ {G:bD} {m:aK} (h:cV G m) (k:aA):(aE G.alive k).isSome=true↔aU m k≠[]:=by
 constructor
 . intro hs;obtain⟨x,hx⟩:=BJ.1 hs;have hf:=h.yH.full k x hx;obtain⟨y,L,hL⟩:∃y L,x.2=y::L:=by
    cases e:x.2 with
    |nil=>exact absurd e hf
    |cons y L=>exact⟨y,L,rfl⟩
   obtain⟨e,he,_⟩:=(h.al k y.1).1 ⟨x,hx,by rw[hL];simp[aE]⟩;exact Ea he
 . intro hne;obtain⟨e,he⟩:=EZ _ hne;obtain⟨x,hx,_⟩:=(h.al k e.dot).2 ⟨e,he,rfl⟩;rw[hx];rfl
theorem YR:∀{l:List ae} {y:ae},dM l=some y->y∈l:=by
 have key:∀(l:List ae) (b:Option ae) (y:ae),l.foldl (fun b e=>match b with|none=>some e|some y=>if kG e.bu y.bu then some y else some e) b=some y->b=some y\/y∈l:=by
  intro l;induction l with
  |nil=>intro b y h;exact .inl h
  |cons x l ih=>
   intro b y h;rcases ih _ y h with h1|h1
   . cases b with
     |none=>cases h1;exact .inr Ar
     |some z=>
      simp only at h1;split at h1
      . exact .inl h1
      . cases h1;exact .inr Ar
   . exact .inr (AB _ h1)
 intro l y h;exact(key l none y h).resolve_left (by simp)
theorem WR {l:List ae} (h:l≠[]):∃y,dM l=some y:=by
 obtain⟨y,hy⟩:=uI (l:=l) (x:=l.length) (AY.2 h) (Ai _);rw[Bu]at hy;exact⟨y,hy⟩
theorem tN {m:aK} {k:aA} (h:aU m k≠[]):(dV m k).1∈aU m k:=by
 obtain⟨y,hy⟩:=WR h;unfold dV;rw[hy];exact YR hy
theorem dX {m:aK} {k:aA} {e:ae}:e∈aU m k↔e∈cF m/\e.key=k:=by
 unfold aU;rw[AE,Ab]
theorem KP {G:bD} {m:aK} (h:cV G m) {x y:ae} (hx:x∈cF m) (hy:y∈cF m) (e:x.dot=y.dot):x=y:=by
 obtain⟨u,hu⟩:=(h.kept x).1 (AE.1 hx).1;obtain⟨v,hv⟩:=(h.kept y).1 (AE.1 hy).1;rw[e,hv]at hu
 cases hu;rfl
theorem zX {G:bD} {m:aK} (h:cV G m):∀n,n<=(cF m).length->(cT m ((cF m).take n)).Pairwise (fun x y=>kZ x y=true)/\ ∀y,y∈cT m ((cF m).take n)↔∃x∈(cF m).take n,(dV m x.key).1.dot=x.dot/\y=(dV m x.key).1
 |0,_=>by simp[cT]
 | n + 1, hn=>by
  have hn':n<(cF m).length:=hn;obtain⟨h1,h2⟩:=zX h n (by omega);have hf:=JX (m:=m) hn';have hmem:∀x,x∈(cF m).take (n+1)↔x∈(cF m).take n\/x=(cF m)[n]:=fun x=>by
    rw[Aw hn',A7,BE]
  rw[hf];have hal:(cF m)[n]∈cF m:=AI hn';have hkn:aU m (cF m)[n].key≠[]:=Ea (dX.2 ⟨hal,rfl⟩);have hw:=dX.1 (tN hkn);split
  . rename_i hd;have hwe:(dV m (cF m)[n].key).1=(cF m)[n]:=KP h hw.1 hal hd;refine⟨zp (less:=kZ) (fun x y z=>pX _ _ _) h1 fun y hy=>?_,fun y=>?_⟩
    . obtain⟨x,hx,hxd,rfl⟩:=(h2 y).1 hy;rcases tH (dV m x.key).1.key (dV m (cF m)[n].key).1.key with h3|h3|h3
      . exact .inl h3
      . exfalso;have hxa:x∈cF m:=Ey hx;have hkx:aU m x.key≠[]:=Ea (dX.2 ⟨hxa,rfl⟩);have hwx:=dX.1 (tN hkx);rw[hwx.2,hw.2]at h3;have hxe:x=(cF m)[n]:=by
          refine KP h hxa hal ?_;rw[<-hxd,h3,hd]
        obtain⟨j,hj,hje⟩:=Bd hx;have hjn:j<n:=by simp at hj;omega
        rw[Ek]at hje;have hs:=Bt.1 (Ew BR h.sorted:(cF m).Pairwise _) j n (by omega) hn' hjn;rw[hje,hxe,vB]at hs
        cases hs
      . exact .inr h3
    . unfold jo;rw[CP,h2];constructor
      . rintro(⟨x,hx,hx2⟩|rfl)
        . exact⟨x,(hmem x).2 (.inl hx),hx2⟩
        . exact⟨_,(hmem _).2 (.inr rfl),hd,rfl⟩
      . rintro⟨x,hx,hx2,rfl⟩;rcases(hmem x).1 hx with hx|rfl
        . exact .inl ⟨x,hx,hx2,rfl⟩
        . exact .inr rfl
  . rename_i hd;refine⟨h1,fun y=>?_⟩;rw[h2];constructor
    . rintro⟨x,hx,hx2⟩;exact⟨x,(hmem x).2 (.inl hx),hx2⟩
    . rintro⟨x,hx,hx2,hx3⟩;rcases(hmem x).1 hx with hx|rfl
      . exact⟨x,hx,hx2,hx3⟩
      . exact absurd hx2 hd
theorem Ia {G:bD} {m:aK} (h:cV G m):(gA m).Pairwise fun x y=>kZ x y=true:=by
 have:=(zX h _ (Ai _)).1;rwa [Bu]at this
theorem IU {G:bD} {m:aK} (h:cV G m) (y:ae):y∈gA m↔∃k,aU m k≠[]/\y=(dV m k).1:=by
 have h2:=(zX h _ (Ai _)).2 y;rw[Bu]at h2;unfold gA;rw[h2];constructor
 . rintro⟨x,hx,_,rfl⟩;exact⟨x.key,Ea (dX.2 ⟨hx,rfl⟩),rfl⟩
 . rintro⟨k,hk,rfl⟩;have hw:=dX.1 (tN hk);exact⟨(dV m k).1,hw.1,by rw[hw.2],by rw[hw.2]⟩
theorem Sp {G:bD} {m:aK} (h:cV G m) {ks:List aA} (hs:ks.Pairwise fun x y=>fk x y=true) (hm:∀k,k∈ks↔(aE G.alive k).isSome=true):ks.map (fun k=>(dV m k).1)=gA m:=by
 have hkey:∀k∈ks,((dV m k).1).key=k:=fun k hk=>(dX.1 (tN ((tZ h k).1 ((hm k).1 hk)))).2
 refine zj (less:=kZ) (fun x=>nq _) (fun x y z=>pX _ _ _) ?_ (Ia h) fun y=>?_
 . rw[DO];refine List.Pairwise.imp_of_mem (fun{a b} ha hb hab=>?_) hs;show fk _ _=true
   rw[hkey a ha,hkey b hb];exact hab
 . rw[Av,IU h];constructor
   . rintro⟨k,hk,rfl⟩;exact⟨k,(tZ h k).1 ((hm k).1 hk),rfl⟩
   . rintro⟨k,hk,rfl⟩;exact⟨k,(hm k).2 ((tZ h k).2 hk),rfl⟩
end
end Go.Proofs
