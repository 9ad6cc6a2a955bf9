/- Part 13: an evaluator, proved sound, and its use at this seat; no condition. -/
import Derived.Test.YtmfohfbdddlilaaGreatP10
import Derived.Test.YtmfohfbdddlilaaGreatP12
set_option linter.unusedSimpArgs false
set_option linter.unusedVariables false
set_option linter.unusedSectionVars false
set_option linter.deprecated false
set_option maxRecDepth 100000
set_option maxHeartbeats 1000000
namespace Go.Proofs
open Go Go.Am Go.RowKit Go.Sy Go.Gm
section
variable [Inhabited aD]
section
variable {α:Type} {less:α->α->Bool}
theorem vH (hir:∀x,less x x=false) (htr:∀x y z,less x y=true->less y z=true->less x z=true):∀{l m:List α},l.Pairwise (fun x y=>less x y=true)->m.Pairwise (fun x y=>less x y=true)->(∀x,x∈l↔x∈m)->l=m
 |[],[],_,_,_=>rfl
 |[],y::m,_,_,h=>by have:=(h y).2 An;cases this
 |x::l,[],_,_,h=>by have:=(h x).1 An;cases this
 |x::l,y::m,hl,hm,h=>by
  rw[Bv]at hl hm;have hxy:x=y:=by
    have h1:=(h x).1 An;have h2:=(h y).2 An;rcases Ag.1 h1 with h1|h1
    . exact h1
    . rcases Ag.1 h2 with h2|h2
      . exact h2.symm
      . have:=htr _ _ _ (hl.1 y h2) (hm.1 x h1);rw[hir]at this;cases this
  subst hxy;congr 1
  refine vH hir htr hl.2 hm.2 fun z=>?_
  have hz:=h z;constructor
  . intro hz1;rcases Ag.1 (hz.1 (Al _ hz1))with rfl|h2
    . have:=hl.1 z hz1;rw[hir]at this;cases this
    . exact h2
  . intro hz1;rcases Ag.1 (hz.2 (Al _ hz1))with rfl|h2
    . have:=hm.1 z hz1;rw[hir]at this;cases this
    . exact h2
theorem Ij [DecidableEq α] (hir:∀x,less x x=false) (htr:∀x y z,less x y=true->less y z=true->less x z=true) (tri:∀x y,less x y=true\/x=y\/less y x=true) {l:List α} (hl:l.Pairwise fun x y=>less x y=true) (e:α):(fZ less l e).Pairwise fun x y=>less x y=true:=by
 have key:∀{l:List α},l.Pairwise (fun x y=>less x y=true)->e∈l->l[eB less l e]? =some e:=by
   intro l;induction l with
   |nil=>intro _ h;cases h
   | cons x l ih=>
     intro hl hm;rw[Bv]at hl;unfold eB;rw[Bk];by_cases h:less x e=true
     . rw[if_pos h];rcases Ag.1 hm with rfl|hm
       . rw[hir]at h;cases h
       . simp only[As,A8];exact ih hl.2 hm
     . rw[if_neg h];rcases Ag.1 hm with rfl|hm
       . rfl
       . exact absurd (hl.1 e hm) h
 unfold fZ;split
 . exact hl
 . rename_i hne;refine vQ htr hl fun x hx=>?_
   rcases tri x e with h|h|h
   . exact .inl h
   . subst h;exact absurd (key hl hx) hne
   . exact .inr h
theorem IK [DecidableEq α] (hir:∀x,less x x=false) (htr:∀x y z,less x y=true->less y z=true->less x z=true) (tri:∀x y,less x y=true\/x=y\/less y x=true) (l:List α):(eI less l).Pairwise fun x y=>less x y=true:=by
 have key:∀(l a:List α),a.Pairwise (fun x y=>less x y=true)->(l.foldl (fZ less) a).Pairwise fun x y=>less x y=true:=by
  intro l;induction l with
  |nil=>intro a h;exact h
  |cons x l ih=>intro a h;exact ih _ (Ij hir htr tri h x)
 exact key l [] List.Pairwise.nil
end
theorem sK (l:List ak):(eI cM l).Pairwise fun x y=>cM x y=true:=IK sC (fun _ _ _=>sM) vr l
theorem qP {l m:List ak} (hl:l.Pairwise fun x y=>cM x y=true) (h:∀x,x∈l↔x∈m):l=eI cM m:=
 vH sC (fun _ _ _=>sM) hl (sK m) fun x=>by rw[h,pC]
theorem cq.al {G:aY} {m:bh} (h:cq G m) (k:ay) (d:ak):fm G.alive k d↔∃e∈aT m k,e.dot=d:=by
 rw[h.u4.al];unfold aT fL Gb;simp only[Au,Ab,AX,Ao,B6,Ah];constructor
 . rintro⟨x,h1,h2,h3,h4⟩;have hd:=h.keys d x h1;have hk:=(h.kept x.2).2 ⟨x.1,by rw[hd,h1]⟩;exact⟨x.2,⟨⟨hk,h2,fun hm=>h4 ((h.dead d).2 (hd▸hm))⟩,h3⟩,hd⟩
 . rintro⟨e,⟨⟨hk,h2,h3⟩,h4⟩,rfl⟩;obtain⟨v,hv⟩:=(h.kept e).1 hk;exact⟨(v,e),hv,h2,h4,fun hd=>h3 ((h.dead _).1 hd)⟩
theorem J2 {G:aY} {m:bh} (h:cq G m) (k:ay):((aT m k).map (·.dot)).Pairwise fun x y=>cM x y=true:=by
 rw[Et];exact Ef ((Dk).trans Dk) h.sorted
theorem MJ {G:aY} {m:bh} (h:cq G m) {k:ay} {l:List ak} (hl:∀d,d∈l↔fm G.alive k d):eI cM l=(aT m k).map (·.dot):=
 (qP (J2 h k) fun d=>by rw[hl,h.al];simp).symm
theorem Fm {G:aY} {m:bh} (h:cq G m) {k:ay} {e:af} (he:e∈aT m k):∃v,ar G.kept e.dot=some (v,e):=
 (h.kept e).1 (Au.1 (Au.1 he).1).1
theorem qJ {G:aY} {m:bh} (h:cq G m) (k:ay):(ar G.alive k).isSome=true↔aT m k≠[]:=by
 constructor
 . intro hs;obtain⟨x,hx⟩:=By.1 hs;have hf:=h.u4.full k x hx;obtain⟨y,L,hL⟩:∃y L,x.2=y::L:=by
    cases e:x.2 with
    |nil=>exact absurd e hf
    |cons y L=>exact⟨y,L,rfl⟩
   obtain⟨e,he,_⟩:=(h.al k y.1).1 ⟨x,hx,by rw[hL];simp[ar]⟩;exact D3 he
 . intro hne;obtain⟨e,he⟩:=EO _ hne;obtain⟨x,hx,_⟩:=(h.al k e.dot).2 ⟨e,he,rfl⟩;rw[hx];rfl
theorem NJ:∀{l:List af} {y:af},eu l=some y->y∈l:=by
 have key:∀(l:List af) (b:Option af) (y:af),l.foldl (fun b e=>match b with|none=>some e|some y=>if mz e.bw y.bw then some y else some e) b=some y->b=some y\/y∈l:=by
  intro l;induction l with
  |nil=>intro b y h;exact .inl h
  |cons x l ih=>
   intro b y h;rcases ih _ y h with h1|h1
   . cases b with
     |none=>cases h1;exact .inr An
     |some z=>
      simp only at h1;split at h1
      . exact .inl h1
      . cases h1;exact .inr An
   . exact .inr (Al _ h1)
 intro l y h;exact(key l none y h).resolve_left (by simp)
theorem L6 {l:List af} (h:l≠[]):∃y,eu l=some y:=by
 obtain⟨y,hy⟩:=xj (l:=l) (x:=l.length) (Dw.2 h) (Af _);rw[Bz]at hy;exact⟨y,hy⟩
theorem sU {m:bh} {k:ay} (h:aT m k≠[]):(ew m k).1∈aT m k:=by
 obtain⟨y,hy⟩:=L6 h;unfold ew;rw[hy];exact NJ hy
theorem dG {m:bh} {k:ay} {e:af}:e∈aT m k↔e∈fL m/\e.key=k:=by
 unfold aT;rw[Au,Ah]
theorem Cr {G:aY} {m:bh} (h:cq G m) {x y:af} (hx:x∈fL m) (hy:y∈fL m) (e:x.dot=y.dot):x=y:=by
 obtain⟨u,hu⟩:=(h.kept x).1 (Au.1 hx).1;obtain⟨v,hv⟩:=(h.kept y).1 (Au.1 hy).1;rw[e,hv]at hu
 cases hu;rfl
theorem wb {G:aY} {m:bh} (h:cq G m):∀n,n<=(fL m).length->(iV m ((fL m).take n)).Pairwise (fun x y=>oE x y=true)/\ ∀y,y∈iV m ((fL m).take n)↔∃x∈(fL m).take n,(ew m x.key).1.dot=x.dot/\y=(ew m x.key).1
 |0,_=>by simp[iV]
 | n + 1, hn=>by
  have hn':n<(fL m).length:=hn;obtain⟨h1,h2⟩:=wb h n (by omega);have hf:=KT (m:=m) hn';have hmem:∀x,x∈(fL m).take (n+1)↔x∈(fL m).take n\/x=(fL m)[n]:=fun x=>by
    rw[AG hn',Bc,BU]
  rw[hf];have hal:(fL m)[n]∈fL m:=Bb hn';have hkn:aT m (fL m)[n].key≠[]:=D3 (dG.2 ⟨hal,rfl⟩);have hw:=dG.1 (sU hkn);split
  . rename_i hd;have hwe:(ew m (fL m)[n].key).1=(fL m)[n]:=Cr h hw.1 hal hd;refine⟨vQ (less:=oE) (fun x y z=>mw _ _ _) h1 fun y hy=>?_,fun y=>?_⟩
    . obtain⟨x,hx,hxd,rfl⟩:=(h2 y).1 hy;rcases qG (ew m x.key).1.key (ew m (fL m)[n].key).1.key with h3|h3|h3
      . exact .inl h3
      . exfalso;have hxa:x∈fL m:=Eh hx;have hkx:aT m x.key≠[]:=D3 (dG.2 ⟨hxa,rfl⟩);have hwx:=dG.1 (sU hkx);rw[hwx.2,hw.2]at h3;have hxe:x=(fL m)[n]:=by
          refine Cr h hxa hal ?_;rw[<-hxd,h3,hd]
        obtain⟨j,hj,hje⟩:=BP hx;have hjn:j<n:=by simp at hj;omega
        rw[List.getElem_take]at hje;have hs:=Bt.1 (Ef Dk h.sorted:(fL m).Pairwise _) j n (by omega) hn' hjn;rw[hje,hxe,sC]at hs
        cases hs
      . exact .inr h3
    . unfold iL;rw[wT,h2];constructor
      . rintro(⟨x,hx,hx2⟩|rfl)
        . exact⟨x,(hmem x).2 (.inl hx),hx2⟩
        . exact⟨_,(hmem _).2 (.inr rfl),hd,rfl⟩
      . rintro⟨x,hx,hx2,rfl⟩;rcases(hmem x).1 hx with hx|rfl
        . exact .inl ⟨x,hx,hx2,rfl⟩
        . exact .inr rfl
  . rename_i hd;refine⟨h1,fun y=>?_⟩;rw[h2];constructor
    . rintro⟨x,hx,hx2⟩;exact⟨x,(hmem x).2 (.inl hx),hx2⟩
    . rintro⟨x,hx,hx2,hx3⟩;rcases(hmem x).1 hx with hx|rfl
      . exact⟨x,hx,hx2,hx3⟩
      . exact absurd hx2 hd
theorem HD {G:aY} {m:bh} (h:cq G m):(iu m).Pairwise fun x y=>oE x y=true:=by
 have:=(wb h _ (Af _)).1;rwa [Bz]at this
theorem Jd {G:aY} {m:bh} (h:cq G m) (y:af):y∈iu m↔∃k,aT m k≠[]/\y=(ew m k).1:=by
 have h2:=(wb h _ (Af _)).2 y;rw[Bz]at h2;unfold iu;rw[h2];constructor
 . rintro⟨x,hx,_,rfl⟩;exact⟨x.key,D3 (dG.2 ⟨hx,rfl⟩),rfl⟩
 . rintro⟨k,hk,rfl⟩;have hw:=dG.1 (sU hk);exact⟨(ew m k).1,hw.1,by rw[hw.2],by rw[hw.2]⟩
theorem JU {G:aY} {m:bh} (h:cq G m) {ks:List ay} (hs:ks.Pairwise fun x y=>bF x y=true) (hm:∀k,k∈ks↔(ar G.alive k).isSome=true):ks.map (fun k=>(ew m k).1)=iu m:=by
 have hkey:∀k∈ks,((ew m k).1).key=k:=fun k hk=>(dG.1 (sU ((qJ h k).1 ((hm k).1 hk)))).2
 refine vH (less:=oE) (fun x=>pA _) (fun x y z=>mw _ _ _) ?_ (HD h) fun y=>?_
 . rw[Et];refine List.Pairwise.imp_of_mem (fun{a b} ha hb hab=>?_) hs;show bF _ _=true
   rw[hkey a ha,hkey b hb];exact hab
 . rw[Ar,Jd h];constructor
   . rintro⟨k,hk,rfl⟩;exact⟨k,(qJ h k).1 ((hm k).1 hk),rfl⟩
   . rintro⟨k,hk,rfl⟩;exact⟨k,(hm k).2 ((qJ h k).2 hk),rfl⟩
end
end Go.Proofs
