/- Part 10: an evaluator, proved sound, and its use at this seat; no condition. -/
import Derived.Test.YtmfohfbdddlilaaGreatP8
import Derived.Test.YtmfohfbdddlilaaGreatP9
set_option linter.unusedSimpArgs false
set_option linter.unusedVariables false
set_option linter.unusedSectionVars false
set_option linter.deprecated false
set_option maxRecDepth 100000
set_option maxHeartbeats 1000000
namespace Go.Proofs
open Go Go.Am Go.RowKit Go.Sy Go.Gm
section
variable [Inhabited aF]
section
variable {α:Type} {less:α->α->Bool}
theorem tT (hir:∀x,less x x=false) (htr:∀x y z,less x y=true->less y z=true->less x z=true):∀{l m:List α},l.Pairwise (fun x y=>less x y=true)->m.Pairwise (fun x y=>less x y=true)->(∀x,x∈l↔x∈m)->l=m
 |[],[],_,_,_=>rfl
 |[],y::m,_,_,h=>by have:=(h y).2 Ao;cases this
 |x::l,[],_,_,h=>by have:=(h x).1 Ao;cases this
 |x::l,y::m,hl,hm,h=>by
  rw[DC]at hl hm;have hxy:x=y:=by
    have h1:=(h x).1 Ao;have h2:=(h y).2 Ao;rcases Aj.1 h1 with h1|h1
    . exact h1
    . rcases Aj.1 h2 with h2|h2
      . exact h2.symm
      . have:=htr _ _ _ (hl.1 y h2) (hm.1 x h1);rw[hir]at this;cases this
  subst hxy;congr 1
  refine tT hir htr hl.2 hm.2 fun z=>?_
  have hz:=h z;constructor
  . intro hz1;rcases Aj.1 (hz.1 (An _ hz1))with rfl|h2
    . have:=hl.1 z hz1;rw[hir]at this;cases this
    . exact h2
  . intro hz1;rcases Aj.1 (hz.2 (An _ hz1))with rfl|h2
    . have:=hm.1 z hz1;rw[hir]at this;cases this
    . exact h2
theorem Lc [DecidableEq α] (hir:∀x,less x x=false) (htr:∀x y z,less x y=true->less y z=true->less x z=true) (tri:∀x y,less x y=true\/x=y\/less y x=true) {l:List α} (hl:l.Pairwise fun x y=>less x y=true) (e:α):(fu less l e).Pairwise fun x y=>less x y=true:=by
 have key:∀{l:List α},l.Pairwise (fun x y=>less x y=true)->e∈l->l[cC less l e]? =some e:=by
   intro l;induction l with
   |nil=>intro _ h;cases h
   | cons x l ih=>
     intro hl hm;rw[DC]at hl;unfold cC;rw[BA];by_cases h:less x e=true
     . rw[if_pos h];rcases Aj.1 hm with rfl|hm
       . rw[hir]at h;cases h
       . simp only[A1,AY];exact ih hl.2 hm
     . rw[if_neg h];rcases Aj.1 hm with rfl|hm
       . rfl
       . exact absurd (hl.1 e hm) h
 unfold fu;split
 . exact hl
 . rename_i hne;refine xk htr hl fun x hx=>?_
   rcases tri x e with h|h|h
   . exact .inl h
   . subst h;exact absurd (key hl hx) hne
   . exact .inr h
theorem zR [DecidableEq α] (hir:∀x,less x x=false) (htr:∀x y z,less x y=true->less y z=true->less x z=true) (tri:∀x y,less x y=true\/x=y\/less y x=true) (l:List α):(cw less l).Pairwise fun x y=>less x y=true:=by
 have key:∀(l a:List α),a.Pairwise (fun x y=>less x y=true)->(l.foldl (fu less) a).Pairwise fun x y=>less x y=true:=by
  intro l;induction l with
  |nil=>intro a h;exact h
  |cons x l ih=>intro a h;exact ih _ (Lc hir htr tri h x)
 exact key l [] List.Pairwise.nil
end
theorem tJ (l:List ag):(cw bu l).Pairwise fun x y=>bu x y=true:=zR rC (fun _ _ _=>rD) tP l
theorem sg {l m:List ag} (hl:l.Pairwise fun x y=>bu x y=true) (h:∀x,x∈l↔x∈m):l=cw bu m:=
 tT rC (fun _ _ _=>rD) hl (tJ m) fun x=>by rw[h,mT]
theorem bT.al {G:aT} {m:ay} (h:bT G m) (k:aC) (d:ag):fL G.alive k d↔∃e∈aG m k,e.dot=d:=by
 rw[h.wG.al];unfold aG bM jU;simp only[AB,Ab,AI,Ai,BJ,Ae];constructor
 . rintro⟨x,h1,h2,h3,h4⟩;have hd:=h.keys d x h1;have hk:=(h.kept x.2).2 ⟨x.1,by rw[hd,h1]⟩;exact⟨x.2,⟨⟨hk,h2,fun hm=>h4 ((h.dead d).2 (hd▸hm))⟩,h3⟩,hd⟩
 . rintro⟨e,⟨⟨hk,h2,h3⟩,h4⟩,rfl⟩;obtain⟨v,hv⟩:=(h.kept e).1 hk;exact⟨(v,e),hv,h2,h4,fun hd=>h3 ((h.dead _).1 hd)⟩
theorem Me {G:aT} {m:ay} (h:bT G m) (k:aC):((aG m k).map (·.dot)).Pairwise fun x y=>bu x y=true:=by
 rw[ED];exact DO ((DX).trans DX) h.sorted
theorem OB {G:aT} {m:ay} (h:bT G m) {k:aC} {l:List ag} (hl:∀d,d∈l↔fL G.alive k d):cw bu l=(aG m k).map (·.dot):=
 (sg (Me h k) fun d=>by rw[hl,h.al];simp).symm
theorem Hv {G:aT} {m:ay} (h:bT G m) {k:aC} {e:aa} (he:e∈aG m k):∃v,aw G.kept e.dot=some (v,e):=
 (h.kept e).1 (AB.1 (AB.1 he).1).1
theorem rP {G:aT} {m:ay} (h:bT G m) (k:aC):(aw G.alive k).isSome=true↔aG m k≠[]:=by
 constructor
 . intro hs;obtain⟨x,hx⟩:=By.1 hs;have hf:=h.wG.full k x hx;obtain⟨y,L,hL⟩:∃y L,x.2=y::L:=by
    cases e:x.2 with
    |nil=>exact absurd e hf
    |cons y L=>exact⟨y,L,rfl⟩
   obtain⟨e,he,_⟩:=(h.al k y.1).1 ⟨x,hx,by rw[hL];simp[aw]⟩;exact D6 he
 . intro hne;obtain⟨e,he⟩:=E6 _ hne;obtain⟨x,hx,_⟩:=(h.al k e.dot).2 ⟨e,he,rfl⟩;rw[hx];rfl
theorem Qt:∀{l:List aa} {y:aa},dw l=some y->y∈l:=by
 have key:∀(l:List aa) (b:Option aa) (y:aa),l.foldl (fun b e=>match b with|none=>some e|some y=>if jE e.aV y.aV then some y else some e) b=some y->b=some y\/y∈l:=by
  intro l;induction l with
  |nil=>intro b y h;exact .inl h
  |cons x l ih=>
   intro b y h;rcases ih _ y h with h1|h1
   . cases b with
     |none=>cases h1;exact .inr Ao
     |some z=>
      simp only at h1;split at h1
      . exact .inl h1
      . cases h1;exact .inr Ao
   . exact .inr (An _ h1)
 intro l y h;exact(key l none y h).resolve_left (by simp)
theorem N4 {l:List aa} (h:l≠[]):∃y,dw l=some y:=by
 obtain⟨y,hy⟩:=sC (l:=l) (x:=l.length) (AZ.2 h) (Ah _);rw[Bg]at hy;exact⟨y,hy⟩
theorem qi {m:ay} {k:aC} (h:aG m k≠[]):(cT m k).1∈aG m k:=by
 obtain⟨y,hy⟩:=N4 h;unfold cT;rw[hy];exact Qt hy
theorem cu {m:ay} {k:aC} {e:aa}:e∈aG m k↔e∈bM m/\e.key=k:=by
 unfold aG;rw[AB,Ae]
theorem yh {G:aT} {m:ay} (h:bT G m) {x y:aa} (hx:x∈bM m) (hy:y∈bM m) (e:x.dot=y.dot):x=y:=by
 obtain⟨u,hu⟩:=(h.kept x).1 (AB.1 hx).1;obtain⟨v,hv⟩:=(h.kept y).1 (AB.1 hy).1;rw[e,hv]at hu
 cases hu;rfl
theorem xQ {G:aT} {m:ay} (h:bT G m):∀n,n<=(bM m).length->(ct m ((bM m).take n)).Pairwise (fun x y=>jJ x y=true)/\ ∀y,y∈ct m ((bM m).take n)↔∃x∈(bM m).take n,(cT m x.key).1.dot=x.dot/\y=(cT m x.key).1
 |0,_=>by simp[ct]
 | n + 1, hn=>by
  have hn':n<(bM m).length:=hn;obtain⟨h1,h2⟩:=xQ h n (by omega);have hf:=F2 (m:=m) hn';have hmem:∀x,x∈(bM m).take (n+1)↔x∈(bM m).take n\/x=(bM m)[n]:=fun x=>by
    rw[Az hn',Ba,BM]
  rw[hf];have hal:(bM m)[n]∈bM m:=AF hn';have hkn:aG m (bM m)[n].key≠[]:=D6 (cu.2 ⟨hal,rfl⟩);have hw:=cu.1 (qi hkn);split
  . rename_i hd;have hwe:(cT m (bM m)[n].key).1=(bM m)[n]:=yh h hw.1 hal hd;refine⟨xk (less:=jJ) (fun x y z=>qd _ _ _) h1 fun y hy=>?_,fun y=>?_⟩
    . obtain⟨x,hx,hxd,rfl⟩:=(h2 y).1 hy;rcases tR (cT m x.key).1.key (cT m (bM m)[n].key).1.key with h3|h3|h3
      . exact .inl h3
      . exfalso;have hxa:x∈bM m:=Di hx;have hkx:aG m x.key≠[]:=D6 (cu.2 ⟨hxa,rfl⟩);have hwx:=cu.1 (qi hkx);rw[hwx.2,hw.2]at h3;have hxe:x=(bM m)[n]:=by
          refine yh h hxa hal ?_;rw[<-hxd,h3,hd]
        obtain⟨j,hj,hje⟩:=BB hx;have hjn:j<n:=by simp at hj;omega
        rw[Ee]at hje;have hs:=Bo.1 (DO DX h.sorted:(bM m).Pairwise _) j n (by omega) hn' hjn;rw[hje,hxe,rC]at hs
        cases hs
      . exact .inr h3
    . unfold iB;rw[yB,h2];constructor
      . rintro(⟨x,hx,hx2⟩|rfl)
        . exact⟨x,(hmem x).2 (.inl hx),hx2⟩
        . exact⟨_,(hmem _).2 (.inr rfl),hd,rfl⟩
      . rintro⟨x,hx,hx2,rfl⟩;rcases(hmem x).1 hx with hx|rfl
        . exact .inl ⟨x,hx,hx2,rfl⟩
        . exact .inr rfl
  . rename_i hd;refine⟨h1,fun y=>?_⟩;rw[h2];constructor
    . rintro⟨x,hx,hx2⟩;exact⟨x,(hmem x).2 (.inl hx),hx2⟩
    . rintro⟨x,hx,hx2,hx3⟩;rcases(hmem x).1 hx with hx|rfl
      . exact⟨x,hx,hx2,hx3⟩
      . exact absurd hx2 hd
theorem wS {G:aT} {m:ay} (h:bT G m):(eX m).Pairwise fun x y=>jJ x y=true:=by
 have:=(xQ h _ (Ah _)).1;rwa [Bg]at this
theorem rI {G:aT} {m:ay} (h:bT G m) (y:aa):y∈eX m↔∃k,aG m k≠[]/\y=(cT m k).1:=by
 have h2:=(xQ h _ (Ah _)).2 y;rw[Bg]at h2;unfold eX;rw[h2];constructor
 . rintro⟨x,hx,_,rfl⟩;exact⟨x.key,D6 (cu.2 ⟨hx,rfl⟩),rfl⟩
 . rintro⟨k,hk,rfl⟩;have hw:=cu.1 (qi hk);exact⟨(cT m k).1,hw.1,by rw[hw.2],by rw[hw.2]⟩
theorem LZ {G:aT} {m:ay} (h:bT G m) {ks:List aC} (hs:ks.Pairwise fun x y=>gG x y=true) (hm:∀k,k∈ks↔(aw G.alive k).isSome=true):ks.map (fun k=>(cT m k).1)=eX m:=by
 have hkey:∀k∈ks,((cT m k).1).key=k:=fun k hk=>(cu.1 (qi ((rP h k).1 ((hm k).1 hk)))).2
 refine tT (less:=jJ) (fun x=>tK _) (fun x y z=>qd _ _ _) ?_ (wS h) fun y=>?_
 . rw[ED];refine List.Pairwise.imp_of_mem (fun{a b} ha hb hab=>?_) hs;show gG _ _=true
   rw[hkey a ha,hkey b hb];exact hab
 . rw[Ar,rI h];constructor
   . rintro⟨k,hk,rfl⟩;exact⟨k,(rP h k).1 ((hm k).1 hk),rfl⟩
   . rintro⟨k,hk,rfl⟩;exact⟨k,(hm k).2 ((rP h k).2 hk),rfl⟩
end
end Go.Proofs
