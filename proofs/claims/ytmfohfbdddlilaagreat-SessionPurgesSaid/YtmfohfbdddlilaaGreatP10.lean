/- Part 10: an evaluator, proved sound, and its use at this seat; no condition. -/
import Derived.Test.YtmfohfbdddlilaaGreatP8
import Derived.Test.YtmfohfbdddlilaaGreatP9
set_option linter.unusedSimpArgs false
set_option linter.unusedVariables false
set_option linter.unusedSectionVars false
set_option linter.deprecated false
set_option maxRecDepth 100000
set_option maxHeartbeats 1000000
namespace Go.Proofs
open Go Go.Am Go.RowKit Go.Sy Go.Gm
section
variable [Inhabited aL]
section
variable {α:Type} {less:α->α->Bool}
theorem wz (hir:∀x,less x x=false) (htr:∀x y z,less x y=true->less y z=true->less x z=true):∀{l m:List α},l.Pairwise (fun x y=>less x y=true)->m.Pairwise (fun x y=>less x y=true)->(∀x,x∈l↔x∈m)->l=m
 |[],[],_,_,_=>rfl
 |[],y::m,_,_,h=>by have:=(h y).2 An;cases this
 |x::l,[],_,_,h=>by have:=(h x).1 An;cases this
 |x::l,y::m,hl,hm,h=>by
  rw[BH]at hl hm;have hxy:x=y:=by
    have h1:=(h x).1 An;have h2:=(h y).2 An;rcases Aj.1 h1 with h1|h1
    . exact h1
    . rcases Aj.1 h2 with h2|h2
      . exact h2.symm
      . have:=htr _ _ _ (hl.1 y h2) (hm.1 x h1);rw[hir]at this;cases this
  subst hxy;congr 1
  refine wz hir htr hl.2 hm.2 fun z=>?_
  have hz:=h z;constructor
  . intro hz1;rcases Aj.1 (hz.1 (Ao _ hz1))with rfl|h2
    . have:=hl.1 z hz1;rw[hir]at this;cases this
    . exact h2
  . intro hz1;rcases Aj.1 (hz.2 (Ao _ hz1))with rfl|h2
    . have:=hm.1 z hz1;rw[hir]at this;cases this
    . exact h2
theorem RI [DecidableEq α] (hir:∀x,less x x=false) (htr:∀x y z,less x y=true->less y z=true->less x z=true) (tri:∀x y,less x y=true\/x=y\/less y x=true) {l:List α} (hl:l.Pairwise fun x y=>less x y=true) (e:α):(fU less l e).Pairwise fun x y=>less x y=true:=by
 have key:∀{l:List α},l.Pairwise (fun x y=>less x y=true)->e∈l->l[cV less l e]? =some e:=by
   intro l;induction l with
   |nil=>intro _ h;cases h
   | cons x l ih=>
     intro hl hm;rw[BH]at hl;unfold cV;rw[BO];by_cases h:less x e=true
     . rw[if_pos h];rcases Aj.1 hm with rfl|hm
       . rw[hir]at h;cases h
       . simp only[AA,AZ];exact ih hl.2 hm
     . rw[if_neg h];rcases Aj.1 hm with rfl|hm
       . rfl
       . exact absurd (hl.1 e hm) h
 unfold fU;split
 . exact hl
 . rename_i hne;refine zL htr hl fun x hx=>?_
   rcases tri x e with h|h|h
   . exact .inl h
   . subst h;exact absurd (key hl hx) hne
   . exact .inr h
theorem IX [DecidableEq α] (hir:∀x,less x x=false) (htr:∀x y z,less x y=true->less y z=true->less x z=true) (tri:∀x y,less x y=true\/x=y\/less y x=true) (l:List α):(cS less l).Pairwise fun x y=>less x y=true:=by
 have key:∀(l a:List α),a.Pairwise (fun x y=>less x y=true)->(l.foldl (fU less) a).Pairwise fun x y=>less x y=true:=by
  intro l;induction l with
  |nil=>intro a h;exact h
  |cons x l ih=>intro a h;exact ih _ (RI hir htr tri h x)
 exact key l [] List.Pairwise.nil
end
theorem wj (l:List aj):(cS bS l).Pairwise fun x y=>bS x y=true:=IX tU (fun _ _ _=>tX) vX l
theorem uF {l m:List aj} (hl:l.Pairwise fun x y=>bS x y=true) (h:∀x,x∈l↔x∈m):l=cS bS m:=
 wz tU (fun _ _ _=>tX) hl (wj m) fun x=>by rw[h,oN]
theorem cq.al {G:bn} {m:aJ} (h:cq G m) (k:aA) (d:aj):gA G.alive k d↔∃e∈aR m k,e.dot=d:=by
 rw[h.y5.al];unfold aR ct lp;simp only[Ar,Aa,AQ,Ah,BP,Ad];constructor
 . rintro⟨x,h1,h2,h3,h4⟩;have hd:=h.keys d x h1;have hk:=(h.kept x.2).2 ⟨x.1,by rw[hd,h1]⟩;exact⟨x.2,⟨⟨hk,h2,fun hm=>h4 ((h.dead d).2 (hd▸hm))⟩,h3⟩,hd⟩
 . rintro⟨e,⟨⟨hk,h2,h3⟩,h4⟩,rfl⟩;obtain⟨v,hv⟩:=(h.kept e).1 hk;exact⟨(v,e),hv,h2,h4,fun hd=>h3 ((h.dead _).1 hd)⟩
theorem S3 {G:bn} {m:aJ} (h:cq G m) (k:aA):((aR m k).map (·.dot)).Pairwise fun x y=>bS x y=true:=by
 rw[DT];exact D3 ((BU).trans BU) h.sorted
theorem Wq {G:bn} {m:aJ} (h:cq G m) {k:aA} {l:List aj} (hl:∀d,d∈l↔gA G.alive k d):cS bS l=(aR m k).map (·.dot):=
 (uF (S3 h k) fun d=>by rw[hl,h.al];simp).symm
theorem Lk {G:bn} {m:aJ} (h:cq G m) {k:aA} {e:ae} (he:e∈aR m k):∃v,aE G.kept e.dot=some (v,e):=
 (h.kept e).1 (Ar.1 (Ar.1 he).1).1
theorem um {G:bn} {m:aJ} (h:cq G m) (k:aA):(aE G.alive k).isSome=true↔aR m k≠[]:=by
 constructor
 . intro hs;obtain⟨x,hx⟩:=BM.1 hs;have hf:=h.y5.full k x hx;obtain⟨y,L,hL⟩:∃y L,x.2=y::L:=by
    cases e:x.2 with
    |nil=>exact absurd e hf
    |cons y L=>exact⟨y,L,rfl⟩
   obtain⟨e,he,_⟩:=(h.al k y.1).1 ⟨x,hx,by rw[hL];simp[aE]⟩;exact Ei he
 . intro hne;obtain⟨e,he⟩:=Fh _ hne;obtain⟨x,hx,_⟩:=(h.al k e.dot).2 ⟨e,he,rfl⟩;rw[hx];rfl
theorem Y3:∀{l:List ae} {y:ae},dT l=some y->y∈l:=by
 have key:∀(l:List ae) (b:Option ae) (y:ae),l.foldl (fun b e=>match b with|none=>some e|some y=>if kR e.bp y.bp then some y else some e) b=some y->b=some y\/y∈l:=by
  intro l;induction l with
  |nil=>intro b y h;exact .inl h
  |cons x l ih=>
   intro b y h;rcases ih _ y h with h1|h1
   . cases b with
     |none=>cases h1;exact .inr An
     |some z=>
      simp only at h1;split at h1
      . exact .inl h1
      . cases h1;exact .inr An
   . exact .inr (Ao _ h1)
 intro l y h;exact(key l none y h).resolve_left (by simp)
theorem WG {l:List ae} (h:l≠[]):∃y,dT l=some y:=by
 obtain⟨y,hy⟩:=uM (l:=l) (x:=l.length) (A4.2 h) (Ai _);rw[Bp]at hy;exact⟨y,hy⟩
theorem rW {m:aJ} {k:aA} (h:aR m k≠[]):(dS m k).1∈aR m k:=by
 obtain⟨y,hy⟩:=WG h;unfold dS;rw[hy];exact Y3 hy
theorem cR {m:aJ} {k:aA} {e:ae}:e∈aR m k↔e∈ct m/\e.key=k:=by
 unfold aR;rw[Ar,Ad]
theorem CA {G:bn} {m:aJ} (h:cq G m) {x y:ae} (hx:x∈ct m) (hy:y∈ct m) (e:x.dot=y.dot):x=y:=by
 obtain⟨u,hu⟩:=(h.kept x).1 (Ar.1 hx).1;obtain⟨v,hv⟩:=(h.kept y).1 (Ar.1 hy).1;rw[e,hv]at hu
 cases hu;rfl
theorem Ci {G:bn} {m:aJ} (h:cq G m):∀n,n<=(ct m).length->(cP m ((ct m).take n)).Pairwise (fun x y=>kU x y=true)/\ ∀y,y∈cP m ((ct m).take n)↔∃x∈(ct m).take n,(dS m x.key).1.dot=x.dot/\y=(dS m x.key).1
 |0,_=>by simp[cP]
 | n + 1, hn=>by
  have hn':n<(ct m).length:=hn;obtain⟨h1,h2⟩:=Ci h n (by omega);have hf:=KG (m:=m) hn';have hmem:∀x,x∈(ct m).take (n+1)↔x∈(ct m).take n\/x=(ct m)[n]:=fun x=>by
    rw[AF hn',A9,BQ]
  rw[hf];have hal:(ct m)[n]∈ct m:=AJ hn';have hkn:aR m (ct m)[n].key≠[]:=Ei (cR.2 ⟨hal,rfl⟩);have hw:=cR.1 (rW hkn);split
  . rename_i hd;have hwe:(dS m (ct m)[n].key).1=(ct m)[n]:=CA h hw.1 hal hd;refine⟨zL (less:=kU) (fun x y z=>pz _ _ _) h1 fun y hy=>?_,fun y=>?_⟩
    . obtain⟨x,hx,hxd,rfl⟩:=(h2 y).1 hy;rcases ue (dS m x.key).1.key (dS m (ct m)[n].key).1.key with h3|h3|h3
      . exact .inl h3
      . exfalso;have hxa:x∈ct m:=Du hx;have hkx:aR m x.key≠[]:=Ei (cR.2 ⟨hxa,rfl⟩);have hwx:=cR.1 (rW hkx);rw[hwx.2,hw.2]at h3;have hxe:x=(ct m)[n]:=by
          refine CA h hxa hal ?_;rw[<-hxd,h3,hd]
        obtain⟨j,hj,hje⟩:=Bn hx;have hjn:j<n:=by simp at hj;omega
        rw[Et]at hje;have hs:=Bv.1 (D3 BU h.sorted:(ct m).Pairwise _) j n (by omega) hn' hjn;rw[hje,hxe,tU]at hs
        cases hs
      . exact .inr h3
    . unfold jy;rw[FR,h2];constructor
      . rintro(⟨x,hx,hx2⟩|rfl)
        . exact⟨x,(hmem x).2 (.inl hx),hx2⟩
        . exact⟨_,(hmem _).2 (.inr rfl),hd,rfl⟩
      . rintro⟨x,hx,hx2,rfl⟩;rcases(hmem x).1 hx with hx|rfl
        . exact .inl ⟨x,hx,hx2,rfl⟩
        . exact .inr rfl
  . rename_i hd;refine⟨h1,fun y=>?_⟩;rw[h2];constructor
    . rintro⟨x,hx,hx2⟩;exact⟨x,(hmem x).2 (.inl hx),hx2⟩
    . rintro⟨x,hx,hx2,hx3⟩;rcases(hmem x).1 hx with hx|rfl
      . exact⟨x,hx,hx2,hx3⟩
      . exact absurd hx2 hd
theorem vT {G:bn} {m:aJ} (h:cq G m):(fC m).Pairwise fun x y=>kU x y=true:=by
 have:=(Ci h _ (Ai _)).1;rwa [Bp]at this
theorem wB {G:bn} {m:aJ} (h:cq G m) (y:ae):y∈fC m↔∃k,aR m k≠[]/\y=(dS m k).1:=by
 have h2:=(Ci h _ (Ai _)).2 y;rw[Bp]at h2;unfold fC;rw[h2];constructor
 . rintro⟨x,hx,_,rfl⟩;exact⟨x.key,Ei (cR.2 ⟨hx,rfl⟩),rfl⟩
 . rintro⟨k,hk,rfl⟩;have hw:=cR.1 (rW hk);exact⟨(dS m k).1,hw.1,by rw[hw.2],by rw[hw.2]⟩
theorem TW {G:bn} {m:aJ} (h:cq G m) {ks:List aA} (hs:ks.Pairwise fun x y=>fy x y=true) (hm:∀k,k∈ks↔(aE G.alive k).isSome=true):ks.map (fun k=>(dS m k).1)=fC m:=by
 have hkey:∀k∈ks,((dS m k).1).key=k:=fun k hk=>(cR.1 (rW ((um h k).1 ((hm k).1 hk)))).2
 refine wz (less:=kU) (fun x=>mK _) (fun x y z=>pz _ _ _) ?_ (vT h) fun y=>?_
 . rw[DT];refine List.Pairwise.imp_of_mem (fun{a b} ha hb hab=>?_) hs;show fy _ _=true
   rw[hkey a ha,hkey b hb];exact hab
 . rw[Au,wB h];constructor
   . rintro⟨k,hk,rfl⟩;exact⟨k,(um h k).1 ((hm k).1 hk),rfl⟩
   . rintro⟨k,hk,rfl⟩;exact⟨k,(hm k).2 ((um h k).2 hk),rfl⟩
end
end Go.Proofs
