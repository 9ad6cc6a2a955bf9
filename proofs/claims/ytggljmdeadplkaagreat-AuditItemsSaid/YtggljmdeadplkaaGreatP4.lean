/- Part 4: an evaluator, proved sound, and its use at this seat; no condition. -/
import Derived.Test.YtggljmdeadplkaaGreatP2
set_option linter.unusedSimpArgs false
set_option linter.unusedVariables false
set_option linter.unusedSectionVars false
set_option linter.deprecated false
set_option maxRecDepth 100000
namespace Go.Proofs
open Go Go.Am Go.RowKit Go.Sy
abbrev aN (s:Bs):List Bs:=aB s 46
def ja:List Bs->Bs
 |[]=>[]
 |[a]=>a
 |a::b::l=>a++46::ja (b::l)
theorem mB:nB 46=46:=by decide
theorem uZ (p r:Bs):aN (p++46::r)=aN p++aN r:=by
 induction p with
 |nil=>simp[aN,aB,mB]
 |cons b p ih=>
  simp only[aN]at ih;simp only[aN,DC,aB,ih];by_cases hb:nB b=46
  . simp[hb]
  . simp only[hb,AE]
    cases h:aB p 46 with
    |nil=>exact absurd h (lv _ _)
    |cons x y=>simp
theorem Ld (s:Bs):aN s≠[]:=lv _ _
theorem jO (s:Bs):1<=(aN s).length:=A5.2 (Ld s)
theorem uC (s:Bs):ja (aN s)=s:=by
 induction s with
 |nil=>simp[aN,aB,ja]
 | cons b s ih=>
  simp only[aN]at ih⊢;simp only[aB]
  cases h:aB s 46 with
  |nil=>exact absurd h (lv _ _)
  |cons x y=>
   rw[h]at ih;by_cases hb:nB b=46
   . have e:b=46:=lI (by rw[hb,mB]);simp[e,mB,ja,ih]
   . simp only[hb,AE]
     cases y with
     |nil=>simp only[ja]at ih⊢;rw[ih]
     |cons z y=>simp only[ja]at ih⊢;rw[<-ih];rfl
theorem rB {a b:Bs} (h:aN a=aN b):a=b:=by rw[<-uC a,h,uC]
theorem C4 (s:Bs):∀p∈aN s,aN p=[p]:=by
 induction s with
 |nil=>simp[aN,aB]
 | cons b s ih=>
  simp only[aN]at ih⊢;intro p hp;simp only[aB]at hp
  cases h:aB s 46 with
  |nil=>exact absurd h (lv _ _)
  |cons x y=>
   rw[h]at hp ih;by_cases hb:nB b=46
   . simp only[hb,AY,As]at hp;rcases hp with rfl|hp
     . rfl
     . exact ih p (As.2 hp)
   . simp only[hb,AE,As]at hp;rcases hp with rfl|hp
     . have:=ih x Aj;simp[aB,hb,this]
     . exact ih p (Au _ hp)
theorem uD:∀(l:List Bs),l≠[]->(∀p∈l,aN p=[p])->aN (ja l)=l
 |[],h,_=>absurd rfl h
 |[a],_,h=>h a Aj
 |a::b::l,_,h=>by
  rw[ja,uZ,h a Aj,uD (b::l) (by simp) fun p hp=>h p (Au _ hp)];rfl
def dy (d:Bs) (n:Nat):Bs:=ja ((aN d).drop ((aN d).length - n))
theorem nS {d:Bs} {n:Nat} (h:1<=n):aN (dy d n)=(aN d).drop ((aN d).length - n):=by
 have:=jO d;refine uD _ (fun e=>?_) fun p hp=>C4 d p (D8 hp)
 have e:=Az List.length e;simp at e;omega
theorem pR {d:Bs} {n:Nat} (h:(aN d).length<=n):dy d n=d:=by
 unfold dy;rw[show(aN d).length - n=0 by omega,List.drop_zero,uC]
def dD (d r:Bs):Bool:=(aN r).isSuffixOf (aN d)
theorem dc {d r:Bs}:dD d r=true↔aN r<:+aN d:=Be
theorem vx {d r:Bs}:(46::r)<:+d↔dD d r=true/\(aN r).length<(aN d).length:=by
 rw[dc];constructor
 . rintro⟨p,rfl⟩;have:=jO p;rw[uZ];exact⟨List.suffix_append _ _,by simp;omega⟩
 . rintro⟨⟨p,hp⟩,hl⟩;have hne:p≠[]:=by rintro rfl;rw[<-hp]at hl;simp at hl
   refine⟨ja p,?_⟩;apply rB;rw[uZ,uD p hne fun q hq=>C4 d q (by rw[<-hp];exact BZ _ hq),hp]
theorem gM {d r:Bs}:dD d r=true↔d=r\/(46::r)<:+d:=by
 rw[vx];constructor
 . intro h;by_cases hl:(aN r).length<(aN d).length
   . exact .inr ⟨h,hl⟩
   . have h2:=dc.1 h;exact .inl (rB (h2.eq_of_length_le (by omega)).symm)
 . rintro(rfl|h)
   . exact dc.2 (List.suffix_refl _)
   . exact h.1
theorem uU {d r:Bs} {n:Nat} (h1:1<=n) (h2:n<=(aN d).length):r=dy d n↔dD d r=true/\(aN r).length=n:=by
 constructor
 . rintro rfl;rw[dc,nS h1];exact⟨List.drop_suffix _ _,by simp;omega⟩
 . rintro⟨h,hn⟩;apply rB;rw[nS h1,DT.1 (dc.1 h),hn]
theorem CI {d r:Bs} (h:dD d r=true):(aN r).length<=(aN d).length:=(dc.1 h).length_le
theorem KA {d:Bs} (h:1<(aN d).length):(bV d 46).2.2=true/\aN (bV d 46).2.1=(aN d).drop 1:=by
 have e:=nH d 46;unfold bV
 cases hp:bP d 46 with
 |none=>rw[hp]at e;simp only at e;simp only[aN,e,D6]at h;omega
 |some i=>rw[hp]at e;simp only at e;exact⟨rfl,by simp[aN,e]⟩
def cD (d s:Bs):Nat:=if(bG s).2.1 then(if dD d (bG s).1=true/\(aN (bG s).1).length<(aN d).length then(aN (bG s).1).length+1 else 0)else if(bG s).2.2 then 0 else if dD d (bG s).1 then(aN (bG s).1).length else 0
def cl (d s:Bs):Nat:=if(bG s).2.1 then 0 else if(bG s).2.2=true/\dD d (bG s).1=true then(aN (bG s).1).length else 0
theorem Cq (d s:Bs):cD d s<=(aN d).length:=by
 unfold cD;split
 . split<;>omega
 . split
   . omega
   . split
     . exact CI (by assumption)
     . omega
theorem Cr (d s:Bs):cl d s<=(aN d).length:=by
 unfold cl;split
 . omega
 . split
   . exact CI (by rename_i h;exact h.2)
   . omega
def dE (f:Bs->Nat) (n:Nat) (l:List Bs):Nat:=l.foldl (fun b s=>max b (f s)) n
theorem vo (f:Bs->Nat):∀(l:List Bs) (n:Nat),n<=dE f n l/\ ∀s∈l,f s<=dE f n l
 |[],n=>⟨An _,by simp⟩
 |x::l,n=>by
  obtain⟨h1,h2⟩:=vo f l (max n (f x));refine⟨Bb (Nat.le_max_left _ _) h1,fun s hs=>?_⟩;rcases As.1 hs with rfl|hs
  . exact Bb (Nat.le_max_right _ _) h1
  . exact h2 s hs
theorem om (f:Bs->Nat) {m:Nat}:∀(l:List Bs) (n:Nat),n<=m->(∀s∈l,f s<=m)->dE f n l<=m
 |[],n,h,_=>h
 |x::l,n,h,h2=>om f l (max n (f x)) (Nat.max_le.2 ⟨h,h2 x Aj⟩) fun s hs=>h2 s (Au _ hs)
def oF (rules:List Bs) (d:Bs):Nat:=dE (cD d) 1 rules
def fI (rules:List Bs) (d:Bs):Nat:=dE (cl d) 0 rules
def fa (rules:List Bs) (d:Bs):Nat:=if 0<fI rules d then fI rules d - 1 else oF rules d
def gu (rules:List Bs) (d:Bs):Bs:=dy d (fa rules d)
def eo (rules:List Bs) (d:Bs):Bool:=bU d&&decide (gu rules d=d)
theorem CL (rules:List Bs) (d:Bs):fI rules d<=(aN d).length:=om _ _ _ (A7 _) fun s _=>Cr d s
theorem u7 (rules:List Bs) (d:Bs):1<=oF rules d/\oF rules d<=(aN d).length:=⟨(vo _ _ _).1,om _ _ _ (jO d) fun s _=>Cq d s⟩
theorem x5 {f:Bs->Nat} {l:List Bs} {n i:Nat} (h:i<l.length):dE f n (l.take (i+1))=max (dE f n (l.take i)) (f l[i]):=by
 unfold dE;rw[Al h,Dy];rfl
end Go.Proofs
