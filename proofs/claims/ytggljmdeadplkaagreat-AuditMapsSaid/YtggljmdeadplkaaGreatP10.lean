/- Part 10: an evaluator, proved sound, and its use at this seat; no condition. -/
import Derived.Test.YtggljmdeadplkaaGreatP8
import Derived.Test.YtggljmdeadplkaaGreatP9
set_option linter.unusedSimpArgs false
set_option linter.unusedVariables false
set_option linter.unusedSectionVars false
set_option linter.deprecated false
set_option maxRecDepth 100000
set_option maxHeartbeats 1000000
namespace Go.Proofs
open Go Go.Am Go.RowKit Go.Sy Go.Gm
section
variable [Inhabited aI]
section
variable {α:Type} {less:α->α->Bool}
theorem zh (hir:∀x,less x x=false) (htr:∀x y z,less x y=true->less y z=true->less x z=true):∀{l m:List α},l.Pairwise (fun x y=>less x y=true)->m.Pairwise (fun x y=>less x y=true)->(∀x,x∈l↔x∈m)->l=m
 |[],[],_,_,_=>rfl
 |[],y::m,_,_,h=>by have:=(h y).2 Ap;cases this
 |x::l,[],_,_,h=>by have:=(h x).1 Ap;cases this
 |x::l,y::m,hl,hm,h=>by
  rw[Dl]at hl hm;have hxy:x=y:=by
    have h1:=(h x).1 Ap;have h2:=(h y).2 Ap;rcases Al.1 h1 with h1|h1
    . exact h1
    . rcases Al.1 h2 with h2|h2
      . exact h2.symm
      . have:=htr _ _ _ (hl.1 y h2) (hm.1 x h1);rw[hir]at this;cases this
  subst hxy;congr 1
  refine zh hir htr hl.2 hm.2 fun z=>?_
  have hz:=h z;constructor
  . intro hz1;rcases Al.1 (hz.1 (Aw _ hz1))with rfl|h2
    . have:=hl.1 z hz1;rw[hir]at this;cases this
    . exact h2
  . intro hz1;rcases Al.1 (hz.2 (Aw _ hz1))with rfl|h2
    . have:=hm.1 z hz1;rw[hir]at this;cases this
    . exact h2
theorem JD [DecidableEq α] (hir:∀x,less x x=false) (htr:∀x y z,less x y=true->less y z=true->less x z=true) (tri:∀x y,less x y=true\/x=y\/less y x=true) {l:List α} (hl:l.Pairwise fun x y=>less x y=true) (e:α):(eZ less l e).Pairwise fun x y=>less x y=true:=by
 have key:∀{l:List α},l.Pairwise (fun x y=>less x y=true)->e∈l->l[c8 less l e]? =some e:=by
   intro l;induction l with
   |nil=>intro _ h;cases h
   | cons x l ih=>
     intro hl hm;rw[Dl]at hl;unfold c8;rw[Bi];by_cases h:less x e=true
     . rw[An h];rcases Al.1 hm with rfl|hm
       . rw[hir]at h;cases h
       . simp only[AX,Bd];exact ih hl.2 hm
     . rw[Ai h];rcases Al.1 hm with rfl|hm
       . rfl
       . exact absurd (hl.1 e hm) h
 unfold eZ;split
 . exact hl
 . rename_i hne;refine zM htr hl fun x hx=>?_
   rcases tri x e with h|h|h
   . exact .inl h
   . subst h;exact absurd (key hl hx) hne
   . exact .inr h
theorem IW [DecidableEq α] (hir:∀x,less x x=false) (htr:∀x y z,less x y=true->less y z=true->less x z=true) (tri:∀x y,less x y=true\/x=y\/less y x=true) (l:List α):(de less l).Pairwise fun x y=>less x y=true:=by
 have key:∀(l a:List α),a.Pairwise (fun x y=>less x y=true)->(l.foldl (eZ less) a).Pairwise fun x y=>less x y=true:=by
  intro l;induction l with
  |nil=>intro a h;exact h
  |cons x l ih=>intro a h;exact ih _ (JD hir htr tri h x)
 exact key l [] List.Pairwise.nil
end
theorem sO (l:List ak):(de bR l).Pairwise fun x y=>bR x y=true:=IW pE (fun _ _ _=>sQ) vQ l
theorem rn {l m:List ak} (hl:l.Pairwise fun x y=>bR x y=true) (h:∀x,x∈l↔x∈m):l=de bR m:=
 zh pE (fun _ _ _=>sQ) hl (sO m) fun x=>by rw[h,pH]
end
end Go.Proofs
