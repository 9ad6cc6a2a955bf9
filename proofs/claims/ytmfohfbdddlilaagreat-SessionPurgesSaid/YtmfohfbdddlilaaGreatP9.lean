/- Part 9: an evaluator, proved sound, and its use at this seat; no condition. -/
import Derived.KernelRfl
import Derived.Test.YtmfohfbdddlilaaGreatP8
set_option linter.unusedSimpArgs false
set_option linter.unusedVariables false
set_option linter.unusedSectionVars false
set_option linter.deprecated false
set_option maxRecDepth 100000
set_option maxHeartbeats 40000000
namespace Go.Proofs
open Go Go.Am Go.RowKit Go.Sy
section
variable [Inhabited aL]
theorem KG {m:aJ} {l:List ae} {x:Nat} (h:x<l.length):cP m (l.take (x+1))=if(dS m l[x].key).1.dot=l[x].dot then jy (cP m (l.take x)) (dS m l[x].key).1 else cP m (l.take x):=ln _ _ h
theorem Y2 (m:aJ) (l:List ae) (x:Nat):(cP m (l.take x)).length<=l.length:=by
 have:=xg m (l.take x) [];unfold cP;simp only[AK,Ax,Bi]at this;omega
theorem XN {p q:Prop} (h:p=q) (hp:p):q:=h▸hp
theorem SF:CO ph JM:=bZ (cfg:=fun y=>cz yy (l4 ph 9 (Td y) (cD ph 4 (wI y)))) bC (fun _=>rfl) (fun _=>CN) (n:=800) (by
 intro (m:aJ) (hm:gL m);have hal:=wJ hm
 (conv=>whnf)
 refine⟨m,?_⟩
 repeat ((conv=>whnf);first|refine⟨rfl,?_⟩|refine⟨trivial,?_⟩)
 refine⟨hm,?_⟩
 (conv=>whnf)
 refine⟨⟨(0:Nat),Aw _,?_⟩,?_⟩
 . repeat' (first|exact trivial|exact rfl|((conv=>whnf);first|(apply aK<;>intro)|apply And.intro))
 intro (x:Nat) hx;have hx:x<=(ct m).length:=hx
 (conv=>whnf)
 refine aK (fun hlt=>?_) fun hge=>?_
 . have hlt':x<(ct m).length:=cB hlt;have hf:=KG (m:=m) hlt';have hle:=Y2 m (ct m) x;have mu:(ct m).length - (x+1)<(ct m).length - x:=by omega
   (conv=>whnf)
   refine au.2 ⟨_,cO hlt',?_⟩
   (conv=>whnf)
   refine⟨(m,(ct m)[x].key),?_⟩
   repeat ((conv=>whnf);first|refine⟨rfl,?_⟩|refine⟨trivial,?_⟩)
   refine⟨hm,?_⟩
   (conv=>whnf)
   refine au.2 ⟨_,cO hlt',?_⟩
   (conv=>whnf)
   refine aK (fun h=>?_) fun h=>?_
   . have h:decide ((dS m (ct m)[x].key).1.dot=(ct m)[x].dot)=false:=by
       have h:(!decide ((dS m (ct m)[x].key).1.dot=(ct m)[x].dot))=true:=by rw[<-sO];exact h
       simpa using h
     rw[if_neg (by simpa using h)]at hf
     (conv=>whnf)
     refine ag.2 ⟨cu x (by omega),?_⟩
     (conv=>whnf)
     refine⟨(x+1:Nat),hlt',mu,?_⟩
     repeat' (first|exact trivial|(with_reducible exact rfl)|((conv=>whnf);first|(apply aK<;>intro)|apply And.intro))
     all_goals first|exact rfl|(rw[hf];done)|(rw[hf];exact rfl)
   . have h:decide ((dS m (ct m)[x].key).1.dot=(ct m)[x].dot)=true:=by
       have h:(!decide ((dS m (ct m)[x].key).1.dot=(ct m)[x].dot))=false:=by rw[<-sO];exact h
       simpa using h
     rw[if_pos (by simpa using h)]at hf
     (conv=>whnf)
     refine⟨((x,0):Nat×Nat),⟨((x,0):Nat×Nat),⟨⟨hlt',Aw _⟩,rfl⟩,?_⟩,?_⟩
     . repeat' (first|exact trivial|(with_reducible exact rfl)|((conv=>whnf);first|(apply aK<;>intro)|apply And.intro))
       all_goals exact rfl
     rintro⟨x1,k⟩ ⟨⟨g1,g2⟩,hx1⟩;have hx1:x1=x:=hx1;subst hx1;have hk:k<=cV kU (cP m ((ct m).take x1)) (dS m (ct m)[x1].key).1:=g2;have hkp:=qF (less:=kU) (cP m ((ct m).take x1)) (dS m (ct m)[x1].key).1;have hkl:k<=(cP m ((ct m).take x1)).length:=by omega
     (conv=>whnf)
     refine ah.2 ⟨fun hlt2=> ?ga,fun hge2=> ?gb⟩
     case' ga=>
       have hlt2':k<(cP m ((ct m).take x1)).length:=cB hlt2
       (conv=>whnf)
       refine au.2 ⟨_,cO hlt2',?_⟩
       (conv=>whnf)
       refine⟨((cP m ((ct m).take x1))[k].key,(dS m (ct m)[x1].key).1.key),?_⟩
       repeat ((conv=>whnf);first|refine⟨rfl,?_⟩|refine⟨trivial,?_⟩)
       (conv=>whnf)
       refine ah.2 ⟨fun hl=> ?gc,fun hl=> ?gd⟩
       case gc=>
        have hl:kU (cP m ((ct m).take x1))[k] (dS m (ct m)[x1].key).1=true:=hl
        (conv=>whnf)
        refine ag.2 ⟨cu k (by omega),?_⟩
        (conv=>whnf)
        refine⟨((x1,k+1):Nat×Nat),⟨⟨hlt',Cc hk hlt2' hl⟩,rfl⟩,by show(cP m ((ct m).take x1)).length - (k+1)<(cP m ((ct m).take x1)).length - k;omega,?_⟩
        repeat' (first|exact trivial|(with_reducible exact rfl)|((conv=>whnf);first|(apply aK<;>intro)|apply And.intro))
        all_goals exact rfl
       case' gd=>
        have hl:kU (cP m ((ct m).take x1))[k] (dS m (ct m)[x1].key).1=false:=hl;have hkk:k=cV kU (cP m ((ct m).take x1)) (dS m (ct m)[x1].key).1:=Cd hk hlt2' hl
     case' gb=>
       have hge2':(cP m ((ct m).take x1)).length<=k:=gr hge2;have hkk:k=cV kU (cP m ((ct m).take x1)) (dS m (ct m)[x1].key).1:=by omega
     all_goals
       have hz:(cP m ((ct m).take x1)).length+1<=60000:=by omega
       (conv=>whnf)
       refine⟨fun _=>rfl,?_⟩
       (conv=>whnf)
       refine ag.2 ⟨by show Nat.ble k (cP m ((ct m).take x1)).length=true;rw[AG];exact hkl,?_⟩
       (conv=>whnf)
       refine⟨fun _=>rfl,?_⟩
       (conv=>whnf)
       refine ag.2 ⟨by show Nat.ble k (cP m ((ct m).take x1)).length=true;rw[AG];exact hkl,?_⟩
       (conv=>whnf)
       refine⟨fun _=>⟨rfl,rfl⟩,?_⟩
       (conv=>whnf)
       refine⟨(cP m ((ct m).take x1)).take k,rfl,?_⟩
       (conv=>whnf)
       refine ag.2 ⟨tF _ (by simp;omega),?_⟩;have hS:∃e:ae,e.enc=(dS m (ct m)[x1].key).1.enc/\ck (Nat.ble ((([]++(cP m ((ct m).take x1)).take k).length+[e].length)*176) 16777216&&Nat.ble (([]++(cP m ((ct m).take x1)).take k).length+[e].length) 16777216) ((∀x:ae,x.enc.length=19/\x.enc.all jF=true)/\ ∃M:List ae,SV.ar ae ((cP m ((ct m).take x1)).drop k) ae.enc=SV.ar ae M ae.enc/\ck (Nat.ble ((([]++(cP m ((ct m).take x1)).take k++[e]).length+M.length)*176) 16777216&&Nat.ble (([]++(cP m ((ct m).take x1)).take k++[e]).length+M.length) 16777216) (ck (bq .i64 ((x1:Int)+1)) (∃y:Nat,(wI m).ok y/\(wI m).μ y<(wI m).μ x1/\(True/\SV.ar ae ([]++(cP m ((ct m).take x1)).take k++[e]++M) ae.enc=SV.ar ae (cP m ((ct m).take y)) ae.enc/\SV.ar ae (ct m) ae.enc=SV.ar ae (ct m) ae.enc/\(x1:Int)+1=(y:Int)/\True)/\(True/\(SV.ar aj m.ctx aj.enc=SV.ar aj m.ctx aj.enc/\SV.ar ae m.kept ae.enc=SV.ar ae m.kept ae.enc/\SV.ar aj m.dead aj.enc=SV.ar aj m.dead aj.enc/\True)/\True)/\True))):=by
        refine⟨(dS m (ct m)[x1].key).1,rfl,ag.2 ⟨tF _ (by simp;omega),fun _=>⟨rfl,rfl⟩,(cP m ((ct m).take x1)).drop k,rfl,ag.2 ⟨tF _ (by simp;omega),ag.2 ⟨cu x1 (by omega),(x1+1:Nat),hlt',mu,⟨trivial,?_,rfl,rfl,trivial⟩,⟨trivial,⟨rfl,rfl,rfl,trivial⟩,trivial⟩,trivial⟩⟩⟩⟩;rw[hf];unfold jy;rw[<-hkk];simp
       clear hf hle mu g2 hk hkp;exact XN (by kernel_rfl) hS
 . have hge':(ct m).length<=x:=gr hge
   (conv=>whnf)
   refine⟨by rw[Ay hge'];rfl,?_⟩
   repeat' (first|exact trivial|exact rfl|((conv=>whnf);first|(apply aK<;>intro)|apply And.intro)))
end
end Go.Proofs
