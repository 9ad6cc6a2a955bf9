/- Part 9: an evaluator, proved sound, and its use at this seat; no condition. -/
import Derived.KernelRfl
import Derived.Test.YtmfohfbdddlilaaGreatP8
set_option linter.unusedSimpArgs false
set_option linter.unusedVariables false
set_option linter.unusedSectionVars false
set_option linter.deprecated false
set_option maxRecDepth 100000
set_option maxHeartbeats 40000000
namespace Go.Proofs
open Go Go.Am Go.RowKit Go.Sy
section
variable [Inhabited aL]
theorem JX {m:aK} {l:List ae} {x:Nat} (h:x<l.length):cT m (l.take (x+1))=if(dV m l[x].key).1.dot=l[x].dot then jo (cT m (l.take x)) (dV m l[x].key).1 else cT m (l.take x):=kW _ _ h
theorem YQ (m:aK) (l:List ae) (x:Nat):(cT m (l.take x)).length<=l.length:=by
 have:=wZ m (l.take x) [];unfold cT;simp only[AG,Ay,A5]at this;omega
theorem Xy {p q:Prop} (h:p=q) (hp:p):q:=h▸hp
theorem SJ:CO oN Jz:=bO (cfg:=fun y=>cg x7 (ml oN 9 (Sc y) (cr oN 4 (vY y)))) bA (fun _=>rfl) (fun _=>Cm) (n:=800) (by
 intro (m:aK) (hm:fN m);have hal:=vZ hm
 (conv=>whnf)
 refine⟨m,?_⟩
 repeat ((conv=>whnf);first|refine⟨rfl,?_⟩|refine⟨trivial,?_⟩)
 refine⟨hm,?_⟩
 (conv=>whnf)
 refine⟨⟨(0:Nat),Au _,?_⟩,?_⟩
 . repeat' (first|exact trivial|exact rfl|((conv=>whnf);first|(apply aJ<;>intro)|apply And.intro))
 intro (x:Nat) hx;have hx:x<=(cF m).length:=hx
 (conv=>whnf)
 refine aJ (fun hlt=>?_) fun hge=>?_
 . have hlt':x<(cF m).length:=cq hlt;have hf:=JX (m:=m) hlt';have hle:=YQ m (cF m) x;have mu:(cF m).length - (x+1)<(cF m).length - x:=by omega
   (conv=>whnf)
   refine au.2 ⟨_,cE hlt',?_⟩
   (conv=>whnf)
   refine⟨(m,(cF m)[x].key),?_⟩
   repeat ((conv=>whnf);first|refine⟨rfl,?_⟩|refine⟨trivial,?_⟩)
   refine⟨hm,?_⟩
   (conv=>whnf)
   refine au.2 ⟨_,cE hlt',?_⟩
   (conv=>whnf)
   refine aJ (fun h=>?_) fun h=>?_
   . have h:decide ((dV m (cF m)[x].key).1.dot=(cF m)[x].dot)=false:=by
       have h:(!decide ((dV m (cF m)[x].key).1.dot=(cF m)[x].dot))=true:=by rw[<-pe];exact h
       simpa using h
     rw[Aj (by simpa using h)]at hf
     (conv=>whnf)
     refine af.2 ⟨ch x (by omega),?_⟩
     (conv=>whnf)
     refine⟨(x+1:Nat),hlt',mu,?_⟩
     repeat' (first|exact trivial|(with_reducible exact rfl)|((conv=>whnf);first|(apply aJ<;>intro)|apply And.intro))
     all_goals first|exact rfl|(rw[hf];done)|(rw[hf];exact rfl)
   . have h:decide ((dV m (cF m)[x].key).1.dot=(cF m)[x].dot)=true:=by
       have h:(!decide ((dV m (cF m)[x].key).1.dot=(cF m)[x].dot))=false:=by rw[<-pe];exact h
       simpa using h
     rw[An (by simpa using h)]at hf
     (conv=>whnf)
     refine⟨((x,0):Nat×Nat),⟨((x,0):Nat×Nat),⟨⟨hlt',Au _⟩,rfl⟩,?_⟩,?_⟩
     . repeat' (first|exact trivial|(with_reducible exact rfl)|((conv=>whnf);first|(apply aJ<;>intro)|apply And.intro))
       all_goals exact rfl
     rintro⟨x1,k⟩ ⟨⟨g1,g2⟩,hx1⟩;have hx1:x1=x:=hx1;subst hx1;have hk:k<=cX kZ (cT m ((cF m).take x1)) (dV m (cF m)[x1].key).1:=g2;have hkp:=rY (less:=kZ) (cT m ((cF m).take x1)) (dV m (cF m)[x1].key).1;have hkl:k<=(cT m ((cF m).take x1)).length:=by omega
     (conv=>whnf)
     refine ag.2 ⟨fun hlt2=> ?ga,fun hge2=> ?gb⟩
     case' ga=>
       have hlt2':k<(cT m ((cF m).take x1)).length:=cq hlt2
       (conv=>whnf)
       refine au.2 ⟨_,cE hlt2',?_⟩
       (conv=>whnf)
       refine⟨((cT m ((cF m).take x1))[k].key,(dV m (cF m)[x1].key).1.key),?_⟩
       repeat ((conv=>whnf);first|refine⟨rfl,?_⟩|refine⟨trivial,?_⟩)
       (conv=>whnf)
       refine ag.2 ⟨fun hl=> ?gc,fun hl=> ?gd⟩
       case gc=>
        have hl:kZ (cT m ((cF m).take x1))[k] (dV m (cF m)[x1].key).1=true:=hl
        (conv=>whnf)
        refine af.2 ⟨ch k (by omega),?_⟩
        (conv=>whnf)
        refine⟨((x1,k+1):Nat×Nat),⟨⟨hlt',zS hk hlt2' hl⟩,rfl⟩,by show(cT m ((cF m).take x1)).length - (k+1)<(cT m ((cF m).take x1)).length - k;omega,?_⟩
        repeat' (first|exact trivial|(with_reducible exact rfl)|((conv=>whnf);first|(apply aJ<;>intro)|apply And.intro))
        all_goals exact rfl
       case' gd=>
        have hl:kZ (cT m ((cF m).take x1))[k] (dV m (cF m)[x1].key).1=false:=hl;have hkk:k=cX kZ (cT m ((cF m).take x1)) (dV m (cF m)[x1].key).1:=zT hk hlt2' hl
     case' gb=>
       have hge2':(cT m ((cF m).take x1)).length<=k:=gf hge2;have hkk:k=cX kZ (cT m ((cF m).take x1)) (dV m (cF m)[x1].key).1:=by omega
     all_goals
       have hz:(cT m ((cF m).take x1)).length+1<=60000:=by omega
       (conv=>whnf)
       refine⟨fun _=>rfl,?_⟩
       (conv=>whnf)
       refine af.2 ⟨by show Nat.ble k (cT m ((cF m).take x1)).length=true;rw[AA];exact hkl,?_⟩
       (conv=>whnf)
       refine⟨fun _=>rfl,?_⟩
       (conv=>whnf)
       refine af.2 ⟨by show Nat.ble k (cT m ((cF m).take x1)).length=true;rw[AA];exact hkl,?_⟩
       (conv=>whnf)
       refine⟨fun _=>⟨rfl,rfl⟩,?_⟩
       (conv=>whnf)
       refine⟨(cT m ((cF m).take x1)).take k,rfl,?_⟩
       (conv=>whnf)
       refine af.2 ⟨th _ (by simp;omega),?_⟩;have hS:∃e:ae,e.enc=(dV m (cF m)[x1].key).1.enc/\ck (Nat.ble ((([]++(cT m ((cF m).take x1)).take k).length+[e].length)*176) 16777216&&Nat.ble (([]++(cT m ((cF m).take x1)).take k).length+[e].length) 16777216) ((∀x:ae,x.enc.length=19/\x.enc.all jx=true)/\ ∃M:List ae,SV.aj ae ((cT m ((cF m).take x1)).drop k) ae.enc=SV.aj ae M ae.enc/\ck (Nat.ble ((([]++(cT m ((cF m).take x1)).take k++[e]).length+M.length)*176) 16777216&&Nat.ble (([]++(cT m ((cF m).take x1)).take k++[e]).length+M.length) 16777216) (ck (bp .i64 ((x1:Int)+1)) (∃y:Nat,(vY m).ok y/\(vY m).μ y<(vY m).μ x1/\(True/\SV.aj ae ([]++(cT m ((cF m).take x1)).take k++[e]++M) ae.enc=SV.aj ae (cT m ((cF m).take y)) ae.enc/\SV.aj ae (cF m) ae.enc=SV.aj ae (cF m) ae.enc/\(x1:Int)+1=(y:Int)/\True)/\(True/\(SV.aj ar m.ctx ar.enc=SV.aj ar m.ctx ar.enc/\SV.aj ae m.kept ae.enc=SV.aj ae m.kept ae.enc/\SV.aj ar m.dead ar.enc=SV.aj ar m.dead ar.enc/\True)/\True)/\True))):=by
        refine⟨(dV m (cF m)[x1].key).1,rfl,af.2 ⟨th _ (by simp;omega),fun _=>⟨rfl,rfl⟩,(cT m ((cF m).take x1)).drop k,rfl,af.2 ⟨th _ (by simp;omega),af.2 ⟨ch x1 (by omega),(x1+1:Nat),hlt',mu,⟨trivial,?_,rfl,rfl,trivial⟩,⟨trivial,⟨rfl,rfl,rfl,trivial⟩,trivial⟩,trivial⟩⟩⟩⟩;rw[hf];unfold jo;rw[<-hkk];simp
       clear hf hle mu g2 hk hkp;exact Xy (by kernel_rfl) hS
 . have hge':(cF m).length<=x:=gf hge
   (conv=>whnf)
   refine⟨by rw[As hge'];rfl,?_⟩
   repeat' (first|exact trivial|exact rfl|((conv=>whnf);first|(apply aJ<;>intro)|apply And.intro)))
end
end Go.Proofs
