/- Part 9: an evaluator, proved sound, and its use at this seat; no condition. -/
import Derived.KernelRfl
import Derived.Test.YtmfohfbdddlilaaGreatP8
set_option linter.unusedSimpArgs false
set_option linter.unusedVariables false
set_option linter.unusedSectionVars false
set_option linter.deprecated false
set_option maxRecDepth 100000
set_option maxHeartbeats 40000000
namespace Go.Proofs
open Go Go.Am Go.RowKit Go.Sy
section
variable [Inhabited aF]
theorem F2 {m:ay} {l:List aa} {x:Nat} (h:x<l.length):ct m (l.take (x+1))=if(cT m l[x].key).1.dot=l[x].dot then iB (ct m (l.take x)) (cT m l[x].key).1 else ct m (l.take x):=nP _ _ h
theorem Qs (m:ay) (l:List aa) (x:Nat):(ct m (l.take x)).length<=l.length:=by
 have:=uV m (l.take x) [];unfold ct;simp only[Bb,Ay,Bz]at this;omega
theorem Pc {p q:Prop} (h:p=q) (hp:p):q:=h▸hp
theorem LL:CO nD FZ:=bZ (cfg:=fun y=>bU vT (sr nD 9 (Lr y) (cS nD 4 (tY y)))) bH (fun _=>rfl) (fun _=>x9) (n:=800) (by
 intro (m:ay) (hm:fT m);have hal:=tZ hm
 (conv=>whnf)
 refine⟨m,?_⟩
 repeat ((conv=>whnf);first|refine⟨rfl,?_⟩|refine⟨trivial,?_⟩)
 refine⟨hm,?_⟩
 (conv=>whnf)
 refine⟨⟨(0:Nat),Av _,?_⟩,?_⟩
 . repeat' (first|exact trivial|exact rfl|((conv=>whnf);first|(apply aA<;>intro)|apply And.intro))
 intro (x:Nat) hx;have hx:x<=(bM m).length:=hx
 (conv=>whnf)
 refine aA (fun hlt=>?_) fun hge=>?_
 . have hlt':x<(bM m).length:=cY hlt;have hf:=F2 (m:=m) hlt';have hle:=Qs m (bM m) x;have mu:(bM m).length - (x+1)<(bM m).length - x:=by omega
   (conv=>whnf)
   refine ar.2 ⟨_,dz hlt',?_⟩
   (conv=>whnf)
   refine⟨(m,(bM m)[x].key),?_⟩
   repeat ((conv=>whnf);first|refine⟨rfl,?_⟩|refine⟨trivial,?_⟩)
   refine⟨hm,?_⟩
   (conv=>whnf)
   refine ar.2 ⟨_,dz hlt',?_⟩
   (conv=>whnf)
   refine aA (fun h=>?_) fun h=>?_
   . have h:decide ((cT m (bM m)[x].key).1.dot=(bM m)[x].dot)=false:=by
       have h:(!decide ((cT m (bM m)[x].key).1.dot=(bM m)[x].dot))=true:=by rw[<-qE];exact h
       simpa using h
     rw[if_neg (by simpa using h)]at hf
     (conv=>whnf)
     refine ah.2 ⟨cM x (by omega),?_⟩
     (conv=>whnf)
     refine⟨(x+1:Nat),hlt',mu,?_⟩
     repeat' (first|exact trivial|(with_reducible exact rfl)|((conv=>whnf);first|(apply aA<;>intro)|apply And.intro))
     all_goals first|exact rfl|(rw[hf];done)|(rw[hf];exact rfl)
   . have h:decide ((cT m (bM m)[x].key).1.dot=(bM m)[x].dot)=true:=by
       have h:(!decide ((cT m (bM m)[x].key).1.dot=(bM m)[x].dot))=false:=by rw[<-qE];exact h
       simpa using h
     rw[if_pos (by simpa using h)]at hf
     (conv=>whnf)
     refine⟨((x,0):Nat×Nat),⟨((x,0):Nat×Nat),⟨⟨hlt',Av _⟩,rfl⟩,?_⟩,?_⟩
     . repeat' (first|exact trivial|(with_reducible exact rfl)|((conv=>whnf);first|(apply aA<;>intro)|apply And.intro))
       all_goals exact rfl
     rintro⟨x1,k⟩ ⟨⟨g1,g2⟩,hx1⟩;have hx1:x1=x:=hx1;subst hx1;have hk:k<=cC jJ (ct m ((bM m).take x1)) (cT m (bM m)[x1].key).1:=g2;have hkp:=oX (less:=jJ) (ct m ((bM m).take x1)) (cT m (bM m)[x1].key).1;have hkl:k<=(ct m ((bM m).take x1)).length:=by omega
     (conv=>whnf)
     refine aj.2 ⟨fun hlt2=> ?ga,fun hge2=> ?gb⟩
     case' ga=>
       have hlt2':k<(ct m ((bM m).take x1)).length:=cY hlt2
       (conv=>whnf)
       refine ar.2 ⟨_,dz hlt2',?_⟩
       (conv=>whnf)
       refine⟨((ct m ((bM m).take x1))[k].key,(cT m (bM m)[x1].key).1.key),?_⟩
       repeat ((conv=>whnf);first|refine⟨rfl,?_⟩|refine⟨trivial,?_⟩)
       (conv=>whnf)
       refine aj.2 ⟨fun hl=> ?gc,fun hl=> ?gd⟩
       case gc=>
        have hl:jJ (ct m ((bM m).take x1))[k] (cT m (bM m)[x1].key).1=true:=hl
        (conv=>whnf)
        refine ah.2 ⟨cM k (by omega),?_⟩
        (conv=>whnf)
        refine⟨((x1,k+1):Nat×Nat),⟨⟨hlt',xK hk hlt2' hl⟩,rfl⟩,by show(ct m ((bM m).take x1)).length - (k+1)<(ct m ((bM m).take x1)).length - k;omega,?_⟩
        repeat' (first|exact trivial|(with_reducible exact rfl)|((conv=>whnf);first|(apply aA<;>intro)|apply And.intro))
        all_goals exact rfl
       case' gd=>
        have hl:jJ (ct m ((bM m).take x1))[k] (cT m (bM m)[x1].key).1=false:=hl;have hkk:k=cC jJ (ct m ((bM m).take x1)) (cT m (bM m)[x1].key).1:=xL hk hlt2' hl
     case' gb=>
       have hge2':(ct m ((bM m).take x1)).length<=k:=fY hge2;have hkk:k=cC jJ (ct m ((bM m).take x1)) (cT m (bM m)[x1].key).1:=by omega
     all_goals
       have hz:(ct m ((bM m).take x1)).length+1<=60000:=by omega
       (conv=>whnf)
       refine⟨fun _=>rfl,?_⟩
       (conv=>whnf)
       refine ah.2 ⟨by show Nat.ble k (ct m ((bM m).take x1)).length=true;rw[AW];exact hkl,?_⟩
       (conv=>whnf)
       refine⟨fun _=>rfl,?_⟩
       (conv=>whnf)
       refine ah.2 ⟨by show Nat.ble k (ct m ((bM m).take x1)).length=true;rw[AW];exact hkl,?_⟩
       (conv=>whnf)
       refine⟨fun _=>⟨rfl,rfl⟩,?_⟩
       (conv=>whnf)
       refine⟨(ct m ((bM m).take x1)).take k,rfl,?_⟩
       (conv=>whnf)
       refine ah.2 ⟨rh _ (by simp;omega),?_⟩;have hS:∃e:aa,e.enc=(cT m (bM m)[x1].key).1.enc/\ck (Nat.ble ((([]++(ct m ((bM m).take x1)).take k).length+[e].length)*176) 16777216&&Nat.ble (([]++(ct m ((bM m).take x1)).take k).length+[e].length) 16777216) ((∀x:aa,x.enc.length=19/\x.enc.all lz=true)/\ ∃M:List aa,SV.aJ aa ((ct m ((bM m).take x1)).drop k) aa.enc=SV.aJ aa M aa.enc/\ck (Nat.ble ((([]++(ct m ((bM m).take x1)).take k++[e]).length+M.length)*176) 16777216&&Nat.ble (([]++(ct m ((bM m).take x1)).take k++[e]).length+M.length) 16777216) (ck (bC .i64 ((x1:Int)+1)) (∃y:Nat,(tY m).ok y/\(tY m).μ y<(tY m).μ x1/\(True/\SV.aJ aa ([]++(ct m ((bM m).take x1)).take k++[e]++M) aa.enc=SV.aJ aa (ct m ((bM m).take y)) aa.enc/\SV.aJ aa (bM m) aa.enc=SV.aJ aa (bM m) aa.enc/\(x1:Int)+1=(y:Int)/\True)/\(True/\(SV.aJ ag m.ctx ag.enc=SV.aJ ag m.ctx ag.enc/\SV.aJ aa m.kept aa.enc=SV.aJ aa m.kept aa.enc/\SV.aJ ag m.dead ag.enc=SV.aJ ag m.dead ag.enc/\True)/\True)/\True))):=by
        refine⟨(cT m (bM m)[x1].key).1,rfl,ah.2 ⟨rh _ (by simp;omega),fun _=>⟨rfl,rfl⟩,(ct m ((bM m).take x1)).drop k,rfl,ah.2 ⟨rh _ (by simp;omega),ah.2 ⟨cM x1 (by omega),(x1+1:Nat),hlt',mu,⟨trivial,?_,rfl,rfl,trivial⟩,⟨trivial,⟨rfl,rfl,rfl,trivial⟩,trivial⟩,trivial⟩⟩⟩⟩;rw[hf];unfold iB;rw[<-hkk];simp
       clear hf hle mu g2 hk hkp;exact Pc (by kernel_rfl) hS
 . have hge':(bM m).length<=x:=fY hge
   (conv=>whnf)
   refine⟨by rw[As hge'];rfl,?_⟩
   repeat' (first|exact trivial|exact rfl|((conv=>whnf);first|(apply aA<;>intro)|apply And.intro)))
end
end Go.Proofs
