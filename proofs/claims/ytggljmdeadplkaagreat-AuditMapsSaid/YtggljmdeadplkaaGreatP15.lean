/- Part 15: an evaluator, proved sound, and its use at this seat; no condition. -/
import Derived.WalkKit
import Derived.LoopTactic
import Derived.Test.YtggljmdeadplkaaGreatP6
import Derived.Test.YtggljmdeadplkaaGreatP8
import Derived.Test.YtggljmdeadplkaaGreatP13
import Derived.Test.YtggljmdeadplkaaGreatP14
set_option linter.unusedSimpArgs false
set_option linter.unusedVariables false
set_option linter.unusedSectionVars false
set_option linter.deprecated false
set_option maxRecDepth 100000
set_option maxHeartbeats 40000000
namespace Go.Proofs
open Go Go.Am Go.RowKit Go.Sy Go.Gm Go.Maps Go.Sort Go.Shelf
section
section
variable [Inhabited aI]
end
end
section
def spine:Nat->Code->Code
 |0,c=>c
 |n+1, .seq _ b=>spine n b
 |_,c=>c
section
variable [Inhabited aI]
theorem Kr {l:List ae} {x:ae} (h:x∈(foldM l).kept):eS x=true:=by
 have key:∀(l:List ae) (m:bB),(∀y∈m.kept,eS y=true)->∀y∈(l.foldl (fun m e=>(dw m e).1) m).kept,eS y=true:=by
  intro l;induction l with
  |nil=>intro m h;exact h
  |cons e l ih=>
   intro m h;refine ih _ fun y hy=>?_
   by_cases hr:eS e=false
   . have:(dw m e).1=m:=by unfold dw;rw[An hr]
     have hy:y∈(dw m e).1.kept:=hy;rw[this]at hy;exact h y hy
   . rcases Fy hy with hy|rfl
     . exact h y hy
     . simpa using hr
 exact key l kN (fun y hy=>by cases hy) x h
theorem Lu {e:ae} (h:eS e=true):∀d∈e.over,eB d=true:=by
 intro d hd;have ho:gP e.dot e.over=true:=by
  unfold eS at h;simp only[Ad]at h;exact h.1.2
 unfold gP at ho;rw[Ad,Ae,Ae]at ho;obtain⟨i,hi,rfl⟩:=AS hd;have:=ho.2 i hi;unfold il at this;simp only[Ad]at this;exact this.1.1
theorem CC {l:List ae} (hl:qf l) (hok:iK (foldM l)):je (foldM l):=⟨hok,fun e he=>by
 have:=(re (hl.2 e (CX l he))).2;omega,fun e he=>Lu (Kr he)⟩
theorem JJ {m:bB} (hs:m.kept.Pairwise fun x y=>bR x.dot y.dot=true):iv m m=0:=by
 unfold iv;rw[An];rw[Aq];intro x hx;rw[Aq];intro y hy;obtain⟨i,hi,rfl⟩:=AS hx;obtain⟨j,hj,rfl⟩:=AS hy;unfold gU;by_cases e:m.kept[i].dot=m.kept[j].dot
 . have hij:i=j:=by
    rcases Nat.lt_trichotomy i j with h|h|h
    . have:=Bf.1 hs i j hi hj h;rw[e,pE]at this;cases this
    . exact h
    . have:=Bf.1 hs j i hj hi h;rw[e,pE]at this;cases this
   subst hij;have h2:decide (fA m.kept[i]=fA m.kept[i])=true:=A7 rfl;rw[h2,Dp]
 . rw[AU e];rfl
noncomputable def GI (f:FuncId):Option aQ:=bif Nat.beq f lk then some yc else bif Nat.beq f mR then some CQ else bif Nat.beq f mS then some CR else bif Nat.beq f Ha then some FJ else bif Nat.beq f mT then some FK else bS f
theorem LL (hdr:¬(default:aI).dr) (ha:CO lk yc):∀f C,GI f=some C->CO f C:=bU ha (bU (Ln hdr) (bU Lo (bU (MX hdr) (bU MY fZ))))
theorem eq_self (x:Int):(x==x)=true:=by simp
theorem MM {b b2:Nat} {m m2:bB} (hS:eC b m) (hC:je m) (hS2:eC b2 m2) (hC2:je m2) (hself:iv m m=0):wp (cC GI (fun _ _=>none)) 2000
  ⟨Qn,65,0,[.code (spine 4 (Tryz.f4.body.getD .skip))],⟨[(5, .wp ⟨b,0,none⟩),(6, .cE m.enc 0),(7, .wp ⟨b2,0,none⟩),(8, .cE m2.enc 0)],⟨0,[]⟩,[]⟩⟩ vA:=by
 (conv=>whnf)
 refine⟨some (b,m),?_⟩
 repeat ((conv=>whnf);first|refine⟨rfl,?_⟩|refine⟨trivial,?_⟩)
 refine⟨⟨hS,hC⟩,?_⟩
 (conv=>whnf)
 refine⟨m,?_⟩
 repeat ((conv=>whnf);first|refine⟨rfl,?_⟩|refine⟨trivial,?_⟩)
 refine⟨hC,?_⟩
 (conv=>whnf)
 refine ah.2 ⟨fun _=>?_,fun h=>absurd (show(iS m==iS m)=false from h) (by rw[eq_self];decide)⟩
 (conv=>whnf)
 refine⟨(some (b,m),some (b2,m2)),?_⟩
 repeat ((conv=>whnf);first|refine⟨rfl,?_⟩|refine⟨trivial,?_⟩)
 refine⟨⟨⟨hS,hC⟩,⟨hS2,hC2⟩⟩,?_⟩
 (conv=>whnf)
 refine⟨(m,m2),?_⟩
 repeat ((conv=>whnf);first|refine⟨rfl,?_⟩|refine⟨trivial,?_⟩)
 refine⟨⟨hC.ok,hC2.ok⟩,?_⟩
 (conv=>whnf)
 refine ah.2 ⟨fun _=>?_,fun h=>absurd (show(iv m m2==iv m m2)=false from h) (by rw[eq_self];decide)⟩
 (conv=>whnf)
 refine⟨(some (b,m),some (b,m)),?_⟩
 repeat ((conv=>whnf);first|refine⟨rfl,?_⟩|refine⟨trivial,?_⟩)
 refine⟨⟨⟨hS,hC⟩,⟨hS,hC⟩⟩,?_⟩
 (conv=>whnf)
 refine ah.2 ⟨fun _=>?_,fun h=>absurd (show(iv m m==0)=false from h) (by rw[hself];decide)⟩
 (conv=>whnf)
 refine⟨none,?_⟩
 repeat ((conv=>whnf);first|refine⟨rfl,?_⟩|refine⟨trivial,?_⟩)
 (conv=>whnf)
 refine⟨(some (b,m),none),?_⟩
 repeat ((conv=>whnf);first|refine⟨rfl,?_⟩|refine⟨trivial,?_⟩)
 refine⟨⟨⟨hS,hC⟩,trivial⟩,?_⟩
 (conv=>whnf)
 refine⟨(none,some (b2,m2)),?_⟩
 repeat ((conv=>whnf);first|refine⟨rfl,?_⟩|refine⟨trivial,?_⟩)
 refine⟨⟨trivial,⟨hS2,hC2⟩⟩,?_⟩
 (conv=>whnf)
 refine⟨(),?_⟩
 repeat' (first|exact trivial|exact rfl|((conv=>whnf);first|(apply aE<;>intro)|apply And.intro))
end
end
theorem FH (w:World):¬(@default aI (oB w)).dr:=fun h=>h
theorem sA {l:List ae} {v:Value} {w:World} (h:dV w l v):Calls Tryz.prog 10 #[v, .int .i64 25] w fun e w'=>e= .returned (.bool (bA (Int.ofNat l.length) 25&&l.all gO))/\Below w.heap.size w w':=
 qo (C:=fun _=>v7) (fun I=> @zU I) (hfn:=rfl) (hb:=rfl) (args:=[v, .int .i64 25]) (fun I=>⟨(l,25),(by show(25:Int)<=1000000;omega),PL.cons (F0 (wX l) (@xQ I _ _ _ h)) (PL.cons (.int _ _) PL.nil),rfl⟩)
theorem zP [Inhabited aI] {l:List ae} (h:(bA (Int.ofNat l.length) 25&&l.all gO)=true):l.length<=25/\qf l:=by
 rw[Ad,eI,Ae,Aq]at h;have h1:(l.length:Int)<=25:=h.1;exact⟨by omega,by omega,h.2⟩
theorem PQ (w:World):Calls Tryz.prog 6 #[] w fun e w'=>e= .returned (.bool true)/\Below w.heap.size w w':=
 qo (C:=fun _=>uk) (fun I=> @Lm I) (hfn:=rfl) (hb:=rfl) (args:=[]) (fun I=>⟨(),trivial,PL.nil,rfl⟩)
theorem PU {l l2:List ae} {v v2:Value} {w:World} (hv:dV w l v) (hv2:dV w l2 v2):
  Calls Tryz.prog 4 #[v,v2] w fun e w'=>e= .returned (.bool true)/\Below w.heap.size w w':=by
 have ha:=PQ;have hlA:=sA hv;have hlB:=fun{x:World} (hb:Below w.heap.size w x)=>sA (hv2.cells (cA hb))
 obtain⟨sa,sc,rfl⟩:=hv.one;obtain⟨sa2,sc2,rfl⟩:=hv2.one;refine ID Tryz.func4 rfl ?_;simp only[Tryz.ntmps4,Bp,AX,Bc,Nat.reduceAdd,Nat.reduceSub,DB,DA,DN,DE,BE,BO];refine fm.next Tryz.func4 ?_;go_wp2;show fm _ _ _ _ _ _
 refine fm.next Tryz.func4 ?_
 cases hL:(bA (Int.ofNat l.length) 25&&l.all gO)with
 |false=>
  rw[hL]at hlA;go_wp2_with (first|(go_at_call 10;refine hlA.mono ?_;rintro e w1 ⟨rfl,hb1⟩;have ha1:=ha w1)|(go_at_call 6;refine ha1.mono ?_;rintro e w2 ⟨rfl,hb2⟩))
  refine zd (results_tmp rfl _ _ _) rfl ?_;exact⟨rfl,hb1.trans (hb2.mono hb1.size)⟩
 |true=>
 rw[hL]at hlA;have hNo:True:=trivial
 cases hL2:(bA (Int.ofNat l2.length) 25&&l2.all gO)with
 |false=>
  go_wp2_with (first|(go_at_call 10;clear hNo;refine hlA.mono ?_;rintro e w1 ⟨rfl,hb1⟩;have hlB1:=hlB hb1;rw[hL2]at hlB1)|(go_at_call 10;refine hlB1.mono ?_;rintro e w2 ⟨rfl,hb2⟩;have ha1:=ha w2)|(go_at_call 6;refine ha1.mono ?_;rintro e w3 ⟨rfl,hb3⟩))
  refine zd (results_tmp rfl _ _ _) rfl ?_;have hB2:=hb1.trans (hb2.mono hb1.size);exact⟨rfl,hB2.trans (hb3.mono hB2.size)⟩
 |true=>
  obtain⟨hl25,hlt⟩:= @zP ⟨⟨True,#[]⟩⟩ l hL;obtain⟨hl25',hlt2⟩:= @zP ⟨⟨True,#[]⟩⟩ l2 hL2;go_wp2_with (first|(go_at_call 10;clear hNo;refine hlA.mono ?_;rintro e w0 ⟨rfl,hb0⟩;have hlB1:=hlB hb0;rw[hL2]at hlB1)|(go_at_call 10;refine hlB1.mono ?_;rintro e w1 ⟨rfl,hb0'⟩))
  have hb1:Below w.heap.size w w1:=hb0.trans (hb0'.mono hb0.size);show fm _ _ _ _ _ _
  refine fm.next Tryz.func4 ?_;have hmade:=G6 (hv.cells (cA hb1)) hlt (by omega);go_wp2_with (first|(go_at_call 11;refine hmade.mono ?_;rintro e w2 ⟨b,bk,ba,bd,bs,bv,G,u,rfl,hO,hg,⟨vc,vk,vd,rfl,hm1,hm2,hm3⟩,hb2⟩;obtain⟨ca,na,pa,rfl⟩:=hm1.one;obtain⟨ck,pk,rfl⟩:=hm2.one;obtain⟨cd,nd,pd,rfl⟩:=hm3.one;obtain⟨W1,W2,W3,e1,e2,e3,c0,f0,c1,f1,c2,f2,hbx,hbel⟩:=GC w2 (.slice ca na pa) (.slice ck (foldM l).kept.length pk) (.slice cd nd pd)))
  show fm _ _ _ _ _ _
  refine fm.next Tryz.func4 ?_;have hB2:Below w.heap.size w w2:=hb1.trans (hb2.mono hb1.size);have hB3:Below w.heap.size w W3:=hB2.trans (hbel.mono hB2.size);clear e1 e2 e3 c0 f0 c1 f1 c2 f2;have hmade2:=G6 (hv2.cells (cA hB3)) hlt2 (by omega);go_wp2_with (first|(go_at_call 11;refine hmade2.mono ?_;rintro e w4 ⟨b',bk',ba',bd',bs',bv',G',u',rfl,hO',hg',⟨vc',vk',vd',rfl,hm1',hm2',hm3'⟩,hb4⟩;obtain⟨ca',na',pa',rfl⟩:=hm1'.one;obtain⟨ck',pk',rfl⟩:=hm2'.one;obtain⟨cd',nd',pd',rfl⟩:=hm3'.one;obtain⟨W4,W5,W6,e1,e2,e3,c0,f0,c1,f1,c2,f2,hbx',hbel'⟩:=GC w4 (.slice ca' na' pa') (.slice ck' (foldM l2).kept.length pk') (.slice cd' nd' pd')))
  show fm _ _ _ _ _ _
  have hB4:Below w.heap.size w w4:=hB3.trans (hb4.mono hB3.size);have hB6:Below w.heap.size w W6:=hB4.trans (hbel'.mono hB4.size);have hst:=cA hbel;have hst4:=cA hb4;have hst6:=cA hbel';have q1:=((hm1.cells hst).cells hst4).cells hst6;have q2:=((hm2.cells hst).cells hst4).cells hst6;have q3:=((hm3.cells hst).cells hst4).cells hst6;have q1':=hm1'.cells hst6;have q2':=hm2'.cells hst6;have q3':=hm3'.cells hst6;have hO6:=((hO.below hbel).below hb4).below hbel';have hO6':=hO'.below hbel';have hbx6:=(hbel'.block _ (Ac.1 ((hb4.block _ (Ac.1 hbx).1).trans hbx)).1).trans ((hb4.block _ (Ac.1 hbx).1).trans hbx);have hok:iK (foldM l):=by
    have hb:= @pI ⟨⟨True,#[]⟩⟩ l hlt.2 l.length (Aj _);rw[Bn]at hb;exact @eD.ok ⟨⟨True,#[]⟩⟩ _ _ hb (by omega)
  have hok2:iK (foldM l2):=by
    have hb:= @pI ⟨⟨True,#[]⟩⟩ l2 hlt2.2 l2.length (Aj _);rw[Bn]at hb;exact @eD.ok ⟨⟨True,#[]⟩⟩ _ _ hb (by omega)
  letI:Inhabited aI:=oB W6
  have hS:=zi hO6 hg hlt;have hS2:=zi hO6' hg' hlt2;have hlaw:=MM hS (CC hlt hok) hS2 (CC hlt2 hok2) (JJ hg.sorted);clear e1 e2 e3 c0 f0 c1 f1 c2 f2;refine fm.mono (QK (n:=2000) (c:=spine 4 (Tryz.f4.body.getD .skip)) bJ rfl (LL (FH W6) (O8 (FH W6) ha)) rfl hlaw ?_ (LY W6)) ?_
  . exact .cons rfl (.wp _) (Co rfl hbx6 q1 q2 q3 (.cons rfl (.wp _) (Co rfl hbx' q1' q2' q3' .nil)))
  . rintro e w' ⟨rfl,hb'⟩;exact⟨rfl,hB6.trans (hb'.mono hB6.size)⟩
end Go.Proofs
