/- Part 14: an evaluator, proved sound, and its use at this seat; no condition. -/
import Derived.Test.YtggljmdeadplkaaGreatP13
set_option linter.unusedSimpArgs false
set_option linter.unusedVariables false
set_option linter.unusedSectionVars false
set_option linter.deprecated false
set_option maxRecDepth 100000
set_option maxHeartbeats 8000000
namespace Go.Proofs
open Go Go.Am Go.RowKit Go.Sy Go.Gm Go.Maps Go.Sort Go.Shelf
section
theorem Hy {w:World} (p:Option Addr):Calls Tryz.prog 14 #[.pointer none, .pointer p] w fun e w'=>e= .returned (.int .i64 17)/\Below w.heap.size w w':=by
 go_enter Tryz.func14,Tryz.ntmps14
 go_wp2;go_ret;exact⟨rfl,Below.refl _ _⟩
theorem PM {w:World} (a:Addr):Calls Tryz.prog 14 #[.pointer (some a), .pointer none] w fun e w'=>e= .returned (.int .i64 17)/\Below w.heap.size w w':=by
 go_enter Tryz.func14,Tryz.ntmps14
 go_wp2;go_ret;exact⟨rfl,Below.refl _ _⟩
variable [Inhabited aI]
theorem ue {w:World} {p:Nat->Prop} {g:Bool} {v:Value} (h:Rd w p g .aF v):v= .pointer none:=by
 cases h;rfl
def OY:Mq->Mq->Int|some a,some b=>iv a.2 b.2|_,_=>17
def FJ:aQ:={Y:=Mq×Mq,pre:=fun y=>y.1.at/\y.2.at,args:=fun y=>[y.1.arg,y.2.arg],res:=fun y=>i64 (OY y.1 y.2)}
theorem MX (hdr:¬(default:aI).dr):CO Ha FJ:=lC bJ.ok (by
 rintro⟨_|⟨a,ma⟩,_|⟨b,mb⟩⟩ ⟨ha,hb⟩ w args hold ⟨h1,h2⟩
 all_goals match args,h1 with|[v,u],_=>?_
 . have e1:=ue (h2 0 _ _ rfl rfl);have e2:=ue (h2 1 _ _ rfl rfl);subst e1 e2;refine(Hy none).mono ?_;rintro e w' ⟨rfl,hb⟩;exact⟨_,rfl, .inr (.int _ _),hb,fun h=>(hdr h).elim⟩
 . have e1:=ue (h2 0 _ _ rfl rfl);have e2:=ql (h2 1 _ _ rfl rfl);subst e1 e2;refine(Hy (some ⟨b,0,none⟩)).mono ?_;rintro e w' ⟨rfl,hb⟩;exact⟨_,rfl, .inr (.int _ _),hb,fun h=>(hdr h).elim⟩
 . have e1:=ql (h2 0 _ _ rfl rfl);have e2:=ue (h2 1 _ _ rfl rfl);subst e1 e2;refine(PM ⟨a,0,none⟩).mono ?_;rintro e w' ⟨rfl,hb⟩;exact⟨_,rfl, .inr (.int _ _),hb,fun h=>(hdr h).elim⟩
 . have e1:=ql (h2 0 _ _ rfl rfl);have e2:=ql (h2 1 _ _ rfl rfl);subst e1 e2;obtain⟨n,bk,ba,bd,bs,bv,G,hO,hG⟩:=ha.1.at_ w hold;obtain⟨n',bk',ba',bd',bs',bv',G',hO',hG'⟩:=hb.1.at_ w hold;refine(QO hO hG ha.1.ok ha.1.over hO' hG' hb.1.ok hb.1.over).mono ?_;rintro e w' ⟨rfl,hb⟩;exact⟨_,rfl, .inr (.int _ _),hb,fun h=>(hdr h).elim⟩)
end
end Go.Proofs
