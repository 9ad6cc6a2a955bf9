/- Part 11: an evaluator, proved sound, and its use at this seat; no condition. -/
import Derived.Test.YtpbnfcmlcmiieaaGreatDoorP7
import Derived.Test.YtpbnfcmlcmiieaaGreatDoorP10
set_option linter.unusedSimpArgs false
set_option linter.unusedVariables false
set_option linter.unusedSectionVars false
set_option linter.deprecated false
set_option maxRecDepth 100000
set_option maxHeartbeats 40000000
namespace Go.Proofs
open Go Go.Am Go.RowKit Go.Sy
section
variable [Inhabited aE]
end
end Go.Proofs
namespace Go.Proofs
open Go Go.Am Go.RowKit Go.Sy Go.Gm Go.Maps Go.Sort Go.Shelf
section
variable [Inhabited aE]
structure dT (b:Nat) (m:bN):Prop where
 ok:mc m
 over:∀e∈m.kept,e.over.length<=100000
 at_:I6 fun w=>∃n bk ba bd bs bv G,kN w n b bk ba bd bs bv G/\kM G m
end
section
variable [Inhabited aE]
end
def dP (w:World) (p:Nat->Prop) (l:List aj) (v:Value):Prop:=(l=[]/\ ∃a c,v= .slice a 0 c)\/ ∃b off cap arr e fz,v= .slice (some ⟨b,off,none⟩) l.length cap/\p b/\w.heap[b]? =some (.cells arr e fz)/\l.length<=cap/\off+l.length*3<=arr.size/\
 ∀i (h:i<l.length),arr[off+i*3]? =some (.int .i64 l[i].dev)/\arr[off+i*3+1]? =some (.int .i64 l[i].inc)/\arr[off+i*3+2]? =some (.int .i64 l[i].seq)
theorem dP.bI {w w':World} {p q:Nat->Prop} {l:List aj} {v:Value} (h:dP w p l v) (hs:∀b,p b->b<w.heap.size->q b/\w'.heap[b]? =w.heap[b]?):dP w' q l v:=by
 rcases h with h|⟨b,off,cap,arr,e,fz,rfl,hp,hb,hr⟩
 . exact .inl h
 . obtain⟨h1,h2⟩:=hs b hp (Ad.1 hb).1;exact .inr ⟨b,off,cap,arr,e,fz,rfl,h1,h2.trans hb,hr⟩
theorem GR {P:Program} {ops:Array Oper} {Q:Exit->Act->World->Prop} {rest:List Oper} {a:Act} {W W':World} (h:W=W') (hk:wpList P ops Q rest a W'):wpList P ops Q rest a W:=h▸hk
section
theorem G2 {w:World} {p:Nat->Prop} {n:Nat} {l:List aj} {v:Value} (hp:∀b,p b->n<=b) (h:dP w p l v):Up w n (cq l) v:=by
 unfold cq;rcases h with⟨rfl,a,c,rfl⟩|⟨b,off,cap,arr,ty,fz,rfl,hpb,hb,hc,hl,hi⟩
 . exact .bt rfl a c
 . refine .aD b off cap arr ty fz 3 (fun i j=>(arr[off+i*3+j]?).getD (.bool false)) (hp b hpb) hb (by decide) hl (fun _ _ _=>rfl) hc (fun i x j v hx hv=>?_) (fun i x j v hx hv=>?_) (fun i x j v hx hv=>?_)
   all_goals
    have hil:i<l.length:=(Ac.1 hx).1;have hxe:l[i]=x:=(Ac.1 hx).2;obtain⟨e0,e1,e2⟩:=hi i hil;rw[hxe]at e0 e1 e2;have hj:j<3:=(Ac.1 hv).1;match j,hj with
    |0,_=>cases hv;first|rfl|exact(by rw[A9,e0];rfl)|(simp only[A9,e0,AA];exact .int _ _)
    |1,_=>cases hv;first|rfl|exact(by rw[e1];rfl)|(simp only[e1,AA];exact .int _ _)
    |2,_=>cases hv;first|rfl|exact(by rw[e2];rfl)|(simp only[e2,AA];exact .int _ _)
variable [Inhabited aE]
end
section
variable [Inhabited aE]
abbrev Mp:=Option (Nat×bN)
def Mp.arg:Mp->SV|none=> .aA|some y=> .wp ⟨y.1,0,none⟩
def Mp.m:Mp->bN|none=>⟨[],[],[]⟩|some y=>y.2
def Mp.at:Mp->Prop|none=>True|some y=>dT y.1 y.2
noncomputable def Mp.cJ (c:FuncId->Option aR):Mp->FuncId->Option aR|none=>cH|some _=>c
noncomputable def Mp.iW (a:Nat×bN->FuncId->Nat->Option bh):Mp->FuncId->Nat->Option bh|none=>fun _ _=>none|some y=>a y
end
end Go.Proofs
