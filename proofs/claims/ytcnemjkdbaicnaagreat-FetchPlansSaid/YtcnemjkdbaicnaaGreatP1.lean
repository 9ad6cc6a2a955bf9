/- Part 1: an evaluator, proved sound, and its use at this seat; no condition. -/
import Derived.Laws.Externs
import Derived.Lib.Bytealg
import Derived.Test.YtcnemjkdbaicnaaGreatProg
import Derived.KernelRfl
import Derived.Test.YtcnemjkdbaicnaaGreatP0
set_option linter.unusedSimpArgs false
set_option linter.unusedVariables false
set_option linter.unusedSectionVars false
set_option linter.deprecated false
set_option maxRecDepth 100000
namespace Go.Am
open Go.RowKit
section
variable [Inhabited aK]
def mK (tag:Nat) (fn:Func):Array Value->Sem Value:=
 match tag with
 |1=>Extern.BytealgCompare.compare
 |2=>Extern.AbiNoEscape.same
 |3=>Extern.BytealgMakeNoZero.makeNoZero fn.params fn.resultTypes
 |5=>Extern.BytealgIndexByte.indexByte
 |6=>Extern.BytealgCount.count
 |_=>Extern.SlicesOverlaps.overlaps fn.params fn.resultTypes
def gX (P:Program) (tab:bC):Prop:=∀f tag fn,tab.ext.get f=some tag->tab.fns.get f=some fn->Extern.findNext fn=none/\Extern.find fn=some (mK tag fn)
theorem qyk (ps rs:Array TypeId) (n:Int):Extern.BytealgMakeNoZero.makeNoZero ps rs #[.int .i64 n]=(do
 let some t:=rs[0]? |stuck "bytealg.MakeNoZero: no result type"
 let .slice elem<-underlying t|stuck "bytealg.MakeNoZero: slice type expected"
 if n<0||n>2 ^ 48 then runtimePanic (.error "makeslice: len out of range")
 let cap<-choose (.appendCap n.toNat 0 elem)
 askRoom cap
 let bytes<-choose (.extern "internal/bytealg.MakeNoZero.bytes" 0)
 let a<-Go.newRow elem (Extern.BytealgMakeNoZero.digits cap bytes #[])
 pure (.slice (some a) n.toNat cap)):=rfl
theorem P9 (ps rs:Array TypeId) (a b:Option Addr) (la lb ca cb:Nat):Extern.SlicesOverlaps.overlaps ps rs #[.slice a la ca, .slice b lb cb]=(do
 let some t:=ps[0]? |stuck "slices.overlaps: no parameter types"
 let .slice elem<-underlying t|stuck "slices.overlaps: slice type expected"
 let size<-sizeOf elem
 match a,b with
 | some a,some b=>
  if la=0\/lb=0\/size=0 then pure (.bool false)
  else if a.block !=b.block&&(<-Go.frozen a)&&(<-Go.frozen b)then unsupported .addressObserved
  else do
   if a.block !=b.block then do
    noView a;noView b
    if<-mayBeOne a b then return .bool ((<-choose (.extern "sameAddr.stringBytes" 2))==1)
   pure (.bool (a.block==b.block&&a.off<b.off+lb*size&&b.off<a.off+la*size))
 |_,_=>pure (.bool false)):=rfl
theorem Rw (b c:Value):Extern.BytealgIndexByte.indexByte #[b,c]=(do
 let b<-Extern.Bytes.bytesOf b
 let c<-Extern.Bytes.asByte c
 match(List.range b.size).find? fun i=>b[i]! ==c with
 |some i=>pure (Go.goInt i)
 |none=>pure (Go.goInt (-1))):=rfl
theorem VE:∀(n t:Nat) (acc:Array Value),(Extern.BytealgMakeNoZero.digits n t acc).size=acc.size+n:=by
 intro n;induction n with
 |zero=>intro t acc;rfl
 |succ n ih=>grind [Extern.BytealgMakeNoZero.digits]
section
variable {P:Program} {tab:bC} (ok:bZ P tab) (het:gX P tab)
include ok het
theorem Rt : lN P tab:=by
 intro f fn args h v h' hfn hb hx w;have hP:=ok.fns f fn hfn;unfold yz at hx;split at hx
 . rename_i tag htag;obtain⟨hn,he⟩:=het f tag fn htag hfn;have hrun:∀a (w:World),(callFunc f a).run P w=((mK tag fn a).run P w).andThen fun v w'=> .ok (.value v) w':=fun a w=>run_callFunc_extern hP (ok.xk f fn hfn) (by rw[hb];rfl) hn he a w
   unfold extern at hx;split at hx
   . cases hx;refine⟨(0,0),fun E K H _=>⟨by omega,w,?_,H,Kept.refl K w⟩⟩;rw[hrun];rfl
   . cases hx;refine⟨(0,0),fun E K H _=>⟨by omega,w,?_,H,Kept.refl K w⟩⟩;rw[hrun];rfl
   ·
     rename_i n;obtain⟨t,ht,hx1⟩:=ay.1 hx;obtain⟨d,hd,hx2⟩:=ay.1 hx1;have hPt:=ok.und t d (dx.1 hd);have ht:=dx.1 ht;split at hx2
     . rename_i e;obtain⟨z,hz,hx2'⟩:=ay.1 hx2;obtain⟨_,hle,hx3⟩:=ay.1 hx2';obtain⟨⟨h1,b⟩,hrow,hx4⟩:=ay.1 hx3
       cases hx4;have hle:=eI.1 hle;simp only[Ad]at hle;have hz1:=Ag hle.2;have hle:=Ak hle.1;obtain⟨sz,hsz,rfl,rfl⟩:=ju hrow;rw[hz]at hsz
       cases hsz;refine⟨(w.heap.size,grownCap w n 0 e),fun E K H hE=>?_⟩;obtain⟨hE1,hE2⟩:=hE (by simp);refine⟨by simp,w.drew.drew.alloc (.cells (Extern.BytealgMakeNoZero.digits (grownCap w n 0 e) ((Question.extern "internal/bytealg.MakeNoZero.bytes" 0).cut (w.drew.tape w.drew.drawn (.extern "internal/bytealg.MakeNoZero.bytes" 0))) #[]) e),?_,?_,?_⟩
       . rw[hrun];have h1:¬((n:Int)<0):=by omega
         have h2:¬((n:Int)>2 ^ 48):=by
           have:(2:Int) ^ 48=281474976710656:=by decide
           rw[this];omega
         have hq:(Question.appendCap n 0 e).cut (w.tape w.drawn (.appendCap n 0 e))=grownCap w n 0 e:=rfl;have hor:((decide ((n:Int)<0))||(decide ((n:Int)>2 ^ 48)))=false:=by rw[AQ h1,AQ h2];rfl
         show(((Extern.BytealgMakeNoZero.makeNoZero fn.params fn.resultTypes #[.int .i64 (n:Int)]).run P w).andThen fun v w'=> .ok (Next.value v) w')=_
         rw[qyk];simp only[ht,Sem.run_bind,underlying,run_program,Result.andThen_ok,hPt,Sem.run_pure,hor,Ax,Bc,run_choose,Question.forced,Da,hq,World.drew_eq,run_askRoom,rm];simp_all[ag,gV.val]
       . exact H.drew.drew.new (by simp_all) ⟨_,_,rfl,⟨_,rfl⟩,by grind [VE],rfl⟩
       . exact((Kept.drew K w).trans (Kept.drew K w.drew)).trans (Kept.alloc (by simpa using H.kb) _)
     grind
   ·
     obtain⟨t,ht,hx1⟩:=ay.1 hx;obtain⟨d,hd,hx2⟩:=ay.1 hx1;have hPt:=ok.und t d (dx.1 hd);have ht:=dx.1 ht;split at hx2
     . obtain ⟨sz,hsz,hx3⟩:=ay.1 hx2;obtain⟨_,hck,hx4⟩:=ay.1 hx3;clear hx hx1 hx2 hx3;have hs0:sz≠0:=by
         intro e;simp_all[R.check]
       have hnone:∀(E:Env) (a b:Option Addr) (la lb ca cb:Nat),(a=none\/b=none)->((mK 4 fn #[.slice a la ca, .slice b lb cb]).run P w)= .ok (.bool false) w:=by
         intro E a b la lb ca cb hab;show(Extern.SlicesOverlaps.overlaps fn.params fn.resultTypes #[.slice a la ca, .slice b lb cb]).run P w=_
         rw[P9];simp only[ht,Sem.run_bind,underlying,run_program,Result.andThen_ok,hPt,Sem.run_pure,kS ok hsz];rcases hab with rfl|rfl
         all_goals simp_all
       split at hx4
       . cases hx4;refine⟨(0,0),fun E K H _=>⟨by omega,w,?_,H,Kept.refl K w⟩⟩;rw[hrun];simp only[ct,dF,ag];rw[hnone E _ _ _ _ _ _ (.inl rfl)];rfl
       . cases hx4;refine⟨(0,0),fun E K H _=>⟨by omega,w,?_,H,Kept.refl K w⟩⟩;rw[hrun];simp only[ct,dF,ag];rw[hnone E _ _ _ _ _ _ (.inl rfl)];rfl
       . cases hx4;refine⟨(0,0),fun E K H _=>⟨by omega,w,?_,H,Kept.refl K w⟩⟩;rw[hrun];simp only[ct,dF,ag];rw[hnone E _ _ _ _ _ _ (.inr rfl)];rfl
       . rename_i a i n ca b j m cb;split at hx4
         . rename_i ha hb';have hsame:h'=h:=by
            cases hc:(Nat.beq n 0||Nat.beq m 0)<;>rw[hc]at hx4<;>cases hx4<;>rfl
           subst hsame;refine⟨(0,0),fun E K H _=>⟨by omega,w,?_,H,Kept.refl K w⟩⟩;rw[hrun];simp only[ct,dF,ag];have hgo:((mK 4 fn #[.slice (some ⟨E.aC a,i,none⟩) n (ca.val (E.cap a)), .slice (some ⟨E.aC b,j,none⟩) m (cb.val (E.cap b))]).run P w)= .ok (ag E v) w:=by
            show(Extern.SlicesOverlaps.overlaps fn.params fn.resultTypes #[.slice (some ⟨E.aC a,i,none⟩) n (ca.val (E.cap a)), .slice (some ⟨E.aC b,j,none⟩) m (cb.val (E.cap b))]).run P w=_
            rw[P9];simp only[ht,Sem.run_bind,underlying,run_program,Result.andThen_ok,hPt,Sem.run_pure,kS ok hsz];by_cases hz:n=0\/m=0
            . rw[An (by rcases hz with h|h<;>simp[h])];have:(Nat.beq n 0||Nat.beq m 0)=true:=by
                rcases hz with rfl|rfl<;>simp
              rw[this]at hx4
              cases hx4;rfl
            . rw [Al (by omega)];have h1:Nat.beq n 0=false:=by
                grind [Nat.eq_of_beq_eq_true]
              have h2:Nat.beq m 0=false:=by
                grind [Nat.eq_of_beq_eq_true]
              rw[h1,h2]at hx4
              cases hx4;have hfa:=yb H ha i;have hfb:=yb H hb' j;have hfrz:(Go.frozen ⟨E.aC a,i,none⟩).run P w= .ok false w:=by simp_all
              by_cases hab:a=b
              . subst hab;simp[ag];congr 1<;>(rw[Az];simp)
              . have hne:E.aC a≠E.aC b:=fun e=>hab (H.inj a b _ _ ha hb' (by simp[AO.ro]) e)
                have hb0:Nat.beq a b=false:=by
                 grind [Nat.eq_of_beq_eq_true]
                simp[ag,hne,hb0,hfrz,xK H ha,xK H hb',Lc H ha hb']
           rw[hgo];rfl
         grind
       grind
     grind
   ·
     rename_i a c
     cases hx;refine⟨(0,0),fun E K H _=>⟨by omega,w,?_,H,Kept.refl K w⟩⟩;rw[hrun];have hgo:(mK 5 fn #[.string ⟨a.toArray⟩, .int .u8 c]).run P w= .ok (.int .i64 (Hq ⟨a.toArray⟩ c.toNat.toUInt8)) w:=by
       show(Extern.BytealgIndexByte.indexByte #[.string ⟨a.toArray⟩, .int .u8 c]).run P w=_
       rw[Rw];unfold Hq;simp only[Extern.Bytes.bytesOf,Extern.Bytes.asByte,Sem.run_bind,Sem.run_pure,Result.andThen_ok];generalize List.find? (fun i=>(ByteArray.mk a.toArray)[i]! ==c.toNat.toUInt8) (List.range (ByteArray.mk a.toArray).size)=r
       cases r<;>rfl
     simp_all[ag]
   ·
     rename_i a c
     cases hx;refine⟨(0,0),fun E K H _=>⟨by omega,w,?_,H,Kept.refl K w⟩⟩;rw[hrun];have hgo:(mK 6 fn #[.string ⟨a.toArray⟩, .int .u8 c]).run P w= .ok (.int .i64 (a.count c.toNat.toUInt8:Nat)) w:=by
       show(Extern.BytealgCount.count #[.string ⟨a.toArray⟩, .int .u8 c]).run P w=_
       rw[Go.Lib.run_countString];simp[Go.Lib.countByte]
     simp_all[ag]
   grind
 grind
end
end
def T.dI {α:Type}:(Nat->Option α)->T α->T α
 |_, .e=> .e
 |f, .n v l r=> .n (match v with|none=>none|some _=>f 0) (T.dI (fun k=>f (2*k+1)) l) (T.dI (fun k=>f (2*k+2)) r)
def T.all {α:Type} (p:α->Bool):T α->Bool
 | .e=>true
 | .n v l r=>(match v with|none=>true|some a=>p a)&&T.all p l&&T.all p r
theorem CX {α:Type}:∀(t:T α) (f:Nat->Option α),T.dI f t=t->∀k v,t.get k=some v->f k=some v:=by
 intro t;induction t with
 |e=>grind [wV]
 |n x l r ihl ihr=>
  intro f h k v hk;simp only[T.dI,T.n.injEq]at h;grind [Cj]
theorem Ur {α:Type} {p:α->Bool}:∀(t:T α),T.all p t=true->∀k v,t.get k=some v->p v=true:=by
 intro t;induction t with
 |e=>grind [wV]
 |n x l r ihl ihr=>
  intro h k v hk;simp only[T.all,Ad]at h;grind [Cj]
theorem bZ.of {P:Program} {tab:bC} (h1:tab.und.dI P.underlying=tab.und) (h2:tab.siz.dI (fun t=>(P.info? t).map (·.size))=tab.siz) (h3:tab.byt.dI (fun t=>(P.info? t).map (·.bytes))=tab.byt)
  (h4:tab.mg.dI (fun t=>((P.info? t).bind (·.zero)).map ofConst)=tab.mg) (h5:tab.agg.dI (fun t=>(P.underlying t).map H5)=tab.agg) (h6:tab.held.dI (fun t=>some (P.stoodInHeld t))=tab.held)
  (h7:tab.lX.dI (fun t=>some (P.eqGuardType P.depth t))=tab.lX) (h8:tab.fns.dI (fun f=>P.funcs[f]?)=tab.fns) (h9:tab.fns.all (fun fn=> !(fn.name== "runtime.NumGoroutine"))=true):bZ P tab:=by
 refine⟨CX _ _ h1,?_,?_,?_,?_,?_,?_,CX _ _ h8,?_⟩
 all_goals grind [CX,Option.map_eq_some_iff,Option.bind_eq_some_iff,K7,Ur]
theorem gX.of {P:Program} {tab:bC} (l:List (Nat×Nat)) (hl:∀f tag,tab.ext.get f=some tag->(f,tag)∈l) (hf:∀x∈l,∀fn,tab.fns.get x.1=some fn->Extern.findNext fn=none/\Extern.find fn=some (mK x.2 fn)):gX P tab:=
 fun f tag fn h1 h2=>hf (f,tag) (hl f tag h1) fn h2
def fw:AH:={t:= .e,next:=0}
theorem NF (E:Env) (K:KS) (w:World) (hK:∀b,K b->b<w.heap.size) (hk0:∀b,b<K.b->K b):bV E fw K w:=by
 have h0:∀i,fw.get i=none:=fun i=>rfl
 refine⟨fun i o h=>?_,fun i o h=>?_,fun i j oi oj h=>?_,fun i o h=>?_,hK,fun i o h=>?_,hk0⟩<;>(rw[h0]at h;cases h)
def ub:List (Nat×Nat)->T Nat
 |[]=> .e
 |(f,t)::l=>(ub l).set f (some t)
theorem X0:∀(l:List (Nat×Nat)) (f tag:Nat),(ub l).get f=some tag->(f,tag)∈l:=by
 intro l;induction l with
 |nil=>grind [ub,wV]
 |cons x l ih=>
  grind [ub,T.bp]
theorem Tk {P:Program} {tab:bC} (l:List (Nat×Nat)) (hl:tab.ext=ub l) (hf:∀x∈l,∃fn,tab.fns.get x.1=some fn/\Extern.findNext fn=none/\Extern.find fn=some (mK x.2 fn)):gX P tab:=
 gX.of l (fun f tag h=>X0 l f tag (by rw[<-hl];exact h)) (fun x hx fn h=>by
  grind)
end Go.Am
namespace Go.Proofs
open Go.Am
open Tryz
def nd {α:Type} (x:α) (l r:T α):T α:= .n (some x) l r
def lf {α:Type} (x:α):T α:= .n (some x) .e .e
noncomputable def T4:T TypeDesc:=(nd t0.desc (nd t1.desc (nd t3.desc (nd t7.desc (.n none (.n none (.n none .e (lf t191.desc)) .e) .e) (nd t23.desc (nd t39.desc (.n none (nd t135.desc (lf t263.desc) .e) .e) (nd t103.desc (lf t167.desc) (lf t231.desc))) (.n none (.n none (lf t151.desc) .e) .e))) (.n none (.n none (nd t35.desc (lf t66.desc) .e) (nd t51.desc (.n none .e (lf t210.desc)) .e)) (nd t26.desc (.n none (lf t75.desc) (nd t106.desc .e (lf t234.desc))) (lf t58.desc)))) (nd t5.desc (nd t9.desc (.n none (lf t33.desc) (.n none (lf t80.desc) (.n none (lf t177.desc) (lf t241.desc)))) (nd t25.desc (.n none (lf t73.desc) (lf t105.desc)) (nd t56.desc (.n none (lf t153.desc) (lf t217.desc)) .e))) (.n none (nd t21.desc (.n none (nd t68.desc (lf t133.desc) .e) (.n none (lf t165.desc) (lf t229.desc))) .e) (nd t28.desc (.n none (lf t77.desc) .e) (nd t60.desc .e (.n none (lf t189.desc) .e)))))) (nd t2.desc (nd t4.desc (.n none (.n none (nd t32.desc (.n none (.n none (lf t256.desc) .e) (lf t191.desc)) .e) (.n none (lf t80.desc) .e)) (nd t23.desc (nd t3.desc (.n none (lf t135.desc) .e) (lf t104.desc)) (nd t56.desc (.n none (lf t152.desc) (lf t216.desc)) (nd t120.desc .e (lf t231.desc))))) (.n none (.n none (nd t35.desc (lf t68.desc) .e) .e) (nd t28.desc (.n none (nd t75.desc .e (lf t204.desc)) (lf t108.desc)) (nd t60.desc .e (.n none .e (lf t252.desc)))))) (nd t5.desc (.n none (.n none (nd t34.desc (lf t66.desc) .e) (.n none (.n none .e (lf t210.desc)) (.n none (lf t177.desc) .e))) (nd t26.desc (.n none (lf t73.desc) (nd t106.desc .e (lf t234.desc))) (nd t58.desc (.n none (lf t153.desc) .e) (.n none (lf t186.desc) .e)))) (.n none (nd t22.desc (.n none (nd t68.desc (lf t134.desc) (lf t198.desc)) (lf t102.desc)) (.n none (.n none (lf t150.desc) .e) .e)) (.n none (.n none (lf t77.desc) .e) (.n none (.n none .e (lf t3.desc)) .e))))))
noncomputable def T3:T Nat:=(nd 1 (nd 1 (nd 1 (nd 4 (.n none (.n none (.n none .e (lf 1)) .e) .e) (nd 4 (nd 1 (.n none (nd 1 (lf 1) .e) .e) (nd 1 (lf 1) (lf 1))) (.n none (.n none (lf 1) .e) .e))) (.n none (.n none (nd 3 (lf 2) .e) (nd 1 (.n none .e (lf 256)) .e)) (nd 5 (.n none (lf 13) (nd 4 .e (lf 1))) (lf 8)))) (nd 1 (nd 1 (.n none (lf 1) (.n none (lf 6) (.n none (lf 3) (lf 1)))) (nd 1 (.n none (lf 3) (lf 1)) (nd 3 (.n none (lf 2) (lf 1)) .e))) (.n none (nd 1 (.n none (nd 3 (lf 1) .e) (.n none (lf 1) (lf 1))) .e) (nd 4 (.n none (lf 19) .e) (nd 11 .e (.n none (lf 1) .e)))))) (nd 1 (nd 1 (.n none (.n none (nd 1 (.n none (.n none (lf 1) .e) (lf 1)) .e) (.n none (lf 6) .e)) (nd 4 (nd 1 (.n none (lf 1) .e) (lf 1)) (nd 3 (.n none (lf 1) (lf 1)) (nd 1 .e (lf 1))))) (.n none (.n none (nd 3 (lf 3) .e) .e) (nd 4 (.n none (nd 13 .e (lf 1)) (lf 1)) (nd 11 .e (.n none .e (lf 1)))))) (nd 1 (.n none (.n none (nd 1 (lf 2) .e) (.n none (.n none .e (lf 256)) (.n none (lf 3) .e))) (nd 5 (.n none (lf 3) (nd 4 .e (lf 1))) (nd 8 (.n none (lf 2) .e) (.n none (lf 1) .e)))) (.n none (nd 1 (.n none (nd 3 (lf 1) (lf 1)) (lf 1)) (.n none (.n none (lf 1) .e) .e)) (.n none (.n none (lf 19) .e) (.n none (.n none .e (lf 1)) .e))))))
noncomputable def UQ:T Nat:=(nd 0 (nd 8 (nd 8 (nd 24 (.n none (.n none (.n none .e (lf 8)) .e) .e) (nd 48 (nd 24 (.n none (nd 8 (lf 8) .e) .e) (nd 8 (lf 8) (lf 8))) (.n none (.n none (lf 8) .e) .e))) (.n none (.n none (nd 72 (lf 16) .e) (nd 24 (.n none .e (lf 256)) .e)) (nd 72 (.n none (lf 128) (nd 32 .e (lf 8))) (lf 48)))) (nd 1 (nd 16 (.n none (lf 24) (.n none (lf 64) (.n none (lf 24) (lf 8)))) (nd 24 (.n none (lf 24) (lf 8)) (nd 48 (.n none (lf 32) (lf 8)) .e))) (.n none (nd 4 (.n none (nd 24 (lf 8) .e) (.n none (lf 24) (lf 4))) .e) (nd 40 (.n none (lf 176) .e) (nd 96 .e (.n none (lf 8) .e)))))) (nd 8 (nd 1 (.n none (.n none (nd 8 (.n none (.n none (lf 8) .e) (lf 8)) .e) (.n none (lf 64) .e)) (nd 48 (nd 8 (.n none (lf 8) .e) (lf 8)) (nd 48 (.n none (lf 24) (lf 24)) (nd 8 .e (lf 8))))) (.n none (.n none (nd 72 (lf 24) .e) .e) (nd 40 (.n none (nd 128 .e (lf 8)) (lf 8)) (nd 96 .e (.n none .e (lf 8)))))) (nd 1 (.n none (.n none (nd 24 (lf 16) .e) (.n none (.n none .e (lf 256)) (.n none (lf 24) .e))) (nd 72 (.n none (lf 24) (nd 32 .e (lf 8))) (nd 48 (.n none (lf 32) .e) (.n none (lf 8) .e)))) (.n none (nd 24 (.n none (nd 24 (lf 8) (lf 8)) (lf 8)) (.n none (.n none (lf 8) .e) .e)) (.n none (.n none (lf 176) .e) (.n none (.n none .e (lf 8)) .e))))))
noncomputable def T5:T AV:=(nd (.bO []) (nd (.bR) (nd (.int .i64 0) (nd (.agg [.int .i64 0, .int .i64 0, .bool false, .int .u8 0]) (.n none (.n none (.n none .e (lf (.bR))) .e) .e) (nd (.agg [.int .i64 0, .int .i64 0, .int .i64 0, .nils]) (nd (.nils) (.n none (nd (.agg [.bP]) (lf (.bq)) .e) .e) (nd (.bP) (lf (.bR)) (lf (.int .u64 0)))) (.n none (.n none (lf (.bq)) .e) .e))) (.n none (.n none (nd (.agg [.nils, .nils, .nils]) (lf (.agg [.int .i64 0, .int .i64 0])) .e) (lf (.nils))) (nd (.agg [.int .i64 0, .int .i64 0, .int .i64 0, .nils, .nils]) (.n none (lf (.agg [.int .i64 0, .str [], .str [], .str [], .str [], .bool false, .bool false, .bool false, .bool false, .int .i64 0, .int .i64 0, .int .i64 0, .nils])) (nd (.agg [.bP, .bP, .bP, .bq]) .e (lf (.bR)))) (lf (.agg [.str [], .bool false, .bool false, .bool false, .bool false, .int .i64 0, .int .i64 0, .int .i64 0]))))) (nd (.int .u8 0) (nd (.str []) (.n none (lf (.nils)) (.n none (lf (.agg [.str [], .str [], .bool false, .bool false, .str [], .int .i64 0])) (.n none (lf (.agg [.str [], .bool false, .bool false])) (lf (.bq))))) (nd (.nils) (.n none (lf (.agg [.int .i64 0, .int .i64 0, .int .i64 0])) (lf (.bq))) (nd (.agg [.str [], .str [], .str []]) (.n none (lf (.agg [.bq, .nils])) (lf (.bq))) .e))) (.n none (nd (.int .i32 0) (.n none (nd (.agg [.int .i64 0, .int .i64 0, .int .i64 0]) (lf (.bR)) .e) (.n none (lf (.nils)) (lf (.int .u32 0)))) .e) (nd (.agg [.str [], .str [], .bool false, .bool false]) (.n none (lf (.agg [.int .i64 0, .int .i64 0, .int .i64 0, .int .i64 0, .int .i64 0, .int .i64 0, .int .i64 0, .str [], .str [], .str [], .str [], .bool false, .bool false, .bool false, .bool false, .int .i64 0, .int .i64 0, .int .i64 0, .nils])) .e) (nd (.agg [.str [], .str [], .str [], .str [], .bool false, .bool false, .bool false, .bool false, .int .i64 0, .int .i64 0, .int .i64 0]) .e (.n none (lf (.bP)) .e)))))) (nd (.int .i64 0) (nd (.bool false) (.n none (.n none (nd (.bq) (.n none (.n none (lf (.bR)) .e) (lf (.bR))) .e) (.n none (lf (.agg [.str [], .str [], .bool false, .bool false, .str [], .int .i64 0])) .e)) (nd (.agg [.int .i64 0, .int .i64 0, .int .i64 0, .nils]) (nd (.int .i64 0) (.n none (lf (.agg [.bP])) .e) (lf (.bP))) (nd (.agg [.str [], .str [], .str []]) (.n none (lf (.nils)) (lf (.nils))) (nd (.bR) .e (lf (.int .u64 0)))))) (.n none (.n none (nd (.agg [.nils, .nils, .nils]) (lf (.agg [.int .i64 0, .int .i64 0, .int .i64 0])) .e) .e) (nd (.agg [.str [], .str [], .bool false, .bool false]) (.n none (nd (.agg [.int .i64 0, .str [], .str [], .str [], .str [], .bool false, .bool false, .bool false, .bool false, .int .i64 0, .int .i64 0, .int .i64 0, .nils]) .e (lf (.bR))) (lf (.bR))) (nd (.agg [.str [], .str [], .str [], .str [], .bool false, .bool false, .bool false, .bool false, .int .i64 0, .int .i64 0, .int .i64 0]) .e (.n none .e (lf (.bq))))))) (nd (.int .u8 0) (.n none (.n none (nd (.nils) (lf (.agg [.int .i64 0, .int .i64 0])) .e) (.n none .e (.n none (lf (.agg [.str [], .bool false, .bool false])) .e))) (nd (.agg [.int .i64 0, .int .i64 0, .int .i64 0, .nils, .nils]) (.n none (lf (.agg [.int .i64 0, .int .i64 0, .int .i64 0])) (nd (.agg [.bP, .bP, .bP, .bq]) .e (lf (.bR)))) (nd (.agg [.str [], .bool false, .bool false, .bool false, .bool false, .int .i64 0, .int .i64 0, .int .i64 0]) (.n none (lf (.agg [.bq, .nils])) .e) (.n none (lf (.bq)) .e)))) (.n none (nd (.nils) (.n none (nd (.agg [.int .i64 0, .int .i64 0, .int .i64 0]) (lf (.bP)) (lf (.int .u64 0))) (lf (.bP))) (.n none (.n none (lf (.bR)) .e) .e)) (.n none (.n none (lf (.agg [.int .i64 0, .int .i64 0, .int .i64 0, .int .i64 0, .int .i64 0, .int .i64 0, .int .i64 0, .str [], .str [], .str [], .str [], .bool false, .bool false, .bool false, .bool false, .int .i64 0, .int .i64 0, .int .i64 0, .nils])) .e) (.n none (.n none .e (lf (.int .i64 0))) .e))))))
noncomputable def UP:T Bool:=(nd false (nd false (nd false (nd true (.n none (.n none (.n none .e (lf false)) .e) .e) (nd true (nd false (.n none (nd true (lf false) .e) .e) (nd false (lf false) (lf false))) (.n none (.n none (lf false) .e) .e))) (.n none (.n none (nd true (lf true) .e) (nd false (.n none .e (lf true)) .e)) (nd true (.n none (lf true) (nd true .e (lf false))) (lf true)))) (nd false (nd false (.n none (lf false) (.n none (lf true) (.n none (lf true) (lf false)))) (nd false (.n none (lf true) (lf false)) (nd true (.n none (lf true) (lf false)) .e))) (.n none (nd false (.n none (nd true (lf false) .e) (.n none (lf false) (lf false))) .e) (nd true (.n none (lf true) .e) (nd true .e (.n none (lf false) .e)))))) (nd false (nd false (.n none (.n none (nd false (.n none (.n none (lf false) .e) (lf false)) .e) (.n none (lf true) .e)) (nd true (nd false (.n none (lf true) .e) (lf false)) (nd true (.n none (lf false) (lf false)) (nd false .e (lf false))))) (.n none (.n none (nd true (lf true) .e) .e) (nd true (.n none (nd true .e (lf false)) (lf false)) (nd true .e (.n none .e (lf false)))))) (nd false (.n none (.n none (nd false (lf true) .e) (.n none (.n none .e (lf true)) (.n none (lf true) .e))) (nd true (.n none (lf true) (nd true .e (lf false))) (nd true (.n none (lf true) .e) (.n none (lf false) .e)))) (.n none (nd false (.n none (nd true (lf false) (lf false)) (lf false)) (.n none (.n none (lf false) .e) .e)) (.n none (.n none (lf true) .e) (.n none (.n none .e (lf false)) .e))))))
noncomputable def Uv:T Bool:=(nd false (nd false (nd false (nd false (.n none (.n none (.n none .e (lf false)) .e) .e) (nd false (nd false (.n none (nd false (lf false) .e) .e) (nd false (lf false) (lf false))) (.n none (.n none (lf false) .e) .e))) (.n none (.n none (nd false (lf false) .e) (nd false (.n none .e (lf false)) .e)) (nd false (.n none (lf false) (nd false .e (lf false))) (lf false)))) (nd false (nd false (.n none (lf false) (.n none (lf false) (.n none (lf false) (lf false)))) (nd false (.n none (lf false) (lf false)) (nd false (.n none (lf false) (lf false)) .e))) (.n none (nd false (.n none (nd false (lf false) .e) (.n none (lf false) (lf false))) .e) (nd false (.n none (lf false) .e) (nd false .e (.n none (lf false) .e)))))) (nd false (nd false (.n none (.n none (nd false (.n none (.n none (lf false) .e) (lf false)) .e) (.n none (lf false) .e)) (nd false (nd false (.n none (lf false) .e) (lf false)) (nd false (.n none (lf false) (lf false)) (nd false .e (lf false))))) (.n none (.n none (nd false (lf false) .e) .e) (nd false (.n none (nd false .e (lf false)) (lf false)) (nd false .e (.n none .e (lf false)))))) (nd false (.n none (.n none (nd false (lf false) .e) (.n none (.n none .e (lf false)) (.n none (lf false) .e))) (nd false (.n none (lf false) (nd false .e (lf false))) (nd false (.n none (lf false) .e) (.n none (lf false) .e)))) (.n none (nd false (.n none (nd false (lf false) (lf false)) (lf false)) (.n none (.n none (lf false) .e) .e)) (.n none (.n none (lf false) .e) (.n none (.n none .e (lf false)) .e))))))
noncomputable def TZ:T Bool:=(nd false (nd false (nd false (nd false (.n none (.n none (.n none .e (lf false)) .e) .e) (nd false (nd false (.n none (nd false (lf false) .e) .e) (nd false (lf false) (lf false))) (.n none (.n none (lf false) .e) .e))) (.n none (.n none (nd false (lf false) .e) (nd false (.n none .e (lf false)) .e)) (nd false (.n none (lf false) (nd false .e (lf false))) (lf false)))) (nd false (nd false (.n none (lf false) (.n none (lf false) (.n none (lf false) (lf false)))) (nd false (.n none (lf false) (lf false)) (nd false (.n none (lf false) (lf false)) .e))) (.n none (nd false (.n none (nd false (lf false) .e) (.n none (lf false) (lf false))) .e) (nd false (.n none (lf false) .e) (nd false .e (.n none (lf false) .e)))))) (nd false (nd false (.n none (.n none (nd false (.n none (.n none (lf false) .e) (lf false)) .e) (.n none (lf false) .e)) (nd false (nd false (.n none (lf false) .e) (lf false)) (nd false (.n none (lf false) (lf false)) (nd false .e (lf false))))) (.n none (.n none (nd false (lf false) .e) .e) (nd false (.n none (nd false .e (lf false)) (lf false)) (nd false .e (.n none .e (lf false)))))) (nd false (.n none (.n none (nd false (lf false) .e) (.n none (.n none .e (lf false)) (.n none (lf false) .e))) (nd false (.n none (lf false) (nd false .e (lf false))) (nd false (.n none (lf false) .e) (.n none (lf false) .e)))) (.n none (nd false (.n none (nd false (lf false) (lf false)) (lf false)) (.n none (.n none (lf false) .e) .e)) (.n none (.n none (lf false) .e) (.n none (.n none .e (lf false)) .e))))))
noncomputable def TY:T Func:=(.n none (.n none (nd f3 (nd f7 (nd f15 (nd f31 (nd f63 (nd f127 (lf f255) .e) (lf f191)) (nd f95 (lf f159) (lf f223))) (nd f47 (nd f79 (nd f143 (lf f271) .e) (lf f207)) (nd f111 (lf f175) (lf f239)))) (nd f23 (nd f39 (nd f71 (nd f135 (lf f263) .e) (lf f199)) (nd f103 (lf f167) (lf f231))) (nd f55 (nd f87 (nd f151 (lf f279) .e) (lf f215)) (nd f119 (lf f183) (lf f247))))) (nd f11 (nd f19 (nd f35 (nd f67 (nd f131 (lf f259) .e) (lf f195)) (nd f99 (lf f163) (lf f227))) (nd f51 (nd f83 (nd f147 (lf f275) .e) (lf f211)) (nd f115 (lf f179) (lf f243)))) (nd f27 (nd f43 (nd f75 (nd f139 (lf f267) .e) (lf f203)) (nd f107 (lf f171) (lf f235))) (nd f59 (nd f91 (nd f155 (lf f283) .e) (lf f219)) (nd f123 (lf f187) (lf f251)))))) (nd f5 (nd f9 (nd f17 (nd f33 (nd f65 (nd f129 (lf f257) .e) (lf f193)) (nd f97 (lf f161) (lf f225))) (nd f49 (nd f81 (nd f145 (lf f273) .e) (lf f209)) (nd f113 (lf f177) (lf f241)))) (nd f25 (nd f41 (nd f73 (nd f137 (lf f265) .e) (lf f201)) (nd f105 (lf f169) (lf f233))) (nd f57 (nd f89 (nd f153 (lf f281) .e) (lf f217)) (nd f121 (lf f185) (lf f249))))) (nd f13 (nd f21 (nd f37 (nd f69 (nd f133 (lf f261) .e) (lf f197)) (nd f101 (lf f165) (lf f229))) (nd f53 (nd f85 (nd f149 (lf f277) .e) (lf f213)) (nd f117 (lf f181) (lf f245)))) (nd f29 (nd f45 (nd f77 (nd f141 (lf f269) .e) (lf f205)) (nd f109 (lf f173) (lf f237))) (nd f61 (nd f93 (nd f157 (lf f285) .e) (lf f221)) (nd f125 (lf f189) (lf f253))))))) (.n none (nd f4 (nd f8 (nd f16 (nd f32 (nd f64 (nd f128 (lf f256) .e) (lf f192)) (nd f96 (lf f160) (lf f224))) (nd f48 (nd f80 (nd f144 (lf f272) .e) (lf f208)) (nd f112 (lf f176) (lf f240)))) (nd f24 (nd f40 (nd f72 (nd f136 (lf f264) .e) (lf f200)) (nd f104 (lf f168) (lf f232))) (nd f56 (nd f88 (nd f152 (lf f280) .e) (lf f216)) (nd f120 (lf f184) (lf f248))))) (nd f12 (nd f20 (nd f36 (nd f68 (nd f132 (lf f260) .e) (lf f196)) (nd f100 (lf f164) (lf f228))) (nd f52 (nd f84 (nd f148 (lf f276) .e) (lf f212)) (nd f116 (lf f180) (lf f244)))) (nd f28 (nd f44 (nd f76 (nd f140 (lf f268) .e) (lf f204)) (nd f108 (lf f172) (lf f236))) (nd f60 (nd f92 (nd f156 (lf f284) .e) (lf f220)) (nd f124 (lf f188) (lf f252)))))) (.n none (nd f10 (nd f18 (nd f34 (nd f66 (nd f130 (lf f258) .e) (lf f194)) (nd f98 (lf f162) (lf f226))) (nd f50 (nd f82 (nd f146 (lf f274) .e) (lf f210)) (nd f114 (lf f178) (lf f242)))) (nd f26 (nd f42 (nd f74 (nd f138 (lf f266) .e) (lf f202)) (nd f106 (lf f170) (lf f234))) (nd f58 (nd f90 (nd f154 (lf f282) .e) (lf f218)) (nd f122 (lf f186) (lf f250))))) (nd f14 (nd f22 (nd f38 (nd f70 (nd f134 (lf f262) .e) (lf f198)) (nd f102 (lf f166) (lf f230))) (nd f54 (nd f86 (nd f150 (lf f278) .e) (lf f214)) (nd f118 (lf f182) (lf f246)))) (nd f30 (nd f46 (nd f78 (nd f142 (lf f270) .e) (lf f206)) (nd f110 (lf f174) (lf f238))) (nd f62 (nd f94 (nd f158 (lf f286) .e) (lf f222)) (nd f126 (lf f190) (lf f254))))))))
noncomputable def UR:T Nat:=ub [(198,2),(199,3),(252,1),(268,5)]
noncomputable def Tryz.tab:bC:={und:=T4,siz:=T3,byt:=UQ,mg:=T5,agg:=UP,cmp:= .e,held:=Uv,lX:=TZ,fns:=TY,ext:=UR,merge:=fun _=>false}
end Go.Proofs
namespace Go.Proofs
open Go Go.Am
def Tt:FuncId:=3
def Tu:FuncId:=4
def xf:FuncId:=5
def TI:FuncId:=7
def lA:FuncId:=8
def nQ:FuncId:=10
def sA:FuncId:=11
def IA:FuncId:=12
def lB:FuncId:=13
def p9:FuncId:=14
def pY:FuncId:=15
def Io:FuncId:=16
def pX:FuncId:=17
def Im:FuncId:=18
def Il:FuncId:=19
def ml:FuncId:=20
def Ie:FuncId:=21
def sC:FuncId:=22
def TH:FuncId:=24
def pP:FuncId:=25
def Ij:FuncId:=27
def KG:FuncId:=28
def II:FuncId:=29
def IJ:FuncId:=30
def pV:FuncId:=31
def Kc:FuncId:=32
def Ih:FuncId:=33
def Is:FuncId:=34
def qd:FuncId:=35
def kP:FuncId:=36
def pU:FuncId:=37
def JX:FuncId:=38
def CU:FuncId:=39
def Iq:FuncId:=40
def qc:FuncId:=41
def Ik:FuncId:=42
def Ii:FuncId:=43
def p7:FuncId:=44
def Kd:FuncId:=45
def Kb:FuncId:=46
def Ig:FuncId:=47
def J8:FuncId:=48
def JT:FuncId:=51
def Iw:FuncId:=57
def JL:FuncId:=59
def pT:FuncId:=60
def KI:FuncId:=61
def J6:FuncId:=62
def Kq:FuncId:=63
def F.strings_Join:FuncId:=64
def nT:FuncId:=65
def JR:FuncId:=66
def sr:FuncId:=67
def IP:FuncId:=68
def p8:FuncId:=69
def mj:FuncId:=70
def xb:FuncId:=71
def lz:FuncId:=73
def nM:FuncId:=74
def nE:FuncId:=75
def nF:FuncId:=76
def pR:FuncId:=77
def JY:FuncId:=78
def CS:FuncId:=79
def nY:FuncId:=80
def KD:FuncId:=81
def J4:FuncId:=82
def IF:FuncId:=83
def JZ:FuncId:=84
def Iy:FuncId:=87
def KH:FuncId:=88
def CQ:FuncId:=89
def CR:FuncId:=90
def CT:FuncId:=91
def qa:FuncId:=92
def J0:FuncId:=93
def nN:FuncId:=94
def JO:FuncId:=95
def rY:FuncId:=96
def IB:FuncId:=97
def pO:FuncId:=98
def KJ:FuncId:=99
def JP:FuncId:=100
def pS:FuncId:=101
def Kr:FuncId:=102
def TC:FuncId:=105
def Ka:FuncId:=106
def IM:FuncId:=110
def sq:FuncId:=111
def nW:FuncId:=112
def nI:FuncId:=113
def J1:FuncId:=114
def IC:FuncId:=115
def rW:FuncId:=116
def KF:FuncId:=117
def nO:FuncId:=118
def Ts:FuncId:=119
def rX:FuncId:=120
def IG:FuncId:=121
def rZ:FuncId:=122
def sE:FuncId:=123
def Iz:FuncId:=124
def sD:FuncId:=125
def nZ:FuncId:=127
def nR:FuncId:=128
def nS:FuncId:=129
def KC:FuncId:=130
def Kh:FuncId:=132
def JW:FuncId:=133
def sy:FuncId:=134
def TD:FuncId:=135
def JJ:FuncId:=136
def JK:FuncId:=137
def Ks:FuncId:=138
def Ke:FuncId:=139
def JI:FuncId:=140
def sG:FuncId:=141
def J2:FuncId:=142
def oe:FuncId:=143
def sB:FuncId:=144
def IY:FuncId:=145
def sx:FuncId:=146
def JS:FuncId:=148
def xd:FuncId:=149
def sd:FuncId:=152
def IK:FuncId:=153
def Iv:FuncId:=156
def nD:FuncId:=157
def mh:FuncId:=160
def xc:FuncId:=162
def J9:FuncId:=164
def It:FuncId:=165
def JN:FuncId:=169
def CP:FuncId:=170
def Kt:FuncId:=171
def nK:FuncId:=173
def nL:FuncId:=174
def nX:FuncId:=175
def IL:FuncId:=176
def KE:FuncId:=177
def sk:FuncId:=178
def pW:FuncId:=179
def CM:FuncId:=180
def JH:FuncId:=181
def JG:FuncId:=182
def Iu:FuncId:=183
def nP:FuncId:=185
def nV:FuncId:=186
def od:FuncId:=187
def nJ:FuncId:=188
def wZ:FuncId:=193
def sg:FuncId:=197
def J5:FuncId:=214
def IE:FuncId:=217
def J7:FuncId:=218
def J3:FuncId:=219
def nU:FuncId:=220
def sm:FuncId:=221
def pZ:FuncId:=222
def CN:FuncId:=223
def nH:FuncId:=224
def nG:FuncId:=225
def Cp:FuncId:=231
def Tq:FuncId:=247
def Ir:FuncId:=249
def Ty.string:TypeId:=9
def Tj:TypeId:=36
def wW:TypeId:=57
def C5:TypeId:=61
def wU:TypeId:=67
def Kp:TypeId:=69
def Ty.mR:TypeId:=70
def C4:TypeId:=76
def Ch:TypeId:=78
noncomputable abbrev pJ:bC:=Tryz.tab
theorem Tryz.h1:Tryz.tab.und.dI Tryz.prog.underlying=Tryz.tab.und:=by kernel_rfl
theorem Tryz.h2:Tryz.tab.siz.dI (fun t=>(Tryz.prog.info? t).map (·.size))=Tryz.tab.siz:=by kernel_rfl
theorem Tryz.h3:Tryz.tab.byt.dI (fun t=>(Tryz.prog.info? t).map (·.bytes))=Tryz.tab.byt:=by kernel_rfl
theorem Tryz.h4:Tryz.tab.mg.dI (fun t=>((Tryz.prog.info? t).bind (·.zero)).map ofConst)=Tryz.tab.mg:=by kernel_rfl
theorem Tryz.h5:Tryz.tab.agg.dI (fun t=>(Tryz.prog.underlying t).map H5)=Tryz.tab.agg:=by kernel_rfl
theorem Tryz.h6:Tryz.tab.held.dI (fun t=>some (Tryz.prog.stoodInHeld t))=Tryz.tab.held:=by kernel_rfl
theorem Tryz.h7:Tryz.tab.lX.dI (fun t=>some (Tryz.prog.eqGuardType Tryz.prog.depth t))=Tryz.tab.lX:=by kernel_rfl
theorem Tryz.h8:Tryz.tab.fns.dI (fun f=>Tryz.prog.funcs[f]?)=Tryz.tab.fns:=by kernel_rfl
theorem Tryz.h9:Tryz.tab.fns.all (fun fn=> !(fn.name== "runtime.NumGoroutine"))=true:=by kernel_rfl
theorem Tryz.kO:bZ Tryz.prog Tryz.tab:=bZ.of Tryz.h1 Tryz.h2 Tryz.h3 Tryz.h4 Tryz.h5 Tryz.h6 Tryz.h7 Tryz.h8 Tryz.h9
end Go.Proofs
