/- Part 1: an evaluator, proved sound, and its use at this seat; no condition. -/
import Derived.Laws.Externs
import Derived.Lib.Bytealg
import Derived.Test.YtcnemjkdbaicnaaGreatProg
import Derived.KernelRfl
import Derived.Test.YtcnemjkdbaicnaaGreatP0
set_option linter.unusedSimpArgs false
set_option linter.unusedVariables false
set_option linter.unusedSectionVars false
set_option linter.deprecated false
set_option maxRecDepth 100000
namespace Go.Am
open Go.RowKit
section
variable [Inhabited aF]
def mh (tag:Nat) (fn:Func):Array Value->Sem Value:=
 match tag with
 |1=>Extern.BytealgCompare.compare
 |2=>Extern.AbiNoEscape.same
 |3=>Extern.BytealgMakeNoZero.makeNoZero fn.params fn.resultTypes
 |5=>Extern.BytealgIndexByte.indexByte
 |6=>Extern.BytealgCount.count
 |_=>Extern.SlicesOverlaps.overlaps fn.params fn.resultTypes
def gG (P:Program) (tab:bm):Prop:=∀f tag fn,tab.ext.get f=some tag->tab.fns.get f=some fn->Extern.findNext fn=none/\Extern.find fn=some (mh tag fn)
theorem Yi (ps rs:Array TypeId) (n:Int):Extern.BytealgMakeNoZero.makeNoZero ps rs #[.int .i64 n]=(do
 let some t:=rs[0]? |stuck "bytealg.MakeNoZero: no result type"
 let .slice elem<-underlying t|stuck "bytealg.MakeNoZero: slice type expected"
 if n<0||n>2 ^ 48 then runtimePanic (.error "makeslice: len out of range")
 let cap<-choose (.appendCap n.toNat 0 elem)
 askRoom cap
 let bytes<-choose (.extern "internal/bytealg.MakeNoZero.bytes" 0)
 let a<-Go.newRow elem (Extern.BytealgMakeNoZero.digits cap bytes #[])
 pure (.slice (some a) n.toNat cap)):=rfl
theorem MA (ps rs:Array TypeId) (a b:Option Addr) (la lb ca cb:Nat):Extern.SlicesOverlaps.overlaps ps rs #[.slice a la ca, .slice b lb cb]=(do
 let some t:=ps[0]? |stuck "slices.overlaps: no parameter types"
 let .slice elem<-underlying t|stuck "slices.overlaps: slice type expected"
 let size<-sizeOf elem
 match a,b with
 | some a,some b=>
  if la=0\/lb=0\/size=0 then pure (.bool false)
  else if a.block !=b.block&&(<-Go.frozen a)&&(<-Go.frozen b)then unsupported .addressObserved
  else do
   if a.block !=b.block then do
    noView a;noView b
    if<-mayBeOne a b then return .bool ((<-choose (.extern "sameAddr.stringBytes" 2))==1)
   pure (.bool (a.block==b.block&&a.off<b.off+lb*size&&b.off<a.off+la*size))
 |_,_=>pure (.bool false)):=rfl
theorem ZA (b c:Value):Extern.BytealgIndexByte.indexByte #[b,c]=(do
 let b<-Extern.Bytes.bytesOf b
 let c<-Extern.Bytes.asByte c
 match(List.range b.size).find? fun i=>b[i]! ==c with
 |some i=>pure (Go.goInt i)
 |none=>pure (Go.goInt (-1))):=rfl
theorem RF:∀(n t:Nat) (acc:Array Value),(Extern.BytealgMakeNoZero.digits n t acc).size=acc.size+n:=by
 intro n;induction n with
 |zero=>intro t acc;rfl
 |succ n ih=>grind [Extern.BytealgMakeNoZero.digits]
section
variable {P:Program} {tab:bm} (ok:bN P tab) (het:gG P tab)
include ok het
theorem Zw : lC P tab:=by
 intro f fn args h v h' hfn hb hx w;have hP:=ok.fns f fn hfn;unfold xC at hx;split at hx
 . rename_i tag htag;obtain⟨hn,he⟩:=het f tag fn htag hfn;have hrun:∀a (w:World),(callFunc f a).run P w=((mh tag fn a).run P w).andThen fun v w'=> .ok (.value v) w':=fun a w=>run_callFunc_extern hP (ok.wk f fn hfn) (by rw[hb];rfl) hn he a w
   unfold extern at hx;split at hx
   . cases hx;refine⟨(0,0),fun E K H _=>⟨by omega,w,?_,H,Kept.refl K w⟩⟩;rw[hrun];rfl
   . cases hx;refine⟨(0,0),fun E K H _=>⟨by omega,w,?_,H,Kept.refl K w⟩⟩;rw[hrun];rfl
   ·
     rename_i n;obtain⟨t,ht,hx1⟩:=au.1 hx;obtain⟨d,hd,hx2⟩:=au.1 hx1;have hPt:=ok.und t d (de.1 hd);have ht:=de.1 ht;split at hx2
     . rename_i e;obtain⟨z,hz,hx2'⟩:=au.1 hx2;obtain⟨_,hle,hx3⟩:=au.1 hx2';obtain⟨⟨h1,b⟩,hrow,hx4⟩:=au.1 hx3
       cases hx4;have hle:=eD.1 hle;simp only[Ac]at hle;have hz1:=Af hle.2;have hle:=Ak hle.1;obtain⟨sz,hsz,rfl,rfl⟩:=jm hrow;rw[hz]at hsz
       cases hsz;refine⟨(w.heap.size,grownCap w n 0 e),fun E K H hE=>?_⟩;obtain⟨hE1,hE2⟩:=hE (by simp);refine⟨by simp,w.drew.drew.alloc (.cells (Extern.BytealgMakeNoZero.digits (grownCap w n 0 e) ((Question.extern "internal/bytealg.MakeNoZero.bytes" 0).cut (w.drew.tape w.drew.drawn (.extern "internal/bytealg.MakeNoZero.bytes" 0))) #[]) e),?_,?_,?_⟩
       . rw[hrun];have h1:¬((n:Int)<0):=by omega
         have h2:¬((n:Int)>2 ^ 48):=by
           have:(2:Int) ^ 48=281474976710656:=by decide
           rw[this];omega
         have hq:(Question.appendCap n 0 e).cut (w.tape w.drawn (.appendCap n 0 e))=grownCap w n 0 e:=rfl;have hor:((decide ((n:Int)<0))||(decide ((n:Int)>2 ^ 48)))=false:=by rw[A5 h1,A5 h2];rfl
         show(((Extern.BytealgMakeNoZero.makeNoZero fn.params fn.resultTypes #[.int .i64 (n:Int)]).run P w).andThen fun v w'=> .ok (Next.value v) w')=_
         rw[Yi];simp only[ht,Sem.run_bind,underlying,run_program,Result.andThen_ok,hPt,Sem.run_pure,hor,Az,Bh,run_choose,Question.forced,B6,hq,World.drew_eq,run_askRoom,qF];simp_all[af,gB.val]
       . exact H.drew.drew.new (by simp_all) ⟨_,_,rfl,⟨_,rfl⟩,by grind [RF],rfl⟩
       . exact((Kept.drew K w).trans (Kept.drew K w.drew)).trans (Kept.alloc (by simpa using H.kb) _)
     grind
   ·
     obtain⟨t,ht,hx1⟩:=au.1 hx;obtain⟨d,hd,hx2⟩:=au.1 hx1;have hPt:=ok.und t d (de.1 hd);have ht:=de.1 ht;split at hx2
     . obtain ⟨sz,hsz,hx3⟩:=au.1 hx2;obtain⟨_,hck,hx4⟩:=au.1 hx3;clear hx hx1 hx2 hx3;have hs0:sz≠0:=by
         intro e;simp_all[R.check]
       have hnone:∀(E:Env) (a b:Option Addr) (la lb ca cb:Nat),(a=none\/b=none)->((mh 4 fn #[.slice a la ca, .slice b lb cb]).run P w)= .ok (.bool false) w:=by
         intro E a b la lb ca cb hab;show(Extern.SlicesOverlaps.overlaps fn.params fn.resultTypes #[.slice a la ca, .slice b lb cb]).run P w=_
         rw[MA];simp only[ht,Sem.run_bind,underlying,run_program,Result.andThen_ok,hPt,Sem.run_pure,kH ok hsz];rcases hab with rfl|rfl
         all_goals simp_all
       split at hx4
       . cases hx4;refine⟨(0,0),fun E K H _=>⟨by omega,w,?_,H,Kept.refl K w⟩⟩;rw[hrun];simp only[bX,dv,af];rw[hnone E _ _ _ _ _ _ (.inl rfl)];rfl
       . cases hx4;refine⟨(0,0),fun E K H _=>⟨by omega,w,?_,H,Kept.refl K w⟩⟩;rw[hrun];simp only[bX,dv,af];rw[hnone E _ _ _ _ _ _ (.inl rfl)];rfl
       . cases hx4;refine⟨(0,0),fun E K H _=>⟨by omega,w,?_,H,Kept.refl K w⟩⟩;rw[hrun];simp only[bX,dv,af];rw[hnone E _ _ _ _ _ _ (.inr rfl)];rfl
       . rename_i a i n ca b j m cb;split at hx4
         . rename_i ha hb';have hsame:h'=h:=by
            cases hc:(Nat.beq n 0||Nat.beq m 0)<;>rw[hc]at hx4<;>cases hx4<;>rfl
           subst hsame;refine⟨(0,0),fun E K H _=>⟨by omega,w,?_,H,Kept.refl K w⟩⟩;rw[hrun];simp only[bX,dv,af];have hgo:((mh 4 fn #[.slice (some ⟨E.aA a,i,none⟩) n (ca.val (E.cap a)), .slice (some ⟨E.aA b,j,none⟩) m (cb.val (E.cap b))]).run P w)= .ok (af E v) w:=by
            show(Extern.SlicesOverlaps.overlaps fn.params fn.resultTypes #[.slice (some ⟨E.aA a,i,none⟩) n (ca.val (E.cap a)), .slice (some ⟨E.aA b,j,none⟩) m (cb.val (E.cap b))]).run P w=_
            rw[MA];simp only[ht,Sem.run_bind,underlying,run_program,Result.andThen_ok,hPt,Sem.run_pure,kH ok hsz];by_cases hz:n=0\/m=0
            . rw[Al (by rcases hz with h|h<;>simp[h])];have:(Nat.beq n 0||Nat.beq m 0)=true:=by
                rcases hz with rfl|rfl<;>simp
              rw[this]at hx4
              cases hx4;rfl
            . rw [An (by omega)];have h1:Nat.beq n 0=false:=by
                grind [Nat.eq_of_beq_eq_true]
              have h2:Nat.beq m 0=false:=by
                grind [Nat.eq_of_beq_eq_true]
              rw[h1,h2]at hx4
              cases hx4;have hfa:=xc H ha i;have hfb:=xc H hb' j;have hfrz:(Go.frozen ⟨E.aA a,i,none⟩).run P w= .ok false w:=by simp_all
              by_cases hab:a=b
              . subst hab;simp[af];congr 1<;>(rw[AA];simp)
              . have hne:E.aA a≠E.aA b:=fun e=>hab (H.inj a b _ _ ha hb' (by simp[AO.ro]) e)
                have hb0:Nat.beq a b=false:=by
                 grind [Nat.eq_of_beq_eq_true]
                simp[af,hne,hb0,hfrz,wH H ha,wH H hb',Iw H ha hb']
           rw[hgo];rfl
         grind
       grind
     grind
   ·
     rename_i a c
     cases hx;refine⟨(0,0),fun E K H _=>⟨by omega,w,?_,H,Kept.refl K w⟩⟩;rw[hrun];have hgo:(mh 5 fn #[.string ⟨a.toArray⟩, .int .u8 c]).run P w= .ok (.int .i64 (Fq ⟨a.toArray⟩ c.toNat.toUInt8)) w:=by
       show(Extern.BytealgIndexByte.indexByte #[.string ⟨a.toArray⟩, .int .u8 c]).run P w=_
       rw[ZA];unfold Fq;simp only[Extern.Bytes.bytesOf,Extern.Bytes.asByte,Sem.run_bind,Sem.run_pure,Result.andThen_ok];generalize List.find? (fun i=>(ByteArray.mk a.toArray)[i]! ==c.toNat.toUInt8) (List.range (ByteArray.mk a.toArray).size)=r
       cases r<;>rfl
     simp_all[af]
   ·
     rename_i a c
     cases hx;refine⟨(0,0),fun E K H _=>⟨by omega,w,?_,H,Kept.refl K w⟩⟩;rw[hrun];have hgo:(mh 6 fn #[.string ⟨a.toArray⟩, .int .u8 c]).run P w= .ok (.int .i64 (a.count c.toNat.toUInt8:Nat)) w:=by
       show(Extern.BytealgCount.count #[.string ⟨a.toArray⟩, .int .u8 c]).run P w=_
       rw[Go.Lib.run_countString];simp[Go.Lib.countByte]
     simp_all[af]
   grind
 grind
end
end
def T.dz {α:Type}:(Nat->Option α)->T α->T α
 |_, .e=> .e
 |f, .n v l r=> .n (match v with|none=>none|some _=>f 0) (T.dz (fun k=>f (2*k+1)) l) (T.dz (fun k=>f (2*k+2)) r)
def T.all {α:Type} (p:α->Bool):T α->Bool
 | .e=>true
 | .n v l r=>(match v with|none=>true|some a=>p a)&&T.all p l&&T.all p r
theorem Gr {α:Type}:∀(t:T α) (f:Nat->Option α),T.dz f t=t->∀k v,t.get k=some v->f k=some v:=by
 intro t;induction t with
 |e=>grind [vK]
 |n x l r ihl ihr=>
  intro f h k v hk;simp only[T.dz,T.n.injEq]at h;grind [y5]
theorem QN {α:Type} {p:α->Bool}:∀(t:T α),T.all p t=true->∀k v,t.get k=some v->p v=true:=by
 intro t;induction t with
 |e=>grind [vK]
 |n x l r ihl ihr=>
  intro h k v hk;simp only[T.all,Ac]at h;grind [y5]
theorem bN.of {P:Program} {tab:bm} (h1:tab.und.dz P.underlying=tab.und) (h2:tab.siz.dz (fun t=>(P.info? t).map (·.size))=tab.siz) (h3:tab.byt.dz (fun t=>(P.info? t).map (·.bytes))=tab.byt)
  (h4:tab.lV.dz (fun t=>((P.info? t).bind (·.zero)).map ofConst)=tab.lV) (h5:tab.agg.dz (fun t=>(P.underlying t).map FQ)=tab.agg) (h6:tab.held.dz (fun t=>some (P.stoodInHeld t))=tab.held)
  (h7:tab.lJ.dz (fun t=>some (P.eqGuardType P.depth t))=tab.lJ) (h8:tab.fns.dz (fun f=>P.funcs[f]?)=tab.fns) (h9:tab.fns.all (fun fn=> !(fn.name== "runtime.NumGoroutine"))=true):bN P tab:=by
 refine⟨Gr _ _ h1,?_,?_,?_,?_,?_,?_,Gr _ _ h8,?_⟩
 all_goals grind [Gr,Option.map_eq_some_iff,Option.bind_eq_some_iff,IF,QN]
theorem gG.of {P:Program} {tab:bm} (l:List (Nat×Nat)) (hl:∀f tag,tab.ext.get f=some tag->(f,tag)∈l) (hf:∀x∈l,∀fn,tab.fns.get x.1=some fn->Extern.findNext fn=none/\Extern.find fn=some (mh x.2 fn)):gG P tab:=
 fun f tag fn h1 h2=>hf (f,tag) (hl f tag h1) fn h2
def fm:AH:={t:= .e,next:=0}
theorem KH (E:Env) (K:KS) (w:World) (hK:∀b,K b->b<w.heap.size) (hk0:∀b,b<K.b->K b):bH E fm K w:=by
 have h0:∀i,fm.get i=none:=fun i=>rfl
 refine⟨fun i o h=>?_,fun i o h=>?_,fun i j oi oj h=>?_,fun i o h=>?_,hK,fun i o h=>?_,hk0⟩<;>(rw[h0]at h;cases h)
def tD:List (Nat×Nat)->T Nat
 |[]=> .e
 |(f,t)::l=>(tD l).set f (some t)
theorem Uu:∀(l:List (Nat×Nat)) (f tag:Nat),(tD l).get f=some tag->(f,tag)∈l:=by
 intro l;induction l with
 |nil=>grind [tD,vK]
 |cons x l ih=>
  grind [tD,T.aZ]
theorem Qh {P:Program} {tab:bm} (l:List (Nat×Nat)) (hl:tab.ext=tD l) (hf:∀x∈l,∃fn,tab.fns.get x.1=some fn/\Extern.findNext fn=none/\Extern.find fn=some (mh x.2 fn)):gG P tab:=
 gG.of l (fun f tag h=>Uu l f tag (by rw[<-hl];exact h)) (fun x hx fn h=>by
  grind)
end Go.Am
namespace Go.Proofs
open Go.Am
open Tryz
def nd {α:Type} (x:α) (l r:T α):T α:= .n (some x) l r
def lf {α:Type} (x:α):T α:= .n (some x) .e .e
noncomputable def Pw:T TypeDesc:=(nd t0.desc (nd t1.desc (nd t3.desc (nd t7.desc (.n none (.n none (.n none .e (lf t191.desc)) .e) .e) (nd t23.desc (nd t39.desc (.n none (nd t135.desc (lf t263.desc) .e) .e) (nd t103.desc (lf t167.desc) (lf t231.desc))) (.n none (.n none (lf t151.desc) .e) .e))) (.n none (.n none (nd t35.desc (lf t66.desc) .e) (nd t51.desc (.n none .e (lf t210.desc)) .e)) (nd t26.desc (.n none (lf t75.desc) (nd t106.desc .e (lf t234.desc))) (lf t58.desc)))) (nd t5.desc (nd t9.desc (.n none (lf t33.desc) (.n none (lf t80.desc) (.n none (lf t177.desc) (lf t241.desc)))) (nd t25.desc (.n none (lf t73.desc) (lf t105.desc)) (nd t56.desc (.n none (lf t153.desc) (lf t217.desc)) .e))) (.n none (nd t21.desc (.n none (nd t68.desc (lf t133.desc) .e) (.n none (lf t165.desc) (lf t229.desc))) .e) (nd t28.desc (.n none (lf t77.desc) .e) (nd t60.desc .e (.n none (lf t189.desc) .e)))))) (nd t2.desc (nd t4.desc (.n none (.n none (nd t32.desc (.n none (.n none (lf t256.desc) .e) (lf t191.desc)) .e) (.n none (lf t80.desc) .e)) (nd t23.desc (nd t3.desc (.n none (lf t135.desc) .e) (lf t104.desc)) (nd t56.desc (.n none (lf t152.desc) (lf t216.desc)) (nd t120.desc .e (lf t231.desc))))) (.n none (.n none (nd t35.desc (lf t68.desc) .e) .e) (nd t28.desc (.n none (nd t75.desc .e (lf t204.desc)) (lf t108.desc)) (nd t60.desc .e (.n none .e (lf t252.desc)))))) (nd t5.desc (.n none (.n none (nd t34.desc (lf t66.desc) .e) (.n none (.n none .e (lf t210.desc)) (.n none (lf t177.desc) .e))) (nd t26.desc (.n none (lf t73.desc) (nd t106.desc .e (lf t234.desc))) (nd t58.desc (.n none (lf t153.desc) .e) (.n none (lf t186.desc) .e)))) (.n none (nd t22.desc (.n none (nd t68.desc (lf t134.desc) (lf t198.desc)) (lf t102.desc)) (.n none (.n none (lf t150.desc) .e) .e)) (.n none (.n none (lf t77.desc) .e) (.n none (.n none .e (lf t3.desc)) .e))))))
noncomputable def Pv:T Nat:=(nd 1 (nd 1 (nd 1 (nd 4 (.n none (.n none (.n none .e (lf 1)) .e) .e) (nd 4 (nd 1 (.n none (nd 1 (lf 1) .e) .e) (nd 1 (lf 1) (lf 1))) (.n none (.n none (lf 1) .e) .e))) (.n none (.n none (nd 3 (lf 2) .e) (nd 1 (.n none .e (lf 256)) .e)) (nd 5 (.n none (lf 13) (nd 4 .e (lf 1))) (lf 8)))) (nd 1 (nd 1 (.n none (lf 1) (.n none (lf 6) (.n none (lf 3) (lf 1)))) (nd 1 (.n none (lf 3) (lf 1)) (nd 3 (.n none (lf 2) (lf 1)) .e))) (.n none (nd 1 (.n none (nd 3 (lf 1) .e) (.n none (lf 1) (lf 1))) .e) (nd 4 (.n none (lf 19) .e) (nd 11 .e (.n none (lf 1) .e)))))) (nd 1 (nd 1 (.n none (.n none (nd 1 (.n none (.n none (lf 1) .e) (lf 1)) .e) (.n none (lf 6) .e)) (nd 4 (nd 1 (.n none (lf 1) .e) (lf 1)) (nd 3 (.n none (lf 1) (lf 1)) (nd 1 .e (lf 1))))) (.n none (.n none (nd 3 (lf 3) .e) .e) (nd 4 (.n none (nd 13 .e (lf 1)) (lf 1)) (nd 11 .e (.n none .e (lf 1)))))) (nd 1 (.n none (.n none (nd 1 (lf 2) .e) (.n none (.n none .e (lf 256)) (.n none (lf 3) .e))) (nd 5 (.n none (lf 3) (nd 4 .e (lf 1))) (nd 8 (.n none (lf 2) .e) (.n none (lf 1) .e)))) (.n none (nd 1 (.n none (nd 3 (lf 1) (lf 1)) (lf 1)) (.n none (.n none (lf 1) .e) .e)) (.n none (.n none (lf 19) .e) (.n none (.n none .e (lf 1)) .e))))))
noncomputable def Pr:T Nat:=(nd 0 (nd 8 (nd 8 (nd 24 (.n none (.n none (.n none .e (lf 8)) .e) .e) (nd 48 (nd 24 (.n none (nd 8 (lf 8) .e) .e) (nd 8 (lf 8) (lf 8))) (.n none (.n none (lf 8) .e) .e))) (.n none (.n none (nd 72 (lf 16) .e) (nd 24 (.n none .e (lf 256)) .e)) (nd 72 (.n none (lf 128) (nd 32 .e (lf 8))) (lf 48)))) (nd 1 (nd 16 (.n none (lf 24) (.n none (lf 64) (.n none (lf 24) (lf 8)))) (nd 24 (.n none (lf 24) (lf 8)) (nd 48 (.n none (lf 32) (lf 8)) .e))) (.n none (nd 4 (.n none (nd 24 (lf 8) .e) (.n none (lf 24) (lf 4))) .e) (nd 40 (.n none (lf 176) .e) (nd 96 .e (.n none (lf 8) .e)))))) (nd 8 (nd 1 (.n none (.n none (nd 8 (.n none (.n none (lf 8) .e) (lf 8)) .e) (.n none (lf 64) .e)) (nd 48 (nd 8 (.n none (lf 8) .e) (lf 8)) (nd 48 (.n none (lf 24) (lf 24)) (nd 8 .e (lf 8))))) (.n none (.n none (nd 72 (lf 24) .e) .e) (nd 40 (.n none (nd 128 .e (lf 8)) (lf 8)) (nd 96 .e (.n none .e (lf 8)))))) (nd 1 (.n none (.n none (nd 24 (lf 16) .e) (.n none (.n none .e (lf 256)) (.n none (lf 24) .e))) (nd 72 (.n none (lf 24) (nd 32 .e (lf 8))) (nd 48 (.n none (lf 32) .e) (.n none (lf 8) .e)))) (.n none (nd 24 (.n none (nd 24 (lf 8) (lf 8)) (lf 8)) (.n none (.n none (lf 8) .e) .e)) (.n none (.n none (lf 176) .e) (.n none (.n none .e (lf 8)) .e))))))
noncomputable def Px:T AV:=(nd (.bA []) (nd (.bB) (nd (.int .i64 0) (nd (.agg [.int .i64 0, .int .i64 0, .bool false, .int .u8 0]) (.n none (.n none (.n none .e (lf (.bB))) .e) .e) (nd (.agg [.int .i64 0, .int .i64 0, .int .i64 0, .nils]) (nd (.nils) (.n none (nd (.agg [.bw]) (lf (.bj)) .e) .e) (nd (.bw) (lf (.bB)) (lf (.int .u64 0)))) (.n none (.n none (lf (.bj)) .e) .e))) (.n none (.n none (nd (.agg [.nils, .nils, .nils]) (lf (.agg [.int .i64 0, .int .i64 0])) .e) (lf (.nils))) (nd (.agg [.int .i64 0, .int .i64 0, .int .i64 0, .nils, .nils]) (.n none (lf (.agg [.int .i64 0, .str [], .str [], .str [], .str [], .bool false, .bool false, .bool false, .bool false, .int .i64 0, .int .i64 0, .int .i64 0, .nils])) (nd (.agg [.bw, .bw, .bw, .bj]) .e (lf (.bB)))) (lf (.agg [.str [], .bool false, .bool false, .bool false, .bool false, .int .i64 0, .int .i64 0, .int .i64 0]))))) (nd (.int .u8 0) (nd (.str []) (.n none (lf (.nils)) (.n none (lf (.agg [.str [], .str [], .bool false, .bool false, .str [], .int .i64 0])) (.n none (lf (.agg [.str [], .bool false, .bool false])) (lf (.bj))))) (nd (.nils) (.n none (lf (.agg [.int .i64 0, .int .i64 0, .int .i64 0])) (lf (.bj))) (nd (.agg [.str [], .str [], .str []]) (.n none (lf (.agg [.bj, .nils])) (lf (.bj))) .e))) (.n none (nd (.int .i32 0) (.n none (nd (.agg [.int .i64 0, .int .i64 0, .int .i64 0]) (lf (.bB)) .e) (.n none (lf (.nils)) (lf (.int .u32 0)))) .e) (nd (.agg [.str [], .str [], .bool false, .bool false]) (.n none (lf (.agg [.int .i64 0, .int .i64 0, .int .i64 0, .int .i64 0, .int .i64 0, .int .i64 0, .int .i64 0, .str [], .str [], .str [], .str [], .bool false, .bool false, .bool false, .bool false, .int .i64 0, .int .i64 0, .int .i64 0, .nils])) .e) (nd (.agg [.str [], .str [], .str [], .str [], .bool false, .bool false, .bool false, .bool false, .int .i64 0, .int .i64 0, .int .i64 0]) .e (.n none (lf (.bw)) .e)))))) (nd (.int .i64 0) (nd (.bool false) (.n none (.n none (nd (.bj) (.n none (.n none (lf (.bB)) .e) (lf (.bB))) .e) (.n none (lf (.agg [.str [], .str [], .bool false, .bool false, .str [], .int .i64 0])) .e)) (nd (.agg [.int .i64 0, .int .i64 0, .int .i64 0, .nils]) (nd (.int .i64 0) (.n none (lf (.agg [.bw])) .e) (lf (.bw))) (nd (.agg [.str [], .str [], .str []]) (.n none (lf (.nils)) (lf (.nils))) (nd (.bB) .e (lf (.int .u64 0)))))) (.n none (.n none (nd (.agg [.nils, .nils, .nils]) (lf (.agg [.int .i64 0, .int .i64 0, .int .i64 0])) .e) .e) (nd (.agg [.str [], .str [], .bool false, .bool false]) (.n none (nd (.agg [.int .i64 0, .str [], .str [], .str [], .str [], .bool false, .bool false, .bool false, .bool false, .int .i64 0, .int .i64 0, .int .i64 0, .nils]) .e (lf (.bB))) (lf (.bB))) (nd (.agg [.str [], .str [], .str [], .str [], .bool false, .bool false, .bool false, .bool false, .int .i64 0, .int .i64 0, .int .i64 0]) .e (.n none .e (lf (.bj))))))) (nd (.int .u8 0) (.n none (.n none (nd (.nils) (lf (.agg [.int .i64 0, .int .i64 0])) .e) (.n none .e (.n none (lf (.agg [.str [], .bool false, .bool false])) .e))) (nd (.agg [.int .i64 0, .int .i64 0, .int .i64 0, .nils, .nils]) (.n none (lf (.agg [.int .i64 0, .int .i64 0, .int .i64 0])) (nd (.agg [.bw, .bw, .bw, .bj]) .e (lf (.bB)))) (nd (.agg [.str [], .bool false, .bool false, .bool false, .bool false, .int .i64 0, .int .i64 0, .int .i64 0]) (.n none (lf (.agg [.bj, .nils])) .e) (.n none (lf (.bj)) .e)))) (.n none (nd (.nils) (.n none (nd (.agg [.int .i64 0, .int .i64 0, .int .i64 0]) (lf (.bw)) (lf (.int .u64 0))) (lf (.bw))) (.n none (.n none (lf (.bB)) .e) .e)) (.n none (.n none (lf (.agg [.int .i64 0, .int .i64 0, .int .i64 0, .int .i64 0, .int .i64 0, .int .i64 0, .int .i64 0, .str [], .str [], .str [], .str [], .bool false, .bool false, .bool false, .bool false, .int .i64 0, .int .i64 0, .int .i64 0, .nils])) .e) (.n none (.n none .e (lf (.int .i64 0))) .e))))))
noncomputable def P4:T Bool:=(nd false (nd false (nd false (nd true (.n none (.n none (.n none .e (lf false)) .e) .e) (nd true (nd false (.n none (nd true (lf false) .e) .e) (nd false (lf false) (lf false))) (.n none (.n none (lf false) .e) .e))) (.n none (.n none (nd true (lf true) .e) (nd false (.n none .e (lf true)) .e)) (nd true (.n none (lf true) (nd true .e (lf false))) (lf true)))) (nd false (nd false (.n none (lf false) (.n none (lf true) (.n none (lf true) (lf false)))) (nd false (.n none (lf true) (lf false)) (nd true (.n none (lf true) (lf false)) .e))) (.n none (nd false (.n none (nd true (lf false) .e) (.n none (lf false) (lf false))) .e) (nd true (.n none (lf true) .e) (nd true .e (.n none (lf false) .e)))))) (nd false (nd false (.n none (.n none (nd false (.n none (.n none (lf false) .e) (lf false)) .e) (.n none (lf true) .e)) (nd true (nd false (.n none (lf true) .e) (lf false)) (nd true (.n none (lf false) (lf false)) (nd false .e (lf false))))) (.n none (.n none (nd true (lf true) .e) .e) (nd true (.n none (nd true .e (lf false)) (lf false)) (nd true .e (.n none .e (lf false)))))) (nd false (.n none (.n none (nd false (lf true) .e) (.n none (.n none .e (lf true)) (.n none (lf true) .e))) (nd true (.n none (lf true) (nd true .e (lf false))) (nd true (.n none (lf true) .e) (.n none (lf false) .e)))) (.n none (nd false (.n none (nd true (lf false) (lf false)) (lf false)) (.n none (.n none (lf false) .e) .e)) (.n none (.n none (lf true) .e) (.n none (.n none .e (lf false)) .e))))))
noncomputable def PG:T Bool:=(nd false (nd false (nd false (nd false (.n none (.n none (.n none .e (lf false)) .e) .e) (nd false (nd false (.n none (nd false (lf false) .e) .e) (nd false (lf false) (lf false))) (.n none (.n none (lf false) .e) .e))) (.n none (.n none (nd false (lf false) .e) (nd false (.n none .e (lf false)) .e)) (nd false (.n none (lf false) (nd false .e (lf false))) (lf false)))) (nd false (nd false (.n none (lf false) (.n none (lf false) (.n none (lf false) (lf false)))) (nd false (.n none (lf false) (lf false)) (nd false (.n none (lf false) (lf false)) .e))) (.n none (nd false (.n none (nd false (lf false) .e) (.n none (lf false) (lf false))) .e) (nd false (.n none (lf false) .e) (nd false .e (.n none (lf false) .e)))))) (nd false (nd false (.n none (.n none (nd false (.n none (.n none (lf false) .e) (lf false)) .e) (.n none (lf false) .e)) (nd false (nd false (.n none (lf false) .e) (lf false)) (nd false (.n none (lf false) (lf false)) (nd false .e (lf false))))) (.n none (.n none (nd false (lf false) .e) .e) (nd false (.n none (nd false .e (lf false)) (lf false)) (nd false .e (.n none .e (lf false)))))) (nd false (.n none (.n none (nd false (lf false) .e) (.n none (.n none .e (lf false)) (.n none (lf false) .e))) (nd false (.n none (lf false) (nd false .e (lf false))) (nd false (.n none (lf false) .e) (.n none (lf false) .e)))) (.n none (nd false (.n none (nd false (lf false) (lf false)) (lf false)) (.n none (.n none (lf false) .e) .e)) (.n none (.n none (lf false) .e) (.n none (.n none .e (lf false)) .e))))))
noncomputable def Pu:T Bool:=(nd false (nd false (nd false (nd false (.n none (.n none (.n none .e (lf false)) .e) .e) (nd false (nd false (.n none (nd false (lf false) .e) .e) (nd false (lf false) (lf false))) (.n none (.n none (lf false) .e) .e))) (.n none (.n none (nd false (lf false) .e) (nd false (.n none .e (lf false)) .e)) (nd false (.n none (lf false) (nd false .e (lf false))) (lf false)))) (nd false (nd false (.n none (lf false) (.n none (lf false) (.n none (lf false) (lf false)))) (nd false (.n none (lf false) (lf false)) (nd false (.n none (lf false) (lf false)) .e))) (.n none (nd false (.n none (nd false (lf false) .e) (.n none (lf false) (lf false))) .e) (nd false (.n none (lf false) .e) (nd false .e (.n none (lf false) .e)))))) (nd false (nd false (.n none (.n none (nd false (.n none (.n none (lf false) .e) (lf false)) .e) (.n none (lf false) .e)) (nd false (nd false (.n none (lf false) .e) (lf false)) (nd false (.n none (lf false) (lf false)) (nd false .e (lf false))))) (.n none (.n none (nd false (lf false) .e) .e) (nd false (.n none (nd false .e (lf false)) (lf false)) (nd false .e (.n none .e (lf false)))))) (nd false (.n none (.n none (nd false (lf false) .e) (.n none (.n none .e (lf false)) (.n none (lf false) .e))) (nd false (.n none (lf false) (nd false .e (lf false))) (nd false (.n none (lf false) .e) (.n none (lf false) .e)))) (.n none (nd false (.n none (nd false (lf false) (lf false)) (lf false)) (.n none (.n none (lf false) .e) .e)) (.n none (.n none (lf false) .e) (.n none (.n none .e (lf false)) .e))))))
noncomputable def Pt:T Func:=(.n none (.n none (.n none (nd f7 (nd f15 (.n none (nd f63 (nd f127 (lf f255) .e) (lf f191)) (nd f95 (lf f159) (lf f223))) (.n none (.n none (nd f143 (lf f271) .e) (lf f207)) (nd f111 (lf f175) (lf f239)))) (nd f23 (nd f39 (nd f71 (nd f135 (lf f263) .e) (lf f199)) (nd f103 (lf f167) (lf f231))) (nd f55 (nd f87 (nd f151 (lf f279) .e) (lf f215)) (nd f119 (lf f183) (lf f247))))) (nd f11 (.n none (nd f35 (.n none (nd f131 (lf f259) .e) (lf f195)) (nd f99 (lf f163) (lf f227))) (nd f51 (nd f83 (nd f147 (lf f275) .e) (lf f211)) (nd f115 (lf f179) (lf f243)))) (nd f27 (.n none (.n none (nd f139 (lf f267) .e) (lf f203)) (nd f107 .e (lf f235))) (nd f59 (nd f91 (nd f155 (lf f283) .e) (lf f219)) (.n none (lf f187) (lf f251)))))) (.n none (nd f9 (nd f17 (.n none (.n none (nd f129 (lf f257) .e) (lf f193)) (nd f97 (lf f161) (lf f225))) (nd f49 (nd f81 (nd f145 (lf f273) .e) (lf f209)) (nd f113 (lf f177) (lf f241)))) (nd f25 (.n none (.n none (nd f137 (lf f265) .e) (lf f201)) (nd f105 (lf f169) (lf f233))) (nd f57 (nd f89 (nd f153 (lf f281) .e) (lf f217)) (nd f121 (lf f185) (lf f249))))) (.n none (.n none (.n none (.n none (nd f133 (lf f261) .e) (lf f197)) (nd f101 (lf f165) (lf f229))) (nd f53 (nd f85 (nd f149 (lf f277) .e) (lf f213)) (nd f117 (lf f181) (lf f245)))) (nd f29 (.n none (.n none (nd f141 (lf f269) .e) (lf f205)) (nd f109 (lf f173) (lf f237))) (nd f61 (nd f93 (nd f157 (lf f285) .e) (lf f221)) (.n none (lf f189) (lf f253))))))) (.n none (.n none (nd f8 (.n none (.n none (nd f64 (nd f128 (lf f256) .e) (lf f192)) (nd f96 (lf f160) (lf f224))) (nd f48 (nd f80 (nd f144 (lf f272) .e) (lf f208)) (nd f112 (lf f176) (lf f240)))) (nd f24 (nd f40 (nd f72 (nd f136 (lf f264) .e) (lf f200)) (nd f104 (lf f168) (lf f232))) (nd f56 (nd f88 (nd f152 (lf f280) .e) (lf f216)) (nd f120 (lf f184) (lf f248))))) (.n none (.n none (.n none (.n none (nd f132 (lf f260) .e) (lf f196)) (nd f100 (lf f164) (lf f228))) (nd f52 (nd f84 (nd f148 (lf f276) .e) (lf f212)) (nd f116 (lf f180) (lf f244)))) (nd f28 (.n none (.n none (nd f140 (lf f268) .e) (lf f204)) (nd f108 (lf f172) (lf f236))) (nd f60 (nd f92 (.n none (lf f284) .e) (lf f220)) (.n none (lf f188) (lf f252)))))) (nd f6 (nd f10 (.n none (nd f34 (nd f66 (nd f130 (lf f258) .e) (lf f194)) (nd f98 (lf f162) (lf f226))) (nd f50 (nd f82 (nd f146 (lf f274) .e) (lf f210)) (nd f114 (lf f178) (lf f242)))) (nd f26 (.n none (.n none (nd f138 (lf f266) .e) (lf f202)) (nd f106 .e (lf f234))) (nd f58 (nd f90 (nd f154 (lf f282) .e) (lf f218)) (nd f122 (lf f186) (lf f250))))) (.n none (.n none (nd f38 (nd f70 (nd f134 (lf f262) .e) (lf f198)) (nd f102 (lf f166) (lf f230))) (nd f54 (nd f86 (nd f150 (lf f278) .e) (lf f214)) (nd f118 (lf f182) (lf f246)))) (nd f30 (.n none (nd f78 (nd f142 (lf f270) .e) (lf f206)) (.n none (lf f174) (lf f238))) (nd f62 (nd f94 (nd f158 (lf f286) .e) (lf f222)) (nd f126 (lf f190) (lf f254))))))))
noncomputable def Ps:T Nat:=tD [(198,2),(199,3),(252,1),(268,5)]
noncomputable def Tryz.tab:bm:={und:=Pw,siz:=Pv,byt:=Pr,lV:=Px,agg:=P4,cmp:= .e,held:=PG,lJ:=Pu,fns:=Pt,ext:=Ps,merge:=fun _=>false}
end Go.Proofs
namespace Go.Proofs
open Go Go.Am
def OU:FuncId:=7
def OT:FuncId:=8
def rP:FuncId:=10
def Hp:FuncId:=11
def HY:FuncId:=15
def rY:FuncId:=17
def OS:FuncId:=24
def px:FuncId:=25
def F9:FuncId:=27
def Ha:FuncId:=28
def sb:FuncId:=29
def Gn:FuncId:=30
def rN:FuncId:=34
def pE:FuncId:=35
def wg:FuncId:=38
def Gg:FuncId:=39
def Ga:FuncId:=40
def Hy:FuncId:=48
def vX:FuncId:=51
def rR:FuncId:=57
def HU:FuncId:=59
def pA:FuncId:=60
def Hc:FuncId:=61
def Hw:FuncId:=62
def GU:FuncId:=63
def F.strings_Join:FuncId:=64
def vV:FuncId:=66
def lX:FuncId:=70
def vR:FuncId:=71
def Hm:FuncId:=78
def nv:FuncId:=80
def G7:FuncId:=81
def Hu:FuncId:=82
def rX:FuncId:=83
def Hn:FuncId:=84
def rS:FuncId:=87
def Hb:FuncId:=88
def Gd:FuncId:=89
def Ge:FuncId:=90
def Gf:FuncId:=91
def pD:FuncId:=92
def Ho:FuncId:=93
def nf:FuncId:=94
def H3:FuncId:=95
def ry:FuncId:=96
def rT:FuncId:=97
def pw:FuncId:=98
def Hd:FuncId:=99
def GS:FuncId:=100
def pz:FuncId:=101
def GV:FuncId:=102
def OM:FuncId:=105
def HA:FuncId:=106
def rH:FuncId:=111
def nr:FuncId:=112
def mX:FuncId:=113
def Hq:FuncId:=114
def rU:FuncId:=115
def rr:FuncId:=116
def G9:FuncId:=117
def ng:FuncId:=118
def OD:FuncId:=119
def ru:FuncId:=120
def rZ:FuncId:=121
def rz:FuncId:=122
def ny:FuncId:=127
def ni:FuncId:=128
def nj:FuncId:=129
def G6:FuncId:=130
def GH:FuncId:=132
def v7:FuncId:=133
def rJ:FuncId:=134
def OO:FuncId:=135
def HH:FuncId:=136
def HJ:FuncId:=137
def GW:FuncId:=138
def HB:FuncId:=139
def HG:FuncId:=140
def rL:FuncId:=141
def Hr:FuncId:=142
def nC:FuncId:=143
def rK:FuncId:=144
def Gz:FuncId:=145
def rI:FuncId:=146
def vW:FuncId:=148
def vT:FuncId:=149
def rB:FuncId:=152
def Gp:FuncId:=153
def mU:FuncId:=157
def lW:FuncId:=160
def vS:FuncId:=162
def Hz:FuncId:=164
def rO:FuncId:=165
def HW:FuncId:=169
def mZ:FuncId:=173
def nc:FuncId:=174
def nu:FuncId:=175
def Gq:FuncId:=176
def G8:FuncId:=177
def rF:FuncId:=178
def pB:FuncId:=179
def Gb:FuncId:=180
def HF:FuncId:=181
def HD:FuncId:=182
def rQ:FuncId:=183
def nh:FuncId:=185
def np:FuncId:=186
def nA:FuncId:=187
def mY:FuncId:=188
def vO:FuncId:=193
def rC:FuncId:=197
def Hv:FuncId:=214
def rW:FuncId:=217
def Hx:FuncId:=218
def Ht:FuncId:=219
def nm:FuncId:=220
def rG:FuncId:=221
def pC:FuncId:=222
def Gc:FuncId:=223
def mW:FuncId:=224
def mV:FuncId:=225
def y6:FuncId:=231
def OC:FuncId:=247
def rM:FuncId:=249
def Ty.string:TypeId:=9
def Qg:TypeId:=36
def vL:TypeId:=57
def Gu:TypeId:=61
def vJ:TypeId:=67
def H7:TypeId:=69
def Ty.nF:TypeId:=70
def H5:TypeId:=76
def H6:TypeId:=78
noncomputable abbrev ph:bm:=Tryz.tab
theorem Tryz.h1:Tryz.tab.und.dz Tryz.prog.underlying=Tryz.tab.und:=by kernel_rfl
theorem Tryz.h2:Tryz.tab.siz.dz (fun t=>(Tryz.prog.info? t).map (·.size))=Tryz.tab.siz:=by kernel_rfl
theorem Tryz.h3:Tryz.tab.byt.dz (fun t=>(Tryz.prog.info? t).map (·.bytes))=Tryz.tab.byt:=by kernel_rfl
theorem Tryz.h4:Tryz.tab.lV.dz (fun t=>((Tryz.prog.info? t).bind (·.zero)).map ofConst)=Tryz.tab.lV:=by kernel_rfl
theorem Tryz.h5:Tryz.tab.agg.dz (fun t=>(Tryz.prog.underlying t).map FQ)=Tryz.tab.agg:=by kernel_rfl
theorem Tryz.h6:Tryz.tab.held.dz (fun t=>some (Tryz.prog.stoodInHeld t))=Tryz.tab.held:=by kernel_rfl
theorem Tryz.h7:Tryz.tab.lJ.dz (fun t=>some (Tryz.prog.eqGuardType Tryz.prog.depth t))=Tryz.tab.lJ:=by kernel_rfl
theorem Tryz.h8:Tryz.tab.fns.dz (fun f=>Tryz.prog.funcs[f]?)=Tryz.tab.fns:=by kernel_rfl
theorem Tryz.h9:Tryz.tab.fns.all (fun fn=> !(fn.name== "runtime.NumGoroutine"))=true:=by kernel_rfl
theorem Tryz.kD:bN Tryz.prog Tryz.tab:=bN.of Tryz.h1 Tryz.h2 Tryz.h3 Tryz.h4 Tryz.h5 Tryz.h6 Tryz.h7 Tryz.h8 Tryz.h9
end Go.Proofs
