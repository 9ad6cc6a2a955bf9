/- Part 3: an evaluator, proved sound, and its use at this seat; no condition. -/
import Derived.Calls
import Derived.Test.YtcnemjkdbaicnaaGreatP2
set_option linter.unusedSimpArgs false
set_option linter.unusedVariables false
set_option linter.unusedSectionVars false
set_option linter.deprecated false
namespace Go.Sy
open Go.Am Go.RowKit
section
universe u v
variable [Inhabited aF]
inductive Rd (w:World) (p:Nat->Prop) (arg:Bool):SV->Value->Prop
 |bool (b:Bool):Rd w p arg (.bool b) (.bool b)
 |int (k:IntKind) (n:Int):Rd w p arg (.int k n) (.int k n)
 |str (s:List UInt8):Rd w p arg (.str s) (.string ⟨s.toArray⟩)
 |bj:Rd w p arg .bj (.pointer none)
 |wp (a:Addr):Rd w p arg (.wp a) (.pointer (some a))
 |nils:Rd w p arg .nils (.slice none 0 0)
 |bw:Rd w p arg .bw (.map none)
 |bB:Rd w p arg .bB .nilFunc
 |any (v:Value):Rd w p arg .any v
 |fn {f:FuncId} {xs ys:List SV} (h:arg=true) (v:Value):Rd w p arg (.fn f xs ys) v
 |cU {cs:List SV} {off:Nat} (h:arg=true) (v:Value):Rd w p arg (.cU cs off) v
 |fu {X:Type} {L:List X} {enc:X->List SV} (h0:L.length=0):Rd w p arg (.bh X L enc) (.slice none 0 0)
 |bP {X:Type} {L:List X} {enc:X->List SV} (h:arg=true) (h0:L.length=0) (a:Option Addr) (c:Nat):Rd w p arg (.bh X L enc) (.slice a 0 c)
 |bh {X:Type} {L:List X} {enc:X->List SV} (b off cap:Nat) (arr:Array Value) (e:TypeId) (fz:Nat×Nat) (sz:Nat) (u:Nat->Nat->Value)
  (hp:p b) (hb:w.heap[b]? =some (.cells arr e fz)) (hs:0<sz) (hl:off+L.length*sz<=arr.size) (hn:∀(i:Nat) x,L[i]? =some x->(enc x).length=sz) (hc:L.length<=cap)
  (h1:∀(i:Nat) x (j:Nat) v,L[i]? =some x->(enc x)[j]? =some v->arr[off+i*sz+j]? =some (u i j)) (h2:∀(i:Nat) x (j:Nat) v,L[i]? =some x->(enc x)[j]? =some v->Rd w p arg v (u i j)):Rd w p arg (.bh X L enc) (.slice (some ⟨b,off,none⟩) L.length cap)
 |agg {cs:List SV} {vs:Array Value} (h1:cs.length=vs.size) (h2:∀(i:Nat) c v,cs[i]? =some c->vs[i]? =some v->Rd w p arg c v):Rd w p arg (.agg cs) (.agg vs)
 |bA {cs:List SV} {vs:Array Value} (h1:cs.length=vs.size) (h2:∀(i:Nat) c v,cs[i]? =some c->vs[i]? =some v->Rd w p arg c v):Rd w p arg (.bA cs) (.tuple vs)
def GA (w:World) (p:Nat->Prop) (arg:Bool) (l:List SV) (m:List Value):Prop:=l.length=m.length/\ ∀(i:Nat) s v,l[i]? =some s->m[i]? =some v->Rd w p arg s v
theorem Ju {E:Env} {a:AH} {K:KS} {w:World} (H:bH E a K w) {Fz:Nat->Option AO} (hf:∀i o,Fz i=some o->a.get i=some o) {p:Nat->Prop} (hp:∀i o,Fz i=some o->p (E.aA i)) {s:SV} {v:AV} (h:aO Fz s v):Rd w p true s (af E v):=by
 induction h with
 |bool b=>exact .bool b
 |int k n=>exact .int k n
 |str s=>exact .str s
 |bj=>exact .bj
 |wp a=>exact .wp a
 |nils=>exact .nils
 |bw=>exact .bw
 |bB=>exact .bB
 |any v=>exact .any _
 |bP h0 hv=>
  rcases hv with rfl|⟨b,off,l,n,k,rfl⟩|⟨a,c,rfl⟩
  . exact .fu h0
  . exact .bP rfl h0 _ _
  . exact .bP rfl h0 _ _
 | @bh X L enc b off cap cs e sz ext bk u hb hs hl hn hc h1 h2 ih=>
  obtain⟨sz0,ext0,hb,hx0⟩:=hb;have hpb:=hp _ _ hb;obtain⟨arr,fz,hw,⟨rest,hr⟩,hsz⟩:∃arr fz,w.heap[E.aA b]? =some (.cells arr e fz)/\(∃rest,arr.toList=bp E cs++rest)/\(if ext0 then arr.size=E.cap b*sz0 else arr.size=cs.length):=by
    obtain⟨c,k1,arr,fz,rfl,k2,k3,_⟩:=H.obj _ _ (hf _ _ hb);grind
  have hle:cs.length<=arr.size:=by
    have:=Aj List.length hr;simp at this;omega
  refine .bh _ off _ arr e fz sz (fun i j=>af E (u i j)) hpb hw hs (by omega) hn ?_ ?_ ih
  . cases cap with
    |lit m=>exact hc
    |tail k=>
     obtain⟨g1,g2⟩:=hc;obtain⟨g3,g4⟩:=hx0 g1;rw[g4,Al rfl,g3]at hsz;rw[g2]at hl;have h5:(k+L.length)*sz<=E.cap b*sz:=by rw[Be];omega
     have:=Ek h5 hs;show L.length<=E.cap b - k
     omega
  . intro i x j v hx hv;have h3:=h1 i x j v hx hv;rw[<-A6,hr];have hlt:off+i*sz+j<(bp E cs).length:=by
     simp;grind
    rw[AX hlt,kI,h3];rfl
 |cU b base ca e sz ext bk u hb hl h1 _ ih=>exact .cU rfl _
 |fn h1 h2 _ _ ih3 ih4=>exact .fn rfl _
 | @agg cs vs h1 _ ih=>
  refine .agg (by simp_all) (fun i c v hc hv=>?_);grind [kI]
 | @bA cs vs h1 _ ih=>
  refine .bA (by simp_all) (fun i c v hc hv=>?_);grind [kI]
theorem uB {E:Env} {a:AH} {K:KS} {w:World} (H:bH E a K w) {Fz:Nat->Option AO} (hf:∀i o,Fz i=some o->a.get i=some o) {s:SV} {v:AV} (h:aO Fz s v):Rd w (fun _=>True) true s (af E v):=Ju H hf (fun _ _ _=>trivial) h
def fX (n m lo:Nat):Value->AV
 | .bool b=> .bool b
 | .int k z=> .int k z
 | .string s=> .str s.data.toList
 | .pointer none=> .bj
 | .slice none 0 0=> .nils
 | .slice (some ⟨b,off,none⟩) (len+1) cap=>if n<=b/\b<m then .sl (lo+(b - n)) off (len+1) (.lit cap)else .raw (.slice (some ⟨b,off,none⟩) (len+1) cap)
 | .map none=> .bw
 | .nilFunc=> .bB
 |v=> .raw v
theorem JK {n m lo:Nat} {E:Env} (hE:∀b,n<=b->b<m->E.aA (lo+(b - n))=b) (v:Value):af E (fX n m lo v)=v:=by
 unfold fX;split<;>try (simp[af];done)
 grind [af,gB.val]
theorem Ti {n m lo:Nat} {E:Env} (hE:∀b,n<=b->b<m->E.aA (lo+(b - n))=b) (l:List Value):bp E (l.map (fX n m lo))=l:=by
 induction l with
 |nil=>rfl
 |cons v l ih=>simp_all[JK]
def SV.atom:SV->Bool
 | .agg _=>false
 | .bA _=>false
 |_=>true
inductive Up (w:World) (n:Nat):SV->Value->Prop
 |bool (b:Bool):Up w n (.bool b) (.bool b)
 |int (k:IntKind) (z:Int):Up w n (.int k z) (.int k z)
 |str (s:List UInt8):Up w n (.str s) (.string ⟨s.toArray⟩)
 |bj:Up w n .bj (.pointer none)
 |nils:Up w n .nils (.slice none 0 0)
 |bw:Up w n .bw (.map none)
 |bB:Up w n .bB .nilFunc
 |any (v:Value):Up w n .any v
 |fu {X:Type} {L:List X} {enc:X->List SV} (h0:L.length=0):Up w n (.bh X L enc) (.slice none 0 0)
 |bP {X:Type} {L:List X} {enc:X->List SV} (h0:L.length=0) (a:Option Addr) (c:Nat):Up w n (.bh X L enc) (.slice a 0 c)
 |bh {X:Type} {L:List X} {enc:X->List SV} (b off cap:Nat) (arr:Array Value) (e:TypeId) (fz:Nat×Nat) (sz:Nat) (u:Nat->Nat->Value)
  (hp:n<=b) (hb:w.heap[b]? =some (.cells arr e fz)) (hs:0<sz) (hl:off+L.length*sz<=arr.size) (hn:∀(i:Nat) x,L[i]? =some x->(enc x).length=sz) (hc:L.length<=cap)
  (ha:∀(i:Nat) x (j:Nat) v,L[i]? =some x->(enc x)[j]? =some v->v.atom=true)
  (h1:∀(i:Nat) x (j:Nat) v,L[i]? =some x->(enc x)[j]? =some v->arr[off+i*sz+j]? =some (u i j)) (h2:∀(i:Nat) x (j:Nat) v,L[i]? =some x->(enc x)[j]? =some v->Up w n v (u i j)):Up w n (.bh X L enc) (.slice (some ⟨b,off,none⟩) L.length cap)
 |agg {cs:List SV} {vs:Array Value} (h1:cs.length=vs.size) (h2:∀(i:Nat) c v,cs[i]? =some c->vs[i]? =some v->Up w n c v):Up w n (.agg cs) (.agg vs)
 |bA {cs:List SV} {vs:Array Value} (h1:cs.length=vs.size) (h2:∀(i:Nat) c v,cs[i]? =some c->vs[i]? =some v->Up w n c v):Up w n (.bA cs) (.tuple vs)
def jG (a:AH) (n:Nat) (w:World):AH:=ofFn (a.next+(w.heap.size - n)) fun i=>if i<a.next then a.get i else
 match w.heap[n+(i - a.next)]? with
 |some (.cells arr e _)=>some (.cells (arr.toList.map (fX n w.heap.size a.next)) e 1 false .cold)
 |_=>none
theorem oO {a:AH} {n:Nat} {w:World} {i:Nat} (hi:i<a.next):(jG a n w).get i=a.get i:=by
 grind [jG,qJ]
theorem Lp {a:AH} {n:Nat} {w:World} {i:Nat} {o:AO} (hi:a.next<=i) (h:(jG a n w).get i=some o):
  ∃arr e fz,w.heap[n+(i - a.next)]? =some (.cells arr e fz)/\o= .cells (arr.toList.map (fX n w.heap.size a.next)) e 1 false .cold:=by
 grind [jG,qJ]
theorem VY {a:AH} {n:Nat} {w:World} {b:Nat} {arr:Array Value} {e:TypeId} {fz:Nat×Nat} (hb:n<=b) (h:w.heap[b]? =some (.cells arr e fz)):
  (jG a n w).get (a.next+(b - n))=some (.cells (arr.toList.map (fX n w.heap.size a.next)) e 1 false .cold):=by
 have hlt:=(Ab.1 h).1;grind [jG,qJ]
theorem Ko {n m lo:Nat} {Fz:Nat->Option AO} {X:Type} {L:List X} {enc:X->List SV} (h0:L.length=0) (p:Option Addr) (c:Nat):aO Fz (.bh X L enc) (fX n m lo (.slice p 0 c)):=by
 have:fX n m lo (.slice p 0 c)= .nils\/fX n m lo (.slice p 0 c)= .raw (.slice p 0 c):=by
   unfold fX;split<;>simp_all
 rcases this with h|h
 . rw[h];exact .bP h0 (.inl rfl)
 . rw[h];exact .bP h0 (.inr (.inr ⟨_,_,rfl⟩))
theorem qzU {a:AH} {n:Nat} {w:World} {Fz:Nat->Option AO} (hF:∀i o,a.next<=i->(jG a n w).get i=some o->Fz i=some o) {s:SV} {v:Value} (h:Up w n s v):
  (s.atom=true->aO Fz s (fX n w.heap.size a.next v))/\ ∃av,aO Fz s av/\ ∀E:Env,(∀b,n<=b->b<w.heap.size->E.aA (a.next+(b - n))=b)->af E av=v:=by
 have key:∀{s:SV} {v:Value},aO Fz s (fX n w.heap.size a.next v)->(s.atom=true->aO Fz s (fX n w.heap.size a.next v))/\ ∃av,aO Fz s av/\ ∀E:Env,(∀b,n<=b->b<w.heap.size->E.aA (a.next+(b - n))=b)->af E av=v:=
  fun{s v} h=>⟨fun _=>h,_,h,fun E hE=>JK hE v⟩
 induction h with
 |bool b=>exact key (.bool b)
 |int k z=>exact key (.int k z)
 |str s=>exact key (by exact .str s)
 |bj=>exact key .bj
 |nils=>exact key .nils
 |bw=>exact key .bw
 |bB=>exact key .bB
 |any v=>exact key (.any _)
 |fu h0=>exact key (.bP h0 (.inl rfl))
 |bP h0 p c=>grind [Ko]
 | @bh X L enc b off cap arr e fz sz u hp hb hs hl hn hc ha h1 h2 ih=>
  apply key;have hlt:=(Ab.1 hb).1;by_cases hL:L.length=0
  . rw[hL];grind [Ko]
  obtain⟨len,hlen⟩:∃k,L.length=k+1:=⟨L.length - 1,by omega⟩;rw[hlen];simp only[fX];rw[Al ⟨hp,hlt⟩,<-hlen];refine .bh _ off (.lit cap) _ e sz false .cold (fun i j=>fX n w.heap.size a.next (u i j)) ⟨1,false,hF _ _ (by omega) (VY hp hb),fun h=>by cases h⟩ hs (by grind) hn hc ?_ ?_
  all_goals grind
 | @agg cs vs h1 h2 ih=>
  refine⟨fun h=>(by cases h),?_⟩;have hc:∀i:Nat,∃av,∀c v,cs[i]? =some c->vs[i]? =some v->aO Fz c av/\ ∀E:Env,(∀b,n<=b->b<w.heap.size->E.aA (a.next+(b - n))=b)->af E av=v:=by
    intro i
    cases hi:cs[i]? with
    |none=>exact⟨.bj,fun c v h=>by cases h⟩
    | some c=>
      cases hj:vs[i]? with
      |none=>grind
      |some v=>
       obtain⟨_,av,g1,g2⟩:=ih i c v hi hj;exact⟨av,fun c' v' e1 e2=>by grind⟩
  obtain⟨f,hf⟩:=Ey hc;refine⟨.agg ((List.range vs.size).map f), .agg (by simp[h1]) fun i c v hi hv=>?_,fun E hE=>?_⟩
  . have hi2:i<vs.size:=by rw[<-h1];exact(Ae.1 hi).1
    rw[AE,Dv hi2]at hv
    cases hv;exact(hf i c _ hi (AY hi2)).1
  . simp only[af,Value.agg.injEq];apply BX
    intro i;rw[AJ,kI,AE];by_cases hi:i<vs.size
    . have hi2:i<cs.length:=by omega
      rw[Dv hi,AY hi];simp only[Bz];rw[(hf i _ _ (Ag hi2) (AY hi)).2 E hE]
    . rw[EB (by omega),BC (by simp;omega)];rfl
 | @bA cs vs h1 h2 ih=>
  refine⟨fun h=>(by cases h),?_⟩;have hc:∀i:Nat,∃av,∀c v,cs[i]? =some c->vs[i]? =some v->aO Fz c av/\ ∀E:Env,(∀b,n<=b->b<w.heap.size->E.aA (a.next+(b - n))=b)->af E av=v:=by
    intro i
    cases hi:cs[i]? with
    |none=>exact⟨.bj,fun c v h=>by cases h⟩
    | some c=>
      cases hj:vs[i]? with
      |none=>grind
      |some v=>
       obtain⟨_,av,g1,g2⟩:=ih i c v hi hj;exact⟨av,fun c' v' e1 e2=>by cases e1;cases e2;exact⟨g1,g2⟩⟩
  obtain⟨f,hf⟩:=Ey hc;refine⟨.bA ((List.range vs.size).map f), .bA (by simp[h1]) fun i c v hi hv=>?_,fun E hE=>?_⟩
  . have hi2:i<vs.size:=by rw[<-h1];exact(Ae.1 hi).1
    rw[AE,Dv hi2]at hv
    cases hv;exact(hf i c _ hi (AY hi2)).1
  . simp only[af,Value.tuple.injEq];apply BX
    intro i;rw[AJ,kI,AE];by_cases hi:i<vs.size
    . have hi2:i<cs.length:=by omega
      rw[Dv hi,AY hi];simp only[Bz];rw[(hf i _ _ (Ag hi2) (AY hi)).2 E hE]
    . rw[EB (by omega),BC (by simp;omega)];rfl
theorem Uq {P:Program} {f:FuncId} {k:CallKind} {l m:List Value} (hl:l.length=m.length) (h:Frame.enter P f l.toArray k=Frame.enter P f m.toArray k):l=m:=by
 have h:=Aj (fun fr=>fr.tmps.toList.take l.length) h;grind [Frame.enter]
section
variable {P:Program} {tab:bm}
theorem jS (ok:bN P tab) {f:FuncId} {C:aK} (h:∀y,C.pre y->∀(w:World) (args:List Value),cI w->GA w (fun _=>True) true (C.args y) args->
     Calls P f args.toArray w (fun e w'=>∃v,e= .returned v/\((∃i:Nat,(C.args y)[i]? =some (C.res y)/\args[i]? =some v)\/Up w' w.heap.size (C.res y) v)/\Below w.heap.size w w'/\((default:aF).dr->w.drawn<=w'.drawn))):cA P tab f C:=by
 classical
 intro fn body hfn hb y hy Fz a avs hfz hwf hlen hav;intro D E K base frC csC w hR hB;have hP:=ok.fns f fn hfn;obtain⟨q1,q2,q3⟩:=hR.all E (ak.refl _ _);have hconst:∀E',ak D E E'->bp E' avs=bp E avs:=by
   intro E' he;obtain⟨_,p2,_⟩:=hR.all E' he;rw[<-mH hP hb]at p2 q2;exact Uq (by simp) (p2.trans q2.symm)
 have hargs:GA w (fun _=>True) true (C.args y) (bp E avs):=by
   refine⟨by simp_all,fun i s v hs hv=>?_⟩;rw[kI]at hv;grind [uB]
 have hbc:base=csC:=q3;subst hbc;obtain⟨e,w',fr',⟨v,rfl,hv,hbel,hdr⟩,s1,s2,s3⟩:=h y hy w _ (fun b hb=>(hB b hb).2) hargs base;have hR0:frC=Frame.enter P f (bp E avs).toArray .normal:=by
   grind [mH]
 let n:=w.heap.size
 let h':=jG a n w'
 let Fz':Nat->Option AO:=fun i=>if i<a.next then Fz i else h'.get i
 let E':Env:=⟨fun i=>if i<a.next then E.aA i else n+(i - a.next),E.cap⟩
 let D':Nat->Prop:=fun i=>D i\/(a.next<=i/\i<a.next+(w'.heap.size - n))
 have hdom:∀i,D i->i<a.next:=hR.ey;have hsz:n<=w'.heap.size:=hbel.size;have hag:∀E'',ak D' E' E''->ak D E E'':=by
   intro E'' he i hi;have h1:=he i (.inl hi);grind
 have hblk:∀E'',ak D' E' E''->∀i,a.next<=i->i<a.next+(w'.heap.size - n)->E''.aA i=n+(i - a.next):=by
   intro E'' he i h1 h2;have h3:=(he i (.inr ⟨h1,h2⟩)).1;grind
 have hblk2:∀E'',ak D' E' E''->∀b,n<=b->b<w'.heap.size->E''.aA (a.next+(b - n))=b:=by
   grind
 have hnext:h'.next=a.next+(w'.heap.size - n):=rfl;have hdom':∀i o,h'.get i=some o->i<h'.next:=by
   grind [jG,qJ]
 have hH:∀E'',ak D' E' E''->bH E'' h' K w':=by
   intro E'' he;obtain⟨g1,_,_⟩:=hR.all E'' (hag E'' he);refine⟨fun i o hi=>?_,fun i o hi hr=>?_,fun i j oi oj hi hj hr hij=>?_,hdom',fun b hb'=>AR (g1.kb b hb') hsz,fun i o hi hr=>?_,g1.k0⟩
   . by_cases hlt:i<a.next
     . rw[show h'.get i=a.get i from oO hlt]at hi;obtain⟨c,h1,h2⟩:=g1.obj i o hi;exact⟨c,by rw[hbel.block _ (Ab.1 h1).1];exact h1,h2⟩
     . obtain⟨arr,e,fz,hb2,rfl⟩:=Lp (by omega) hi;have hlt2:=hdom' i _ hi;refine⟨_,by rw[hblk E'' he i (by omega) (by omega)];omega,arr,fz,rfl,⟨[],by grind [Ti]⟩,by simp,trivial⟩
   . by_cases hlt:i<a.next
     . rw[show h'.get i=a.get i from oO hlt]at hi;exact g1.nk i o hi hr
     . have hlt2:=hdom' i _ hi;rw[hblk E'' he i (by omega) (by omega)];intro hk;have:=g1.kb _ hk;omega
   . have hin:∀k ok',h'.get k=some ok'->(k<a.next/\E''.aA k<n)\/(a.next<=k/\E''.aA k=n+(k - a.next)):=by
       intro k ok' hk;by_cases hlt:k<a.next
       . rw[show h'.get k=a.get k from oO hlt]at hk;obtain⟨c,h1,h2⟩:=g1.obj k ok' hk;grind
       grind
     rcases hin i oi hi with⟨h1,h2⟩|⟨h1,h2⟩<;>rcases hin j oj hj with⟨h3,h4⟩|⟨h3,h4⟩
     . rw[show h'.get i=a.get i from oO h1]at hi;rw[show h'.get j=a.get j from oO h3]at hj;exact g1.inj i j oi oj hi hj hr hij
     all_goals omega
   . by_cases hlt:i<a.next
     . rw[show h'.get i=a.get i from oO hlt]at hi;exact g1.im i o hi hr
     . obtain⟨arr,e,fz,hb2,rfl⟩:=Lp (by omega) hi;exact hr.elim
 have hval:∃av,aO Fz' (C.res y) av/\ ∀E'',ak D' E' E''->af E'' av=v:=by
   rcases hv with⟨i,hi,hvi⟩|hv
   . rw[kI]at hvi;obtain⟨av,hav',rfl⟩:=AU.1 hvi;refine⟨av,(hav i _ av hi hav').mono fun j o hj=>?_,fun E'' he=>?_⟩
     . have:j<a.next:=hwf j o (hfz j o hj);grind
     . have h1:=Aj (fun l=>l[i]?) (hconst E'' (hag E'' he));grind [kI]
   . obtain⟨_,av,g1,g2⟩:=qzU (a:=a) (n:=n) (w:=w') (Fz:=Fz') (fun i o hi ho=>by simp only[Fz',An (show ¬i<a.next by omega)];exact ho) hv;exact⟨av,g1,fun E'' he=>g2 E'' (hblk2 E'' he)⟩
 obtain⟨av,hsim,hconc⟩:=hval;refine⟨av,h',⟨Fz',fun i o hi=>?_,fun i o hi=>?_,hsim,⟨by rw[hnext];omega,fun i o hi=>?_⟩,fun i o hi=>?_,hdom',fun i o hi=>?_⟩,fr',w',v,E',D',?_,s2,s3,fun E'' he=>⟨hH E'' he,hconc E'' he⟩,?_,fun i hi=> .inl hi,fun i hi=>?_,⟨hbel.os,hbel.tape,hbel.output,hbel.size,fun b hb'=>hbel.block b (q1.kb b hb'),hdr⟩,?_,fun i hi=>?_⟩
 . have:i<a.next:=hwf i o (hfz i o hi);grind
 . by_cases hlt:i<a.next
   . simp only[Fz',Al hlt]at hi;rw[show h'.get i=a.get i from oO hlt];exact hfz i o hi
   . simp only[Fz',An hlt]at hi;exact hi
 . by_cases hlt:i<a.next
   . rw[show h'.get i=a.get i from oO hlt]at hi;exact .inl ⟨o,hi⟩
   . exact .inr (by omega)
 . rw[show h'.get i=a.get i from oO (hwf i o hi)];exact hi
 . by_cases hlt:i<a.next
   . simp only[Fz',Al hlt]at hi;exact .inl hi
   . exact .inr (by omega)
 . rw[hR0];exact s1
 . intro i hi;exact⟨Al (hdom i hi),rfl⟩
 all_goals grind
theorem kE (ok:bN P tab) {f:FuncId} {C:aK} (hc:cA P tab f C) {fn:Func} {body:Code} (hfn:tab.fns.get f=some fn) (hb:fn.body=some body) {y:C.Y} (hy:C.pre y) {args:List Value} {w:World}
  (hs:PL (bQ tab w).get (C.args y) (args.map (dh w.heap.size))) (hw:cI w):Calls P f args.toArray w (fun e w'=>∃v,e= .returned v/\Rd w' (fun _=>True) true (C.res y) v/\Below w.heap.size w w'/\((default:aF).dr->w.drawn<=w'.drawn)):=by
 intro cs;have hP:=ok.fns f fn hfn;have hdom:∀i o,(bQ tab w).get i=some o->i<(bQ tab w).next:=fun i o hi=>(oU tab w (E:=⟨fun i=>i,fun _=>0⟩) (fun _ _=>rfl)).ey i o hi
 let E:Env:=⟨fun i=>i,fun _=>0⟩
 let D:Nat->Prop:=fun i=>i<w.heap.size
 have hag:∀E',ak D E E'->∀i,i<w.heap.size->E'.aA i=i:=fun E' he i hi=>(he i hi).1
 have hR:Rel D E (KS.old w.heap.size) {fr:=ag.enter fn f body (args.map (dh w.heap.size)) .normal,cs:=[],h:=bQ tab w} cs (Frame.enter P f args.toArray .normal) cs w:=by
  refine⟨fun E' he=>⟨oU tab w (hag E' he),?_,rfl⟩,fun i h=>h,qI _ _ _ _ _,fun f hf=>by cases hf⟩;rw[<-mH hP hb,wM (hag E' he)]
 obtain⟨v,h',⟨Fz',_,f2,hsim,_⟩,fr',w',v',E',D',s1,s2,s3,s4,s5,s6,s7,s8,s9,s10⟩:=hc fn body hfn hb y hy (bQ tab w).get (bQ tab w) _ (fun _ _ h=>h) hdom hs.1 hs.2 D E _ cs _ cs w hR hw.lj;obtain⟨g1,g2⟩:=s4 E' (ak.refl _ _);subst g2;exact⟨.returned (af E' v),w',fr',⟨_,rfl,uB g1 f2 hsim,⟨s8.os,s8.tape,s8.output,s8.size,s8.block⟩,s8.drawn⟩,s1,s2,s3⟩
theorem Oq (ok:bN P tab) {f:FuncId} {C:aK} (hc:cA P tab f C) {fn:Func} {body:Code} (hfn:tab.fns.get f=some fn) (hb:fn.body=some body) {y:C.Y} (hy:C.pre y) {args:List Value} {w:World}
   (hs:PL (fun _=>none) (C.args y) (args.map (dh 0))) (hw:cI w):Calls P f args.toArray w (fun e w'=>∃v,e= .returned v/\Rd w' (fun b=>w.heap.size<=b) true (C.res y) v/\Below w.heap.size w w'/\((default:aF).dr->w.drawn<=w'.drawn)):=by
 intro cs;have hP:=ok.fns f fn hfn;let E:Env:=⟨fun i=>i,fun _=>0⟩
 let K:KS:=⟨fun b=>b<w.heap.size,0⟩
 have hR:Rel (fun _=>False) E K {fr:=ag.enter fn f body (args.map (dh 0)) .normal,cs:=[],h:=fm} cs (Frame.enter P f args.toArray .normal) cs w:=by
   refine⟨fun E' _=>⟨KH E' K w (fun b h=>h) (fun b h=>absurd h (A3 _)),?_,rfl⟩,fun i h=>h.elim,qI _ _ _ _ _,fun f hf=>by cases hf⟩;rw[<-mH hP hb,wM (fun i hi=>absurd hi (A3 _))]
 obtain⟨v,h',⟨Fz',_,f2,hsim,_,_,_,f3⟩,fr',w',v',E',D',s1,s2,s3,s4,s5,s6,s7,s8,s9,s10⟩:=hc fn body hfn hb y hy (fun _=>none) fm _ (fun _ _ h=>by cases h) (fun _ _ h=>by cases h) hs.1 hs.2 _ E K cs _ cs w hR (fun b hb=>⟨hw.lt hb,hw b hb⟩);obtain⟨g1,g2⟩:=s4 E' (ak.refl _ _);subst g2;refine⟨.returned (af E' v),w',fr',⟨_,rfl,Ju g1 f2 (fun i o hi=>?_) hsim,⟨s8.os,s8.tape,s8.output,s8.size,s8.block⟩,s8.drawn⟩,s1,s2,s3⟩;have ho:=f2 i o hi;by_cases hro:o.ro
 . exact absurd (g1.im i o ho hro) (A3 _)
 . exact Nat.not_lt.1 (g1.nk i o ho hro)
end
end
section
universe u v
variable [Inhabited aF]
def Nd (X:Type) (L:List X) (enc:X->List SV) (v:SV) (s:St):Prop:=
 match v with
 | .own p=>match s.h.get p with
  |some (.arr X' L' enc' _)=>SV.bh X' L' enc'=SV.bh X L enc
  |_=>False
 |_=>False
def qk {Y:Type} (pre:Y->Prop) (args:Y->List SV) (X:Type) (L:Y->List X) (enc:X->List SV) (cfg:Y->iw) (n:Nat) (f:FuncId):Prop:=∀y,pre y->ask (cfg y) n f (args y) (Nd X (L y) enc)
def qQ (w:World) (n:Nat) {X:Type} (L:List X) (enc:X->List SV) (v:Value):Prop:=
 (v= .slice none 0 0/\L.length=0)\/ ∃b cap arr e fz sz,v= .slice (some ⟨b,0,none⟩) L.length cap/\n<=b/\w.heap[b]? =some (.cells arr e fz)/\L.length<=cap/\0<sz/\L.length*sz<=arr.size/\(∀(i:Nat) x,L[i]? =some x->(enc x).length=sz)/\
  ∀(i:Nat) x (j:Nat) s,L[i]? =some x->(enc x)[j]? =some s->∃u,arr[i*sz+j]? =some u/\Rd w (fun _=>True) true s u
section
variable {P:Program} {tab:bm}
theorem UH (pr:fU P tab) {Y:Type} {pre:Y->Prop} {argsS:Y->List SV} {X:Type} {L:Y->List X} {enc:X->List SV} {cfg:Y->iw} (htab:∀y,(cfg y).tab=tab) (hcon:∀y g C,(cfg y).gL g=some C->cA P tab g C) {n:Nat} {f:FuncId} {fn:Func}
   (hfn:tab.fns.get f=some fn) (h:qk pre argsS X L enc cfg n f) {y:Y} (hy:pre y) {args:List Value} {w:World} (hs:PL (bQ tab w).get (argsS y) (args.map (dh w.heap.size))) (hw:cI w):
   Calls P f args.toArray w (fun e w'=>∃v,e= .returned v/\qQ w' w.heap.size (L y) enc v/\Below w.heap.size w w'/\((default:aF).dr->w.drawn<=w'.drawn)):=by
 have h:=h y hy;unfold ask at h;rw[htab,hfn]at h;simp only at h
 cases hb:fn.body with
 |none=>rw[hb]at h;grind
 |some body=>
 rw[hb]at h;have hdom:∀i o,(bQ tab w).get i=some o->i<(bQ tab w).next:=fun i o hi=>(oU tab w (E:=⟨fun i=>i,fun _=>0⟩) (fun _ _=>rfl)).ey i o hi
 have hgo:=Hl pr (htab y) (hcon y) n f fn body (argsS y) ⟨0,[]⟩ (bQ tab w) ⟨fun _=>none,(bQ tab w).get⟩ (args.map (dh w.heap.size)) _ hfn hb h
   ⟨fun p o hp=>(by grind [SH.get,look]),fun p q o o' I J hp=>(by grind),fun i o hi=>hi,fun p o I hp=>(by grind),fun p I hp=>(by cases hp),hdom⟩ ⟨hs.1,fun i s v hs' hv=> .pure (hs.2 i s v hs' hv)⟩
 intro cs;have hP:=pr.ok.fns f fn hfn;let E:Env:=⟨fun i=>i,fun _=>0⟩
 let D:Nat->Prop:=fun i=>i<w.heap.size
 have hag:∀E',ak D E E'->∀i,i<w.heap.size->E'.aA i=i:=fun E' he i hi=>(he i hi).1
 have hR:Rel D E (KS.old w.heap.size) {fr:=ag.enter fn f body (args.map (dh w.heap.size)) .normal,cs:=[],h:=bQ tab w} cs (Frame.enter P f args.toArray .normal) cs w:=by
   refine⟨fun E' he=>⟨oU tab w (hag E' he),?_,rfl⟩,fun i h=>h,qI _ _ _ _ _,fun f hf=>by cases hf⟩;rw[<-mH hP hb,wM (hag E' he)]
 obtain⟨v,h',⟨sv,s',C',hq,hsv,hH,_⟩,fr',w',v',E',D',s1,s2,s3,s4,s5,s6,s7,s8,s9,s10⟩:=hgo D E _ cs _ cs w hR hw.lj;obtain⟨g1,g2⟩:=s4 E' (ak.refl _ _);subst g2;refine⟨.returned (af E' v),w',fr',⟨_,rfl,?_,⟨s8.os,s8.tape,s8.output,s8.size,s8.block⟩,s8.drawn⟩,s1,s2,s3⟩;unfold Nd at hq;split at hq
 . split at hq
   . rename_i X' L' enc' e' hp;obtain⟨I,hI,hO⟩:=hH.obj _ _ hp
     cases hq;obtain⟨o1,o2,o3,o4,o5⟩:=hO
     cases hsv with
     |pure h=>cases h
     |eo h hc=>
      rw[hI]at h;cases h;rw[hc]at o5;exact .inl ⟨rfl,o5⟩
     |own h hc=>
      rename_i c;rw[hI]at h;cases h;rw[hc]at o5;obtain⟨ca,ext,bk,k1,⟨k2,_⟩,k3,k4,k5⟩:=o5;obtain⟨arr,fz,hw,⟨rest,hr⟩,hx,_⟩:∃arr fz,w'.heap[E'.aA I.β]? =some (.cells arr e' fz)/\(∃rest,arr.toList=bp E' ca++rest)/\(if ext then arr.size=E'.cap I.β*I.sz else arr.size=ca.length)/\True:=by
        obtain⟨c,h1,arr,fz,rfl,h2,h3,_⟩:=g1.obj _ _ k1;grind
      have hro:¬AO.ro (.cells ca e' I.sz ext bk):=by cases bk<;>simp_all[AO.ro]
      have hnew:¬(E'.aA I.β<w.heap.size):=g1.nk _ _ k1 hro;have hlen:ca.length<=arr.size:=by
        have:=Aj List.length hr;simp at this;omega
      refine .inr ⟨E'.aA I.β,c.val (E'.cap I.β),arr,e',fz,I.sz,?_,by omega,hw,?_,o2,by rw[<-k3];omega,o4,fun i x j s hx' hs'=>?_⟩
      . grind [af]
      . rcases k4 with⟨rfl,he⟩|⟨rfl,h0⟩
        . subst he;rw[k3,hx]at hlen;exact Ek hlen o2
        . omega
      . obtain⟨u,hu,hsu⟩:=k5 i x j s hx' hs';refine⟨af E' u,?_,uB g1 hH.fz hsu⟩;rw[<-A6,hr,AX (by simp;grind),kI,hu];rfl
   grind
 grind
end
end
section
universe u v
def fr0 (f:FuncId):Frame:={(default:Frame)with fn:=f,kind:= .normal}
def dW (P:Program) (f:FuncId) (l:List Item) (a:Act) (w:World) (R:Ending->World->Prop):Prop:=
 ∀cs,∃e w' fr,R e w'/\Comes P (lone ((fr0 f).at a l) cs w) (lone fr cs w') e/\fr.fn=f/\fr.leaving P w' e
theorem ID {P:Program} {f:FuncId} {fn:Func} {c:Code} {args:Array Value} {w:World} {R:Ending->World->Prop} (hf:P.funcs[f]? =some fn) (hb:fn.body=some c)
  (h:dW P f [.code c] {tmps:=args++Array.replicate (fn.ntmps - args.size) undef,defers:=[]} w R):Calls P f args w R:=by
 intro cs;have henter:Frame.enter P f args .normal=(fr0 f).at {tmps:=args++Array.replicate (fn.ntmps - args.size) undef,defers:=[]} [.code c]:=by
  grind [Frame.enter,Frame.at,fr0]
 rw[henter];exact h cs
theorem dW.steps {P:Program} {f:FuncId} {l l':List Item} {a a':Act} {w w':World} {R:Ending->World->Prop} (hs:∀cs,Steps P (lone ((fr0 f).at a l) cs w) (lone ((fr0 f).at a' l') cs w')) (h:dW P f l' a' w' R):dW P f l a w R:=by
 intro cs;obtain⟨e,w2,fr,h1,h2,h3⟩:=h cs;grind [Comes.of_steps]
def Fi (P:Program) (f:FuncId) (fn:Func) (l:List Item) (R:Ending->World->Prop):Exit->Act->World->Prop
 | .normal,a,w=>dW P f l a w R
 | .ret,a,w=>a.defers=[]/\ ∃v,(results fn a.tmps).run P w= .ok v w/\R (.returned v) w
 |_,_,_=>False
theorem dW.code {P:Program} {f:FuncId} {fn:Func} {c:Code} {l:List Item} {a:Act} {w:World} {R:Ending->World->Prop} (hf:P.funcs[f]? =some fn) (h:c.wp P (Fi P f fn l R) a w):dW P f (.code c::l) a w R:=by
 intro cs;obtain⟨e,a',w',hq,harr⟩:=h (fr0 f) l cs
 cases e with
 |normal=>
  obtain⟨e,w2,fr,h1,h2,h3⟩:=hq cs;exact⟨e,w2,fr,h1,Comes.of_steps harr h2,h3⟩
 |ret=>
  obtain⟨hd,v,hr,hR⟩:=hq;obtain⟨todo,hs⟩:=harr;exact⟨.returned v,w',_,hR,hs,rfl,rfl,hd,rfl,fn,hf,hr⟩
 |panic chain=>exact hq.elim
 |exit id=>exact hq.elim
 |goto l=>exact hq.elim
 |outgrown=>exact hq.elim
theorem dW.seq {P:Program} {f:FuncId} {x y:Code} {l:List Item} {a:Act} {w:World} {R:Ending->World->Prop} (h:dW P f (.code x:: .code y::l) a w R):dW P f (.code (.seq x y)::l) a w R:=
 h.steps fun _=> .one step_seq
theorem dW.nil {P:Program} {f:FuncId} {fn:Func} {a:Act} {w:World} {R:Ending->World->Prop} (hf:P.funcs[f]? =some fn) (hd:a.defers=[]) {v:Value} (hr:(results fn a.tmps).run P w= .ok v w) (hR:R (.returned v) w):dW P f [] a w R:=
 fun cs=>⟨.returned v,w,_,hR, .one step_end,rfl,rfl,hd,rfl,fn,hf,hr⟩
theorem dW.next {P:Program} {f:FuncId} {fn:Func} {x y:Code} {l:List Item} {a:Act} {w:World} {R:Ending->World->Prop} (hf:P.funcs[f]? =some fn) (h:x.wp P (Fi P f fn (.code y::l) R) a w):dW P f (.code (.seq x y)::l) a w R:=
 .seq (.code hf h)
variable [Inhabited aF]
section
variable {P:Program} {tab:bm} {cfg:iw}
def fQ (tab:bm) (w:World) (tmps:Array Value) (ts:Fr):Prop:=∃avs:List AV,avs.length=tmps.size/\(∀E:Env,(∀i,i<w.heap.size->E.aA i=i)->bp E avs=tmps.toList)/\ ∀t s,look ts t=some s->∃av,avs[t]? =some av/\aJ ⟨fun _=>none,(bQ tab w).get⟩ s av
theorem fQ.nil {w:World} {tmps:Array Value}:fQ tab w tmps []:=⟨tmps.toList.map (dh w.heap.size),by simp,fun E hE=>wM hE _,fun t s h=>by cases h⟩
theorem fQ.put {w:World} {tmps:Array Value} {ts:Fr} {t:Nat} {s:SV} {v:Value} {av:AV} (h1:tmps[t]? =some v) (hc:∀E:Env,(∀i,i<w.heap.size->E.aA i=i)->af E av=v) (h2:aO (bQ tab w).get s av) (h:fQ tab w tmps ts):fQ tab w tmps ((t,s)::ts):=by
 obtain⟨avs,k0,k1,k2⟩:=h;have ht:t<avs.length:=by rw[k0];grind
 refine⟨avs.set t av,by grind,fun E hE=>?_,fun t' s' hl=>?_⟩
 . apply BG
   intro j;have k:=Aj (fun l=>l[j]?) (k1 E hE);grind [kI]
 . rw[kJ]at hl;rw[D8];by_cases e:t'=t
   . subst e;rw[Al rfl]at hl
     cases hl;exact⟨av,by rw[Al rfl,Al ht], .pure h2⟩
   grind
theorem fQ.cons {w:World} {tmps:Array Value} {ts:Fr} {t:Nat} {s:SV} {v:Value} (h1:tmps[t]? =some v) (h2:aO (bQ tab w).get s (dh w.heap.size v)) (h:fQ tab w tmps ts):fQ tab w tmps ((t,s)::ts):=
 h.put h1 (fun E hE=>CB hE v) h2
theorem QR (pr:fU P tab) (htab:cfg.tab=tab) (hcon:∀g C,cfg.gL g=some C->cA P tab g C) {n:Nat} {f:FuncId} {c:Code} {a:Act} {w:World} {Q:SV->St->Prop} {Θ:Value->Prop} {ts:Fr} (hd:a.defers=[])
  (h:wp cfg n ⟨f,a.tmps.size,0,[.code c],⟨ts,⟨0,[]⟩,[]⟩⟩ Q) (hs:fQ tab w a.tmps ts) (hQ:∀sv s,Q sv s->∀C av E,aJ C sv av->Θ (af E av)) (hw:cI w):
  dW P f [.code c] a w (fun e w'=>(∃v,Θ v/\e= .returned v)/\Below w.heap.size w w'):=by
 obtain⟨avs,a0,a1,a2⟩:=hs;intro cs;let E:Env:=⟨fun i=>i,fun _=>0⟩
 let D:Nat->Prop:=fun i=>i<w.heap.size
 let fr:ag:={fn:=f,nt:=a.tmps.size,tmps:=T.ofList avs,todo:=[.code c],defers:=[],mode:= .run,kind:= .normal,round:=none}
 have hdom:∀i o,(bQ tab w).get i=some o->i<(bQ tab w).next:=fun i o hi=>(oU tab w (E:=E) (fun _ _=>rfl)).ey i o hi
 have hgo:eR P {fr,cs:=[],h:=bQ tab w} _:=(Ms pr htab hcon (fun _ hrec=>KG htab hrec hcon) n).2 f a.tmps.size 0 [.code c] ⟨ts,⟨0,[]⟩,[]⟩ Q ⟨fun _=>none,(bQ tab w).get⟩ ⟨0,[]⟩ (bQ tab w) (fun p I hp=>by cases hp) (fun p o hp=>by grind [SH.get,look])
  fr (bQ tab w) h ⟨rfl,rfl,rfl,rfl,rfl,rfl⟩ (.code c .nil) ⟨⟨fun _=>none,(bQ tab w).get⟩,fun t s hl=>by
   grind [lY],⟨fun p o hp=>(by grind [SH.get,look]),fun p q o o' I J hp=>(by grind),fun i o hi=>hi,fun p o I hp=>(by grind),fun p I hp=>(by cases hp),hdom⟩,Tr.refl _,Grow.refl _,cY.same _ _ _ _⟩
 have hag:∀E',ak D E E'->∀i,i<w.heap.size->E'.aA i=i:=fun E' he i hi=>(he i hi).1
 have hconc:∀E',ak D E E'->bq E' fr=(fr0 f).at a [.code c]:=by
  intro E' he;have k1:=a1 E' (hag E' he);obtain⟨tm,df⟩:=a
  cases hd;unfold bq Frame.at fr0;congr 1
  apply BX
  intro j;have k2:=Aj (fun l=>l[j]?) k1;grind [kI,tmps_get?,lY]
 have hR:Rel D E (KS.old w.heap.size) {fr,cs:=[],h:=bQ tab w} cs ((fr0 f).at a [.code c]) cs w:=by
  refine⟨fun E' he=>⟨oU tab w (hag E' he),hconc E' he,rfl⟩,fun i h=>h,fun t ht=>?_,fun f hf=>by cases hf⟩;grind [lY]
 obtain⟨v,h',⟨sv,s',C',hq,hsv,_⟩,fr',w',v',E',D',s1,s2,s3,s4,s5,s6,s7,s8,s9,s10⟩:=hgo D E _ cs _ cs w hR hw.lj;obtain⟨_,g2⟩:=s4 E' (ak.refl _ _);subst g2;exact⟨.returned (af E' v),w',fr',⟨⟨_,hQ sv s' hq C' v E' hsv,rfl⟩,s8.os,s8.tape,s8.output,s8.size,s8.block⟩,s1,s2,s3⟩
theorem QS (pr:fU P tab) (htab:cfg.tab=tab) (hcon:∀g C,cfg.gL g=some C->cA P tab g C) {n:Nat} {f:FuncId} {c:Code} {a:Act} {w:World} {ts:Fr} (hd:a.defers=[])
  (h:wp cfg n ⟨f,a.tmps.size,0,[.code c],⟨ts,⟨0,[]⟩,[]⟩⟩ zl) (hs:fQ tab w a.tmps ts) (hw:cI w):
  dW P f [.code c] a w (fun e w'=>e= .returned (.bool true)/\Below w.heap.size w w'):=by
 have:=QR (Θ:=fun v=>v= .bool true) pr htab hcon hd h hs (fun sv s hq C av E hsv=>by
  unfold zl at hq;split at hq
  . rw[hq]at hsv;rw[oR hsv];rfl
  grind) hw
 grind
end
end
end Go.Sy
