/- Part 3: an evaluator, proved sound, and its use at this seat; no condition. -/
import Derived.Calls
import Derived.Test.YtggljmdeadplkaaGreatP2
set_option linter.unusedSimpArgs false
set_option linter.unusedVariables false
set_option linter.unusedSectionVars false
set_option linter.deprecated false
namespace Go.Sy
open Go.Am Go.RowKit
section
universe u v
variable [Inhabited aI]
inductive Rd (w:World) (p:Nat->Prop) (arg:Bool):SV->Value->Prop
 |bool (b:Bool):Rd w p arg (.bool b) (.bool b)
 |int (k:IntKind) (n:Int):Rd w p arg (.int k n) (.int k n)
 |str (s:List UInt8):Rd w p arg (.str s) (.string ⟨s.toArray⟩)
 |aF:Rd w p arg .aF (.pointer none)
 |wp (a:Addr):Rd w p arg (.wp a) (.pointer (some a))
 |nils:Rd w p arg .nils (.slice none 0 0)
 |aY:Rd w p arg .aY (.map none)
 |bh:Rd w p arg .bh .nilFunc
 |any (v:Value):Rd w p arg .any v
 |fn {f:FuncId} {xs ys:List SV} (h:arg=true) (v:Value):Rd w p arg (.fn f xs ys) v
 |cE {cs:List SV} {off:Nat} (h:arg=true) (v:Value):Rd w p arg (.cE cs off) v
 |jc {X:Type} {L:List X} {enc:X->List SV} (h0:L.length=0):Rd w p arg (.aH X L enc) (.slice none 0 0)
 |bT {X:Type} {L:List X} {enc:X->List SV} (h:arg=true) (h0:L.length=0) (a:Option Addr) (c:Nat):Rd w p arg (.aH X L enc) (.slice a 0 c)
 |aH {X:Type} {L:List X} {enc:X->List SV} (b off cap:Nat) (arr:Array Value) (e:TypeId) (fz:Nat×Nat) (sz:Nat) (u:Nat->Nat->Value)
  (hp:p b) (hb:w.heap[b]? =some (.cells arr e fz)) (hs:0<sz) (hl:off+L.length*sz<=arr.size) (hn:∀(i:Nat) x,L[i]? =some x->(enc x).length=sz) (hc:L.length<=cap)
  (h1:∀(i:Nat) x (j:Nat) v,L[i]? =some x->(enc x)[j]? =some v->arr[off+i*sz+j]? =some (u i j)) (h2:∀(i:Nat) x (j:Nat) v,L[i]? =some x->(enc x)[j]? =some v->Rd w p arg v (u i j)):Rd w p arg (.aH X L enc) (.slice (some ⟨b,off,none⟩) L.length cap)
 |agg {cs:List SV} {vs:Array Value} (h1:cs.length=vs.size) (h2:∀(i:Nat) c v,cs[i]? =some c->vs[i]? =some v->Rd w p arg c v):Rd w p arg (.agg cs) (.agg vs)
 |bj {cs:List SV} {vs:Array Value} (h1:cs.length=vs.size) (h2:∀(i:Nat) c v,cs[i]? =some c->vs[i]? =some v->Rd w p arg c v):Rd w p arg (.bj cs) (.tuple vs)
def yv (w:World) (p:Nat->Prop) (arg:Bool) (l:List SV) (m:List Value):Prop:=l.length=m.length/\ ∀(i:Nat) s v,l[i]? =some s->m[i]? =some v->Rd w p arg s v
theorem J9 {E:Env} {a:AH} {K:KS} {w:World} (H:bo E a K w) {Fz:Nat->Option AO} (hf:∀i o,Fz i=some o->a.get i=some o) {p:Nat->Prop} (hp:∀i o,Fz i=some o->p (E.aN i)) {s:SV} {v:AV} (h:aL Fz s v):Rd w p true s (ab E v):=by
 induction h with
 |bool b=>exact .bool b
 |int k n=>exact .int k n
 |str s=>exact .str s
 |aF=>exact .aF
 |wp a=>exact .wp a
 |nils=>exact .nils
 |aY=>exact .aY
 |bh=>exact .bh
 |any v=>exact .any _
 |bT h0 hv=>
  rcases hv with rfl|⟨b,off,l,n,k,rfl⟩|⟨a,c,rfl⟩
  . exact .jc h0
  . exact .bT rfl h0 _ _
  . exact .bT rfl h0 _ _
 | @aH X L enc b off cap cs e sz ext bk u hb hs hl hn hc h1 h2 ih=>
  obtain⟨sz0,ext0,hb,hx0⟩:=hb;have hpb:=hp _ _ hb;obtain⟨arr,fz,hw,⟨rest,hr⟩,hsz⟩:∃arr fz,w.heap[E.aN b]? =some (.cells arr e fz)/\(∃rest,arr.toList=aV E cs++rest)/\(if ext0 then arr.size=E.cap b*sz0 else arr.size=cs.length):=by
    obtain⟨c,k1,arr,fz,rfl,k2,k3,_⟩:=H.obj _ _ (hf _ _ hb);grind
  have hle:cs.length<=arr.size:=by
    have:=Ay List.length hr;simp at this;omega
  refine .aH _ off _ arr e fz sz (fun i j=>ab E (u i j)) hpb hw hs (by omega) hn ?_ ?_ ih
  . cases cap with
    |lit m=>exact hc
    |tail k=>
     obtain⟨g1,g2⟩:=hc;obtain⟨g3,g4⟩:=hx0 g1;rw[g4,An rfl,g3]at hsz;rw[g2]at hl;have h5:(k+L.length)*sz<=E.cap b*sz:=by rw[Be];omega
     have:=Nat.le_of_mul_le_mul_right h5 hs;show L.length<=E.cap b - k
     omega
  . intro i x j v hx hv;have h3:=h1 i x j v hx hv;rw[<-BS,hr];have hlt:off+i*sz+j<(aV E cs).length:=by
     simp;grind
    rw[AL hlt,jg,h3];rfl
 |cE b base ca e sz ext bk u hb hl h1 _ ih=>exact .cE rfl _
 |fn h1 h2 _ _ ih3 ih4=>exact .fn rfl _
 | @agg cs vs h1 _ ih=>
  refine .agg (by simp_all) (fun i c v hc hv=>?_);grind [jg]
 | @bj cs vs h1 _ ih=>
  refine .bj (by simp_all) (fun i c v hc hv=>?_);grind [jg]
theorem th {E:Env} {a:AH} {K:KS} {w:World} (H:bo E a K w) {Fz:Nat->Option AO} (hf:∀i o,Fz i=some o->a.get i=some o) {s:SV} {v:AV} (h:aL Fz s v):Rd w (fun _=>True) true s (ab E v):=J9 H hf (fun _ _ _=>trivial) h
def fe (n m lo:Nat):Value->AV
 | .bool b=> .bool b
 | .int k z=> .int k z
 | .string s=> .str s.data.toList
 | .pointer none=> .aF
 | .slice none 0 0=> .nils
 | .slice (some ⟨b,off,none⟩) (len+1) cap=>if n<=b/\b<m then .sl (lo+(b - n)) off (len+1) (.lit cap)else .raw (.slice (some ⟨b,off,none⟩) (len+1) cap)
 | .map none=> .aY
 | .nilFunc=> .bh
 |v=> .raw v
theorem Cf {n m lo:Nat} {E:Env} (hE:∀b,n<=b->b<m->E.aN (lo+(b - n))=b) (v:Value):ab E (fe n m lo v)=v:=by
 unfold fe;split<;>try (simp[ab];done)
 grind [ab,fk.val]
theorem Kj {n m lo:Nat} {E:Env} (hE:∀b,n<=b->b<m->E.aN (lo+(b - n))=b) (l:List Value):aV E (l.map (fe n m lo))=l:=by
 induction l with
 |nil=>rfl
 |cons v l ih=>simp_all[Cf]
def SV.atom:SV->Bool
 | .agg _=>false
 | .bj _=>false
 |_=>true
inductive Up (w:World) (n:Nat):SV->Value->Prop
 |bool (b:Bool):Up w n (.bool b) (.bool b)
 |int (k:IntKind) (z:Int):Up w n (.int k z) (.int k z)
 |str (s:List UInt8):Up w n (.str s) (.string ⟨s.toArray⟩)
 |aF:Up w n .aF (.pointer none)
 |nils:Up w n .nils (.slice none 0 0)
 |aY:Up w n .aY (.map none)
 |bh:Up w n .bh .nilFunc
 |any (v:Value):Up w n .any v
 |jc {X:Type} {L:List X} {enc:X->List SV} (h0:L.length=0):Up w n (.aH X L enc) (.slice none 0 0)
 |bT {X:Type} {L:List X} {enc:X->List SV} (h0:L.length=0) (a:Option Addr) (c:Nat):Up w n (.aH X L enc) (.slice a 0 c)
 |aH {X:Type} {L:List X} {enc:X->List SV} (b off cap:Nat) (arr:Array Value) (e:TypeId) (fz:Nat×Nat) (sz:Nat) (u:Nat->Nat->Value)
  (hp:n<=b) (hb:w.heap[b]? =some (.cells arr e fz)) (hs:0<sz) (hl:off+L.length*sz<=arr.size) (hn:∀(i:Nat) x,L[i]? =some x->(enc x).length=sz) (hc:L.length<=cap)
  (ha:∀(i:Nat) x (j:Nat) v,L[i]? =some x->(enc x)[j]? =some v->v.atom=true)
  (h1:∀(i:Nat) x (j:Nat) v,L[i]? =some x->(enc x)[j]? =some v->arr[off+i*sz+j]? =some (u i j)) (h2:∀(i:Nat) x (j:Nat) v,L[i]? =some x->(enc x)[j]? =some v->Up w n v (u i j)):Up w n (.aH X L enc) (.slice (some ⟨b,off,none⟩) L.length cap)
 |agg {cs:List SV} {vs:Array Value} (h1:cs.length=vs.size) (h2:∀(i:Nat) c v,cs[i]? =some c->vs[i]? =some v->Up w n c v):Up w n (.agg cs) (.agg vs)
 |bj {cs:List SV} {vs:Array Value} (h1:cs.length=vs.size) (h2:∀(i:Nat) c v,cs[i]? =some c->vs[i]? =some v->Up w n c v):Up w n (.bj cs) (.tuple vs)
def hZ (a:AH) (n:Nat) (w:World):AH:=ofFn (a.next+(w.heap.size - n)) fun i=>if i<a.next then a.get i else
 match w.heap[n+(i - a.next)]? with
 |some (.cells arr e _)=>some (.cells (arr.toList.map (fe n w.heap.size a.next)) e 1 false .cold)
 |_=>none
theorem mB {a:AH} {n:Nat} {w:World} {i:Nat} (hi:i<a.next):(hZ a n w).get i=a.get i:=by
 grind [hZ,oo]
theorem C8 {a:AH} {n:Nat} {w:World} {i:Nat} {o:AO} (hi:a.next<=i) (h:(hZ a n w).get i=some o):
  ∃arr e fz,w.heap[n+(i - a.next)]? =some (.cells arr e fz)/\o= .cells (arr.toList.map (fe n w.heap.size a.next)) e 1 false .cold:=by
 grind [hZ,oo]
theorem MT {a:AH} {n:Nat} {w:World} {b:Nat} {arr:Array Value} {e:TypeId} {fz:Nat×Nat} (hb:n<=b) (h:w.heap[b]? =some (.cells arr e fz)):
  (hZ a n w).get (a.next+(b - n))=some (.cells (arr.toList.map (fe n w.heap.size a.next)) e 1 false .cold):=by
 have hlt:=(Ac.1 h).1;grind [hZ,oo]
theorem Cm {n m lo:Nat} {Fz:Nat->Option AO} {X:Type} {L:List X} {enc:X->List SV} (h0:L.length=0) (p:Option Addr) (c:Nat):aL Fz (.aH X L enc) (fe n m lo (.slice p 0 c)):=by
 have:fe n m lo (.slice p 0 c)= .nils\/fe n m lo (.slice p 0 c)= .raw (.slice p 0 c):=by
   unfold fe;split<;>simp_all
 rcases this with h|h
 . rw[h];exact .bT h0 (.inl rfl)
 . rw[h];exact .bT h0 (.inr (.inr ⟨_,_,rfl⟩))
theorem Pe {a:AH} {n:Nat} {w:World} {Fz:Nat->Option AO} (hF:∀i o,a.next<=i->(hZ a n w).get i=some o->Fz i=some o) {s:SV} {v:Value} (h:Up w n s v):
  (s.atom=true->aL Fz s (fe n w.heap.size a.next v))/\ ∃av,aL Fz s av/\ ∀E:Env,(∀b,n<=b->b<w.heap.size->E.aN (a.next+(b - n))=b)->ab E av=v:=by
 have key:∀{s:SV} {v:Value},aL Fz s (fe n w.heap.size a.next v)->(s.atom=true->aL Fz s (fe n w.heap.size a.next v))/\ ∃av,aL Fz s av/\ ∀E:Env,(∀b,n<=b->b<w.heap.size->E.aN (a.next+(b - n))=b)->ab E av=v:=
  fun{s v} h=>⟨fun _=>h,_,h,fun E hE=>Cf hE v⟩
 induction h with
 |bool b=>exact key (.bool b)
 |int k z=>exact key (.int k z)
 |str s=>exact key (by exact .str s)
 |aF=>exact key .aF
 |nils=>exact key .nils
 |aY=>exact key .aY
 |bh=>exact key .bh
 |any v=>exact key (.any _)
 |jc h0=>exact key (.bT h0 (.inl rfl))
 |bT h0 p c=>grind [Cm]
 | @aH X L enc b off cap arr e fz sz u hp hb hs hl hn hc ha h1 h2 ih=>
  apply key;have hlt:=(Ac.1 hb).1;by_cases hL:L.length=0
  . rw[hL];grind [Cm]
  obtain⟨len,hlen⟩:∃k,L.length=k+1:=⟨L.length - 1,by omega⟩;rw[hlen];simp only[fe];rw[An ⟨hp,hlt⟩,<-hlen];refine .aH _ off (.lit cap) _ e sz false .cold (fun i j=>fe n w.heap.size a.next (u i j)) ⟨1,false,hF _ _ (by omega) (MT hp hb),fun h=>by cases h⟩ hs (by grind) hn hc ?_ ?_
  all_goals grind
 | @agg cs vs h1 h2 ih=>
  refine⟨fun h=>(by cases h),?_⟩;have hc:∀i:Nat,∃av,∀c v,cs[i]? =some c->vs[i]? =some v->aL Fz c av/\ ∀E:Env,(∀b,n<=b->b<w.heap.size->E.aN (a.next+(b - n))=b)->ab E av=v:=by
    intro i
    cases hi:cs[i]? with
    |none=>exact⟨.aF,fun c v h=>by cases h⟩
    | some c=>
      cases hj:vs[i]? with
      |none=>grind
      |some v=>
       obtain⟨_,av,g1,g2⟩:=ih i c v hi hj;exact⟨av,fun c' v' e1 e2=>by grind⟩
  obtain⟨f,hf⟩:=Ey hc;refine⟨.agg ((List.range vs.size).map f), .agg (by simp[h1]) fun i c v hi hv=>?_,fun E hE=>?_⟩
  . have hi2:i<vs.size:=by rw[<-h1];exact(Ah.1 hi).1
    rw[Az,DD hi2]at hv
    cases hv;exact(hf i c _ hi (AN hi2)).1
  . simp only[ab,Value.agg.injEq];apply BR
    intro i;rw[AR,jg,Az];by_cases hi:i<vs.size
    . have hi2:i<cs.length:=by omega
      rw[DD hi,AN hi];simp only[A0];rw[(hf i _ _ (Af hi2) (AN hi)).2 E hE]
    . rw[DU (by omega),Bx (by simp;omega)];rfl
 | @bj cs vs h1 h2 ih=>
  refine⟨fun h=>(by cases h),?_⟩;have hc:∀i:Nat,∃av,∀c v,cs[i]? =some c->vs[i]? =some v->aL Fz c av/\ ∀E:Env,(∀b,n<=b->b<w.heap.size->E.aN (a.next+(b - n))=b)->ab E av=v:=by
    intro i
    cases hi:cs[i]? with
    |none=>exact⟨.aF,fun c v h=>by cases h⟩
    | some c=>
      cases hj:vs[i]? with
      |none=>grind
      |some v=>
       obtain⟨_,av,g1,g2⟩:=ih i c v hi hj;exact⟨av,fun c' v' e1 e2=>by cases e1;cases e2;exact⟨g1,g2⟩⟩
  obtain⟨f,hf⟩:=Ey hc;refine⟨.bj ((List.range vs.size).map f), .bj (by simp[h1]) fun i c v hi hv=>?_,fun E hE=>?_⟩
  . have hi2:i<vs.size:=by rw[<-h1];exact(Ah.1 hi).1
    rw[Az,DD hi2]at hv
    cases hv;exact(hf i c _ hi (AN hi2)).1
  . simp only[ab,Value.tuple.injEq];apply BR
    intro i;rw[AR,jg,Az];by_cases hi:i<vs.size
    . have hi2:i<cs.length:=by omega
      rw[DD hi,AN hi];simp only[A0];rw[(hf i _ _ (Af hi2) (AN hi)).2 E hE]
    . rw[DU (by omega),Bx (by simp;omega)];rfl
theorem Ky {P:Program} {f:FuncId} {k:CallKind} {l m:List Value} (hl:l.length=m.length) (h:Frame.enter P f l.toArray k=Frame.enter P f m.toArray k):l=m:=by
 have h:=Ay (fun fr=>fr.tmps.toList.take l.length) h;grind [Frame.enter]
section
variable {P:Program} {tab:bc}
theorem lC (ok:bD P tab) {f:FuncId} {C:aQ} (h:∀y,C.pre y->∀(w:World) (args:List Value),ef w->yv w (fun _=>True) true (C.args y) args->
     Calls P f args.toArray w (fun e w'=>∃v,e= .returned v/\((∃i:Nat,(C.args y)[i]? =some (C.res y)/\args[i]? =some v)\/Up w' w.heap.size (C.res y) v)/\Below w.heap.size w w'/\((default:aI).dr->w.drawn<=w'.drawn))):ch P tab f C:=by
 classical
 intro fn body hfn hb y hy Fz a avs hfz hwf hlen hav;intro D E K base frC csC w hR hB;have hP:=ok.fns f fn hfn;obtain⟨q1,q2,q3⟩:=hR.all E (aj.refl _ _);have hconst:∀E',aj D E E'->aV E' avs=aV E avs:=by
   intro E' he;obtain⟨_,p2,_⟩:=hR.all E' he;rw[<-mo hP hb]at p2 q2;exact Ky (by simp) (p2.trans q2.symm)
 have hargs:yv w (fun _=>True) true (C.args y) (aV E avs):=by
   refine⟨by simp_all,fun i s v hs hv=>?_⟩;rw[jg]at hv;grind [th]
 have hbc:base=csC:=q3;subst hbc;obtain⟨e,w',fr',⟨v,rfl,hv,hbel,hdr⟩,s1,s2,s3⟩:=h y hy w _ (fun b hb=>(hB b hb).2) hargs base;have hR0:frC=Frame.enter P f (aV E avs).toArray .normal:=by
   grind [mo]
 let n:=w.heap.size
 let h':=hZ a n w'
 let Fz':Nat->Option AO:=fun i=>if i<a.next then Fz i else h'.get i
 let E':Env:=⟨fun i=>if i<a.next then E.aN i else n+(i - a.next),E.cap⟩
 let D':Nat->Prop:=fun i=>D i\/(a.next<=i/\i<a.next+(w'.heap.size - n))
 have hdom:∀i,D i->i<a.next:=hR.dM;have hsz:n<=w'.heap.size:=hbel.size;have hag:∀E'',aj D' E' E''->aj D E E'':=by
   intro E'' he i hi;have h1:=he i (.inl hi);grind
 have hblk:∀E'',aj D' E' E''->∀i,a.next<=i->i<a.next+(w'.heap.size - n)->E''.aN i=n+(i - a.next):=by
   intro E'' he i h1 h2;have h3:=(he i (.inr ⟨h1,h2⟩)).1;grind
 have hblk2:∀E'',aj D' E' E''->∀b,n<=b->b<w'.heap.size->E''.aN (a.next+(b - n))=b:=by
   grind
 have hnext:h'.next=a.next+(w'.heap.size - n):=rfl;have hdom':∀i o,h'.get i=some o->i<h'.next:=by
   grind [hZ,oo]
 have hH:∀E'',aj D' E' E''->bo E'' h' K w':=by
   intro E'' he;obtain⟨g1,_,_⟩:=hR.all E'' (hag E'' he);refine⟨fun i o hi=>?_,fun i o hi hr=>?_,fun i j oi oj hi hj hr hij=>?_,hdom',fun b hb'=>AK (g1.kb b hb') hsz,fun i o hi hr=>?_,g1.k0⟩
   . by_cases hlt:i<a.next
     . rw[show h'.get i=a.get i from mB hlt]at hi;obtain⟨c,h1,h2⟩:=g1.obj i o hi;exact⟨c,by rw[hbel.block _ (Ac.1 h1).1];exact h1,h2⟩
     . obtain⟨arr,e,fz,hb2,rfl⟩:=C8 (by omega) hi;have hlt2:=hdom' i _ hi;refine⟨_,by rw[hblk E'' he i (by omega) (by omega)];omega,arr,fz,rfl,⟨[],by grind [Kj]⟩,by simp,trivial⟩
   . by_cases hlt:i<a.next
     . rw[show h'.get i=a.get i from mB hlt]at hi;exact g1.nk i o hi hr
     . have hlt2:=hdom' i _ hi;rw[hblk E'' he i (by omega) (by omega)];intro hk;have:=g1.kb _ hk;omega
   . have hin:∀k ok',h'.get k=some ok'->(k<a.next/\E''.aN k<n)\/(a.next<=k/\E''.aN k=n+(k - a.next)):=by
       intro k ok' hk;by_cases hlt:k<a.next
       . rw[show h'.get k=a.get k from mB hlt]at hk;obtain⟨c,h1,h2⟩:=g1.obj k ok' hk;grind
       grind
     rcases hin i oi hi with⟨h1,h2⟩|⟨h1,h2⟩<;>rcases hin j oj hj with⟨h3,h4⟩|⟨h3,h4⟩
     . rw[show h'.get i=a.get i from mB h1]at hi;rw[show h'.get j=a.get j from mB h3]at hj;exact g1.inj i j oi oj hi hj hr hij
     all_goals omega
   . by_cases hlt:i<a.next
     . rw[show h'.get i=a.get i from mB hlt]at hi;exact g1.im i o hi hr
     . obtain⟨arr,e,fz,hb2,rfl⟩:=C8 (by omega) hi;exact hr.elim
 have hval:∃av,aL Fz' (C.res y) av/\ ∀E'',aj D' E' E''->ab E'' av=v:=by
   rcases hv with⟨i,hi,hvi⟩|hv
   . rw[jg]at hvi;obtain⟨av,hav',rfl⟩:=AJ.1 hvi;refine⟨av,(hav i _ av hi hav').mono fun j o hj=>?_,fun E'' he=>?_⟩
     . have:j<a.next:=hwf j o (hfz j o hj);grind
     . have h1:=Ay (fun l=>l[i]?) (hconst E'' (hag E'' he));grind [jg]
   . obtain⟨_,av,g1,g2⟩:=Pe (a:=a) (n:=n) (w:=w') (Fz:=Fz') (fun i o hi ho=>by simp only[Fz',Ai (show ¬i<a.next by omega)];exact ho) hv;exact⟨av,g1,fun E'' he=>g2 E'' (hblk2 E'' he)⟩
 obtain⟨av,hsim,hconc⟩:=hval;refine⟨av,h',⟨Fz',fun i o hi=>?_,fun i o hi=>?_,hsim,⟨by rw[hnext];omega,fun i o hi=>?_⟩,fun i o hi=>?_,hdom',fun i o hi=>?_⟩,fr',w',v,E',D',?_,s2,s3,fun E'' he=>⟨hH E'' he,hconc E'' he⟩,?_,fun i hi=> .inl hi,fun i hi=>?_,⟨hbel.os,hbel.tape,hbel.output,hbel.size,fun b hb'=>hbel.block b (q1.kb b hb'),hdr⟩,?_,fun i hi=>?_⟩
 . have:i<a.next:=hwf i o (hfz i o hi);grind
 . by_cases hlt:i<a.next
   . simp only[Fz',An hlt]at hi;rw[show h'.get i=a.get i from mB hlt];exact hfz i o hi
   . simp only[Fz',Ai hlt]at hi;exact hi
 . by_cases hlt:i<a.next
   . rw[show h'.get i=a.get i from mB hlt]at hi;exact .inl ⟨o,hi⟩
   . exact .inr (by omega)
 . rw[show h'.get i=a.get i from mB (hwf i o hi)];exact hi
 . by_cases hlt:i<a.next
   . simp only[Fz',An hlt]at hi;exact .inl hi
   . exact .inr (by omega)
 . rw[hR0];exact s1
 . intro i hi;exact⟨An (hdom i hi),rfl⟩
 all_goals grind
theorem mY (ok:bD P tab) {f:FuncId} {C:aQ} (hc:ch P tab f C) {fn:Func} {body:Code} (hfn:tab.fns.get f=some fn) (hb:fn.body=some body) {y:C.Y} (hy:C.pre y) {args:List Value} {w:World}
  (hs:PL (bV tab w).get (C.args y) (args.map (eY w.heap.size))) (hw:ef w):Calls P f args.toArray w (fun e w'=>∃v,e= .returned v/\Rd w' (fun _=>True) true (C.res y) v/\Below w.heap.size w w'/\((default:aI).dr->w.drawn<=w'.drawn)):=by
 intro cs;have hP:=ok.fns f fn hfn;have hdom:∀i o,(bV tab w).get i=some o->i<(bV tab w).next:=fun i o hi=>(ow tab w (E:=⟨fun i=>i,fun _=>0⟩) (fun _ _=>rfl)).dM i o hi
 let E:Env:=⟨fun i=>i,fun _=>0⟩
 let D:Nat->Prop:=fun i=>i<w.heap.size
 have hag:∀E',aj D E E'->∀i,i<w.heap.size->E'.aN i=i:=fun E' he i hi=>(he i hi).1
 have hR:Rel D E (KS.old w.heap.size) {fr:=af.enter fn f body (args.map (eY w.heap.size)) .normal,cs:=[],h:=bV tab w} cs (Frame.enter P f args.toArray .normal) cs w:=by
  refine⟨fun E' he=>⟨ow tab w (hag E' he),?_,rfl⟩,fun i h=>h,rq _ _ _ _ _,fun f hf=>by cases hf⟩;rw[<-mo hP hb,zE (hag E' he)]
 obtain⟨v,h',⟨Fz',_,f2,hsim,_⟩,fr',w',v',E',D',s1,s2,s3,s4,s5,s6,s7,s8,s9,s10⟩:=hc fn body hfn hb y hy (bV tab w).get (bV tab w) _ (fun _ _ h=>h) hdom hs.1 hs.2 D E _ cs _ cs w hR hw.kv;obtain⟨g1,g2⟩:=s4 E' (aj.refl _ _);subst g2;exact⟨.returned (ab E' v),w',fr',⟨_,rfl,th g1 f2 hsim,⟨s8.os,s8.tape,s8.output,s8.size,s8.block⟩,s8.drawn⟩,s1,s2,s3⟩
end
end
section
universe u v
variable [Inhabited aI]
section
variable {P:Program} {tab:bc}
end
end
section
universe u v
def fr0 (f:FuncId):Frame:={(default:Frame)with fn:=f,kind:= .normal}
def fm (P:Program) (f:FuncId) (l:List Item) (a:Act) (w:World) (R:Ending->World->Prop):Prop:=
 ∀cs,∃e w' fr,R e w'/\Comes P (lone ((fr0 f).at a l) cs w) (lone fr cs w') e/\fr.fn=f/\fr.leaving P w' e
theorem ID {P:Program} {f:FuncId} {fn:Func} {c:Code} {args:Array Value} {w:World} {R:Ending->World->Prop} (hf:P.funcs[f]? =some fn) (hb:fn.body=some c)
  (h:fm P f [.code c] {tmps:=args++Array.replicate (fn.ntmps - args.size) undef,defers:=[]} w R):Calls P f args w R:=by
 intro cs;have henter:Frame.enter P f args .normal=(fr0 f).at {tmps:=args++Array.replicate (fn.ntmps - args.size) undef,defers:=[]} [.code c]:=by
  grind [Frame.enter,Frame.at,fr0]
 rw[henter];exact h cs
theorem fm.steps {P:Program} {f:FuncId} {l l':List Item} {a a':Act} {w w':World} {R:Ending->World->Prop} (hs:∀cs,Steps P (lone ((fr0 f).at a l) cs w) (lone ((fr0 f).at a' l') cs w')) (h:fm P f l' a' w' R):fm P f l a w R:=by
 intro cs;obtain⟨e,w2,fr,h1,h2,h3⟩:=h cs;grind [Comes.of_steps]
def xC (P:Program) (f:FuncId) (fn:Func) (l:List Item) (R:Ending->World->Prop):Exit->Act->World->Prop
 | .normal,a,w=>fm P f l a w R
 | .ret,a,w=>a.defers=[]/\ ∃v,(results fn a.tmps).run P w= .ok v w/\R (.returned v) w
 |_,_,_=>False
theorem fm.code {P:Program} {f:FuncId} {fn:Func} {c:Code} {l:List Item} {a:Act} {w:World} {R:Ending->World->Prop} (hf:P.funcs[f]? =some fn) (h:c.wp P (xC P f fn l R) a w):fm P f (.code c::l) a w R:=by
 intro cs;obtain⟨e,a',w',hq,harr⟩:=h (fr0 f) l cs
 cases e with
 |normal=>
  obtain⟨e,w2,fr,h1,h2,h3⟩:=hq cs;exact⟨e,w2,fr,h1,Comes.of_steps harr h2,h3⟩
 |ret=>
  obtain⟨hd,v,hr,hR⟩:=hq;obtain⟨todo,hs⟩:=harr;exact⟨.returned v,w',_,hR,hs,rfl,rfl,hd,rfl,fn,hf,hr⟩
 |panic chain=>exact hq.elim
 |exit id=>exact hq.elim
 |goto l=>exact hq.elim
 |outgrown=>exact hq.elim
theorem fm.seq {P:Program} {f:FuncId} {x y:Code} {l:List Item} {a:Act} {w:World} {R:Ending->World->Prop} (h:fm P f (.code x:: .code y::l) a w R):fm P f (.code (.seq x y)::l) a w R:=
 h.steps fun _=> .one step_seq
theorem fm.nil {P:Program} {f:FuncId} {fn:Func} {a:Act} {w:World} {R:Ending->World->Prop} (hf:P.funcs[f]? =some fn) (hd:a.defers=[]) {v:Value} (hr:(results fn a.tmps).run P w= .ok v w) (hR:R (.returned v) w):fm P f [] a w R:=
 fun cs=>⟨.returned v,w,_,hR, .one step_end,rfl,rfl,hd,rfl,fn,hf,hr⟩
theorem fm.next {P:Program} {f:FuncId} {fn:Func} {x y:Code} {l:List Item} {a:Act} {w:World} {R:Ending->World->Prop} (hf:P.funcs[f]? =some fn) (h:x.wp P (xC P f fn (.code y::l) R) a w):fm P f (.code (.seq x y)::l) a w R:=
 .seq (.code hf h)
variable [Inhabited aI]
section
variable {P:Program} {tab:bc} {cfg:gR}
def eH (tab:bc) (w:World) (tmps:Array Value) (ts:Fr):Prop:=∃avs:List AV,avs.length=tmps.size/\(∀E:Env,(∀i,i<w.heap.size->E.aN i=i)->aV E avs=tmps.toList)/\ ∀t s,look ts t=some s->∃av,avs[t]? =some av/\aB ⟨fun _=>none,(bV tab w).get⟩ s av
theorem eH.nil {w:World} {tmps:Array Value}:eH tab w tmps []:=⟨tmps.toList.map (eY w.heap.size),by simp,fun E hE=>zE hE _,fun t s h=>by cases h⟩
theorem eH.put {w:World} {tmps:Array Value} {ts:Fr} {t:Nat} {s:SV} {v:Value} {av:AV} (h1:tmps[t]? =some v) (hc:∀E:Env,(∀i,i<w.heap.size->E.aN i=i)->ab E av=v) (h2:aL (bV tab w).get s av) (h:eH tab w tmps ts):eH tab w tmps ((t,s)::ts):=by
 obtain⟨avs,k0,k1,k2⟩:=h;have ht:t<avs.length:=by rw[k0];grind
 refine⟨avs.set t av,by grind,fun E hE=>?_,fun t' s' hl=>?_⟩
 . apply BB
   intro j;have k:=Ay (fun l=>l[j]?) (k1 E hE);grind [jg]
 . rw[iR]at hl;rw[Ec];by_cases e:t'=t
   . subst e;rw[An rfl]at hl
     cases hl;exact⟨av,by rw[An rfl,An ht], .pure h2⟩
   grind
theorem eH.cons {w:World} {tmps:Array Value} {ts:Fr} {t:Nat} {s:SV} {v:Value} (h1:tmps[t]? =some v) (h2:aL (bV tab w).get s (eY w.heap.size v)) (h:eH tab w tmps ts):eH tab w tmps ((t,s)::ts):=
 h.put h1 (fun E hE=>wC hE v) h2
theorem QJ (pr:fp P tab) (htab:cfg.tab=tab) (hcon:∀g C,cfg.fX g=some C->ch P tab g C) {n:Nat} {f:FuncId} {c:Code} {a:Act} {w:World} {Q:SV->St->Prop} {Θ:Value->Prop} {ts:Fr} (hd:a.defers=[])
  (h:wp cfg n ⟨f,a.tmps.size,0,[.code c],⟨ts,⟨0,[]⟩,[]⟩⟩ Q) (hs:eH tab w a.tmps ts) (hQ:∀sv s,Q sv s->∀C av E,aB C sv av->Θ (ab E av)) (hw:ef w):
  fm P f [.code c] a w (fun e w'=>(∃v,Θ v/\e= .returned v)/\Below w.heap.size w w'):=by
 obtain⟨avs,a0,a1,a2⟩:=hs;intro cs;let E:Env:=⟨fun i=>i,fun _=>0⟩
 let D:Nat->Prop:=fun i=>i<w.heap.size
 let fr:af:={fn:=f,nt:=a.tmps.size,tmps:=T.ofList avs,todo:=[.code c],defers:=[],mode:= .run,kind:= .normal,round:=none}
 have hdom:∀i o,(bV tab w).get i=some o->i<(bV tab w).next:=fun i o hi=>(ow tab w (E:=E) (fun _ _=>rfl)).dM i o hi
 have hgo:dU P {fr,cs:=[],h:=bV tab w} _:=(FR pr htab hcon (fun _ hrec=>Fo htab hrec hcon) n).2 f a.tmps.size 0 [.code c] ⟨ts,⟨0,[]⟩,[]⟩ Q ⟨fun _=>none,(bV tab w).get⟩ ⟨0,[]⟩ (bV tab w) (fun p I hp=>by cases hp) (fun p o hp=>by grind [SH.get,look])
  fr (bV tab w) h ⟨rfl,rfl,rfl,rfl,rfl,rfl⟩ (.code c .nil) ⟨⟨fun _=>none,(bV tab w).get⟩,fun t s hl=>by
   grind [jV],⟨fun p o hp=>(by grind [SH.get,look]),fun p q o o' I J hp=>(by grind),fun i o hi=>hi,fun p o I hp=>(by grind),fun p I hp=>(by cases hp),hdom⟩,Tr.refl _,Grow.refl _,cL.same _ _ _ _⟩
 have hag:∀E',aj D E E'->∀i,i<w.heap.size->E'.aN i=i:=fun E' he i hi=>(he i hi).1
 have hconc:∀E',aj D E E'->aZ E' fr=(fr0 f).at a [.code c]:=by
  intro E' he;have k1:=a1 E' (hag E' he);obtain⟨tm,df⟩:=a
  cases hd;unfold aZ Frame.at fr0;congr 1
  apply BR
  intro j;have k2:=Ay (fun l=>l[j]?) k1;grind [jg,tmps_get?,jV]
 have hR:Rel D E (KS.old w.heap.size) {fr,cs:=[],h:=bV tab w} cs ((fr0 f).at a [.code c]) cs w:=by
  refine⟨fun E' he=>⟨ow tab w (hag E' he),hconc E' he,rfl⟩,fun i h=>h,fun t ht=>?_,fun f hf=>by cases hf⟩;grind [jV]
 obtain⟨v,h',⟨sv,s',C',hq,hsv,_⟩,fr',w',v',E',D',s1,s2,s3,s4,s5,s6,s7,s8,s9,s10⟩:=hgo D E _ cs _ cs w hR hw.kv;obtain⟨_,g2⟩:=s4 E' (aj.refl _ _);subst g2;exact⟨.returned (ab E' v),w',fr',⟨⟨_,hQ sv s' hq C' v E' hsv,rfl⟩,s8.os,s8.tape,s8.output,s8.size,s8.block⟩,s1,s2,s3⟩
theorem QK (pr:fp P tab) (htab:cfg.tab=tab) (hcon:∀g C,cfg.fX g=some C->ch P tab g C) {n:Nat} {f:FuncId} {c:Code} {a:Act} {w:World} {ts:Fr} (hd:a.defers=[])
  (h:wp cfg n ⟨f,a.tmps.size,0,[.code c],⟨ts,⟨0,[]⟩,[]⟩⟩ vA) (hs:eH tab w a.tmps ts) (hw:ef w):
  fm P f [.code c] a w (fun e w'=>e= .returned (.bool true)/\Below w.heap.size w w'):=by
 have:=QJ (Θ:=fun v=>v= .bool true) pr htab hcon hd h hs (fun sv s hq C av E hsv=>by
  unfold vA at hq;split at hq
  . rw[hq]at hsv;rw[mr hsv];rfl
  grind) hw
 grind
end
end
end Go.Sy
