/- Part 3: an evaluator, proved sound, and its use at this seat; no condition. -/
import Derived.Calls
import Derived.Test.YtggljmdeadplkaaGreatP2
set_option linter.unusedSimpArgs false
set_option linter.unusedVariables false
set_option linter.unusedSectionVars false
set_option linter.deprecated false
namespace Go.Sy
open Go.Am Go.RowKit
section
universe u v
variable [Inhabited aL]
inductive Rd (w:World) (p:Nat->Prop) (arg:Bool):SV->Value->Prop
 |bool (b:Bool):Rd w p arg (.bool b) (.bool b)
 |int (k:IntKind) (n:Int):Rd w p arg (.int k n) (.int k n)
 |str (s:List UInt8):Rd w p arg (.str s) (.string ⟨s.toArray⟩)
 |aF:Rd w p arg .aF (.pointer none)
 |wp (a:Addr):Rd w p arg (.wp a) (.pointer (some a))
 |nils:Rd w p arg .nils (.slice none 0 0)
 |aW:Rd w p arg .aW (.map none)
 |aZ:Rd w p arg .aZ .nilFunc
 |any (v:Value):Rd w p arg .any v
 |fn {f:FuncId} {xs ys:List SV} (h:arg=true) (v:Value):Rd w p arg (.fn f xs ys) v
 |ch {cs:List SV} {off:Nat} (h:arg=true) (v:Value):Rd w p arg (.ch cs off) v
 |gB {X:Type} {L:List X} {enc:X->List SV} (h0:L.length=0):Rd w p arg (.ax X L enc) (.slice none 0 0)
 |bR {X:Type} {L:List X} {enc:X->List SV} (h:arg=true) (h0:L.length=0) (a:Option Addr) (c:Nat):Rd w p arg (.ax X L enc) (.slice a 0 c)
 |ax {X:Type} {L:List X} {enc:X->List SV} (b off cap:Nat) (arr:Array Value) (e:TypeId) (fz:Nat×Nat) (sz:Nat) (u:Nat->Nat->Value)
  (hp:p b) (hb:w.heap[b]? =some (.cells arr e fz)) (hs:0<sz) (hl:off+L.length*sz<=arr.size) (hn:∀(i:Nat) x,L[i]? =some x->(enc x).length=sz) (hc:L.length<=cap)
  (h1:∀(i:Nat) x (j:Nat) v,L[i]? =some x->(enc x)[j]? =some v->arr[off+i*sz+j]? =some (u i j)) (h2:∀(i:Nat) x (j:Nat) v,L[i]? =some x->(enc x)[j]? =some v->Rd w p arg v (u i j)):Rd w p arg (.ax X L enc) (.slice (some ⟨b,off,none⟩) L.length cap)
 |agg {cs:List SV} {vs:Array Value} (h1:cs.length=vs.size) (h2:∀(i:Nat) c v,cs[i]? =some c->vs[i]? =some v->Rd w p arg c v):Rd w p arg (.agg cs) (.agg vs)
 |bg {cs:List SV} {vs:Array Value} (h1:cs.length=vs.size) (h2:∀(i:Nat) c v,cs[i]? =some c->vs[i]? =some v->Rd w p arg c v):Rd w p arg (.bg cs) (.tuple vs)
def wM (w:World) (p:Nat->Prop) (arg:Bool) (l:List SV) (m:List Value):Prop:=l.length=m.length/\ ∀(i:Nat) s v,l[i]? =some s->m[i]? =some v->Rd w p arg s v
theorem Hn {E:Env} {a:AH} {K:KS} {w:World} (H:bl E a K w) {Fz:Nat->Option AO} (hf:∀i o,Fz i=some o->a.get i=some o) {p:Nat->Prop} (hp:∀i o,Fz i=some o->p (E.aK i)) {s:SV} {v:AV} (h:aG Fz s v):Rd w p true s (ad E v):=by
 induction h with
 |bool b=>exact .bool b
 |int k n=>exact .int k n
 |str s=>exact .str s
 |aF=>exact .aF
 |wp a=>exact .wp a
 |nils=>exact .nils
 |aW=>exact .aW
 |aZ=>exact .aZ
 |any v=>exact .any _
 |bR h0 hv=>
  rcases hv with rfl|⟨b,off,l,n,k,rfl⟩|⟨a,c,rfl⟩
  . exact .gB h0
  . exact .bR rfl h0 _ _
  . exact .bR rfl h0 _ _
 | @ax X L enc b off cap cs e sz ext bk u hb hs hl hn hc h1 h2 ih=>
  obtain⟨sz0,ext0,hb,hx0⟩:=hb;have hpb:=hp _ _ hb;obtain⟨arr,fz,hw,⟨rest,hr⟩,hsz⟩:∃arr fz,w.heap[E.aK b]? =some (.cells arr e fz)/\(∃rest,arr.toList=aU E cs++rest)/\(if ext0 then arr.size=E.cap b*sz0 else arr.size=cs.length):=by
    obtain⟨c,k1,arr,fz,rfl,k2,k3,_⟩:=H.obj _ _ (hf _ _ hb);grind
  have hle:cs.length<=arr.size:=by
    have:=Az List.length hr;simp at this;omega
  refine .ax _ off _ arr e fz sz (fun i j=>ad E (u i j)) hpb hw hs (by omega) hn ?_ ?_ ih
  . cases cap with
    |lit m=>exact hc
    |tail k=>
     obtain⟨g1,g2⟩:=hc;obtain⟨g3,g4⟩:=hx0 g1;rw[g4,Ai rfl,g3]at hsz;rw[g2]at hl;have h5:(k+L.length)*sz<=E.cap b*sz:=by rw[A1];omega
     have:=Nat.le_of_mul_le_mul_right h5 hs;show L.length<=E.cap b - k
     omega
  . intro i x j v hx hv;have h3:=h1 i x j v hx hv;rw[<-Dp,hr];have hlt:off+i*sz+j<(aU E cs).length:=by
     simp;grind
    rw[AL hlt,hY,h3];rfl
 |ch b base ca e sz ext bk u hb hl h1 _ ih=>exact .ch rfl _
 |fn h1 h2 _ _ ih3 ih4=>exact .fn rfl _
 | @agg cs vs h1 _ ih=>
  refine .agg (by simp_all) (fun i c v hc hv=>?_);grind [hY]
 | @bg cs vs h1 _ ih=>
  refine .bg (by simp_all) (fun i c v hc hv=>?_);grind [hY]
theorem yD {E:Env} {a:AH} {K:KS} {w:World} (H:bl E a K w) {Fz:Nat->Option AO} (hf:∀i o,Fz i=some o->a.get i=some o) {s:SV} {v:AV} (h:aG Fz s v):Rd w (fun _=>True) true s (ad E v):=Hn H hf (fun _ _ _=>trivial) h
def ef (n m lo:Nat):Value->AV
 | .bool b=> .bool b
 | .int k z=> .int k z
 | .string s=> .str s.data.toList
 | .pointer none=> .aF
 | .slice none 0 0=> .nils
 | .slice (some ⟨b,off,none⟩) (len+1) cap=>if n<=b/\b<m then .sl (lo+(b - n)) off (len+1) (.lit cap)else .raw (.slice (some ⟨b,off,none⟩) (len+1) cap)
 | .map none=> .aW
 | .nilFunc=> .aZ
 |v=> .raw v
theorem x9 {n m lo:Nat} {E:Env} (hE:∀b,n<=b->b<m->E.aK (lo+(b - n))=b) (v:Value):ad E (ef n m lo v)=v:=by
 unfold ef;split<;>try (simp[ad];done)
 grind [ad,ew.val]
theorem GU {n m lo:Nat} {E:Env} (hE:∀b,n<=b->b<m->E.aK (lo+(b - n))=b) (l:List Value):aU E (l.map (ef n m lo))=l:=by
 induction l with
 |nil=>rfl
 |cons v l ih=>simp_all[x9]
def SV.atom:SV->Bool
 | .agg _=>false
 | .bg _=>false
 |_=>true
inductive Up (w:World) (n:Nat):SV->Value->Prop
 |bool (b:Bool):Up w n (.bool b) (.bool b)
 |int (k:IntKind) (z:Int):Up w n (.int k z) (.int k z)
 |str (s:List UInt8):Up w n (.str s) (.string ⟨s.toArray⟩)
 |aF:Up w n .aF (.pointer none)
 |nils:Up w n .nils (.slice none 0 0)
 |aW:Up w n .aW (.map none)
 |aZ:Up w n .aZ .nilFunc
 |any (v:Value):Up w n .any v
 |gB {X:Type} {L:List X} {enc:X->List SV} (h0:L.length=0):Up w n (.ax X L enc) (.slice none 0 0)
 |bR {X:Type} {L:List X} {enc:X->List SV} (h0:L.length=0) (a:Option Addr) (c:Nat):Up w n (.ax X L enc) (.slice a 0 c)
 |ax {X:Type} {L:List X} {enc:X->List SV} (b off cap:Nat) (arr:Array Value) (e:TypeId) (fz:Nat×Nat) (sz:Nat) (u:Nat->Nat->Value)
  (hp:n<=b) (hb:w.heap[b]? =some (.cells arr e fz)) (hs:0<sz) (hl:off+L.length*sz<=arr.size) (hn:∀(i:Nat) x,L[i]? =some x->(enc x).length=sz) (hc:L.length<=cap)
  (ha:∀(i:Nat) x (j:Nat) v,L[i]? =some x->(enc x)[j]? =some v->v.atom=true)
  (h1:∀(i:Nat) x (j:Nat) v,L[i]? =some x->(enc x)[j]? =some v->arr[off+i*sz+j]? =some (u i j)) (h2:∀(i:Nat) x (j:Nat) v,L[i]? =some x->(enc x)[j]? =some v->Up w n v (u i j)):Up w n (.ax X L enc) (.slice (some ⟨b,off,none⟩) L.length cap)
 |agg {cs:List SV} {vs:Array Value} (h1:cs.length=vs.size) (h2:∀(i:Nat) c v,cs[i]? =some c->vs[i]? =some v->Up w n c v):Up w n (.agg cs) (.agg vs)
 |bg {cs:List SV} {vs:Array Value} (h1:cs.length=vs.size) (h2:∀(i:Nat) c v,cs[i]? =some c->vs[i]? =some v->Up w n c v):Up w n (.bg cs) (.tuple vs)
def fM (a:AH) (n:Nat) (w:World):AH:=ofFn (a.next+(w.heap.size - n)) fun i=>if i<a.next then a.get i else
 match w.heap[n+(i - a.next)]? with
 |some (.cells arr e _)=>some (.cells (arr.toList.map (ef n w.heap.size a.next)) e 1 false .cold)
 |_=>none
theorem kF {a:AH} {n:Nat} {w:World} {i:Nat} (hi:i<a.next):(fM a n w).get i=a.get i:=by
 grind [fM,mm]
theorem zz {a:AH} {n:Nat} {w:World} {i:Nat} {o:AO} (hi:a.next<=i) (h:(fM a n w).get i=some o):
  ∃arr e fz,w.heap[n+(i - a.next)]? =some (.cells arr e fz)/\o= .cells (arr.toList.map (ef n w.heap.size a.next)) e 1 false .cold:=by
 grind [fM,mm]
theorem JB {a:AH} {n:Nat} {w:World} {b:Nat} {arr:Array Value} {e:TypeId} {fz:Nat×Nat} (hb:n<=b) (h:w.heap[b]? =some (.cells arr e fz)):
  (fM a n w).get (a.next+(b - n))=some (.cells (arr.toList.map (ef n w.heap.size a.next)) e 1 false .cold):=by
 have hlt:=(Ak.1 h).1;grind [fM,mm]
theorem yH {n m lo:Nat} {Fz:Nat->Option AO} {X:Type} {L:List X} {enc:X->List SV} (h0:L.length=0) (p:Option Addr) (c:Nat):aG Fz (.ax X L enc) (ef n m lo (.slice p 0 c)):=by
 have:ef n m lo (.slice p 0 c)= .nils\/ef n m lo (.slice p 0 c)= .raw (.slice p 0 c):=by
   unfold ef;split<;>simp_all
 rcases this with h|h
 . rw[h];exact .bR h0 (.inl rfl)
 . rw[h];exact .bR h0 (.inr (.inr ⟨_,_,rfl⟩))
theorem L5 {a:AH} {n:Nat} {w:World} {Fz:Nat->Option AO} (hF:∀i o,a.next<=i->(fM a n w).get i=some o->Fz i=some o) {s:SV} {v:Value} (h:Up w n s v):
  (s.atom=true->aG Fz s (ef n w.heap.size a.next v))/\ ∃av,aG Fz s av/\ ∀E:Env,(∀b,n<=b->b<w.heap.size->E.aK (a.next+(b - n))=b)->ad E av=v:=by
 have key:∀{s:SV} {v:Value},aG Fz s (ef n w.heap.size a.next v)->(s.atom=true->aG Fz s (ef n w.heap.size a.next v))/\ ∃av,aG Fz s av/\ ∀E:Env,(∀b,n<=b->b<w.heap.size->E.aK (a.next+(b - n))=b)->ad E av=v:=
  fun{s v} h=>⟨fun _=>h,_,h,fun E hE=>x9 hE v⟩
 induction h with
 |bool b=>exact key (.bool b)
 |int k z=>exact key (.int k z)
 |str s=>exact key (by exact .str s)
 |aF=>exact key .aF
 |nils=>exact key .nils
 |aW=>exact key .aW
 |aZ=>exact key .aZ
 |any v=>exact key (.any _)
 |gB h0=>exact key (.bR h0 (.inl rfl))
 |bR h0 p c=>grind [yH]
 | @ax X L enc b off cap arr e fz sz u hp hb hs hl hn hc ha h1 h2 ih=>
  apply key;have hlt:=(Ak.1 hb).1;by_cases hL:L.length=0
  . rw[hL];grind [yH]
  obtain⟨len,hlen⟩:∃k,L.length=k+1:=⟨L.length - 1,by omega⟩;rw[hlen];simp only[ef];rw[Ai ⟨hp,hlt⟩,<-hlen];refine .ax _ off (.lit cap) _ e sz false .cold (fun i j=>ef n w.heap.size a.next (u i j)) ⟨1,false,hF _ _ (by omega) (JB hp hb),fun h=>by cases h⟩ hs (by grind) hn hc ?_ ?_
  all_goals grind
 | @agg cs vs h1 h2 ih=>
  refine⟨fun h=>(by cases h),?_⟩;have hc:∀i:Nat,∃av,∀c v,cs[i]? =some c->vs[i]? =some v->aG Fz c av/\ ∀E:Env,(∀b,n<=b->b<w.heap.size->E.aK (a.next+(b - n))=b)->ad E av=v:=by
    intro i
    cases hi:cs[i]? with
    |none=>exact⟨.aF,fun c v h=>by cases h⟩
    | some c=>
      cases hj:vs[i]? with
      |none=>grind
      |some v=>
       obtain⟨_,av,g1,g2⟩:=ih i c v hi hj;exact⟨av,fun c' v' e1 e2=>by grind⟩
  obtain⟨f,hf⟩:=DV hc;refine⟨.agg ((List.range vs.size).map f), .agg (by simp[h1]) fun i c v hi hv=>?_,fun E hE=>?_⟩
  . have hi2:i<vs.size:=by rw[<-h1];exact(Ao.1 hi).1
    rw[AF,B5 hi2]at hv
    cases hv;exact(hf i c _ hi (AS hi2)).1
  . simp only[ad,Value.agg.injEq];apply B8
    intro i;rw[AB,hY,AF];by_cases hi:i<vs.size
    . have hi2:i<cs.length:=by omega
      rw[B5 hi,AS hi];simp only[Bj];rw[(hf i _ _ (Af hi2) (AS hi)).2 E hE]
    . rw[DZ (by omega),Br (by simp;omega)];rfl
 | @bg cs vs h1 h2 ih=>
  refine⟨fun h=>(by cases h),?_⟩;have hc:∀i:Nat,∃av,∀c v,cs[i]? =some c->vs[i]? =some v->aG Fz c av/\ ∀E:Env,(∀b,n<=b->b<w.heap.size->E.aK (a.next+(b - n))=b)->ad E av=v:=by
    intro i
    cases hi:cs[i]? with
    |none=>exact⟨.aF,fun c v h=>by cases h⟩
    | some c=>
      cases hj:vs[i]? with
      |none=>grind
      |some v=>
       obtain⟨_,av,g1,g2⟩:=ih i c v hi hj;exact⟨av,fun c' v' e1 e2=>by cases e1;cases e2;exact⟨g1,g2⟩⟩
  obtain⟨f,hf⟩:=DV hc;refine⟨.bg ((List.range vs.size).map f), .bg (by simp[h1]) fun i c v hi hv=>?_,fun E hE=>?_⟩
  . have hi2:i<vs.size:=by rw[<-h1];exact(Ao.1 hi).1
    rw[AF,B5 hi2]at hv
    cases hv;exact(hf i c _ hi (AS hi2)).1
  . simp only[ad,Value.tuple.injEq];apply B8
    intro i;rw[AB,hY,AF];by_cases hi:i<vs.size
    . have hi2:i<cs.length:=by omega
      rw[B5 hi,AS hi];simp only[Bj];rw[(hf i _ _ (Af hi2) (AS hi)).2 E hE]
    . rw[DZ (by omega),Br (by simp;omega)];rfl
theorem HP {P:Program} {f:FuncId} {k:CallKind} {l m:List Value} (hl:l.length=m.length) (h:Frame.enter P f l.toArray k=Frame.enter P f m.toArray k):l=m:=by
 have h:=Az (fun fr=>fr.tmps.toList.take l.length) h;grind [Frame.enter]
section
variable {P:Program} {tab:bc}
theorem EB (ok:bq P tab) {f:FuncId} {C:aH} (h:∀y,C.pre y->∀(w:World) (args:List Value),dX w->wM w (fun _=>True) true (C.args y) args->
     Calls P f args.toArray w (fun e w'=>∃v,e= .returned v/\((∃i:Nat,(C.args y)[i]? =some (C.res y)/\args[i]? =some v)\/Up w' w.heap.size (C.res y) v)/\Below w.heap.size w w'/\((default:aL).dr->w.drawn<=w'.drawn))):bX P tab f C:=by
 classical
 intro fn body hfn hb y hy Fz a avs hfz hwf hlen hav;intro D E K base frC csC w hR hB;have hP:=ok.fns f fn hfn;obtain⟨q1,q2,q3⟩:=hR.all E (ai.refl _ _);have hconst:∀E',ai D E E'->aU E' avs=aU E avs:=by
   intro E' he;obtain⟨_,p2,_⟩:=hR.all E' he;rw[<-ly hP hb]at p2 q2;exact HP (by simp) (p2.trans q2.symm)
 have hargs:wM w (fun _=>True) true (C.args y) (aU E avs):=by
   refine⟨by simp_all,fun i s v hs hv=>?_⟩;rw[hY]at hv;grind [yD]
 have hbc:base=csC:=q3;subst hbc;obtain⟨e,w',fr',⟨v,rfl,hv,hbel,hdr⟩,s1,s2,s3⟩:=h y hy w _ (fun b hb=>(hB b hb).2) hargs base;have hR0:frC=Frame.enter P f (aU E avs).toArray .normal:=by
   grind [ly]
 let n:=w.heap.size
 let h':=fM a n w'
 let Fz':Nat->Option AO:=fun i=>if i<a.next then Fz i else h'.get i
 let E':Env:=⟨fun i=>if i<a.next then E.aK i else n+(i - a.next),E.cap⟩
 let D':Nat->Prop:=fun i=>D i\/(a.next<=i/\i<a.next+(w'.heap.size - n))
 have hdom:∀i,D i->i<a.next:=hR.dv;have hsz:n<=w'.heap.size:=hbel.size;have hag:∀E'',ai D' E' E''->ai D E E'':=by
   intro E'' he i hi;have h1:=he i (.inl hi);grind
 have hblk:∀E'',ai D' E' E''->∀i,a.next<=i->i<a.next+(w'.heap.size - n)->E''.aK i=n+(i - a.next):=by
   intro E'' he i h1 h2;have h3:=(he i (.inr ⟨h1,h2⟩)).1;grind
 have hblk2:∀E'',ai D' E' E''->∀b,n<=b->b<w'.heap.size->E''.aK (a.next+(b - n))=b:=by
   grind
 have hnext:h'.next=a.next+(w'.heap.size - n):=rfl;have hdom':∀i o,h'.get i=some o->i<h'.next:=by
   grind [fM,mm]
 have hH:∀E'',ai D' E' E''->bl E'' h' K w':=by
   intro E'' he;obtain⟨g1,_,_⟩:=hR.all E'' (hag E'' he);refine⟨fun i o hi=>?_,fun i o hi hr=>?_,fun i j oi oj hi hj hr hij=>?_,hdom',fun b hb'=>A2 (g1.kb b hb') hsz,fun i o hi hr=>?_,g1.k0⟩
   . by_cases hlt:i<a.next
     . rw[show h'.get i=a.get i from kF hlt]at hi;obtain⟨c,h1,h2⟩:=g1.obj i o hi;exact⟨c,by rw[hbel.block _ (Ak.1 h1).1];exact h1,h2⟩
     . obtain⟨arr,e,fz,hb2,rfl⟩:=zz (by omega) hi;have hlt2:=hdom' i _ hi;refine⟨_,by rw[hblk E'' he i (by omega) (by omega)];omega,arr,fz,rfl,⟨[],by grind [GU]⟩,by simp,trivial⟩
   . by_cases hlt:i<a.next
     . rw[show h'.get i=a.get i from kF hlt]at hi;exact g1.nk i o hi hr
     . have hlt2:=hdom' i _ hi;rw[hblk E'' he i (by omega) (by omega)];intro hk;have:=g1.kb _ hk;omega
   . have hin:∀k ok',h'.get k=some ok'->(k<a.next/\E''.aK k<n)\/(a.next<=k/\E''.aK k=n+(k - a.next)):=by
       intro k ok' hk;by_cases hlt:k<a.next
       . rw[show h'.get k=a.get k from kF hlt]at hk;obtain⟨c,h1,h2⟩:=g1.obj k ok' hk;grind
       grind
     rcases hin i oi hi with⟨h1,h2⟩|⟨h1,h2⟩<;>rcases hin j oj hj with⟨h3,h4⟩|⟨h3,h4⟩
     . rw[show h'.get i=a.get i from kF h1]at hi;rw[show h'.get j=a.get j from kF h3]at hj;exact g1.inj i j oi oj hi hj hr hij
     all_goals omega
   . by_cases hlt:i<a.next
     . rw[show h'.get i=a.get i from kF hlt]at hi;exact g1.im i o hi hr
     . obtain⟨arr,e,fz,hb2,rfl⟩:=zz (by omega) hi;exact hr.elim
 have hval:∃av,aG Fz' (C.res y) av/\ ∀E'',ai D' E' E''->ad E'' av=v:=by
   rcases hv with⟨i,hi,hvi⟩|hv
   . rw[hY]at hvi;obtain⟨av,hav',rfl⟩:=AA.1 hvi;refine⟨av,(hav i _ av hi hav').mono fun j o hj=>?_,fun E'' he=>?_⟩
     . have:j<a.next:=hwf j o (hfz j o hj);grind
     . have h1:=Az (fun l=>l[i]?) (hconst E'' (hag E'' he));grind [hY]
   . obtain⟨_,av,g1,g2⟩:=L5 (a:=a) (n:=n) (w:=w') (Fz:=Fz') (fun i o hi ho=>by simp only[Fz',Ah (show ¬i<a.next by omega)];exact ho) hv;exact⟨av,g1,fun E'' he=>g2 E'' (hblk2 E'' he)⟩
 obtain⟨av,hsim,hconc⟩:=hval;refine⟨av,h',⟨Fz',fun i o hi=>?_,fun i o hi=>?_,hsim,⟨by rw[hnext];omega,fun i o hi=>?_⟩,fun i o hi=>?_,hdom',fun i o hi=>?_⟩,fr',w',v,E',D',?_,s2,s3,fun E'' he=>⟨hH E'' he,hconc E'' he⟩,?_,fun i hi=> .inl hi,fun i hi=>?_,⟨hbel.os,hbel.tape,hbel.output,hbel.size,fun b hb'=>hbel.block b (q1.kb b hb'),hdr⟩,?_,fun i hi=>?_⟩
 . have:i<a.next:=hwf i o (hfz i o hi);grind
 . by_cases hlt:i<a.next
   . simp only[Fz',Ai hlt]at hi;rw[show h'.get i=a.get i from kF hlt];exact hfz i o hi
   . simp only[Fz',Ah hlt]at hi;exact hi
 . by_cases hlt:i<a.next
   . rw[show h'.get i=a.get i from kF hlt]at hi;exact .inl ⟨o,hi⟩
   . exact .inr (by omega)
 . rw[show h'.get i=a.get i from kF (hwf i o hi)];exact hi
 . by_cases hlt:i<a.next
   . simp only[Fz',Ai hlt]at hi;exact .inl hi
   . exact .inr (by omega)
 . rw[hR0];exact s1
 . intro i hi;exact⟨Ai (hdom i hi),rfl⟩
 all_goals grind
theorem lg (ok:bq P tab) {f:FuncId} {C:aH} (hc:bX P tab f C) {fn:Func} {body:Code} (hfn:tab.fns.get f=some fn) (hb:fn.body=some body) {y:C.Y} (hy:C.pre y) {args:List Value} {w:World}
  (hs:PL (cJ tab w).get (C.args y) (args.map (ee w.heap.size))) (hw:dX w):Calls P f args.toArray w (fun e w'=>∃v,e= .returned v/\Rd w' (fun _=>True) true (C.res y) v/\Below w.heap.size w w'/\((default:aL).dr->w.drawn<=w'.drawn)):=by
 intro cs;have hP:=ok.fns f fn hfn;have hdom:∀i o,(cJ tab w).get i=some o->i<(cJ tab w).next:=fun i o hi=>(zW tab w (E:=⟨fun i=>i,fun _=>0⟩) (fun _ _=>rfl)).dv i o hi
 let E:Env:=⟨fun i=>i,fun _=>0⟩
 let D:Nat->Prop:=fun i=>i<w.heap.size
 have hag:∀E',ai D E E'->∀i,i<w.heap.size->E'.aK i=i:=fun E' he i hi=>(he i hi).1
 have hR:Rel D E (KS.old w.heap.size) {fr:=ae.enter fn f body (args.map (ee w.heap.size)) .normal,cs:=[],h:=cJ tab w} cs (Frame.enter P f args.toArray .normal) cs w:=by
  refine⟨fun E' he=>⟨zW tab w (hag E' he),?_,rfl⟩,fun i h=>h,re _ _ _ _ _,fun f hf=>by cases hf⟩;rw[<-ly hP hb,GS (hag E' he)]
 obtain⟨v,h',⟨Fz',_,f2,hsim,_⟩,fr',w',v',E',D',s1,s2,s3,s4,s5,s6,s7,s8,s9,s10⟩:=hc fn body hfn hb y hy (cJ tab w).get (cJ tab w) _ (fun _ _ h=>h) hdom hs.1 hs.2 D E _ cs _ cs w hR hw.oT;obtain⟨g1,g2⟩:=s4 E' (ai.refl _ _);subst g2;exact⟨.returned (ad E' v),w',fr',⟨_,rfl,yD g1 f2 hsim,⟨s8.os,s8.tape,s8.output,s8.size,s8.block⟩,s8.drawn⟩,s1,s2,s3⟩
end
end
section
universe u v
variable [Inhabited aL]
section
variable {P:Program} {tab:bc}
end
end
section
universe u v
def fr0 (f:FuncId):Frame:={(default:Frame)with fn:=f,kind:= .normal}
def EL (P:Program) (f:FuncId) (l:List Item) (a:Act) (w:World) (R:Ending->World->Prop):Prop:=
 ∀cs,∃e w' fr,R e w'/\Comes P (lone ((fr0 f).at a l) cs w) (lone fr cs w') e/\fr.fn=f/\fr.leaving P w' e
variable [Inhabited aL]
section
variable {P:Program} {tab:bc} {cfg:fy}
end
end
end Go.Sy
