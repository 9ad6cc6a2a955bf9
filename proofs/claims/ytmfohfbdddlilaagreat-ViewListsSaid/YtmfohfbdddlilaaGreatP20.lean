/- Part 20: an evaluator, proved sound, and its use at this seat; no condition. -/
import Derived.DataReads
import Derived.ChangeArms
import Derived.ProofKit
import Derived.OpenShut
import Derived.Test.YtmfohfbdddlilaaGreatP3
import Derived.Test.YtmfohfbdddlilaaGreatP11
import Derived.Test.YtmfohfbdddlilaaGreatP19
set_option linter.unusedSimpArgs false
set_option linter.unusedVariables false
set_option linter.unusedSectionVars false
set_option linter.deprecated false
set_option maxRecDepth 100000
namespace Go.Sy
open Go.Am Go.RowKit
universe u v
section
variable {H:Type} {enc:TypeId×Value->H} {P:Program} {w:World} {base:Nat} {spare:Nat->Bool} {held:Bool} {Fz:Nat->Option AO} {N:Nat}
def fw (Fz:Nat->Option AO) (N:Nat) (l:List SV) (cs:List Value):Prop:=l.length=cs.length/\ ∀(j:Nat) v u,l[j]? =some v->cs[j]? =some u->aF Fz v (dq N u)
theorem fw.nil:fw Fz N [] []:=⟨rfl,fun j v u h=>by simp at h⟩
theorem fw.cons {s:SV} {v:Value} {l:List SV} {m:List Value} (h:aF Fz s (dq N v)) (t:fw Fz N l m):fw Fz N (s::l) (v::m):=by
 refine⟨by simp[t.1],fun i a b ha hb=>?_⟩
 cases i with
 |zero=>simp at ha hb;subst ha;subst hb;exact h
 |succ i=>exact t.2 i a b (by simpa using ha) (by simpa using hb)
theorem fw.append {l l':List SV} {m m':List Value} (h:fw Fz N l m) (h':fw Fz N l' m'):fw Fz N (l++l') (m++m'):=by
 refine⟨by simp[h.1,h'.1],fun i a b ha hb=>?_⟩;by_cases hi:i<l.length
 . rw[AL hi]at ha;rw[AL (by rw[<-h.1];exact hi)]at hb;exact h.2 i a b ha hb
 . rw[A3 (by omega)]at ha;rw[A3 (by rw[<-h.1];omega),<-h.1]at hb;exact h'.2 _ a b ha hb
structure eY (P:Program) (w:World) (base:Nat) (spare:Nat->Bool) (held:Bool) {H:Type} (henc:TypeId×Value->H) (Fz:Nat->Option AO) (N:Nat) (t:TypeId) (X:Type) (enc:X->List SV):Prop where
 one:∀fuel cs x,DataW.trod henc P w base spare held fuel t cs=some x->∃y:X,fw Fz N (enc y) cs
variable (enc) in
abbrev iC (P:Program) (w:World) (base:Nat) (spare:Nat->Bool) (held:Bool) (Fz:Nat->Option AO) (N:Nat) (t:TypeId) (X:Type) (e:X->List SV):Prop:=eY P w base spare held enc Fz N t X e
theorem eY.bool {t:TypeId} (ht:P.underlying t=some .bool):iC enc P w base spare held Fz N t Bool (fun b=>[.bool b]):=by
 refine⟨fun fuel cs x h=>?_⟩;obtain⟨b,rfl,_⟩:=DataW.trod_bool ht h;exact⟨b, .cons (.bool b) .nil⟩
theorem eY.int {t:TypeId} {k:IntKind} (ht:P.underlying t=some (.int k)):iC enc P w base spare held Fz N t Int (fun b=>[.int k b]):=by
 refine⟨fun fuel cs x h=>?_⟩;obtain⟨b,rfl,_⟩:=DataW.trod_int ht h;exact⟨b, .cons (.int k b) .nil⟩
theorem eY.str {t:TypeId} (ht:P.underlying t=some .string):iC enc P w base spare held Fz N t (List UInt8) (fun b=>[.str b]):=by
 refine⟨fun fuel cs x h=>?_⟩;obtain⟨s,rfl,_⟩:=DataW.trod_string ht h;exact⟨s.data.toList, .cons (.str _) .nil⟩
theorem eY.map {t:TypeId} {X Y:Type} {e:X->List SV} {e':Y->List SV} (h:iC enc P w base spare held Fz N t X e) (f:X->Y) (hf:∀x,e' (f x)=e x):iC enc P w base spare held Fz N t Y e':=by
 refine⟨fun fuel cs x hx=>?_⟩;obtain⟨y,hy⟩:=h.one fuel cs x hx;exact⟨f y,by rw[hf];exact hy⟩
inductive jN (P:Program) (w:World) (base:Nat) (spare:Nat->Bool) (held:Bool) {H:Type} (henc:TypeId×Value->H) (Fz:Nat->Option AO) (N:Nat):Nat->List Field->(X:Type)->(X->List SV)->Prop
 |nil {o:Nat}:jN P w base spare held henc Fz N o [] Unit (fun _=>[])
 |cons {o:Nat} {f:Field} {fs:List Field} {X Y:Type} {e:X->List SV} {e':Y->List SV} (ho:f.offset=o) (h:eY P w base spare held henc Fz N f.type X e) (t:jN P w base spare held henc Fz N (o+P.cellsOf f.type) fs Y e'):
  jN P w base spare held henc Fz N o (f::fs) (X×Y) (fun y=>e y.1++e' y.2)
def kZ (P:Program):List Field->Nat
 |[]=>0
 |f::fs=>P.cellsOf f.type+kZ P fs
theorem jN.run {o:Nat} {fs:List Field} {X:Type} {e:X->List SV} (h:jN P w base spare held enc Fz N o fs X e):∀(cs:List Value) (n:Nat),cs.length=o+kZ P fs->
  (∀f∈fs,∃x,DataW.trod enc P w base spare held n f.type ((cs.drop f.offset).take (P.cellsOf f.type))=some x)->∃y:X,fw Fz N (e y) (cs.drop o):=by
 induction h with
 |nil=>
  intro cs n hl _;refine⟨(),?_⟩;simp only[kZ]at hl;rw[List.drop_of_length_le (by omega)];exact .nil
 | @cons o f fs X Y e e' ho h t ih=>
  intro cs n hl hf;simp only[kZ]at hl;obtain⟨x,hx⟩:=hf f An;obtain⟨y,hy⟩:=h.one n _ _ hx;obtain⟨z,hz⟩:=ih cs n (by omega) (fun g hg=>hf g (Al _ hg));refine⟨(y,z),?_⟩;have:=hy.append hz;rw[ho]at this;rw[show List.drop o cs=List.take (P.cellsOf f.type) (List.drop o cs)++List.drop (o+P.cellsOf f.type) cs by rw[<-List.drop_drop,BS]];exact this
theorem eY.struct {t:TypeId} {fs:Array Field} {X:Type} {e:X->List SV} (ht:P.underlying t=some (.struct fs)) (hc:P.cellsOf t=kZ P fs.toList) (h:jN P w base spare held enc Fz N 0 fs.toList X e):iC enc P w base spare held Fz N t X e:=by
 refine⟨fun fuel cs x hx=>?_⟩;obtain⟨xs,n,_,_,hl,hn,hg⟩:=DataW.trod_struct ht hx;have:=h.run cs n (by rw[hl,hc];simp) (fun f hf=>by
  obtain⟨i,hi⟩:=List.getElem?_of_mem hf;have h1:=hg i f (by simpa using hi);have hlt:i<fs.size:=by
   have:=(Ac.1 hi).1;simpa using this
  rw[Ae (by omega)]at h1;exact⟨_,h1⟩)
 simpa using this
end
end Go.Sy
namespace Go.Sy
open Go.Am Go.RowKit
theorem Mm {Fz:Nat->Option AO} {N:Nat} {l:List SV} {cs:Array Value} (h:fw Fz N l cs.toList):aF Fz (.agg l) (dm N (.agg cs)):=by
 unfold dm;refine .agg (by simpa using h.1) (fun i c v hc hv=>?_);rw[Av]at hv;obtain⟨u,hu,rfl⟩:=Ap.1 hv;exact h.2 i c u hc hu
end Go.Sy
namespace Go.Sy
open Go.Am Go.RowKit
variable [Inhabited aD]
section
variable {H:Type} {enc:TypeId×Value->H} {P:Program} {tab:aR} {w:World} {base:Nat} {spare:Nat->Bool} {held:Bool}
theorem FO {a:Addr} {k:Nat} {u:Value} (hs:a.spot=none) (h:w.cell? (a.add k)=some u):∃arr e fz,w.heap[a.block]? =some (.cells arr e fz)/\arr[a.off+k]? =some u:=by
 obtain⟨b,o,s⟩:=a;simp only at hs;subst hs;have e2:(⟨b,o,none⟩:Addr).add k=⟨b,o+k,none⟩:=by unfold Addr.add;split<;>simp_all
 rw[e2]at h;unfold World.cell? at h;split at h
 . rename_i arr e fz hb;simp only[A1,Ai,Az]at h;exact⟨arr,e,fz,hb,h⟩
 . cases h
theorem eY.slice {t e n:Nat} (ht:P.underlying t=some (.slice e)) (hn:P.cellsOf e=n) (h0:0<n) {X:Type} {ex:X->List SV} (hx:∀x,(ex x).length=n)
   (h:iC enc P w base spare held (bK tab w).get w.heap.size e X ex):iC enc P w base spare held (bK tab w).get w.heap.size t (List X) (fun L=>[.aw X L ex]):=by
 refine⟨fun fuel cs x hd=>?_⟩;rcases DataW.trod_slice ht hd with⟨rfl,_⟩|⟨a,len,cap,elems,rest,m,_,rfl,_,hb,hle,hc,hel,hi,_,_⟩
 . exact⟨[], .cons (.bL rfl (.inl rfl)) .nil⟩
 . have each:∀i:Fin len,∃y:X,∃cs',w.cells? base (a.add (i.val*n)) n=some cs'/\fw (bK tab w).get w.heap.size (ex y) cs':=by
     intro i;have h1:=hi i.val i.isLt;rw[Ae (by rw[hel];exact i.isLt)]at h1;obtain⟨cs',h2,h3⟩:=Ec.1 h1;rw[hn]at h2;obtain⟨y,hy⟩:=h.one _ _ _ h3;exact⟨y,cs',h2,hy⟩
   obtain⟨f,hf⟩:=Classical.skolem.1 each;by_cases hl:len=0
   . subst hl;exact⟨[], .cons (.bL rfl (.inr (.inr ⟨some a,cap,tE _ _ _⟩))) .nil⟩
   . have cell:∀(i:Fin len) (j:Nat) v,(ex (f i))[j]? =some v->∃u,w.cell? ((a.add (i.val*n)).add j)=some u/\aF (bK tab w).get v (dq w.heap.size u):=by
      intro i j v hv;obtain⟨cs',h2,h3⟩:=hf i;have hj:j<n:=by rw[<-hx (f i)];exact(Ac.1 hv).1
      unfold World.cells? at h2;split at h2
      . have h4:=mapM_some_get h2 j j (by simp[hj]);have hlt:j<cs'.length:=by rw[<-h3.1,hx];exact hj
        rw[Ae hlt]at h4;exact⟨_,h4,h3.2 j v _ hv (Ae hlt)⟩
      . cases h2
     have hadd:∀i j,(a.add i).add j=a.add (i+j):=by
      intro i j;unfold Addr.add;by_cases hi:i=0
      . subst hi;simp
      . by_cases hj:j=0
        . subst hj;simp[hi]
        . simp[hi,hj,BW]
     have hl0:0<(ex (f ⟨0,by omega⟩)).length:=by rw[hx (f ⟨0,by omega⟩)];exact h0
     obtain⟨v0,hv0⟩:∃v,(ex (f ⟨0,by omega⟩))[0]? =some v:=⟨_,Ae hl0⟩;obtain⟨u0,hu0,_⟩:=cell ⟨0,by omega⟩ 0 v0 hv0;rw[hadd]at hu0;have hspot:a.spot=none:=by
      have:=World.cell?_spot hu0;simpa [Addr.add]using this
     obtain⟨arr,et,fz,hblk,_⟩:=FO hspot hu0;have hcell:∀(i:Nat) x (j:Nat) v,(List.ofFn f)[i]? =some x->(ex x)[j]? =some v->∃u,arr[a.off+i*n+j]? =some u/\aF (bK tab w).get v (dq w.heap.size u):=by
      intro i x j v hx' hv;have hil:i<len:=by have:=(Ac.1 hx').1;simpa using this
      have hxe:x=f ⟨i,hil⟩:=by
        rw[Ae (by simpa using hil)]at hx';simpa using(B7 hx').symm
      subst hxe;obtain⟨u,hu,hs⟩:=cell ⟨i,hil⟩ j v hv;rw[hadd]at hu;obtain⟨arr',et',fz',hblk',hu'⟩:=FO hspot hu;rw[hblk]at hblk'
      cases hblk';exact⟨u,by rw[BW];exact hu',hs⟩
     refine⟨List.ofFn f, .cons ?_ .nil⟩;have hspec:(⟨a.block,a.off,none⟩:Addr)=a:=by obtain⟨b,o,s⟩:=a;simp only at hspot;subst hspot;rfl
     rw [<-hspec];have hlast:a.off+(List.ofFn f).length*n<=arr.size:=by
      have hl1:n - 1<(ex (f ⟨len - 1,by omega⟩)).length:=by rw[hx (f ⟨len - 1,by omega⟩)];omega
      obtain⟨v1,hv1⟩:∃v,(ex (f ⟨len - 1,by omega⟩))[n - 1]? =some v:=⟨_,Ae hl1⟩;obtain⟨u1,hu1,_⟩:=hcell (len - 1) (f ⟨len - 1,by omega⟩) (n - 1) v1 (by rw[Ae (by simp;omega)];simp) hv1;have:=(Aa.1 hu1).1;simp only[List.length_ofFn];have e3:len*n=(len - 1)*n+n:=by
        conv=>lhs;rw[show len=(len - 1)+1 by omega]
        rw[Bp,Dz]
      omega
     exact wP hblk h0 (fun x _=>hx x) hlast (by simp) hle hcell
end
end Go.Sy
namespace Go.Proofs.VlL
open Go Go.Am Go.ChangeShapes Go.WideShapes Go.ChangeAt Go.RowKit
open Go.Sy hiding ask
section
instance noDr:Inhabited aD:=⟨⟨False,#[]⟩⟩
section
variable {H:Type} {enc:TypeId×Value->H} {w:World} {base:Nat} {spare:Nat->Bool} {held:Bool} {Fz:Nat->Option AO} {N:Nat}
theorem u9:eY Tryz.prog w base spare held enc Fz N 24 ay ay.enc:=
 eY.map (eY.struct Tryz.underlying24 (by kernel_rfl)
  (.cons (by kernel_rfl) (eY.str Tryz.underlying9) (.cons (by kernel_rfl) (eY.str Tryz.underlying9) (.cons (by kernel_rfl) (eY.str Tryz.underlying9) .nil)))) (fun x=>⟨x.1,x.2.1,x.2.2.1⟩) (fun x=>rfl)
theorem M6:eY Tryz.prog w base spare held enc Fz N 39 dP dP.enc:=
 eY.map (eY.struct Tryz.underlying39 (by kernel_rfl)
  (.cons (by kernel_rfl) (eY.str Tryz.underlying9) (.cons (by kernel_rfl) (eY.bool Tryz.underlying4) (.cons (by kernel_rfl) (eY.bool Tryz.underlying4) (.cons (by kernel_rfl) (eY.bool Tryz.underlying4) (.cons (by kernel_rfl) (eY.bool Tryz.underlying4)
   (.cons (by kernel_rfl) (eY.int Tryz.underlying3) (.cons (by kernel_rfl) (eY.int Tryz.underlying3) (.cons (by kernel_rfl) (eY.int Tryz.underlying3) .nil))))))))) (fun x=>⟨x.1,x.2.1,x.2.2.1,x.2.2.2.1,x.2.2.2.2.1,x.2.2.2.2.2.1,x.2.2.2.2.2.2.1,x.2.2.2.2.2.2.2.1⟩) (fun x=>rfl)
theorem G8:eY Tryz.prog w base spare held enc Fz N 48 aa aa.enc:=
 eY.map (eY.struct Tryz.underlying48 (by kernel_rfl) (.cons (by kernel_rfl) u9 (.cons (by kernel_rfl) M6 .nil))) (fun x=>⟨x.1,x.2.1⟩) (fun x=>rfl)
theorem nN:eY Tryz.prog w base spare held enc (bK Tryz.tab w).get w.heap.size 52 (List aa) (fun L=>[.aw aa L aa.enc]):=eY.slice Tryz.underlying52 (show Tryz.prog.cellsOf 48=11 by kernel_rfl) (by omega) (fun _=>rfl) G8
theorem J1 {b0:Nat} {r:Reach} {v:Value} {d:DataW H} {p:List MemPlace} (hv:Value.okWide Tryz.prog w r b0 52 v) (h:DataW.Trod enc Tryz.prog w base spare held 52 v d p):
   ∃l:List aa,fJ w v l:=by
 obtain⟨a,n,c,rfl⟩:=okWide_slice Tryz.underlying52 hv;obtain⟨fuel,hf⟩:=h;obtain⟨l,hl⟩:=nN.one _ _ _ hf;refine⟨l,?_⟩;have hh:aF (bK Tryz.tab w).get (eH l) (dm w.heap.size (.slice a n c)):=hl.2 0 _ _ rfl rfl;rcases wN (Gx hh)with h|⟨b,off,cap,h0,hb,hrow,hcap,hcells⟩
 . exact .inl h
 . exact .inr ⟨b,off,cap,h0,hcap,hcells,hrow⟩
theorem KD {b0:Nat} {r:Reach} {v:Value} {d:DataW H} {p:List MemPlace} (hv:Value.okWide Tryz.prog w r b0 48 v) (h:DataW.Trod enc Tryz.prog w base spare held 48 v d p):
  ∃x:aa,v= .agg (cg x).toArray:=by
 obtain⟨cs,rfl,hsz⟩:=okWide_struct Tryz.underlying48 hv;obtain⟨fuel,hf⟩:=h;obtain⟨x,hx⟩:=(G8 (Fz:=(bK Tryz.tab w).get) (N:=w.heap.size)).one _ _ _ hf;exact⟨x,F9 (Gx (Mm hx))⟩
end
end
end Go.Proofs.VlL
