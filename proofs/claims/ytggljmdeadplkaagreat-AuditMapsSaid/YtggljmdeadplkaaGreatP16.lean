/- Part 16: an evaluator, proved sound, and its use at this seat; no condition. -/
import Derived.DataReads
import Derived.ChangeArms
import Derived.ProofKit
import Derived.OpenShut
import Derived.Test.YtggljmdeadplkaaGreatP2
import Derived.Test.YtggljmdeadplkaaGreatP15
set_option linter.unusedSimpArgs false
set_option linter.unusedVariables false
set_option linter.unusedSectionVars false
set_option linter.deprecated false
set_option maxRecDepth 100000
namespace Go.Sy
open Go.Am Go.RowKit
universe u v
section
variable {H:Type} {enc:TypeId×Value->H} {P:Program} {w:World} {base:Nat} {spare:Nat->Bool} {held:Bool} {Fz:Nat->Option AO} {N:Nat}
def fP (Fz:Nat->Option AO) (N:Nat) (l:List SV) (cs:List Value):Prop:=l.length=cs.length/\ ∀(j:Nat) v u,l[j]? =some v->cs[j]? =some u->aL Fz v (cQ N u)
theorem fP.nil:fP Fz N [] []:=⟨rfl,fun j v u h=>by simp at h⟩
theorem fP.cons {s:SV} {v:Value} {l:List SV} {m:List Value} (h:aL Fz s (cQ N v)) (t:fP Fz N l m):fP Fz N (s::l) (v::m):=by
 refine⟨by simp[t.1],fun i a b ha hb=>?_⟩
 cases i with
 |zero=>simp at ha hb;subst ha;subst hb;exact h
 |succ i=>exact t.2 i a b (by simpa using ha) (by simpa using hb)
theorem fP.append {l l':List SV} {m m':List Value} (h:fP Fz N l m) (h':fP Fz N l' m'):fP Fz N (l++l') (m++m'):=by
 refine⟨by simp[h.1,h'.1],fun i a b ha hb=>?_⟩;by_cases hi:i<l.length
 . rw[AL hi]at ha;rw[AL (by rw[<-h.1];exact hi)]at hb;exact h.2 i a b ha hb
 . rw[A3 (by omega)]at ha;rw[A3 (by rw[<-h.1];omega),<-h.1]at hb;exact h'.2 _ a b ha hb
structure dI (P:Program) (w:World) (base:Nat) (spare:Nat->Bool) (held:Bool) {H:Type} (henc:TypeId×Value->H) (Fz:Nat->Option AO) (N:Nat) (t:TypeId) (X:Type) (enc:X->List SV):Prop where
 one:∀fuel cs x,DataW.trod henc P w base spare held fuel t cs=some x->∃y:X,fP Fz N (enc y) cs
variable (enc) in
abbrev iD (P:Program) (w:World) (base:Nat) (spare:Nat->Bool) (held:Bool) (Fz:Nat->Option AO) (N:Nat) (t:TypeId) (X:Type) (e:X->List SV):Prop:=dI P w base spare held enc Fz N t X e
theorem dI.bool {t:TypeId} (ht:P.underlying t=some .bool):iD enc P w base spare held Fz N t Bool (fun b=>[.bool b]):=by
 refine⟨fun fuel cs x h=>?_⟩;obtain⟨b,rfl,_⟩:=DataW.trod_bool ht h;exact⟨b, .cons (.bool b) .nil⟩
theorem dI.int {t:TypeId} {k:IntKind} (ht:P.underlying t=some (.int k)):iD enc P w base spare held Fz N t Int (fun b=>[.int k b]):=by
 refine⟨fun fuel cs x h=>?_⟩;obtain⟨b,rfl,_⟩:=DataW.trod_int ht h;exact⟨b, .cons (.int k b) .nil⟩
theorem dI.str {t:TypeId} (ht:P.underlying t=some .string):iD enc P w base spare held Fz N t (List UInt8) (fun b=>[.str b]):=by
 refine⟨fun fuel cs x h=>?_⟩;obtain⟨s,rfl,_⟩:=DataW.trod_string ht h;exact⟨s.data.toList, .cons (.str _) .nil⟩
theorem dI.map {t:TypeId} {X Y:Type} {e:X->List SV} {e':Y->List SV} (h:iD enc P w base spare held Fz N t X e) (f:X->Y) (hf:∀x,e' (f x)=e x):iD enc P w base spare held Fz N t Y e':=by
 refine⟨fun fuel cs x hx=>?_⟩;obtain⟨y,hy⟩:=h.one fuel cs x hx;exact⟨f y,by rw[hf];exact hy⟩
inductive jD (P:Program) (w:World) (base:Nat) (spare:Nat->Bool) (held:Bool) {H:Type} (henc:TypeId×Value->H) (Fz:Nat->Option AO) (N:Nat):Nat->List Field->(X:Type)->(X->List SV)->Prop
 |nil {o:Nat}:jD P w base spare held henc Fz N o [] Unit (fun _=>[])
 |cons {o:Nat} {f:Field} {fs:List Field} {X Y:Type} {e:X->List SV} {e':Y->List SV} (ho:f.offset=o) (h:dI P w base spare held henc Fz N f.type X e) (t:jD P w base spare held henc Fz N (o+P.cellsOf f.type) fs Y e'):
  jD P w base spare held henc Fz N o (f::fs) (X×Y) (fun y=>e y.1++e' y.2)
def kS (P:Program):List Field->Nat
 |[]=>0
 |f::fs=>P.cellsOf f.type+kS P fs
theorem jD.run {o:Nat} {fs:List Field} {X:Type} {e:X->List SV} (h:jD P w base spare held enc Fz N o fs X e):∀(cs:List Value) (n:Nat),cs.length=o+kS P fs->
  (∀f∈fs,∃x,DataW.trod enc P w base spare held n f.type ((cs.drop f.offset).take (P.cellsOf f.type))=some x)->∃y:X,fP Fz N (e y) (cs.drop o):=by
 induction h with
 |nil=>
  intro cs n hl _;refine⟨(),?_⟩;simp only[kS]at hl;rw[List.drop_of_length_le (by omega)];exact .nil
 | @cons o f fs X Y e e' ho h t ih=>
  intro cs n hl hf;simp only[kS]at hl;obtain⟨x,hx⟩:=hf f Ap;obtain⟨y,hy⟩:=h.one n _ _ hx;obtain⟨z,hz⟩:=ih cs n (by omega) (fun g hg=>hf g (Aw _ hg));refine⟨(y,z),?_⟩;have:=hy.append hz;rw[ho]at this;rw[show List.drop o cs=List.take (P.cellsOf f.type) (List.drop o cs)++List.drop (o+P.cellsOf f.type) cs by rw[<-Es,Ds]];exact this
theorem dI.struct {t:TypeId} {fs:Array Field} {X:Type} {e:X->List SV} (ht:P.underlying t=some (.struct fs)) (hc:P.cellsOf t=kS P fs.toList) (h:jD P w base spare held enc Fz N 0 fs.toList X e):iD enc P w base spare held Fz N t X e:=by
 refine⟨fun fuel cs x hx=>?_⟩;obtain⟨xs,n,_,_,hl,hn,hg⟩:=DataW.trod_struct ht hx;have:=h.run cs n (by rw[hl,hc];simp) (fun f hf=>by
  obtain⟨i,hi⟩:=List.getElem?_of_mem hf;have h1:=hg i f (by simpa using hi);have hlt:i<fs.size:=by
   have:=(Ah.1 hi).1;simpa using this
  rw[Af (by omega)]at h1;exact⟨_,h1⟩)
 simpa using this
end
end Go.Sy
namespace Go.Sy
open Go.Am Go.RowKit
end Go.Sy
namespace Go.Sy
open Go.Am Go.RowKit
variable [Inhabited aI]
section
variable {H:Type} {enc:TypeId×Value->H} {P:Program} {tab:bc} {w:World} {base:Nat} {spare:Nat->Bool} {held:Bool}
theorem FP {a:Addr} {k:Nat} {u:Value} (hs:a.spot=none) (h:w.cell? (a.add k)=some u):∃arr e fz,w.heap[a.block]? =some (.cells arr e fz)/\arr[a.off+k]? =some u:=by
 obtain⟨b,o,s⟩:=a;simp only at hs;subst hs;have e2:(⟨b,o,none⟩:Addr).add k=⟨b,o+k,none⟩:=by unfold Addr.add;split<;>simp_all
 rw[e2]at h;unfold World.cell? at h;split at h
 . rename_i arr e fz hb;simp only[A2,Ao,AP]at h;exact⟨arr,e,fz,hb,h⟩
 . cases h
theorem dI.slice {t e n:Nat} (ht:P.underlying t=some (.slice e)) (hn:P.cellsOf e=n) (h0:0<n) {X:Type} {ex:X->List SV} (hx:∀x,(ex x).length=n)
   (h:iD enc P w base spare held (bV tab w).get w.heap.size e X ex):iD enc P w base spare held (bV tab w).get w.heap.size t (List X) (fun L=>[.aH X L ex]):=by
 refine⟨fun fuel cs x hd=>?_⟩;rcases DataW.trod_slice ht hd with⟨rfl,_⟩|⟨a,len,cap,elems,rest,m,_,rfl,_,hb,hle,hc,hel,hi,_,_⟩
 . exact⟨[], .cons (.bT rfl (.inl rfl)) .nil⟩
 . have each:∀i:Fin len,∃y:X,∃cs',w.cells? base (a.add (i.val*n)) n=some cs'/\fP (bV tab w).get w.heap.size (ex y) cs':=by
     intro i;have h1:=hi i.val i.isLt;rw[Af (by rw[hel];exact i.isLt)]at h1;obtain⟨cs',h2,h3⟩:=DQ.1 h1;rw[hn]at h2;obtain⟨y,hy⟩:=h.one _ _ _ h3;exact⟨y,cs',h2,hy⟩
   obtain⟨f,hf⟩:=Classical.skolem.1 each;by_cases hl:len=0
   . subst hl;exact⟨[], .cons (.bT rfl (.inr (.inr ⟨some a,cap,wQ _ _ _⟩))) .nil⟩
   . have cell:∀(i:Fin len) (j:Nat) v,(ex (f i))[j]? =some v->∃u,w.cell? ((a.add (i.val*n)).add j)=some u/\aL (bV tab w).get v (cQ w.heap.size u):=by
      intro i j v hv;obtain⟨cs',h2,h3⟩:=hf i;have hj:j<n:=by rw[<-hx (f i)];exact(Ah.1 hv).1
      unfold World.cells? at h2;split at h2
      . have h4:=mapM_some_get h2 j j (by simp[hj]);have hlt:j<cs'.length:=by rw[<-h3.1,hx];exact hj
        rw[Af hlt]at h4;exact⟨_,h4,h3.2 j v _ hv (Af hlt)⟩
      . cases h2
     have hadd:∀i j,(a.add i).add j=a.add (i+j):=by
      intro i j;unfold Addr.add;by_cases hi:i=0
      . subst hi;simp
      . by_cases hj:j=0
        . subst hj;simp[hi]
        . simp[hi,hj,BM]
     have hl0:0<(ex (f ⟨0,by omega⟩)).length:=by rw[hx (f ⟨0,by omega⟩)];exact h0
     obtain⟨v0,hv0⟩:∃v,(ex (f ⟨0,by omega⟩))[0]? =some v:=⟨_,Af hl0⟩;obtain⟨u0,hu0,_⟩:=cell ⟨0,by omega⟩ 0 v0 hv0;rw[hadd]at hu0;have hspot:a.spot=none:=by
      have:=World.cell?_spot hu0;simpa [Addr.add]using this
     obtain⟨arr,et,fz,hblk,_⟩:=FP hspot hu0;have hcell:∀(i:Nat) x (j:Nat) v,(List.ofFn f)[i]? =some x->(ex x)[j]? =some v->∃u,arr[a.off+i*n+j]? =some u/\aL (bV tab w).get v (cQ w.heap.size u):=by
      intro i x j v hx' hv;have hil:i<len:=by have:=(Ah.1 hx').1;simpa using this
      have hxe:x=f ⟨i,hil⟩:=by
        rw[Af (by simpa using hil)]at hx';simpa using(Di hx').symm
      subst hxe;obtain⟨u,hu,hs⟩:=cell ⟨i,hil⟩ j v hv;rw[hadd]at hu;obtain⟨arr',et',fz',hblk',hu'⟩:=FP hspot hu;rw[hblk]at hblk'
      cases hblk';exact⟨u,by rw[BM];exact hu',hs⟩
     refine⟨List.ofFn f, .cons ?_ .nil⟩;have hspec:(⟨a.block,a.off,none⟩:Addr)=a:=by obtain⟨b,o,s⟩:=a;simp only at hspot;subst hspot;rfl
     rw [<-hspec];have hlast:a.off+(List.ofFn f).length*n<=arr.size:=by
      have hl1:n - 1<(ex (f ⟨len - 1,by omega⟩)).length:=by rw[hx (f ⟨len - 1,by omega⟩)];omega
      obtain⟨v1,hv1⟩:∃v,(ex (f ⟨len - 1,by omega⟩))[n - 1]? =some v:=⟨_,Af hl1⟩;obtain⟨u1,hu1,_⟩:=hcell (len - 1) (f ⟨len - 1,by omega⟩) (n - 1) v1 (by rw[Af (by simp;omega)];simp) hv1;have:=(Ac.1 hu1).1;simp only[List.length_ofFn];have e3:len*n=(len - 1)*n+n:=by
        conv=>lhs;rw[show len=(len - 1)+1 by omega]
        rw[Be,Dy]
      omega
     exact xc hblk h0 (fun x _=>hx x) hlast (by simp) hle hcell
end
end Go.Sy
namespace Go.Proofs.MpL
open Go Go.Am Go.ChangeShapes Go.WideShapes Go.ChangeAt Go.RowKit
open Go.Sy hiding ask
section
instance noDr:Inhabited aI:=⟨⟨False,#[]⟩⟩
section
variable {H:Type} {enc:TypeId×Value->H} {w:World} {base:Nat} {spare:Nat->Bool} {held:Bool} {Fz:Nat->Option AO} {N:Nat}
theorem vx:dI Tryz.prog w base spare held enc Fz N 47 bg bg.enc:=
 dI.map (dI.struct Tryz.underlying47 (by kernel_rfl)
  (.cons (by kernel_rfl) (dI.str Tryz.underlying9) (.cons (by kernel_rfl) (dI.str Tryz.underlying9) (.cons (by kernel_rfl) (dI.str Tryz.underlying9) .nil)))) (fun x=>⟨x.1,x.2.1,x.2.2.1⟩) (fun x=>rfl)
theorem M6:dI Tryz.prog w base spare held enc Fz N 49 db db.enc:=
 dI.map (dI.struct Tryz.underlying49 (by kernel_rfl)
  (.cons (by kernel_rfl) (dI.str Tryz.underlying9) (.cons (by kernel_rfl) (dI.bool Tryz.underlying4) (.cons (by kernel_rfl) (dI.bool Tryz.underlying4) (.cons (by kernel_rfl) (dI.bool Tryz.underlying4) (.cons (by kernel_rfl) (dI.bool Tryz.underlying4)
   (.cons (by kernel_rfl) (dI.int Tryz.underlying3) (.cons (by kernel_rfl) (dI.int Tryz.underlying3) (.cons (by kernel_rfl) (dI.int Tryz.underlying3) .nil))))))))) (fun x=>⟨x.1,x.2.1,x.2.2.1,x.2.2.2.1,x.2.2.2.2.1,x.2.2.2.2.2.1,x.2.2.2.2.2.2.1,x.2.2.2.2.2.2.2.1⟩) (fun x=>rfl)
theorem qF:dI Tryz.prog w base spare held enc Fz N 71 ak ak.enc:=
 dI.map (dI.struct Tryz.underlying71 (by kernel_rfl)
  (.cons (by kernel_rfl) (dI.struct Tryz.underlying69 (by kernel_rfl) (.cons (by kernel_rfl) (dI.int Tryz.underlying3) (.cons (by kernel_rfl) (dI.int Tryz.underlying3) .nil))) (.cons (by kernel_rfl) (dI.int Tryz.underlying3) .nil))) (fun x=>⟨x.1.1,x.1.2.1,x.2.1⟩) (fun x=>rfl)
theorem Oz:dI Tryz.prog w base spare held enc Fz N 73 dm (fun s=>[.int .i64 s.wall, .int .i64 s.count, .int .i64 s.dev]):=
 dI.map (dI.struct Tryz.underlying73 (by kernel_rfl)
  (.cons (by kernel_rfl) (dI.int Tryz.underlying3) (.cons (by kernel_rfl) (dI.int Tryz.underlying3) (.cons (by kernel_rfl) (dI.int Tryz.underlying3) .nil)))) (fun x=>⟨x.1,x.2.1,x.2.2.1⟩) (fun x=>rfl)
theorem P9:dI Tryz.prog w base spare held enc (bV Tryz.tab w).get w.heap.size 36 (List ak) (fun L=>[.aH ak L ak.enc]):=dI.slice Tryz.underlying36 (show Tryz.prog.cellsOf 71=3 by kernel_rfl) (by omega) (fun _=>rfl) qF
theorem Oy:dI Tryz.prog w base spare held enc (bV Tryz.tab w).get w.heap.size 75 ae ae.enc:=
 dI.map (dI.struct Tryz.underlying75 (by kernel_rfl)
  (.cons (by kernel_rfl) qF (.cons (by kernel_rfl) Oz (.cons (by kernel_rfl) (dI.int Tryz.underlying3) (.cons (by kernel_rfl) vx (.cons (by kernel_rfl) M6 (.cons (by kernel_rfl) P9 .nil))))))) (fun x=>⟨x.1,x.2.1,x.2.2.1,x.2.2.2.1,x.2.2.2.2.1,x.2.2.2.2.2.1⟩) (fun x=>rfl)
theorem l9:dI Tryz.prog w base spare held enc (bV Tryz.tab w).get w.heap.size 32 (List ae) (fun L=>[.aH ae L ae.enc]):=dI.slice Tryz.underlying32 (show Tryz.prog.cellsOf 75=19 by kernel_rfl) (by omega) (fun _=>rfl) Oy
theorem zm {b0:Nat} {r:Reach} {v:Value} {d:DataW H} {p:List MemPlace} (hv:Value.okWide Tryz.prog w r b0 32 v) (h:DataW.Trod enc Tryz.prog w base spare held 32 v d p):
  ∃l:List ae,dV w l v:=by
 obtain⟨a,n,c,rfl⟩:=okWide_slice Tryz.underlying32 hv;obtain⟨fuel,hf⟩:=h;obtain⟨l,hl⟩:=l9.one _ _ _ hf;exact⟨l,Gu (Pa (hl.2 0 _ _ rfl rfl))⟩
end
end
end Go.Proofs.MpL
