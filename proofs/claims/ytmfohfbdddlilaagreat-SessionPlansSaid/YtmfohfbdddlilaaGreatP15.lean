/- Part 15: an evaluator, proved sound, and its use at this seat; no condition. -/
import Derived.DataReads
import Derived.ChangeArms
import Derived.ProofKit
import Derived.OpenShut
import Derived.Test.YtmfohfbdddlilaaGreatP2
import Derived.Test.YtmfohfbdddlilaaGreatP14
set_option linter.unusedSimpArgs false
set_option linter.unusedVariables false
set_option linter.unusedSectionVars false
set_option linter.deprecated false
set_option maxRecDepth 100000
namespace Go.Sy
open Go.Am Go.RowKit
universe u v
section
variable {H:Type} {enc:TypeId×Value->H} {P:Program} {w:World} {base:Nat} {spare:Nat->Bool} {held:Bool} {Fz:Nat->Option AO} {N:Nat}
def gI (Fz:Nat->Option AO) (N:Nat) (l:List SV) (cs:List Value):Prop:=l.length=cs.length/\ ∀(j:Nat) v u,l[j]? =some v->cs[j]? =some u->aT Fz v (cU N u)
theorem gI.nil:gI Fz N [] []:=⟨rfl,fun j v u h=>by simp at h⟩
theorem gI.cons {s:SV} {v:Value} {l:List SV} {m:List Value} (h:aT Fz s (cU N v)) (t:gI Fz N l m):gI Fz N (s::l) (v::m):=by
 refine⟨by simp[t.1],fun i a b ha hb=>?_⟩
 cases i with
 |zero=>simp at ha hb;subst ha;subst hb;exact h
 |succ i=>exact t.2 i a b (by simpa using ha) (by simpa using hb)
theorem gI.append {l l':List SV} {m m':List Value} (h:gI Fz N l m) (h':gI Fz N l' m'):gI Fz N (l++l') (m++m'):=by
 refine⟨by simp[h.1,h'.1],fun i a b ha hb=>?_⟩;by_cases hi:i<l.length
 . rw[AW hi]at ha;rw[AW (by rw[<-h.1];exact hi)]at hb;exact h.2 i a b ha hb
 . rw[Bk (by omega)]at ha;rw[Bk (by rw[<-h.1];omega),<-h.1]at hb;exact h'.2 _ a b ha hb
structure dK (P:Program) (w:World) (base:Nat) (spare:Nat->Bool) (held:Bool) {H:Type} (henc:TypeId×Value->H) (Fz:Nat->Option AO) (N:Nat) (t:TypeId) (X:Type) (enc:X->List SV):Prop where
 one:∀fuel cs x,DataW.trod henc P w base spare held fuel t cs=some x->∃y:X,gI Fz N (enc y) cs
variable (enc) in
abbrev jQ (P:Program) (w:World) (base:Nat) (spare:Nat->Bool) (held:Bool) (Fz:Nat->Option AO) (N:Nat) (t:TypeId) (X:Type) (e:X->List SV):Prop:=dK P w base spare held enc Fz N t X e
theorem dK.bool {t:TypeId} (ht:P.underlying t=some .bool):jQ enc P w base spare held Fz N t Bool (fun b=>[.bool b]):=by
 refine⟨fun fuel cs x h=>?_⟩;obtain⟨b,rfl,_⟩:=DataW.trod_bool ht h;exact⟨b, .cons (.bool b) .nil⟩
theorem dK.int {t:TypeId} {k:IntKind} (ht:P.underlying t=some (.int k)):jQ enc P w base spare held Fz N t Int (fun b=>[.int k b]):=by
 refine⟨fun fuel cs x h=>?_⟩;obtain⟨b,rfl,_⟩:=DataW.trod_int ht h;exact⟨b, .cons (.int k b) .nil⟩
theorem dK.str {t:TypeId} (ht:P.underlying t=some .string):jQ enc P w base spare held Fz N t (List UInt8) (fun b=>[.str b]):=by
 refine⟨fun fuel cs x h=>?_⟩;obtain⟨s,rfl,_⟩:=DataW.trod_string ht h;exact⟨s.data.toList, .cons (.str _) .nil⟩
theorem dK.map {t:TypeId} {X Y:Type} {e:X->List SV} {e':Y->List SV} (h:jQ enc P w base spare held Fz N t X e) (f:X->Y) (hf:∀x,e' (f x)=e x):jQ enc P w base spare held Fz N t Y e':=by
 refine⟨fun fuel cs x hx=>?_⟩;obtain⟨y,hy⟩:=h.one fuel cs x hx;exact⟨f y,by rw[hf];exact hy⟩
inductive ll (P:Program) (w:World) (base:Nat) (spare:Nat->Bool) (held:Bool) {H:Type} (henc:TypeId×Value->H) (Fz:Nat->Option AO) (N:Nat):Nat->List Field->(X:Type)->(X->List SV)->Prop
 |nil {o:Nat}:ll P w base spare held henc Fz N o [] Unit (fun _=>[])
 |cons {o:Nat} {f:Field} {fs:List Field} {X Y:Type} {e:X->List SV} {e':Y->List SV} (ho:f.offset=o) (h:dK P w base spare held henc Fz N f.type X e) (t:ll P w base spare held henc Fz N (o+P.cellsOf f.type) fs Y e'):
  ll P w base spare held henc Fz N o (f::fs) (X×Y) (fun y=>e y.1++e' y.2)
def mB (P:Program):List Field->Nat
 |[]=>0
 |f::fs=>P.cellsOf f.type+mB P fs
theorem ll.run {o:Nat} {fs:List Field} {X:Type} {e:X->List SV} (h:ll P w base spare held enc Fz N o fs X e):∀(cs:List Value) (n:Nat),cs.length=o+mB P fs->
  (∀f∈fs,∃x,DataW.trod enc P w base spare held n f.type ((cs.drop f.offset).take (P.cellsOf f.type))=some x)->∃y:X,gI Fz N (e y) (cs.drop o):=by
 induction h with
 |nil=>
  intro cs n hl _;refine⟨(),?_⟩;simp only[mB]at hl;rw[List.drop_of_length_le (by omega)];exact .nil
 | @cons o f fs X Y e e' ho h t ih=>
  intro cs n hl hf;simp only[mB]at hl;obtain⟨x,hx⟩:=hf f Ar;obtain⟨y,hy⟩:=h.one n _ _ hx;obtain⟨z,hz⟩:=ih cs n (by omega) (fun g hg=>hf g (AB _ hg));refine⟨(y,z),?_⟩;have:=hy.append hz;rw[ho]at this;rw[show List.drop o cs=List.take (P.cellsOf f.type) (List.drop o cs)++List.drop (o+P.cellsOf f.type) cs by rw[<-DU,Dh]];exact this
theorem dK.struct {t:TypeId} {fs:Array Field} {X:Type} {e:X->List SV} (ht:P.underlying t=some (.struct fs)) (hc:P.cellsOf t=mB P fs.toList) (h:ll P w base spare held enc Fz N 0 fs.toList X e):jQ enc P w base spare held Fz N t X e:=by
 refine⟨fun fuel cs x hx=>?_⟩;obtain⟨xs,n,_,_,hl,hn,hg⟩:=DataW.trod_struct ht hx;have:=h.run cs n (by rw[hl,hc];simp) (fun f hf=>by
  obtain⟨i,hi⟩:=List.getElem?_of_mem hf;have h1:=hg i f (by simpa using hi);have hlt:i<fs.size:=by
   have:=(Ae.1 hi).1;simpa using this
  rw[Af (by omega)]at h1;exact⟨_,h1⟩)
 simpa using this
end
end Go.Sy
namespace Go.Sy
open Go.Am Go.RowKit
theorem VA {Fz:Nat->Option AO} {N:Nat} {l:List SV} {cs:Array Value} (h:gI Fz N l cs.toList):aT Fz (.agg l) (dy N (.agg cs)):=by
 unfold dy;refine .agg (by simpa using h.1) (fun i c v hc hv=>?_);rw[AR]at hv;obtain⟨u,hu,rfl⟩:=A1.1 hv;exact h.2 i c u hc hu
end Go.Sy
namespace Go.Sy
open Go.Am Go.RowKit
variable [Inhabited aL]
section
variable {H:Type} {enc:TypeId×Value->H} {P:Program} {tab:bC} {w:World} {base:Nat} {spare:Nat->Bool} {held:Bool}
theorem LF {a:Addr} {k:Nat} {u:Value} (hs:a.spot=none) (h:w.cell? (a.add k)=some u):∃arr e fz,w.heap[a.block]? =some (.cells arr e fz)/\arr[a.off+k]? =some u:=by
 obtain⟨b,o,s⟩:=a;simp only at hs;subst hs;have e2:(⟨b,o,none⟩:Addr).add k=⟨b,o+k,none⟩:=by unfold Addr.add;split<;>simp_all
 rw[e2]at h;unfold World.cell? at h;split at h
 . rename_i arr e fz hb;simp only[A2,Ao,AK]at h;exact⟨arr,e,fz,hb,h⟩
 . cases h
theorem dK.slice {t e n:Nat} (ht:P.underlying t=some (.slice e)) (hn:P.cellsOf e=n) (h0:0<n) {X:Type} {ex:X->List SV} (hx:∀x,(ex x).length=n)
   (h:jQ enc P w base spare held (bW tab w).get w.heap.size e X ex):jQ enc P w base spare held (bW tab w).get w.heap.size t (List X) (fun L=>[.aj X L ex]):=by
 refine⟨fun fuel cs x hd=>?_⟩;rcases DataW.trod_slice ht hd with⟨rfl,_⟩|⟨a,len,cap,elems,rest,m,_,rfl,_,hb,hle,hc,hel,hi,_,_⟩
 . exact⟨[], .cons (.cf rfl (.inl rfl)) .nil⟩
 . have each:∀i:Fin len,∃y:X,∃cs',w.cells? base (a.add (i.val*n)) n=some cs'/\gI (bW tab w).get w.heap.size (ex y) cs':=by
     intro i;have h1:=hi i.val i.isLt;rw[Af (by rw[hel];exact i.isLt)]at h1;obtain⟨cs',h2,h3⟩:=En.1 h1;rw[hn]at h2;obtain⟨y,hy⟩:=h.one _ _ _ h3;exact⟨y,cs',h2,hy⟩
   obtain⟨f,hf⟩:=Classical.skolem.1 each;by_cases hl:len=0
   . subst hl;exact⟨[], .cons (.cf rfl (.inr (.inr ⟨some a,cap,wB _ _ _⟩))) .nil⟩
   . have cell:∀(i:Fin len) (j:Nat) v,(ex (f i))[j]? =some v->∃u,w.cell? ((a.add (i.val*n)).add j)=some u/\aT (bW tab w).get v (cU w.heap.size u):=by
      intro i j v hv;obtain⟨cs',h2,h3⟩:=hf i;have hj:j<n:=by rw[<-hx (f i)];exact(Ae.1 hv).1
      unfold World.cells? at h2;split at h2
      . have h4:=mapM_some_get h2 j j (by simp[hj]);have hlt:j<cs'.length:=by rw[<-h3.1,hx];exact hj
        rw[Af hlt]at h4;exact⟨_,h4,h3.2 j v _ hv (Af hlt)⟩
      . cases h2
     have hadd:∀i j,(a.add i).add j=a.add (i+j):=by
      intro i j;unfold Addr.add;by_cases hi:i=0
      . subst hi;simp
      . by_cases hj:j=0
        . subst hj;simp[hi]
        . simp[hi,hj,De]
     have hl0:0<(ex (f ⟨0,by omega⟩)).length:=by rw[hx (f ⟨0,by omega⟩)];exact h0
     obtain⟨v0,hv0⟩:∃v,(ex (f ⟨0,by omega⟩))[0]? =some v:=⟨_,Af hl0⟩;obtain⟨u0,hu0,_⟩:=cell ⟨0,by omega⟩ 0 v0 hv0;rw[hadd]at hu0;have hspot:a.spot=none:=by
      have:=World.cell?_spot hu0;simpa [Addr.add]using this
     obtain⟨arr,et,fz,hblk,_⟩:=LF hspot hu0;have hcell:∀(i:Nat) x (j:Nat) v,(List.ofFn f)[i]? =some x->(ex x)[j]? =some v->∃u,arr[a.off+i*n+j]? =some u/\aT (bW tab w).get v (cU w.heap.size u):=by
      intro i x j v hx' hv;have hil:i<len:=by have:=(Ae.1 hx').1;simpa using this
      have hxe:x=f ⟨i,hil⟩:=by
        rw[Af (by simpa using hil)]at hx';simpa using(DE hx').symm
      subst hxe;obtain⟨u,hu,hs⟩:=cell ⟨i,hil⟩ j v hv;rw[hadd]at hu;obtain⟨arr',et',fz',hblk',hu'⟩:=LF hspot hu;rw[hblk]at hblk'
      cases hblk';exact⟨u,by rw[De];exact hu',hs⟩
     refine⟨List.ofFn f, .cons ?_ .nil⟩;have hspec:(⟨a.block,a.off,none⟩:Addr)=a:=by obtain⟨b,o,s⟩:=a;simp only at hspot;subst hspot;rfl
     rw [<-hspec];have hlast:a.off+(List.ofFn f).length*n<=arr.size:=by
      have hl1:n - 1<(ex (f ⟨len - 1,by omega⟩)).length:=by rw[hx (f ⟨len - 1,by omega⟩)];omega
      obtain⟨v1,hv1⟩:∃v,(ex (f ⟨len - 1,by omega⟩))[n - 1]? =some v:=⟨_,Af hl1⟩;obtain⟨u1,hu1,_⟩:=hcell (len - 1) (f ⟨len - 1,by omega⟩) (n - 1) v1 (by rw[Af (by simp;omega)];simp) hv1;have:=(Ad.1 hu1).1;simp only[List.length_ofFn];have e3:len*n=(len - 1)*n+n:=by
        conv=>lhs;rw[show len=(len - 1)+1 by omega]
        rw[By,D2]
      omega
     exact wU hblk h0 (fun x _=>hx x) hlast (by simp) hle hcell
end
end Go.Sy
namespace Go.Proofs.PlL
open Go Go.Am Go.ChangeShapes Go.WideShapes Go.ChangeAt Go.RowKit
open Go.Sy hiding ask
section
instance noDr:Inhabited aL:=⟨⟨False,#[]⟩⟩
section
variable {H:Type} {enc:TypeId×Value->H} {w:World} {base:Nat} {spare:Nat->Bool} {held:Bool} {Fz:Nat->Option AO} {N:Nat}
theorem yL:dK Tryz.prog w base spare held enc Fz N 24 aA aA.enc:=
 dK.map (dK.struct Tryz.underlying24 (by kernel_rfl)
  (.cons (by kernel_rfl) (dK.str Tryz.underlying9) (.cons (by kernel_rfl) (dK.str Tryz.underlying9) (.cons (by kernel_rfl) (dK.str Tryz.underlying9) .nil)))) (fun x=>⟨x.1,x.2.1,x.2.2.1⟩) (fun x=>rfl)
theorem Xb:dK Tryz.prog w base spare held enc Fz N 39 bo bo.enc:=
 dK.map (dK.struct Tryz.underlying39 (by kernel_rfl)
  (.cons (by kernel_rfl) (dK.str Tryz.underlying9) (.cons (by kernel_rfl) (dK.bool Tryz.underlying4) (.cons (by kernel_rfl) (dK.bool Tryz.underlying4) (.cons (by kernel_rfl) (dK.bool Tryz.underlying4) (.cons (by kernel_rfl) (dK.bool Tryz.underlying4)
   (.cons (by kernel_rfl) (dK.int Tryz.underlying3) (.cons (by kernel_rfl) (dK.int Tryz.underlying3) (.cons (by kernel_rfl) (dK.int Tryz.underlying3) .nil))))))))) (fun x=>⟨x.1,x.2.1,x.2.2.1,x.2.2.2.1,x.2.2.2.2.1,x.2.2.2.2.2.1,x.2.2.2.2.2.2.1,x.2.2.2.2.2.2.2.1⟩) (fun x=>rfl)
theorem tl:dK Tryz.prog w base spare held enc Fz N 35 ar ar.enc:=
 dK.map (dK.struct Tryz.underlying35 (by kernel_rfl)
  (.cons (by kernel_rfl) (dK.struct Tryz.underlying33 (by kernel_rfl) (.cons (by kernel_rfl) (dK.int Tryz.underlying3) (.cons (by kernel_rfl) (dK.int Tryz.underlying3) .nil))) (.cons (by kernel_rfl) (dK.int Tryz.underlying3) .nil))) (fun x=>⟨x.1.1,x.1.2.1,x.2.1⟩) (fun x=>rfl)
theorem Zu:dK Tryz.prog w base spare held enc Fz N 37 dJ (fun s=>[.int .i64 s.wall, .int .i64 s.count, .int .i64 s.dev]):=
 dK.map (dK.struct Tryz.underlying37 (by kernel_rfl)
  (.cons (by kernel_rfl) (dK.int Tryz.underlying3) (.cons (by kernel_rfl) (dK.int Tryz.underlying3) (.cons (by kernel_rfl) (dK.int Tryz.underlying3) .nil)))) (fun x=>⟨x.1,x.2.1,x.2.2.1⟩) (fun x=>rfl)
theorem O0:dK Tryz.prog w base spare held enc (bW Tryz.tab w).get w.heap.size 40 (List ar) (fun L=>[.aj ar L ar.enc]):=dK.slice Tryz.underlying40 (show Tryz.prog.cellsOf 35=3 by kernel_rfl) (by omega) (fun _=>rfl) tl
theorem Zs:dK Tryz.prog w base spare held enc (bW Tryz.tab w).get w.heap.size 42 ae ae.enc:=
 dK.map (dK.struct Tryz.underlying42 (by kernel_rfl)
  (.cons (by kernel_rfl) tl (.cons (by kernel_rfl) Zu (.cons (by kernel_rfl) (dK.int Tryz.underlying3) (.cons (by kernel_rfl) yL (.cons (by kernel_rfl) Xb (.cons (by kernel_rfl) O0 .nil))))))) (fun x=>⟨x.1,x.2.1,x.2.2.1,x.2.2.2.1,x.2.2.2.2.1,x.2.2.2.2.2.1⟩) (fun x=>rfl)
theorem Xc:dK Tryz.prog w base spare held enc (bW Tryz.tab w).get w.heap.size 22 (List ae) (fun L=>[.aj ae L ae.enc]):=dK.slice Tryz.underlying22 (show Tryz.prog.cellsOf 42=19 by kernel_rfl) (by omega) (fun _=>rfl) Zs
theorem Zt:dK Tryz.prog w base spare held enc (bW Tryz.tab w).get w.heap.size 70 (List Bs) (fun L=>[.aj Bs L aS]):=dK.slice Tryz.underlying70 (show Tryz.prog.cellsOf 9=1 by kernel_rfl) (by omega) (fun _=>rfl) (dK.str Tryz.underlying9)
theorem XB:dK Tryz.prog w base spare held enc (bW Tryz.tab w).get w.heap.size 72 az az.enc:=
 dK.map (dK.struct Tryz.underlying72 (by kernel_rfl)
  (.cons (by kernel_rfl) (dK.int Tryz.underlying3) (.cons (by kernel_rfl) (dK.int Tryz.underlying3) (.cons (by kernel_rfl) (dK.int Tryz.underlying3) (.cons (by kernel_rfl) Zt .nil))))) (fun x=>⟨x.1,x.2.1,x.2.2.1,x.2.2.2.1⟩) (fun x=>rfl)
theorem yK:dK Tryz.prog w base spare held enc (bW Tryz.tab w).get w.heap.size 89 (az×List ae) (fun x=>x.1.enc++[cL x.2]):=
 dK.map (dK.struct Tryz.underlying89 (by kernel_rfl) (.cons (by kernel_rfl) XB (.cons (by kernel_rfl) Xc .nil))) (fun x=>(x.1,x.2.1)) (fun x=>rfl)
theorem U3 {b0:Nat} {r:Reach} {v:Value} {d:DataW H} {p:List MemPlace} (hv:Value.okWide Tryz.prog w r b0 89 v) (h:DataW.Trod enc Tryz.prog w base spare held 89 v d p):
  ∃(c:az) (l:List ae) (rv ev:Value),v= .agg #[.int .i64 c.aB, .int .i64 c.domain, .int .i64 c.total,rv,ev]/\ec w c rv/\eW w l ev:=by
 obtain⟨cs,rfl,hsz⟩:=okWide_struct Tryz.underlying89 hv;obtain⟨fuel,hf⟩:=h;obtain⟨⟨c,l⟩,hl⟩:=yK.one _ _ _ hf;obtain⟨rv,ev,e,h1,h2⟩:=Uh (YZ (VA hl));exact⟨c,l,rv,ev,e,h1,h2⟩
theorem Uv {b0:Nat} {r:Reach} {v:Value} (hv:Value.okWide Tryz.prog w r b0 9 v):∃d:Bs,v= .string ⟨d.toArray⟩:=by
 obtain⟨s,rfl⟩:=okWide_string Tryz.underlying9 hv;exact⟨s.data.toList,by simp⟩
end
end
end Go.Proofs.PlL
