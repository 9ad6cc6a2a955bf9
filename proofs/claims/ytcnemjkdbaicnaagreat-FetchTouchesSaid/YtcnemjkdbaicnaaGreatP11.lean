/- Part 11: an evaluator, proved sound, and its use at this seat; no condition. -/
import Derived.DataReads
import Derived.ChangeArms
import Derived.ProofKit
import Derived.OpenShut
import Derived.Test.YtcnemjkdbaicnaaGreatP2
import Derived.Test.YtcnemjkdbaicnaaGreatP10
set_option linter.unusedSimpArgs false
set_option linter.unusedVariables false
set_option linter.unusedSectionVars false
set_option linter.deprecated false
set_option maxRecDepth 100000
namespace Go.Sy
open Go.Am Go.RowKit
universe u v
section
variable {H:Type} {enc:TypeId×Value->H} {P:Program} {w:World} {base:Nat} {spare:Nat->Bool} {held:Bool} {Fz:Nat->Option AO} {N:Nat}
def gJ (Fz:Nat->Option AO) (N:Nat) (l:List SV) (cs:List Value):Prop:=l.length=cs.length/\ ∀(j:Nat) v u,l[j]? =some v->cs[j]? =some u->aO Fz v (dK N u)
theorem gJ.nil:gJ Fz N [] []:=⟨rfl,fun j v u h=>by grind⟩
theorem gJ.cons {s:SV} {v:Value} {l:List SV} {m:List Value} (h:aO Fz s (dK N v)) (t:gJ Fz N l m):gJ Fz N (s::l) (v::m):=by
 refine⟨by simp[t.1],fun i a b ha hb=>?_⟩
 cases i with
 |zero=>grind
 |succ i=>exact t.2 i a b (by grind) (by grind)
theorem gJ.append {l l':List SV} {m m':List Value} (h:gJ Fz N l m) (h':gJ Fz N l' m'):gJ Fz N (l++l') (m++m'):=by
 refine⟨by simp[h.1,h'.1],fun i a b ha hb=>?_⟩;by_cases hi:i<l.length
 . rw[AX hi]at ha;rw[AX (by rw[<-h.1];exact hi)]at hb;exact h.2 i a b ha hb
 . rw[Bd (by omega)]at ha;rw[Bd (by rw[<-h.1];omega),<-h.1]at hb;exact h'.2 _ a b ha hb
structure cX (P:Program) (w:World) (base:Nat) (spare:Nat->Bool) (held:Bool) {H:Type} (henc:TypeId×Value->H) (Fz:Nat->Option AO) (N:Nat) (t:TypeId) (X:Type) (enc:X->List SV):Prop where
 one:∀fuel cs x,DataW.trod henc P w base spare held fuel t cs=some x->∃y:X,gJ Fz N (enc y) cs
variable (enc) in
abbrev kh (P:Program) (w:World) (base:Nat) (spare:Nat->Bool) (held:Bool) (Fz:Nat->Option AO) (N:Nat) (t:TypeId) (X:Type) (e:X->List SV):Prop:=cX P w base spare held enc Fz N t X e
theorem cX.bool {t:TypeId} (ht:P.underlying t=some .bool):kh enc P w base spare held Fz N t Bool (fun b=>[.bool b]):=by
 refine⟨fun fuel cs x h=>?_⟩;obtain⟨b,rfl,_⟩:=DataW.trod_bool ht h;exact⟨b, .cons (.bool b) .nil⟩
theorem cX.int {t:TypeId} {k:IntKind} (ht:P.underlying t=some (.int k)):kh enc P w base spare held Fz N t Int (fun b=>[.int k b]):=by
 refine⟨fun fuel cs x h=>?_⟩;obtain⟨b,rfl,_⟩:=DataW.trod_int ht h;exact⟨b, .cons (.int k b) .nil⟩
theorem cX.str {t:TypeId} (ht:P.underlying t=some .string):kh enc P w base spare held Fz N t (List UInt8) (fun b=>[.str b]):=by
 refine⟨fun fuel cs x h=>?_⟩;obtain⟨s,rfl,_⟩:=DataW.trod_string ht h;exact⟨s.data.toList, .cons (.str _) .nil⟩
theorem cX.map {t:TypeId} {X Y:Type} {e:X->List SV} {e':Y->List SV} (h:kh enc P w base spare held Fz N t X e) (f:X->Y) (hf:∀x,e' (f x)=e x):kh enc P w base spare held Fz N t Y e':=by
 refine⟨fun fuel cs x hx=>?_⟩;obtain⟨y,hy⟩:=h.one fuel cs x hx;grind
inductive lG (P:Program) (w:World) (base:Nat) (spare:Nat->Bool) (held:Bool) {H:Type} (henc:TypeId×Value->H) (Fz:Nat->Option AO) (N:Nat):Nat->List Field->(X:Type)->(X->List SV)->Prop
 |nil {o:Nat}:lG P w base spare held henc Fz N o [] Unit (fun _=>[])
 |cons {o:Nat} {f:Field} {fs:List Field} {X Y:Type} {e:X->List SV} {e':Y->List SV} (ho:f.offset=o) (h:cX P w base spare held henc Fz N f.type X e) (t:lG P w base spare held henc Fz N (o+P.cellsOf f.type) fs Y e'):
  lG P w base spare held henc Fz N o (f::fs) (X×Y) (fun y=>e y.1++e' y.2)
def mS (P:Program):List Field->Nat
 |[]=>0
 |f::fs=>P.cellsOf f.type+mS P fs
theorem lG.run {o:Nat} {fs:List Field} {X:Type} {e:X->List SV} (h:lG P w base spare held enc Fz N o fs X e):∀(cs:List Value) (n:Nat),cs.length=o+mS P fs->
  (∀f∈fs,∃x,DataW.trod enc P w base spare held n f.type ((cs.drop f.offset).take (P.cellsOf f.type))=some x)->∃y:X,gJ Fz N (e y) (cs.drop o):=by
 induction h with
 |nil=>
  intro cs n hl _;refine⟨(),?_⟩;simp only[mS]at hl;rw[List.drop_of_length_le (by omega)];exact .nil
 | @cons o f fs X Y e e' ho h t ih=>
  intro cs n hl hf;simp only[mS]at hl;obtain⟨x,hx⟩:=hf f Aq;obtain⟨y,hy⟩:=h.one n _ _ hx;obtain⟨z,hz⟩:=ih cs n (by omega) (fun g hg=>hf g (AS _ hg));refine⟨(y,z),?_⟩;have:=hy.append hz;rw[ho]at this;rw[show List.drop o cs=List.take (P.cellsOf f.type) (List.drop o cs)++List.drop (o+P.cellsOf f.type) cs by rw[<-Em,BN]];omega
theorem cX.struct {t:TypeId} {fs:Array Field} {X:Type} {e:X->List SV} (ht:P.underlying t=some (.struct fs)) (hc:P.cellsOf t=mS P fs.toList) (h:lG P w base spare held enc Fz N 0 fs.toList X e):kh enc P w base spare held Fz N t X e:=by
 refine⟨fun fuel cs x hx=>?_⟩;obtain⟨xs,n,_,_,hl,hn,hg⟩:=DataW.trod_struct ht hx;have:=h.run cs n (by rw[hl,hc];simp) (fun f hf=>by
  grind [List.getElem?_of_mem])
 grind
end
end Go.Sy
namespace Go.Sy
open Go.Am Go.RowKit
theorem LC {Fz:Nat->Option AO} {N:Nat} {l:List SV} {cs:Array Value} (h:gJ Fz N l cs.toList):aO Fz (.agg l) (dh N (.agg cs)):=by
 unfold dh;refine .agg (by simpa using h.1) (fun i c v hc hv=>?_);rw[AE]at hv;obtain⟨u,hu,rfl⟩:=AU.1 hv;exact h.2 i c u hc hu
end Go.Sy
namespace Go.Sy
open Go.Am Go.RowKit
variable [Inhabited aF]
section
variable {H:Type} {enc:TypeId×Value->H} {P:Program} {tab:bm} {w:World} {base:Nat} {spare:Nat->Bool} {held:Bool}
theorem L1 {a:Addr} {k:Nat} {u:Value} (hs:a.spot=none) (h:w.cell? (a.add k)=some u):∃arr e fz,w.heap[a.block]? =some (.cells arr e fz)/\arr[a.off+k]? =some u:=by
 grind [Addr.add,World.cell?]
theorem cX.slice {t e n:Nat} (ht:P.underlying t=some (.slice e)) (hn:P.cellsOf e=n) (h0:0<n) {X:Type} {ex:X->List SV} (hx:∀x,(ex x).length=n)
   (h:kh enc P w base spare held (bQ tab w).get w.heap.size e X ex):kh enc P w base spare held (bQ tab w).get w.heap.size t (List X) (fun L=>[.bh X L ex]):=by
 refine⟨fun fuel cs x hd=>?_⟩;rcases DataW.trod_slice ht hd with⟨rfl,_⟩|⟨a,len,cap,elems,rest,m,_,rfl,_,hb,hle,hc,hel,hi,_,_⟩
 . exact⟨[], .cons (.bP rfl (.inl rfl)) .nil⟩
 . have each:∀i:Fin len,∃y:X,∃cs',w.cells? base (a.add (i.val*n)) n=some cs'/\gJ (bQ tab w).get w.heap.size (ex y) cs':=by
     intro i;have h1:=hi i.val i.isLt;rw[Ag (by rw[hel];omega)]at h1;obtain⟨cs',h2,h3⟩:=DE.1 h1;rw[hn]at h2;obtain⟨y,hy⟩:=h.one _ _ _ h3;grind
   obtain⟨f,hf⟩:=Classical.skolem.1 each;by_cases hl:len=0
   . subst hl;exact⟨[], .cons (.bP rfl (.inr (.inr ⟨some a,cap,xu _ _ _⟩))) .nil⟩
   . have cell:∀(i:Fin len) (j:Nat) v,(ex (f i))[j]? =some v->∃u,w.cell? ((a.add (i.val*n)).add j)=some u/\aO (bQ tab w).get v (dK w.heap.size u):=by
      intro i j v hv;obtain⟨cs',h2,h3⟩:=hf i;have hj:j<n:=by rw[<-hx (f i)];grind
      unfold World.cells? at h2;split at h2
      . have h4:=mapM_some_get h2 j j (by grind);have hlt:j<cs'.length:=by rw[<-h3.1,hx];exact hj
        rw[Ag hlt]at h4;exact⟨_,h4,h3.2 j v _ hv (Ag hlt)⟩
      grind
     have hadd:∀i j,(a.add i).add j=a.add (i+j):=by
      grind [Addr.add]
     have hl0:0<(ex (f ⟨0,by omega⟩)).length:=by rw[hx (f ⟨0,by omega⟩)];exact h0
     obtain⟨v0,hv0⟩:∃v,(ex (f ⟨0,by omega⟩))[0]? =some v:=⟨_,Ag hl0⟩;obtain⟨u0,hu0,_⟩:=cell ⟨0,by omega⟩ 0 v0 hv0;rw[hadd]at hu0;have hspot:a.spot=none:=by
      have:=World.cell?_spot hu0;grind [Addr.add]
     obtain⟨arr,et,fz,hblk,_⟩:=L1 hspot hu0;have hcell:∀(i:Nat) x (j:Nat) v,(List.ofFn f)[i]? =some x->(ex x)[j]? =some v->∃u,arr[a.off+i*n+j]? =some u/\aO (bQ tab w).get v (dK w.heap.size u):=by
      intro i x j v hx' hv;have hil:i<len:=by have:=(Ae.1 hx').1;simpa using this
      have hxe:x=f ⟨i,hil⟩:=by
        rw[Ag (by simpa using hil)]at hx';simpa using(Eh hx').symm
      subst hxe;obtain⟨u,hu,hs⟩:=cell ⟨i,hil⟩ j v hv;rw[hadd]at hu;obtain⟨arr',et',fz',hblk',hu'⟩:=L1 hspot hu;rw[hblk]at hblk'
      cases hblk';exact⟨u,by rw[Dh];exact hu',hs⟩
     refine⟨List.ofFn f, .cons ?_ .nil⟩;have hspec:(⟨a.block,a.off,none⟩:Addr)=a:=by obtain⟨b,o,s⟩:=a;grind
     rw [<-hspec];have hlast:a.off+(List.ofFn f).length*n<=arr.size:=by
      have hl1:n - 1<(ex (f ⟨len - 1,by omega⟩)).length:=by rw[hx (f ⟨len - 1,by omega⟩)];omega
      obtain⟨v1,hv1⟩:∃v,(ex (f ⟨len - 1,by omega⟩))[n - 1]? =some v:=⟨_,Ag hl1⟩;obtain⟨u1,hu1,_⟩:=hcell (len - 1) (f ⟨len - 1,by omega⟩) (n - 1) v1 (by rw[Ag (by grind)];simp) hv1;have:=(Ab.1 hu1).1;simp only[List.length_ofFn];have e3:len*n=(len - 1)*n+n:=by
        conv=>lhs;rw[show len=(len - 1)+1 by omega]
        rw[Be,Dr]
      omega
     grind [xo]
end
end Go.Sy
namespace Go.Proofs.FtL
open Go Go.Am Go.ChangeShapes Go.WideShapes Go.ChangeAt Go.RowKit
open Go.Sy hiding ask
section
instance noDr:Inhabited aF:=⟨⟨False,#[]⟩⟩
section
variable {H:Type} {enc:TypeId×Value->H} {w:World} {base:Nat} {spare:Nat->Bool} {held:Bool} {Fz:Nat->Option AO} {N:Nat}
theorem zh:cX Tryz.prog w base spare held enc Fz N 57 aD aD.enc:=
 cX.map (cX.struct Tryz.underlying57 (by kernel_rfl)
  (.cons (by grind) (cX.str Tryz.underlying9) (.cons (by kernel_rfl) (cX.str Tryz.underlying9) (.cons (by kernel_rfl) (cX.str Tryz.underlying9) .nil)))) (fun x=>⟨x.1,x.2.1,x.2.2.1⟩) (fun x=>rfl)
theorem Yt:cX Tryz.prog w base spare held enc Fz N 59 db db.enc:=
 cX.map (cX.struct Tryz.underlying59 (by kernel_rfl)
  (.cons (by grind) (cX.str Tryz.underlying9) (.cons (by kernel_rfl) (cX.bool Tryz.underlying4) (.cons (by kernel_rfl) (cX.bool Tryz.underlying4) (.cons (by kernel_rfl) (cX.bool Tryz.underlying4) (.cons (by kernel_rfl) (cX.bool Tryz.underlying4)
   (.cons (by kernel_rfl) (cX.int Tryz.underlying3) (.cons (by kernel_rfl) (cX.int Tryz.underlying3) (.cons (by kernel_rfl) (cX.int Tryz.underlying3) .nil))))))))) (fun x=>⟨x.1,x.2.1,x.2.2.1,x.2.2.2.1,x.2.2.2.2.1,x.2.2.2.2.2.1,x.2.2.2.2.2.2.1,x.2.2.2.2.2.2.2.1⟩) (fun x=>rfl)
theorem tN:cX Tryz.prog w base spare held enc Fz N 70 aq aq.enc:=
 cX.map (cX.struct Tryz.underlying70 (by kernel_rfl)
  (.cons (by grind) (cX.struct Tryz.underlying67 (by kernel_rfl) (.cons (by grind) (cX.int Tryz.underlying3) (.cons (by kernel_rfl) (cX.int Tryz.underlying3) .nil))) (.cons (by kernel_rfl) (cX.int Tryz.underlying3) .nil))) (fun x=>⟨x.1.1,x.1.2.1,x.2.1⟩) (fun x=>rfl)
theorem Zt:cX Tryz.prog w base spare held enc Fz N 74 dO (fun s=>[.int .i64 s.wall, .int .i64 s.count, .int .i64 s.dev]):=
 cX.map (cX.struct Tryz.underlying74 (by kernel_rfl)
  (.cons (by grind) (cX.int Tryz.underlying3) (.cons (by kernel_rfl) (cX.int Tryz.underlying3) (.cons (by kernel_rfl) (cX.int Tryz.underlying3) .nil)))) (fun x=>⟨x.1,x.2.1,x.2.2.1⟩) (fun x=>rfl)
theorem Pa:cX Tryz.prog w base spare held enc (bQ Tryz.tab w).get w.heap.size 34 (List aq) (fun L=>[.bh aq L aq.enc]):=cX.slice Tryz.underlying34 (show Tryz.prog.cellsOf 70=3 by kernel_rfl) (by omega) (fun _=>rfl) tN
theorem ZD:cX Tryz.prog w base spare held enc (bQ Tryz.tab w).get w.heap.size 78 ae ae.enc:=
 cX.map (cX.struct Tryz.underlying78 (by kernel_rfl)
  (.cons (by grind) tN (.cons (by kernel_rfl) Zt (.cons (by kernel_rfl) (cX.int Tryz.underlying3) (.cons (by kernel_rfl) zh (.cons (by kernel_rfl) Yt (.cons (by kernel_rfl) Pa .nil))))))) (fun x=>⟨x.1,x.2.1,x.2.2.1,x.2.2.2.1,x.2.2.2.2.1,x.2.2.2.2.2.1⟩) (fun x=>rfl)
theorem Yu:cX Tryz.prog w base spare held enc (bQ Tryz.tab w).get w.heap.size 25 (List ae) (fun L=>[.bh ae L ae.enc]):=cX.slice Tryz.underlying25 (show Tryz.prog.cellsOf 78=19 by kernel_rfl) (by omega) (fun _=>rfl) ZD
theorem ZE:cX Tryz.prog w base spare held enc (bQ Tryz.tab w).get w.heap.size 22 (List Bs) (fun L=>[.bh Bs L kV]):=cX.slice Tryz.underlying22 (show Tryz.prog.cellsOf 9=1 by kernel_rfl) (by omega) (fun _=>rfl) (cX.str Tryz.underlying9)
theorem Ys:cX Tryz.prog w base spare held enc (bQ Tryz.tab w).get w.heap.size 24 ar ar.enc:=
 cX.map (cX.struct Tryz.underlying24 (by kernel_rfl)
  (.cons (by grind) (cX.int Tryz.underlying3) (.cons (by kernel_rfl) (cX.int Tryz.underlying3) (.cons (by kernel_rfl) (cX.int Tryz.underlying3) (.cons (by kernel_rfl) ZE .nil))))) (fun x=>⟨x.1,x.2.1,x.2.2.1,x.2.2.2.1⟩) (fun x=>rfl)
theorem zg:cX Tryz.prog w base spare held enc (bQ Tryz.tab w).get w.heap.size 27 (ar×List ae) (fun x=>x.1.enc++[dG x.2]):=
 cX.map (cX.struct Tryz.underlying27 (by kernel_rfl) (.cons (by grind) Ys (.cons (by kernel_rfl) Yu .nil))) (fun x=>(x.1,x.2.1)) (fun x=>rfl)
theorem Wa {b0:Nat} {r:Reach} {v:Value} {d:DataW H} {p:List MemPlace} (hv:Value.okWide Tryz.prog w r b0 27 v) (h:DataW.Trod enc Tryz.prog w base spare held 27 v d p):
  ∃(c:ar) (l:List ae) (rv ev:Value),v= .agg #[.int .i64 c.aS, .int .i64 c.domain, .int .i64 c.total,rv,ev]/\dF w c rv/\fk w l ev:=by
 obtain⟨cs,rfl,hsz⟩:=okWide_struct Tryz.underlying27 hv;obtain⟨fuel,hf⟩:=h;obtain⟨⟨c,l⟩,hl⟩:=zg.one _ _ _ hf;obtain⟨rv,ev,e,h1,h2⟩:=Um (MD (LC hl));exact⟨c,l,rv,ev,e,h1,h2⟩
theorem zj:cX Tryz.prog w base spare held enc Fz N 29 bG bG.enc:=
 cX.map (cX.struct Tryz.underlying29 (by kernel_rfl)
  (.cons (by grind) (cX.str Tryz.underlying9) (.cons (by kernel_rfl) (cX.str Tryz.underlying9) (.cons (by kernel_rfl) (cX.bool Tryz.underlying4) (.cons (by kernel_rfl) (cX.bool Tryz.underlying4) .nil))))) (fun x=>⟨x.1,x.2.1,x.2.2.1,x.2.2.2.1⟩) (fun x=>rfl)
theorem U5 {w:World} {r:bG} {v:Value} (h:Rd w (fun _=>True) true (.agg r.enc) v):v=jq r:=by
 cases h with
 | @agg cs vs h1 h2=>
  have hsz:vs.size=4:=h1.symm;obtain⟨l⟩:=vs;match l,hsz with
  |[a,b,c,d],_=>
   have e0:=h2 0 _ a rfl rfl;have e1:=h2 1 _ b rfl rfl;have e2:=h2 2 _ c rfl rfl;have e3:=h2 3 _ d rfl rfl;rw[qR e0,qR e1,Fa e2,Fa e3]
theorem WU {b0:Nat} {r:Reach} {v:Value} {d:DataW H} {p:List MemPlace} (hv:Value.okWide Tryz.prog w r b0 29 v) (h:DataW.Trod enc Tryz.prog w base spare held 29 v d p):∃q:bG,v=jq q:=by
 obtain⟨cs,rfl,hsz⟩:=okWide_struct Tryz.underlying29 hv;obtain⟨fuel,hf⟩:=h;obtain⟨q,hl⟩:=zj.one _ _ _ hf;exact⟨q,U5 (w:=w) (MD (tab:=Tryz.tab) (w:=w) (LC hl))⟩
end
end
end Go.Proofs.FtL
