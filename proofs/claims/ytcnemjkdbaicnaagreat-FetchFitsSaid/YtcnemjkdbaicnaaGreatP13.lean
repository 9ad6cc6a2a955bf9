/- Part 13: an evaluator, proved sound, and its use at this seat; no condition. -/
import Derived.DataReads
import Derived.ChangeArms
import Derived.ProofKit
import Derived.OpenShut
import Derived.Test.YtcnemjkdbaicnaaGreatP2
import Derived.Test.YtcnemjkdbaicnaaGreatP12
set_option linter.unusedSimpArgs false
set_option linter.unusedVariables false
set_option linter.unusedSectionVars false
set_option linter.deprecated false
set_option maxRecDepth 100000
namespace Go.Sy
open Go.Am Go.RowKit
universe u v
section
variable {H:Type} {enc:TypeId×Value->H} {P:Program} {w:World} {base:Nat} {spare:Nat->Bool} {held:Bool} {Fz:Nat->Option AO} {N:Nat}
def hU (Fz:Nat->Option AO) (N:Nat) (l:List SV) (cs:List Value):Prop:=l.length=cs.length/\ ∀(j:Nat) v u,l[j]? =some v->cs[j]? =some u->aT Fz v (cJ N u)
theorem hU.nil:hU Fz N [] []:=⟨rfl,fun j v u h=>by grind⟩
theorem hU.cons {s:SV} {v:Value} {l:List SV} {m:List Value} (h:aT Fz s (cJ N v)) (t:hU Fz N l m):hU Fz N (s::l) (v::m):=by
 refine⟨by simp[t.1],fun i a b ha hb=>?_⟩
 cases i with
 |zero=>grind
 |succ i=>exact t.2 i a b (by grind) (by grind)
theorem hU.append {l l':List SV} {m m':List Value} (h:hU Fz N l m) (h':hU Fz N l' m'):hU Fz N (l++l') (m++m'):=by
 refine⟨by simp[h.1,h'.1],fun i a b ha hb=>?_⟩;by_cases hi:i<l.length
 . rw[AS hi]at ha;rw[AS (by rw[<-h.1];exact hi)]at hb;exact h.2 i a b ha hb
 . rw[Bh (by omega)]at ha;rw[Bh (by rw[<-h.1];omega),<-h.1]at hb;exact h'.2 _ a b ha hb
structure dm (P:Program) (w:World) (base:Nat) (spare:Nat->Bool) (held:Bool) {H:Type} (henc:TypeId×Value->H) (Fz:Nat->Option AO) (N:Nat) (t:TypeId) (X:Type) (enc:X->List SV):Prop where
 one:∀fuel cs x,DataW.trod henc P w base spare held fuel t cs=some x->∃y:X,hU Fz N (enc y) cs
variable (enc) in
abbrev kz (P:Program) (w:World) (base:Nat) (spare:Nat->Bool) (held:Bool) (Fz:Nat->Option AO) (N:Nat) (t:TypeId) (X:Type) (e:X->List SV):Prop:=dm P w base spare held enc Fz N t X e
theorem dm.bool {t:TypeId} (ht:P.underlying t=some .bool):kz enc P w base spare held Fz N t Bool (fun b=>[.bool b]):=by
 refine⟨fun fuel cs x h=>?_⟩;obtain⟨b,rfl,_⟩:=DataW.trod_bool ht h;exact⟨b, .cons (.bool b) .nil⟩
theorem dm.int {t:TypeId} {k:IntKind} (ht:P.underlying t=some (.int k)):kz enc P w base spare held Fz N t Int (fun b=>[.int k b]):=by
 refine⟨fun fuel cs x h=>?_⟩;obtain⟨b,rfl,_⟩:=DataW.trod_int ht h;exact⟨b, .cons (.int k b) .nil⟩
theorem dm.str {t:TypeId} (ht:P.underlying t=some .string):kz enc P w base spare held Fz N t (List UInt8) (fun b=>[.str b]):=by
 refine⟨fun fuel cs x h=>?_⟩;obtain⟨s,rfl,_⟩:=DataW.trod_string ht h;exact⟨s.data.toList, .cons (.str _) .nil⟩
theorem dm.map {t:TypeId} {X Y:Type} {e:X->List SV} {e':Y->List SV} (h:kz enc P w base spare held Fz N t X e) (f:X->Y) (hf:∀x,e' (f x)=e x):kz enc P w base spare held Fz N t Y e':=by
 refine⟨fun fuel cs x hx=>?_⟩;obtain⟨y,hy⟩:=h.one fuel cs x hx;grind
inductive lT (P:Program) (w:World) (base:Nat) (spare:Nat->Bool) (held:Bool) {H:Type} (henc:TypeId×Value->H) (Fz:Nat->Option AO) (N:Nat):Nat->List Field->(X:Type)->(X->List SV)->Prop
 |nil {o:Nat}:lT P w base spare held henc Fz N o [] Unit (fun _=>[])
 |cons {o:Nat} {f:Field} {fs:List Field} {X Y:Type} {e:X->List SV} {e':Y->List SV} (ho:f.offset=o) (h:dm P w base spare held henc Fz N f.type X e) (t:lT P w base spare held henc Fz N (o+P.cellsOf f.type) fs Y e'):
  lT P w base spare held henc Fz N o (f::fs) (X×Y) (fun y=>e y.1++e' y.2)
def nA (P:Program):List Field->Nat
 |[]=>0
 |f::fs=>P.cellsOf f.type+nA P fs
theorem lT.run {o:Nat} {fs:List Field} {X:Type} {e:X->List SV} (h:lT P w base spare held enc Fz N o fs X e):∀(cs:List Value) (n:Nat),cs.length=o+nA P fs->
  (∀f∈fs,∃x,DataW.trod enc P w base spare held n f.type ((cs.drop f.offset).take (P.cellsOf f.type))=some x)->∃y:X,hU Fz N (e y) (cs.drop o):=by
 induction h with
 |nil=>
  intro cs n hl _;refine⟨(),?_⟩;simp only[nA]at hl;rw[List.drop_of_length_le (by omega)];exact .nil
 | @cons o f fs X Y e e' ho h t ih=>
  intro cs n hl hf;simp only[nA]at hl;obtain⟨x,hx⟩:=hf f As;obtain⟨y,hy⟩:=h.one n _ _ hx;obtain⟨z,hz⟩:=ih cs n (by omega) (fun g hg=>hf g (AP _ hg));refine⟨(y,z),?_⟩;have:=hy.append hz;rw[ho]at this;rw[show List.drop o cs=List.take (P.cellsOf f.type) (List.drop o cs)++List.drop (o+P.cellsOf f.type) cs by rw[<-Ek,BV]];omega
theorem dm.struct {t:TypeId} {fs:Array Field} {X:Type} {e:X->List SV} (ht:P.underlying t=some (.struct fs)) (hc:P.cellsOf t=nA P fs.toList) (h:lT P w base spare held enc Fz N 0 fs.toList X e):kz enc P w base spare held Fz N t X e:=by
 refine⟨fun fuel cs x hx=>?_⟩;obtain⟨xs,n,_,_,hl,hn,hg⟩:=DataW.trod_struct ht hx;have:=h.run cs n (by rw[hl,hc];simp) (fun f hf=>by
  grind [List.getElem?_of_mem])
 grind
end
end Go.Sy
namespace Go.Sy
open Go.Am Go.RowKit
theorem N9 {Fz:Nat->Option AO} {N:Nat} {l:List SV} {cs:Array Value} (h:hU Fz N l cs.toList):aT Fz (.agg l) (dz N (.agg cs)):=by
 unfold dz;refine .agg (by simpa using h.1) (fun i c v hc hv=>?_);rw[AI]at hv;obtain⟨u,hu,rfl⟩:=AR.1 hv;exact h.2 i c u hc hu
end Go.Sy
namespace Go.Sy
open Go.Am Go.RowKit
variable [Inhabited aK]
section
variable {H:Type} {enc:TypeId×Value->H} {P:Program} {tab:bC} {w:World} {base:Nat} {spare:Nat->Bool} {held:Bool}
theorem OI {a:Addr} {k:Nat} {u:Value} (hs:a.spot=none) (h:w.cell? (a.add k)=some u):∃arr e fz,w.heap[a.block]? =some (.cells arr e fz)/\arr[a.off+k]? =some u:=by
 grind [Addr.add,World.cell?]
theorem dm.slice {t e n:Nat} (ht:P.underlying t=some (.slice e)) (hn:P.cellsOf e=n) (h0:0<n) {X:Type} {ex:X->List SV} (hx:∀x,(ex x).length=n)
   (h:kz enc P w base spare held (bY tab w).get w.heap.size e X ex):kz enc P w base spare held (bY tab w).get w.heap.size t (List X) (fun L=>[.bn X L ex]):=by
 refine⟨fun fuel cs x hd=>?_⟩;rcases DataW.trod_slice ht hd with⟨rfl,_⟩|⟨a,len,cap,elems,rest,m,_,rfl,_,hb,hle,hc,hel,hi,_,_⟩
 . exact⟨[], .cons (.ch rfl (.inl rfl)) .nil⟩
 . have each:∀i:Fin len,∃y:X,∃cs',w.cells? base (a.add (i.val*n)) n=some cs'/\hU (bY tab w).get w.heap.size (ex y) cs':=by
     intro i;have h1:=hi i.val i.isLt;rw[Ai (by rw[hel];omega)]at h1;obtain⟨cs',h2,h3⟩:=DC.1 h1;rw[hn]at h2;obtain⟨y,hy⟩:=h.one _ _ _ h3;grind
   obtain⟨f,hf⟩:=Classical.skolem.1 each;by_cases hl:len=0
   . subst hl;exact⟨[], .cons (.ch rfl (.inr (.inr ⟨some a,cap,yn _ _ _⟩))) .nil⟩
   . have cell:∀(i:Fin len) (j:Nat) v,(ex (f i))[j]? =some v->∃u,w.cell? ((a.add (i.val*n)).add j)=some u/\aT (bY tab w).get v (cJ w.heap.size u):=by
      intro i j v hv;obtain⟨cs',h2,h3⟩:=hf i;have hj:j<n:=by rw[<-hx (f i)];grind
      unfold World.cells? at h2;split at h2
      . have h4:=mapM_some_get h2 j j (by grind);have hlt:j<cs'.length:=by rw[<-h3.1,hx];exact hj
        rw[Ai hlt]at h4;exact⟨_,h4,h3.2 j v _ hv (Ai hlt)⟩
      grind
     have hadd:∀i j,(a.add i).add j=a.add (i+j):=by
      grind [Addr.add]
     have hl0:0<(ex (f ⟨0,by omega⟩)).length:=by rw[hx (f ⟨0,by omega⟩)];exact h0
     obtain⟨v0,hv0⟩:∃v,(ex (f ⟨0,by omega⟩))[0]? =some v:=⟨_,Ai hl0⟩;obtain⟨u0,hu0,_⟩:=cell ⟨0,by omega⟩ 0 v0 hv0;rw[hadd]at hu0;have hspot:a.spot=none:=by
      have:=World.cell?_spot hu0;grind [Addr.add]
     obtain⟨arr,et,fz,hblk,_⟩:=OI hspot hu0;have hcell:∀(i:Nat) x (j:Nat) v,(List.ofFn f)[i]? =some x->(ex x)[j]? =some v->∃u,arr[a.off+i*n+j]? =some u/\aT (bY tab w).get v (cJ w.heap.size u):=by
      intro i x j v hx' hv;have hil:i<len:=by have:=(Ae.1 hx').1;simpa using this
      have hxe:x=f ⟨i,hil⟩:=by
        rw[Ai (by simpa using hil)]at hx';simpa using(Df hx').symm
      subst hxe;obtain⟨u,hu,hs⟩:=cell ⟨i,hil⟩ j v hv;rw[hadd]at hu;obtain⟨arr',et',fz',hblk',hu'⟩:=OI hspot hu;rw[hblk]at hblk'
      cases hblk';exact⟨u,by rw[De];exact hu',hs⟩
     refine⟨List.ofFn f, .cons ?_ .nil⟩;have hspec:(⟨a.block,a.off,none⟩:Addr)=a:=by obtain⟨b,o,s⟩:=a;grind
     rw [<-hspec];have hlast:a.off+(List.ofFn f).length*n<=arr.size:=by
      have hl1:n - 1<(ex (f ⟨len - 1,by omega⟩)).length:=by rw[hx (f ⟨len - 1,by omega⟩)];omega
      obtain⟨v1,hv1⟩:∃v,(ex (f ⟨len - 1,by omega⟩))[n - 1]? =some v:=⟨_,Ai hl1⟩;obtain⟨u1,hu1,_⟩:=hcell (len - 1) (f ⟨len - 1,by omega⟩) (n - 1) v1 (by rw[Ai (by grind)];simp) hv1;have:=(Ab.1 hu1).1;simp only[List.length_ofFn];have e3:len*n=(len - 1)*n+n:=by
        conv=>lhs;rw[show len=(len - 1)+1 by omega]
        rw[Bi,Dn]
      omega
     grind [yg]
end
end Go.Sy
namespace Go.Proofs.FtL
open Go Go.Am Go.ChangeShapes Go.WideShapes Go.ChangeAt Go.RowKit
open Go.Sy hiding ask
section
instance noDr:Inhabited aK:=⟨⟨False,#[]⟩⟩
section
variable {H:Type} {enc:TypeId×Value->H} {w:World} {base:Nat} {spare:Nat->Bool} {held:Bool} {Fz:Nat->Option AO} {N:Nat}
theorem Cz:dm Tryz.prog w base spare held enc Fz N 57 aG aG.enc:=
 dm.map (dm.struct Tryz.underlying57 (by kernel_rfl)
  (.cons (by grind) (dm.str Tryz.underlying9) (.cons (by kernel_rfl) (dm.str Tryz.underlying9) (.cons (by kernel_rfl) (dm.str Tryz.underlying9) .nil)))) (fun x=>⟨x.1,x.2.1,x.2.2.1⟩) (fun x=>rfl)
theorem qxR:dm Tryz.prog w base spare held enc Fz N 59 cS cS.enc:=
 dm.map (dm.struct Tryz.underlying59 (by kernel_rfl)
  (.cons (by grind) (dm.str Tryz.underlying9) (.cons (by kernel_rfl) (dm.bool Tryz.underlying4) (.cons (by kernel_rfl) (dm.bool Tryz.underlying4) (.cons (by kernel_rfl) (dm.bool Tryz.underlying4) (.cons (by kernel_rfl) (dm.bool Tryz.underlying4)
   (.cons (by kernel_rfl) (dm.int Tryz.underlying3) (.cons (by kernel_rfl) (dm.int Tryz.underlying3) (.cons (by kernel_rfl) (dm.int Tryz.underlying3) .nil))))))))) (fun x=>⟨x.1,x.2.1,x.2.2.1,x.2.2.2.1,x.2.2.2.2.1,x.2.2.2.2.2.1,x.2.2.2.2.2.2.1,x.2.2.2.2.2.2.2.1⟩) (fun x=>rfl)
theorem uq:dm Tryz.prog w base spare held enc Fz N 70 au au.enc:=
 dm.map (dm.struct Tryz.underlying70 (by kernel_rfl)
  (.cons (by grind) (dm.struct Tryz.underlying67 (by kernel_rfl) (.cons (by grind) (dm.int Tryz.underlying3) (.cons (by kernel_rfl) (dm.int Tryz.underlying3) .nil))) (.cons (by kernel_rfl) (dm.int Tryz.underlying3) .nil))) (fun x=>⟨x.1.1,x.1.2.1,x.2.1⟩) (fun x=>rfl)
theorem Rp:dm Tryz.prog w base spare held enc Fz N 74 dM (fun s=>[.int .i64 s.wall, .int .i64 s.count, .int .i64 s.dev]):=
 dm.map (dm.struct Tryz.underlying74 (by kernel_rfl)
  (.cons (by grind) (dm.int Tryz.underlying3) (.cons (by kernel_rfl) (dm.int Tryz.underlying3) (.cons (by kernel_rfl) (dm.int Tryz.underlying3) .nil)))) (fun x=>⟨x.1,x.2.1,x.2.2.1⟩) (fun x=>rfl)
theorem Sq:dm Tryz.prog w base spare held enc (bY Tryz.tab w).get w.heap.size 34 (List au) (fun L=>[.bn au L au.enc]):=dm.slice Tryz.underlying34 (show Tryz.prog.cellsOf 70=3 by kernel_rfl) (by omega) (fun _=>rfl) uq
theorem Rn:dm Tryz.prog w base spare held enc (bY Tryz.tab w).get w.heap.size 78 af af.enc:=
 dm.map (dm.struct Tryz.underlying78 (by kernel_rfl)
  (.cons (by grind) uq (.cons (by kernel_rfl) Rp (.cons (by kernel_rfl) (dm.int Tryz.underlying3) (.cons (by kernel_rfl) Cz (.cons (by kernel_rfl) qxR (.cons (by kernel_rfl) Sq .nil))))))) (fun x=>⟨x.1,x.2.1,x.2.2.1,x.2.2.2.1,x.2.2.2.2.1,x.2.2.2.2.2.1⟩) (fun x=>rfl)
theorem qxS:dm Tryz.prog w base spare held enc (bY Tryz.tab w).get w.heap.size 25 (List af) (fun L=>[.bn af L af.enc]):=dm.slice Tryz.underlying25 (show Tryz.prog.cellsOf 78=19 by kernel_rfl) (by omega) (fun _=>rfl) Rn
theorem Ro:dm Tryz.prog w base spare held enc (bY Tryz.tab w).get w.heap.size 22 (List Bs) (fun L=>[.bn Bs L fA]):=dm.slice Tryz.underlying22 (show Tryz.prog.cellsOf 9=1 by kernel_rfl) (by omega) (fun _=>rfl) (dm.str Tryz.underlying9)
theorem qxQ:dm Tryz.prog w base spare held enc (bY Tryz.tab w).get w.heap.size 24 ar ar.enc:=
 dm.map (dm.struct Tryz.underlying24 (by kernel_rfl)
  (.cons (by grind) (dm.int Tryz.underlying3) (.cons (by kernel_rfl) (dm.int Tryz.underlying3) (.cons (by kernel_rfl) (dm.int Tryz.underlying3) (.cons (by kernel_rfl) Ro .nil))))) (fun x=>⟨x.1,x.2.1,x.2.2.1,x.2.2.2.1⟩) (fun x=>rfl)
theorem Cw:dm Tryz.prog w base spare held enc (bY Tryz.tab w).get w.heap.size 27 (ar×List af) (fun x=>x.1.enc++[cG x.2]):=
 dm.map (dm.struct Tryz.underlying27 (by kernel_rfl) (.cons (by grind) qxQ (.cons (by kernel_rfl) qxS .nil))) (fun x=>(x.1,x.2.1)) (fun x=>rfl)
theorem Gp {b0:Nat} {r:Reach} {v:Value} {d:DataW H} {p:List MemPlace} (hv:Value.okWide Tryz.prog w r b0 27 v) (h:DataW.Trod enc Tryz.prog w base spare held 27 v d p):
  ∃(c:ar) (l:List af) (rv ev:Value),v= .agg #[.int .i64 c.aB, .int .i64 c.domain, .int .i64 c.total,rv,ev]/\dN w c rv/\eJ w l ev:=by
 obtain⟨cs,rfl,hsz⟩:=okWide_struct Tryz.underlying27 hv;obtain⟨fuel,hf⟩:=h;obtain⟨⟨c,l⟩,hl⟩:=Cw.one _ _ _ hf;obtain⟨rv,ev,e,h1,h2⟩:=Yy (Qb (N9 hl));exact⟨c,l,rv,ev,e,h1,h2⟩
theorem CB:dm Tryz.prog w base spare held enc Fz N 29 bG bG.enc:=
 dm.map (dm.struct Tryz.underlying29 (by kernel_rfl)
  (.cons (by grind) (dm.str Tryz.underlying9) (.cons (by kernel_rfl) (dm.str Tryz.underlying9) (.cons (by kernel_rfl) (dm.bool Tryz.underlying4) (.cons (by kernel_rfl) (dm.bool Tryz.underlying4) .nil))))) (fun x=>⟨x.1,x.2.1,x.2.2.1,x.2.2.2.1⟩) (fun x=>rfl)
theorem Y1 {w:World} {r:bG} {v:Value} (h:Rd w (fun _=>True) true (.agg r.enc) v):v=kM r:=by
 cases h with
 | @agg cs vs h1 h2=>
  have hsz:vs.size=4:=h1.symm;obtain⟨l⟩:=vs;match l,hsz with
  |[a,b,c,d],_=>
   have e0:=h2 0 _ a rfl rfl;have e1:=h2 1 _ b rfl rfl;have e2:=h2 2 _ c rfl rfl;have e3:=h2 3 _ d rfl rfl;rw[rI e0,rI e1,GW e2,GW e3]
theorem Gc {b0:Nat} {r:Reach} {v:Value} {d:DataW H} {p:List MemPlace} (hv:Value.okWide Tryz.prog w r b0 29 v) (h:DataW.Trod enc Tryz.prog w base spare held 29 v d p):∃q:bG,v=kM q:=by
 obtain⟨cs,rfl,hsz⟩:=okWide_struct Tryz.underlying29 hv;obtain⟨fuel,hf⟩:=h;obtain⟨q,hl⟩:=CB.one _ _ _ hf;exact⟨q,Y1 (w:=w) (Qb (tab:=Tryz.tab) (w:=w) (N9 hl))⟩
end
end
end Go.Proofs.FtL
