/- Part 16: an evaluator, proved sound, and its use at this seat; no condition. -/
import Derived.DataReads
import Derived.ChangeArms
import Derived.ProofKit
import Derived.OpenShut
import Derived.Test.YtpbnfcmlcmiieaaGreatDoorRows
import Derived.Test.YtpbnfcmlcmiieaaGreatDoorCards
import Derived.Test.YtpbnfcmlcmiieaaGreatDoorTie
import Derived.WalkKit
import Derived.LaidMore
import Derived.Stop.Joined
import Derived.SevenTiedAt
import Derived.Below
import Derived.Test.YtpbnfcmlcmiieaaGreatDoorP2
import Derived.Test.YtpbnfcmlcmiieaaGreatDoorP3
import Derived.Test.YtpbnfcmlcmiieaaGreatDoorP15
set_option linter.unusedSimpArgs false
set_option linter.unusedVariables false
set_option linter.unusedSectionVars false
set_option linter.deprecated false
set_option maxRecDepth 100000
namespace Go.Sy
open Go.Am Go.RowKit
universe u v
section
variable {H:Type} {enc:TypeId×Value->H} {P:Program} {w:World} {base:Nat} {spare:Nat->Bool} {held:Bool} {Fz:Nat->Option AO} {N:Nat}
def eD (Fz:Nat->Option AO) (N:Nat) (l:List SV) (cs:List Value):Prop:=l.length=cs.length/\ ∀(j:Nat) v u,l[j]? =some v->cs[j]? =some u->aC Fz v (cE N u)
theorem eD.nil:eD Fz N [] []:=⟨rfl,fun j v u h=>by simp at h⟩
theorem eD.cons {s:SV} {v:Value} {l:List SV} {m:List Value} (h:aC Fz s (cE N v)) (t:eD Fz N l m):eD Fz N (s::l) (v::m):=by
 refine⟨by simp[t.1],fun i a b ha hb=>?_⟩
 cases i with
 |zero=>simp at ha hb;subst ha;subst hb;exact h
 |succ i=>exact t.2 i a b (by simpa using ha) (by simpa using hb)
theorem eD.append {l l':List SV} {m m':List Value} (h:eD Fz N l m) (h':eD Fz N l' m'):eD Fz N (l++l') (m++m'):=by
 refine⟨by simp[h.1,h'.1],fun i a b ha hb=>?_⟩;by_cases hi:i<l.length
 . rw[AI hi]at ha;rw[AI (by rw[<-h.1];exact hi)]at hb;exact h.2 i a b ha hb
 . rw[AQ (by omega)]at ha;rw[AQ (by rw[<-h.1];omega),<-h.1]at hb;exact h'.2 _ a b ha hb
structure cY (P:Program) (w:World) (base:Nat) (spare:Nat->Bool) (held:Bool) {H:Type} (henc:TypeId×Value->H) (Fz:Nat->Option AO) (N:Nat) (t:TypeId) (X:Type) (enc:X->List SV):Prop where
 one:∀fuel cs x,DataW.trod henc P w base spare held fuel t cs=some x->∃y:X,eD Fz N (enc y) cs
variable (enc) in
abbrev fJ (P:Program) (w:World) (base:Nat) (spare:Nat->Bool) (held:Bool) (Fz:Nat->Option AO) (N:Nat) (t:TypeId) (X:Type) (e:X->List SV):Prop:=cY P w base spare held enc Fz N t X e
theorem cY.bool {t:TypeId} (ht:P.underlying t=some .bool):fJ enc P w base spare held Fz N t Bool (fun b=>[.bool b]):=by
 refine⟨fun fuel cs x h=>?_⟩;obtain⟨b,rfl,_⟩:=DataW.trod_bool ht h;exact⟨b, .cons (.bool b) .nil⟩
theorem cY.int {t:TypeId} {k:IntKind} (ht:P.underlying t=some (.int k)):fJ enc P w base spare held Fz N t Int (fun b=>[.int k b]):=by
 refine⟨fun fuel cs x h=>?_⟩;obtain⟨b,rfl,_⟩:=DataW.trod_int ht h;exact⟨b, .cons (.int k b) .nil⟩
theorem cY.str {t:TypeId} (ht:P.underlying t=some .string):fJ enc P w base spare held Fz N t (List UInt8) (fun b=>[.str b]):=by
 refine⟨fun fuel cs x h=>?_⟩;obtain⟨s,rfl,_⟩:=DataW.trod_string ht h;exact⟨s.data.toList, .cons (.str _) .nil⟩
theorem cY.map {t:TypeId} {X Y:Type} {e:X->List SV} {e':Y->List SV} (h:fJ enc P w base spare held Fz N t X e) (f:X->Y) (hf:∀x,e' (f x)=e x):fJ enc P w base spare held Fz N t Y e':=by
 refine⟨fun fuel cs x hx=>?_⟩;obtain⟨y,hy⟩:=h.one fuel cs x hx;exact⟨f y,by rw[hf];exact hy⟩
inductive gG (P:Program) (w:World) (base:Nat) (spare:Nat->Bool) (held:Bool) {H:Type} (henc:TypeId×Value->H) (Fz:Nat->Option AO) (N:Nat):Nat->List Field->(X:Type)->(X->List SV)->Prop
 |nil {o:Nat}:gG P w base spare held henc Fz N o [] Unit (fun _=>[])
 |cons {o:Nat} {f:Field} {fs:List Field} {X Y:Type} {e:X->List SV} {e':Y->List SV} (ho:f.offset=o) (h:cY P w base spare held henc Fz N f.type X e) (t:gG P w base spare held henc Fz N (o+P.cellsOf f.type) fs Y e'):
  gG P w base spare held henc Fz N o (f::fs) (X×Y) (fun y=>e y.1++e' y.2)
def iG (P:Program):List Field->Nat
 |[]=>0
 |f::fs=>P.cellsOf f.type+iG P fs
theorem gG.run {o:Nat} {fs:List Field} {X:Type} {e:X->List SV} (h:gG P w base spare held enc Fz N o fs X e):∀(cs:List Value) (n:Nat),cs.length=o+iG P fs->
  (∀f∈fs,∃x,DataW.trod enc P w base spare held n f.type ((cs.drop f.offset).take (P.cellsOf f.type))=some x)->∃y:X,eD Fz N (e y) (cs.drop o):=by
 induction h with
 |nil=>
  intro cs n hl _;refine⟨(),?_⟩;simp only[iG]at hl;rw[List.drop_of_length_le (by omega)];exact .nil
 | @cons o f fs X Y e e' ho h t ih=>
  intro cs n hl hf;simp only[iG]at hl;obtain⟨x,hx⟩:=hf f Al;obtain⟨y,hy⟩:=h.one n _ _ hx;obtain⟨z,hz⟩:=ih cs n (by omega) (fun g hg=>hf g (Ap _ hg));refine⟨(y,z),?_⟩;have:=hy.append hz;rw[ho]at this;rw[show List.drop o cs=List.take (P.cellsOf f.type) (List.drop o cs)++List.drop (o+P.cellsOf f.type) cs by rw[<-Dt,DG]];exact this
theorem cY.struct {t:TypeId} {fs:Array Field} {X:Type} {e:X->List SV} (ht:P.underlying t=some (.struct fs)) (hc:P.cellsOf t=iG P fs.toList) (h:gG P w base spare held enc Fz N 0 fs.toList X e):fJ enc P w base spare held Fz N t X e:=by
 refine⟨fun fuel cs x hx=>?_⟩;obtain⟨xs,n,_,_,hl,hn,hg⟩:=DataW.trod_struct ht hx;have:=h.run cs n (by rw[hl,hc];simp) (fun f hf=>by
  obtain⟨i,hi⟩:=List.getElem?_of_mem hf;have h1:=hg i f (by simpa using hi);have hlt:i<fs.size:=by
   have:=(Ac.1 hi).1;simpa using this
  rw[Af (by omega)]at h1;exact⟨_,h1⟩)
 simpa using this
end
end Go.Sy
namespace Go.Sy
open Go.Am Go.RowKit
end Go.Sy
namespace Go.Sy
open Go.Am Go.RowKit
variable [Inhabited aE]
section
variable {H:Type} {enc:TypeId×Value->H} {P:Program} {tab:aM} {w:World} {base:Nat} {spare:Nat->Bool} {held:Bool}
theorem xF {a:Addr} {k:Nat} {u:Value} (hs:a.spot=none) (h:w.cell? (a.add k)=some u):∃arr e fz,w.heap[a.block]? =some (.cells arr e fz)/\arr[a.off+k]? =some u:=by
 obtain⟨b,o,s⟩:=a;simp only at hs;subst hs;have e2:(⟨b,o,none⟩:Addr).add k=⟨b,o+k,none⟩:=by unfold Addr.add;split<;>simp_all
 rw[e2]at h;unfold World.cell? at h;split at h
 . rename_i arr e fz hb;simp only[Db,Ah,Ax]at h;exact⟨arr,e,fz,hb,h⟩
 . cases h
theorem cY.slice {t e n:Nat} (ht:P.underlying t=some (.slice e)) (hn:P.cellsOf e=n) (h0:0<n) {X:Type} {ex:X->List SV} (hx:∀x,(ex x).length=n)
   (h:fJ enc P w base spare held (bP tab w).get w.heap.size e X ex):fJ enc P w base spare held (bP tab w).get w.heap.size t (List X) (fun L=>[.aD X L ex]):=by
 refine⟨fun fuel cs x hd=>?_⟩;rcases DataW.trod_slice ht hd with⟨rfl,_⟩|⟨a,len,cap,elems,rest,m,_,rfl,_,hb,hle,hc,hel,hi,_,_⟩
 . exact⟨[], .cons (.bt rfl (.inl rfl)) .nil⟩
 . have each:∀i:Fin len,∃y:X,∃cs',w.cells? base (a.add (i.val*n)) n=some cs'/\eD (bP tab w).get w.heap.size (ex y) cs':=by
     intro i;have h1:=hi i.val i.isLt;rw[Af (by rw[hel];exact i.isLt)]at h1;obtain⟨cs',h2,h3⟩:=DB.1 h1;rw[hn]at h2;obtain⟨y,hy⟩:=h.one _ _ _ h3;exact⟨y,cs',h2,hy⟩
   obtain⟨f,hf⟩:=Classical.skolem.1 each;by_cases hl:len=0
   . subst hl;exact⟨[], .cons (.bt rfl (.inr (.inr ⟨some a,cap,wP _ _ _⟩))) .nil⟩
   . have cell:∀(i:Fin len) (j:Nat) v,(ex (f i))[j]? =some v->∃u,w.cell? ((a.add (i.val*n)).add j)=some u/\aC (bP tab w).get v (cE w.heap.size u):=by
      intro i j v hv;obtain⟨cs',h2,h3⟩:=hf i;have hj:j<n:=by rw[<-hx (f i)];exact(Ac.1 hv).1
      unfold World.cells? at h2;split at h2
      . have h4:=mapM_some_get h2 j j (by simp[hj]);have hlt:j<cs'.length:=by rw[<-h3.1,hx];exact hj
        rw[Af hlt]at h4;exact⟨_,h4,h3.2 j v _ hv (Af hlt)⟩
      . cases h2
     have hadd:∀i j,(a.add i).add j=a.add (i+j):=by
      intro i j;unfold Addr.add;by_cases hi:i=0
      . subst hi;simp
      . by_cases hj:j=0
        . subst hj;simp[hi]
        . simp[hi,hj,BP]
     have hl0:0<(ex (f ⟨0,by omega⟩)).length:=by rw[hx (f ⟨0,by omega⟩)];exact h0
     obtain⟨v0,hv0⟩:∃v,(ex (f ⟨0,by omega⟩))[0]? =some v:=⟨_,Af hl0⟩;obtain⟨u0,hu0,_⟩:=cell ⟨0,by omega⟩ 0 v0 hv0;rw[hadd]at hu0;have hspot:a.spot=none:=by
      have:=World.cell?_spot hu0;simpa [Addr.add]using this
     obtain⟨arr,et,fz,hblk,_⟩:=xF hspot hu0;have hcell:∀(i:Nat) x (j:Nat) v,(List.ofFn f)[i]? =some x->(ex x)[j]? =some v->∃u,arr[a.off+i*n+j]? =some u/\aC (bP tab w).get v (cE w.heap.size u):=by
      intro i x j v hx' hv;have hil:i<len:=by have:=(Ac.1 hx').1;simpa using this
      have hxe:x=f ⟨i,hil⟩:=by
        rw[Af (by simpa using hil)]at hx';simpa using(BT hx').symm
      subst hxe;obtain⟨u,hu,hs⟩:=cell ⟨i,hil⟩ j v hv;rw[hadd]at hu;obtain⟨arr',et',fz',hblk',hu'⟩:=xF hspot hu;rw[hblk]at hblk'
      cases hblk';exact⟨u,by rw[BP];exact hu',hs⟩
     refine⟨List.ofFn f, .cons ?_ .nil⟩;have hspec:(⟨a.block,a.off,none⟩:Addr)=a:=by obtain⟨b,o,s⟩:=a;simp only at hspot;subst hspot;rfl
     rw [<-hspec];have hlast:a.off+(List.ofFn f).length*n<=arr.size:=by
      have hl1:n - 1<(ex (f ⟨len - 1,by omega⟩)).length:=by rw[hx (f ⟨len - 1,by omega⟩)];omega
      obtain⟨v1,hv1⟩:∃v,(ex (f ⟨len - 1,by omega⟩))[n - 1]? =some v:=⟨_,Af hl1⟩;obtain⟨u1,hu1,_⟩:=hcell (len - 1) (f ⟨len - 1,by omega⟩) (n - 1) v1 (by rw[Af (by simp;omega)];simp) hv1;have:=(Ad.1 hu1).1;simp only[List.length_ofFn];have e3:len*n=(len - 1)*n+n:=by
        conv=>lhs;rw[show len=(len - 1)+1 by omega]
        rw[A7,Dd]
      omega
     exact xy hblk h0 (fun x _=>hx x) hlast (by simp) hle hcell
end
end Go.Sy
namespace Go.Proofs.StL
open Go Go.Am Go.ChangeShapes Go.WideShapes Go.ChangeAt Go.RowKit
open Go.Sy hiding ask
section
instance noDr:Inhabited aE:=⟨⟨False,#[]⟩⟩
section
variable {H:Type} {enc:TypeId×Value->H} {w:World} {base:Nat} {spare:Nat->Bool} {held:Bool} {Fz:Nat->Option AO} {N:Nat}
theorem q9:cY Tryz.prog w base spare held enc Fz N 26 bm bm.enc:=
 cY.map (cY.struct Tryz.underlying26 (by kernel_rfl)
  (.cons (by kernel_rfl) (cY.str Tryz.underlying9) (.cons (by kernel_rfl) (cY.str Tryz.underlying9) (.cons (by kernel_rfl) (cY.str Tryz.underlying9) .nil)))) (fun x=>⟨x.1,x.2.1,x.2.2.1⟩) (fun x=>rfl)
theorem Ii:cY Tryz.prog w base spare held enc Fz N 28 cy cy.enc:=
 cY.map (cY.struct Tryz.underlying28 (by kernel_rfl)
  (.cons (by kernel_rfl) (cY.str Tryz.underlying9) (.cons (by kernel_rfl) (cY.bool Tryz.underlying4) (.cons (by kernel_rfl) (cY.bool Tryz.underlying4) (.cons (by kernel_rfl) (cY.bool Tryz.underlying4) (.cons (by kernel_rfl) (cY.bool Tryz.underlying4)
   (.cons (by kernel_rfl) (cY.int Tryz.underlying3) (.cons (by kernel_rfl) (cY.int Tryz.underlying3) (.cons (by kernel_rfl) (cY.int Tryz.underlying3) .nil))))))))) (fun x=>⟨x.1,x.2.1,x.2.2.1,x.2.2.2.1,x.2.2.2.2.1,x.2.2.2.2.2.1,x.2.2.2.2.2.2.1,x.2.2.2.2.2.2.2.1⟩) (fun x=>rfl)
theorem J3:cY Tryz.prog w base spare held enc Fz N 30 ad ad.enc:=
 cY.map (cY.struct Tryz.underlying30 (by kernel_rfl) (.cons (by kernel_rfl) q9 (.cons (by kernel_rfl) Ii .nil))) (fun x=>⟨x.1,x.2.1⟩) (fun x=>rfl)
theorem q8:cY Tryz.prog w base spare held enc Fz N 77 aj aj.enc:=
 cY.map (cY.struct Tryz.underlying77 (by kernel_rfl)
  (.cons (by kernel_rfl) (cY.struct Tryz.underlying75 (by kernel_rfl) (.cons (by kernel_rfl) (cY.int Tryz.underlying3) (.cons (by kernel_rfl) (cY.int Tryz.underlying3) .nil))) (.cons (by kernel_rfl) (cY.int Tryz.underlying3) .nil))) (fun x=>⟨x.1.1,x.1.2.1,x.2.1⟩) (fun x=>rfl)
theorem kk:cY Tryz.prog w base spare held enc (bP Tryz.tab w).get w.heap.size 22 (List aj) (fun L=>[.aD aj L aj.enc]):=cY.slice Tryz.underlying22 (show Tryz.prog.cellsOf 77=3 by kernel_rfl) (by omega) (fun _=>rfl) q8
theorem Iy:cY Tryz.prog w base spare held enc (bP Tryz.tab w).get w.heap.size 32 az az.enc:=
 cY.map (cY.struct Tryz.underlying32 (by kernel_rfl) (.cons (by kernel_rfl) (cY.int Tryz.underlying3) (.cons (by kernel_rfl) J3 (.cons (by kernel_rfl) kk .nil)))) (fun x=>⟨x.1,x.2.1,x.2.2.1⟩) (fun x=>rfl)
theorem jr:cY Tryz.prog w base spare held enc (bP Tryz.tab w).get w.heap.size 23 (List az) (fun L=>[.aD az L az.enc]):=cY.slice Tryz.underlying23 (show Tryz.prog.cellsOf 32=13 by kernel_rfl) (by omega) (fun _=>rfl) Iy
theorem Fl {b0:Nat} {r:Reach} {v:Value} {d:DataW H} {p:List MemPlace} (hv:Value.okWide Tryz.prog w r b0 22 v) (h:DataW.Trod enc Tryz.prog w base spare held 22 v d p):∃l:List aj,cc w l v:=by
 obtain⟨a,n,c,rfl⟩:=okWide_slice Tryz.underlying22 hv;obtain⟨fuel,hf⟩:=h;obtain⟨l,hl⟩:=kk.one _ _ _ hf;exact⟨l,sO (yx (hl.2 0 _ _ rfl rfl))⟩
theorem z7 {b0:Nat} {r:Reach} {v:Value} {d:DataW H} {p:List MemPlace} (hv:Value.okWide Tryz.prog w r b0 23 v) (h:DataW.Trod enc Tryz.prog w base spare held 23 v d p):∃l:List az,gH w l v:=by
 obtain⟨a,n,c,rfl⟩:=okWide_slice Tryz.underlying23 hv;obtain⟨fuel,hf⟩:=h;obtain⟨l,hl⟩:=jr.one _ _ _ hf;exact⟨l,yx (hl.2 0 _ _ rfl rfl)⟩
end
end
end Go.Proofs.StL
namespace Go.Proofs.YtpbnfcmlcmiieaaGreatDoor.storeRemoves
open Go.ChangeShapes Go.WideShapes Go.ChangeAt Go.RowKit
open Go.Sy hiding ask
open Go.Proofs.StL
theorem own:ownKnob Tryz.prog.godebug=none:=by kernel_rfl
theorem laidOut:laidOutB Tryz.prog=true:=by kernel_rfl
abbrev qP {H:Type}:List (String×DataW H):=[("biscotti/date.months",Rows.laid_biscotti_date_months)]
theorem GI (os:Os) (args:Array Value):laidMetH Tryz.prog qP ((World.doorLaid Tryz.prog 14 os).forCall (fun _ _=>0) ⟨#[],args,[]⟩).memory:=
 laidMetH_of_parts3 (fuel:=8) (laidMet_of_run' 8 (by kernel_rfl) (by kernel_rfl)) (by kernel_rfl) (by kernel_rfl)
set_option maxRecDepth 100000 in
theorem lifted (os:Os) (started:os.Started) (H:Type) (enc:TypeId×Value->H):
  ReturnsInHanded {} Tryz.checked os 3 .any (fun w args=>(Rows.storeRemovesSpec.pre enc Tryz.prog Tryz.f3 [] false w args/\laidMetH Tryz.prog qP w)/\sizedMet enc Tryz.prog Tryz.f3 (OpenSpec.ofChange Rows.storeRemovesSpec) false w args)
   (Rows.storeRemovesSpec.post enc Tryz.prog Tryz.f3 false true false false):=by
 refine returnsInHanded_of_change_and (C:=Tryz.checked) (X:=fun w _=>laidMetH Tryz.prog qP w) (fun _ _ _ hh h=>h.of_heap hh) own started (by kernel_rfl) Tryz.func3
  (ChangeSpec.witness_shaped (enc:=enc) (C:=Tryz.checked) (os:=os) (X:=fun w _=>laidMetH Tryz.prog qP w) false (World.doorLaid Tryz.prog 14 os) #[.slice none 0 0, .slice none 0 0] 8 rfl (World.shaped_of_RefB (by kernel_rfl) (by kernel_rfl)) (by kernel_rfl) (by kernel_rfl) (by kernel_rfl) (GI os _)) ?_
 intro W base args ds gs before hval0 hW _ _ hL _;have hval:∀(j:Nat) t v,Tryz.f3.params[j]? =some t->args[j]? =some v->Value.okWide Tryz.prog W .any base t v:=hval0;have hW':=hW;obtain⟨p,q,hA0,hV,rfl,hfz,hnd⟩:=hW;have hA:DataW.TrodAll enc Tryz.prog W 0 (fun _=>true) true Tryz.f3.params.toList args.toList ds p:=hA0;rw[Tryz.params3]at hA hval;obtain⟨v0,vs0,d0,ds0,p0,q0,hargs,rfl,rfl,h0,r0⟩:=trodAll_cons hA;obtain⟨v1,vs1,d1,ds1,p1,q1,rfl,rfl,rfl,h1,r1⟩:=trodAll_cons r0;obtain⟨rfl,rfl,rfl⟩:=trodAll_nil r1;obtain rfl:args=#[v0,v1]:=by cases args;simp_all
 obtain⟨rfl,rfl⟩:=trodVars_none hV;have k0:=h0;have k1:=h1;have lt0:∀x∈p0,x.block<W.heap.size:=by obtain⟨m,hm⟩:=k0;exact DataW.trod_lt m _ _ _ hm
 have lt1:∀x∈p1,x.block<W.heap.size:=by obtain⟨m,hm⟩:=k1;exact DataW.trod_lt m _ _ _ hm
 obtain⟨l,hl⟩:=Fl (hval 0 22 v0 rfl rfl) h0;obtain⟨d,hd⟩:=z7 (hval 1 23 v1 rfl rfl) h1;clear hA0 hval0;refine(ue hl hd uq).mono fun e W' ⟨he,bel⟩=>?_
 subst he;exact⟨_,rfl,_,_,_,[],_,[],hW',trodAll_mk1 (shut_bool Tryz.underlying4 _),(trodAll_cons_mk (Below.trod laidOut (by kernel_rfl) (Bi (by kernel_rfl)) k0 bel lt0) (trodAll_cons_mk (Below.trod laidOut (by kernel_rfl) (Bi (by kernel_rfl)) k1 bel lt1) trodAll_mk0)),rfl,bel.frame _,fun h=>by cases h⟩
end Go.Proofs.YtpbnfcmlcmiieaaGreatDoor.storeRemoves
