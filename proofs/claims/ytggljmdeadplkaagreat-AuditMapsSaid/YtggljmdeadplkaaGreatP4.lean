/- Part 4: an evaluator, proved sound, and its use at this seat; no condition. -/
import Derived.WalkKit
import Derived.Maps.OwnOps
import Derived.Test.YtggljmdeadplkaaGreatP0
set_option linter.unusedSimpArgs false
set_option linter.unusedVariables false
set_option linter.unusedSectionVars false
set_option linter.deprecated false
set_option maxRecDepth 100000
set_option maxHeartbeats 1000000
namespace Go.Gm
open Go Go.RowKit
section
variable {P:Program} {K V:Type} [DecidableEq K]
structure KeyLaw (P:Program) (T:TypeId) (enc:K->Value):Prop where
 gA:∀(b:Bool) (k:K) (w:World),(Instr.checkKey b 10000 T (enc k)).run P w= .ok () w
 eq:∀(a b:K) (w:World),(Op.equal T (enc a) (enc b)).run P w= .ok (decide (a=b)) w
 bits:∀k,Instr.sameBits 10000 (enc k) (enc k)=true
 und:∃fs,P.underlying T=some (.struct fs)
def idxOf (k:K) (enc:V->Value):List (K×V)->Nat->Option (Nat×Value)
 |[],_=>none
 |x::L,i=>if k=x.1 then some (i,enc x.2)else idxOf k enc L (i+1)
def fV (enc:K->Value) (encV:V->Value) (es:List MapEntry) (L:List (K×V)):Prop:=es.map (fun e=>(e.key,e.val))=L.map fun x=>(enc x.1,encV x.2)
theorem y9 {T:TypeId} {enc:K->Value} {encV:V->Value} (hK:KeyLaw P T enc) (k:K) (w:World):∀(es:List MapEntry) (L:List (K×V)) (i:Nat),fV enc encV es L->(Instr.findAsking T (enc k) es i).run P w= .ok (idxOf k encV L i) w
 |[],[],i,_=>by simp[Instr.findAsking,idxOf]
 |[],_::_,i,h=>by simp[fV]at h
 |_::_,[],i,h=>by simp[fV]at h
 |e::es,x::L,i,h=>by
  simp only[fV,AZ,BU,By]at h;obtain⟨⟨h1,h2⟩,h3⟩:=h;have ih:=y9 hK k w es L (i+1) h3;simp only[Instr.findAsking,Sem.run_bind,h1,hK.eq,Result.andThen_ok,idxOf];by_cases hk:k=x.1
  . simp[hk,h2]
  . simp[hk,ih]
theorem mj {T:TypeId} {enc:K->Value} {encV:V->Value} (hK:KeyLaw P T enc) (k:K) (w:World) (es:List MapEntry) (L:List (K×V)) (h:fV enc encV es L):(Instr.findKey T (enc k) es).run P w= .ok (idxOf k encV L 0) w:=by
 obtain⟨fs,hu⟩:=hK.und;unfold Instr.findKey;simp only[Sem.run_bind,run_underlying hu,Result.andThen_ok]
 cases es with
 |nil=>
  cases L with
  |nil=>simp[Instr.findNow,idxOf]
  |cons=>simp[fV]at h
 |cons e es=>
  have:Instr.findNow (.struct fs) (enc k) (e::es) 0=none:=by simp[Instr.findNow,Instr.sameNow]
  rw[this];exact y9 hK k w _ L 0 h
structure aw (w:World) (b:Nat) (enc:K->Value) (encV:V->Value) (L:List (K×V)):Prop where
 at_:∃es clk,w.heap[b]? =some (.map es clk)/\fV enc encV es.toList L/\(es.toList.map (·.born)).Pairwise (· < ·)/\ ∀e∈es.toList,e.born<clk
 nd:(L.map (·.1)).Nodup
def az (L:List (K×V)) (k:K):Option V:=(L.find? fun x=>decide (k=x.1)).map (·.2)
def bN (L:List (K×V)) (k:K) (v:V):List (K×V):=if k∈L.map (·.1)then L.map (fun x=>if k=x.1 then(k,v)else x)else L++[(k,v)]
def cS (L:List (K×V)) (k:K):List (K×V):=L.filter fun x=> !decide (k=x.1)
theorem ft {k:K} {encV:V->Value}:∀{L:List (K×V)} {i:Nat},idxOf k encV L i=none↔k∉L.map (·.1)
 |[],i=>by simp[idxOf]
 |x::L,i=>by
  unfold idxOf;by_cases h:k=x.1
  . rw[An h];simp[h]
  . rw[Ai h,ft];simp[h]
theorem tL {k:K} {encV:V->Value}:∀{L:List (K×V)} {i j:Nat} {v:Value},idxOf k encV L i=some (j,v)->∃n,j=i+n/\ ∃h:n<L.length,L[n].1=k/\v=encV L[n].2/\ ∀m (hm:m<n),L[m].1≠k
 |[],i,j,v,h=>by cases h
 |x::L,i,j,v,h=>by
  unfold idxOf at h;by_cases hk:k=x.1
  . rw[An hk]at h
    cases h;exact⟨0,rfl,by simp,hk.symm,rfl,fun m hm=>absurd hm (Br _)⟩
  . rw[Ai hk]at h;obtain⟨n,rfl,hn,h1,h2,h3⟩:=tL h;refine⟨n+1,by omega,by simpa using hn,by simpa using h1,by simpa using h2,fun m hm=>?_⟩
    cases m with
    |zero=>exact fun e=>hk e.symm
    |succ m=>exact h3 m (by omega)
theorem FG {k:K} {encV:V->Value}:∀{L:List (K×V)} {i:Nat},(idxOf k encV L i).map (·.2)=(az L k).map encV
 |[],i=>by simp[idxOf,az]
 |x::L,i=>by
  unfold idxOf az;by_cases h:k=x.1
  . rw[An h];simp[h]
  . rw[Ai h,FG];simp[h,az]
theorem aw.lookup {w:World} {b:Nat} {enc:K->Value} {encV:V->Value} {L:List (K×V)} (h:aw w b enc encV L) {T Te t:TypeId} (hK:KeyLaw P T enc) (ht:P.underlying t=some (.map T Te)) {z:Value} (hz:(zeroValue Te).run P w= .ok z w) (k:K) (ok:Bool):
  (Instr.lookup t (.map (some b)) (enc k) ok).run P w= .ok (if ok then .tuple #[((az L k).map encV).getD z, .bool (az L k).isSome]else((az L k).map encV).getD z) w:=by
 obtain⟨⟨es,clk,hb,hr,_⟩,_⟩:=h;have hf:=mj hK k w es.toList L hr;have hg:=FG (k:=k) (encV:=encV) (L:=L) (i:=0);have hgo:(getObj b).run P w= .ok (.map es clk) w:=by simp[getObj,Sem.run,hb]
 unfold Instr.lookup;simp only[Sem.run_bind,run_underlying ht,Result.andThen_ok,hgo,Sem.run_pure,hK.gA,hf]
 cases e:idxOf k encV L 0 with
 | none=>
  rw[e]at hg;simp only[Bk]at hg;have hn:az L k=none:=by
   cases hh:az L k with
   |none=>rfl
   |some v=>rw[hh]at hg;cases hg
  simp only[hn,hz,Sem.run_bind,Result.andThen_ok,Sem.run_pure]
  cases ok<;>simp
 | some q=>
  obtain⟨j,v⟩:=q;rw[e]at hg;simp only[A0]at hg;obtain⟨u,hu,rfl⟩:∃u,az L k=some u/\encV u=v:=by
   cases hh:az L k with
   |none=>rw[hh]at hg;cases hg
   |some u=>rw[hh]at hg;exact⟨u,rfl,by simpa using hg.symm⟩
  simp only[hu,Sem.run_pure,Result.andThen_ok]
  cases ok<;>simp
theorem aw.len {w:World} {b:Nat} {enc:K->Value} {encV:V->Value} {L:List (K×V)} (h:aw w b enc encV L):∃es clk,w.heap[b]? =some (.map es clk)/\es.size=L.length:=by
 obtain⟨⟨es,clk,hb,hr,_⟩,_⟩:=h;refine⟨es,clk,hb,?_⟩;have:=Ay List.length hr;simpa using this
def World.aJ (w:World) (b:Nat) (o:Obj):World:={w with heap:=w.heap.setIfInBounds b o}
theorem rj {L:List (K×V)} (h:(L.map (·.1)).Nodup) (k:K) (v:V):((bN L k v).map (·.1)).Nodup:=by
 unfold bN;split
 . have:(L.map fun x=>if k=x.1 then(k,v)else x).map (·.1)=L.map (·.1):=by
    rw[B6];refine BH fun x _=>?_
    simp only[Function.comp];split
    . assumption
    . rfl
   rw[this];exact h
 . rename_i hk;rw[AF,Ea];refine⟨h,by simp,fun a ha b hb=>?_⟩;simp at hb;subst hb;rintro rfl;exact hk ha
theorem F9 {L:List (K×V)} (h:(L.map (·.1)).Nodup) {n:Nat} (hn:n<L.length) (v:V):bN L L[n].1 v=L.set n (L[n].1,v):=by
 unfold bN;rw[An (Ar.2 ⟨L[n],Au hn,rfl⟩)];apply List.ext_getElem
 . simp
 . intro i h1 h2;simp only[List.getElem_map,List.getElem_set];have hi:i<L.length:=by simpa using h1
   by_cases e:n=i
   . subst e;simp
   . rw[Ai e];have:¬L[n].1=L[i].1:=fun he=>by
      have hp:=Bf.1 h;rcases DT n i with hlt|hge
      . exact hp n i (by simpa using hn) (by simpa using hi) hlt (by simpa using he)
      . exact hp i n (by simpa using hi) (by simpa using hn) (by omega) (by simpa using he.symm)
     rw[Ai this]
theorem nm {w:World} {b:Nat} {es0 es:Array MapEntry} {c0 c:Nat} (hb:w.heap[b]? =some (.map es0 c0)):(setObj b (.map es c)).run P w= .ok () (World.aJ w b (.map es c)):=by
 simp[setObj,Sem.run,World.aJ,hb]
theorem kH {w:World} {b:Nat} {o o':Obj} (hb:w.heap[b]? =some o) (j:Nat):(World.aJ w b o').heap[j]? =if j=b then some o' else w.heap[j]? :=by
 have hlt:=(Ac.1 hb).1;simp only[World.aJ,Bt];by_cases e:b=j
 . subst e;simp[hlt]
 . rw[Ai e,Ai (Ne.symm e)]
theorem aw.update {w:World} {b:Nat} {enc:K->Value} {encV:V->Value} {L:List (K×V)} (h:aw w b enc encV L) {T Te t:TypeId} (hK:KeyLaw P T enc) (ht:P.underlying t=some (.map T Te)) (k:K) (v:V):
  ∃es clk,(Instr.mapUpdate t (.map (some b)) (enc k) (encV v)).run P w= .ok () (World.aJ w b (.map es clk))/\aw (World.aJ w b (.map es clk)) b enc encV (bN L k v):=by
 obtain⟨⟨es,clk,hb,hr,hs,hc⟩,hnd⟩:=h;have hf:=mj hK k w es.toList L hr;have hgo:(getObj b).run P w= .ok (.map es clk) w:=by simp[getObj,Sem.run,hb]
 unfold Instr.mapUpdate;simp only[Sem.run_bind,run_underlying ht,Result.andThen_ok,hgo,hK.gA,hf]
 cases e:idxOf k encV L 0 with
 |none=>
  have hk:=ft.1 e;refine⟨es.push ⟨enc k,encV v,clk⟩,clk+1,nm hb,⟨⟨_,_,by rw[kH hb,An rfl],?_,?_,?_⟩,rj hnd k v⟩⟩
  . unfold bN fV;rw[Ai hk,BW,AF,AF,hr];rfl
  . rw[BW,AF,D0];refine⟨hs,by simp,fun a ha c hc'=>?_⟩;obtain⟨x,hx,rfl⟩:=Ar.1 ha;simp at hc';subst hc';exact hc x hx
  . intro x hx;rw[BW,A6]at hx;rcases hx with hx|hx
    . have:=hc x hx;omega
    . simp at hx;subst hx;exact Dw _
 |some q=>
  obtain⟨j,u⟩:=q;obtain⟨n,hj,hn,h1,h2,_⟩:=tL e;simp only[AG]at hj;subst hj;have hlen:es.size=L.length:=by simpa using Ay List.length hr
  have hn':j<es.size:=by omega
  have hkey:es[j].key=enc k:=by
    have:=Ay (fun l=>(l[j]?).map Prod.fst) hr;simp[hn',hn]at this;rw[this,h1]
  have hks:(Instr.keyThatStays (((es[j]?).map fun x:MapEntry=>x.key).getD (enc k)) (enc k)).run P w= .ok (enc k) w:=by
    simp[hn',hkey,Instr.keyThatStays,hK.bits]
  simp only[Sem.run_bind,hks,Result.andThen_ok];have hput:bN L k v=L.set j (k,v):=by
    have:=F9 hnd hn v;rw[h1]at this;exact this
  have hget:∀i,(es.modify j fun e=>{e with key:=enc k,val:=encV v}).toList[i]? =if j=i then(es.toList[i]?).map (fun e=>{e with key:=enc k,val:=encV v})else es.toList[i]? :=fun i=>by
    rw[De,Dz];by_cases h:j=i
    . simp[h]
    . simp[h]
  have hborn:(es.modify j fun e=>{e with key:=enc k,val:=encV v}).toList.map (·.born)=es.toList.map (·.born):=by
    apply BB
    intro i;rw[Az,Az,hget];split<;>simp[Option.map_map,BD]
  refine⟨es.modify j fun e=>{e with key:=enc k,val:=encV v},clk,nm hb,⟨⟨_,_,by rw[kH hb,An rfl],?_,by rw[hborn];exact hs,?_⟩,rj hnd k v⟩⟩
  . rw[hput];unfold fV at hr⊢;apply BB
    intro i;have hri:=Ay (fun l=>l[i]?) hr;simp only[Az]at hri⊢;rw[hget,Ec];by_cases h:j=i
    . subst h;simp[hn,hn']
    . rw[Ai h,Ai h];exact hri
  . intro x hx;have hm:x.born∈(es.modify j fun e=>{e with key:=enc k,val:=encV v}).toList.map (·.born):=Ar.2 ⟨x,hx,rfl⟩;rw[hborn]at hm;obtain⟨y,hy,he⟩:=Ar.1 hm;rw[<-he];exact hc y hy
theorem aw.delete {w:World} {b:Nat} {enc:K->Value} {encV:V->Value} {L:List (K×V)} (h:aw w b enc encV L) {T Te t ty:TypeId} (hK:KeyLaw P T enc) (ht:P.underlying t=some (.map T Te)) (k:K) {ts:Array TypeId} (h0:ts[0]? =some t):
  ∃es clk,(Builtin.delete_ ts ty #[.map (some b),enc k]).run P w= .ok (.tuple #[]) (World.aJ w b (.map es clk))/\aw (World.aJ w b (.map es clk)) b enc encV (cS L k):=by
 obtain⟨⟨es,clk,hb,hr,hs,hc⟩,hnd⟩:=h;have hf:=mj hK k w es.toList L hr;have hgo:(getObj b).run P w= .ok (.map es clk) w:=by simp[getObj,Sem.run,hb]
 have hnd':((cS L k).map (·.1)).Nodup:=List.Sublist.nodup (List.filter_sublist.map _) hnd;unfold Builtin.delete_;simp only[h0,AR,A5,Bd,Sem.run_bind,run_underlying ht,Result.andThen_ok,hgo,hK.gA,hf]
 cases e:idxOf k encV L 0 with
 |none=>
  have hk:=ft.1 e;have hd:cS L k=L:=by
    unfold cS;rw[BY];intro x hx;simp only[AA,Ag];rintro rfl;exact hk (Ar.2 ⟨x,hx,rfl⟩)
  refine⟨es,clk,by simp[nm hb],⟨⟨_,_,by rw[kH hb,An rfl],?_,hs,hc⟩,hnd'⟩⟩;rw[hd];exact hr
 |some q=>
  obtain⟨j,u⟩:=q;obtain⟨n,hj,hn,h1,h2,h3⟩:=tL e;simp only[AG]at hj;subst hj;have hd:cS L k=L.eraseIdx j:=by
    have hp:=Bf.1 hnd;unfold cS;rw[Dr];conv=>lhs;rw[<-Ds j L,DM hn]
    rw[DH,B0,Ai (by simp[h1])];congr 1
    . rw[BY];intro x hx;obtain⟨i,hi,rfl⟩:=AS hx;simp only[Dx]at hi;simp only[Eb,AA,Ag];exact fun he=>h3 i (by omega) he.symm
    . rw[BY];intro x hx;obtain⟨i,hi,rfl⟩:=AS hx;simp only[Ef]at hi;simp only[Dc,AA,Ag];intro he;exact hp j (j+1+i) (by simpa using hn) (by simp;omega) (by omega) (by simpa [h1]using he)
  have hlen:es.size=L.length:=by simpa using Ay List.length hr
  have hte:(es.eraseIdxIfInBounds j).toList=es.toList.eraseIdx j:=by
    rw[Array.eraseIdxIfInBounds,dif_pos (by omega)];simp
  refine⟨es.eraseIdxIfInBounds j,clk,by simp[nm hb],⟨⟨_,_,by rw[kH hb,An rfl],?_,?_,?_⟩,hnd'⟩⟩
  . unfold fV at hr⊢;rw[hd,hte,Dr,Dr,AF,AF,D3,Ew,D3,Ew,hr]
  . rw[hte];exact List.Pairwise.sublist ((EI _ _).map _) hs
  . rw[hte];exact fun x hx=>hc x ((EI _ _).subset hx)
theorem aw.same {w w':World} {b:Nat} {enc:K->Value} {encV:V->Value} {L:List (K×V)} (h:aw w b enc encV L) (e:w'.heap[b]? =w.heap[b]?):aw w' b enc encV L:=
 ⟨by rw[e];exact h.at_,h.nd⟩
end
end Go.Gm
