/- Part 4: an evaluator, proved sound, and its use at this seat; no condition. -/
import Derived.WalkKit
import Derived.Maps.OwnOps
import Derived.Test.YtpbnfcmlcmiieaaGreatDoorP0
import Derived.Test.YtpbnfcmlcmiieaaGreatDoorP3
set_option linter.unusedSimpArgs false
set_option linter.unusedVariables false
set_option linter.unusedSectionVars false
set_option linter.deprecated false
set_option maxRecDepth 100000
set_option maxHeartbeats 4000000
namespace Go.Gm
open Go Go.RowKit
section
variable {P:Program} {K V:Type} [DecidableEq K]
structure KeyLaw (P:Program) (T:TypeId) (enc:K->Value):Prop where
 fl:∀(b:Bool) (k:K) (w:World),(Instr.checkKey b 10000 T (enc k)).run P w= .ok () w
 eq:∀(a b:K) (w:World),(Op.equal T (enc a) (enc b)).run P w= .ok (decide (a=b)) w
 bits:∀k,Instr.sameBits 10000 (enc k) (enc k)=true
 und:∃fs,P.underlying T=some (.struct fs)
def idxOf (k:K) (enc:V->Value):List (K×V)->Nat->Option (Nat×Value)
 |[],_=>none
 |x::L,i=>if k=x.1 then some (i,enc x.2)else idxOf k enc L (i+1)
def fa (enc:K->Value) (encV:V->Value) (es:List MapEntry) (L:List (K×V)):Prop:=es.map (fun e=>(e.key,e.val))=L.map fun x=>(enc x.1,encV x.2)
theorem vR {T:TypeId} {enc:K->Value} {encV:V->Value} (hK:KeyLaw P T enc) (k:K) (w:World):∀(es:List MapEntry) (L:List (K×V)) (i:Nat),fa enc encV es L->(Instr.findAsking T (enc k) es i).run P w= .ok (idxOf k encV L i) w
 |[],[],i,_=>by simp[Instr.findAsking,idxOf]
 |[],_::_,i,h=>by simp[fa]at h
 |_::_,[],i,h=>by simp[fa]at h
 |e::es,x::L,i,h=>by
  simp only[fa,Ay,Bb,B9]at h;obtain⟨⟨h1,h2⟩,h3⟩:=h;have ih:=vR hK k w es L (i+1) h3;simp only[Instr.findAsking,Sem.run_bind,h1,hK.eq,Result.andThen_ok,idxOf];by_cases hk:k=x.1
  . simp[hk,h2]
  . simp[hk,ih]
theorem lj {T:TypeId} {enc:K->Value} {encV:V->Value} (hK:KeyLaw P T enc) (k:K) (w:World) (es:List MapEntry) (L:List (K×V)) (h:fa enc encV es L):(Instr.findKey T (enc k) es).run P w= .ok (idxOf k encV L 0) w:=by
 obtain⟨fs,hu⟩:=hK.und;unfold Instr.findKey;simp only[Sem.run_bind,run_underlying hu,Result.andThen_ok]
 cases es with
 |nil=>
  cases L with
  |nil=>simp[Instr.findNow,idxOf]
  |cons=>simp[fa]at h
 |cons e es=>
  have:Instr.findNow (.struct fs) (enc k) (e::es) 0=none:=by simp[Instr.findNow,Instr.sameNow]
  rw[this];exact vR hK k w _ L 0 h
structure bf (w:World) (b:Nat) (enc:K->Value) (encV:V->Value) (L:List (K×V)):Prop where
 at_:∃es clk,w.heap[b]? =some (.map es clk)/\fa enc encV es.toList L/\(es.toList.map (·.born)).Pairwise (· < ·)/\ ∀e∈es.toList,e.born<clk
 nd:(L.map (·.1)).Nodup
def bc (L:List (K×V)) (k:K):Option V:=(L.find? fun x=>decide (k=x.1)).map (·.2)
def fD (L:List (K×V)) (k:K) (v:V):List (K×V):=if k∈L.map (·.1)then L.map (fun x=>if k=x.1 then(k,v)else x)else L++[(k,v)]
theorem fO {k:K} {encV:V->Value}:∀{L:List (K×V)} {i:Nat},idxOf k encV L i=none↔k∉L.map (·.1)
 |[],i=>by simp[idxOf]
 |x::L,i=>by
  unfold idxOf;by_cases h:k=x.1
  . rw[Ai h];simp[h]
  . rw[Ae h,fO];simp[h]
theorem xk {k:K} {encV:V->Value}:∀{L:List (K×V)} {i j:Nat} {v:Value},idxOf k encV L i=some (j,v)->∃n,j=i+n/\ ∃h:n<L.length,L[n].1=k/\v=encV L[n].2/\ ∀m (hm:m<n),L[m].1≠k
 |[],i,j,v,h=>by cases h
 |x::L,i,j,v,h=>by
  unfold idxOf at h;by_cases hk:k=x.1
  . rw[Ai hk]at h
    cases h;exact⟨0,rfl,by simp,hk.symm,rfl,fun m hm=>absurd hm (Dn _)⟩
  . rw[Ae hk]at h;obtain⟨n,rfl,hn,h1,h2,h3⟩:=xk h;refine⟨n+1,by omega,by simpa using hn,by simpa using h1,by simpa using h2,fun m hm=>?_⟩
    cases m with
    |zero=>exact fun e=>hk e.symm
    |succ m=>exact h3 m (by omega)
theorem xU {k:K} {encV:V->Value}:∀{L:List (K×V)} {i:Nat},(idxOf k encV L i).map (·.2)=(bc L k).map encV
 |[],i=>by simp[idxOf,bc]
 |x::L,i=>by
  unfold idxOf bc;by_cases h:k=x.1
  . rw[Ai h];simp[h]
  . rw[Ae h,xU];simp[h,bc]
theorem bf.lookup {w:World} {b:Nat} {enc:K->Value} {encV:V->Value} {L:List (K×V)} (h:bf w b enc encV L) {T Te t:TypeId} (hK:KeyLaw P T enc) (ht:P.underlying t=some (.map T Te)) {z:Value} (hz:(zeroValue Te).run P w= .ok z w) (k:K) (ok:Bool):
  (Instr.lookup t (.map (some b)) (enc k) ok).run P w= .ok (if ok then .tuple #[((bc L k).map encV).getD z, .bool (bc L k).isSome]else((bc L k).map encV).getD z) w:=by
 obtain⟨⟨es,clk,hb,hr,_⟩,_⟩:=h;have hf:=lj hK k w es.toList L hr;have hg:=xU (k:=k) (encV:=encV) (L:=L) (i:=0);have hgo:(getObj b).run P w= .ok (.map es clk) w:=by simp[getObj,Sem.run,hb]
 unfold Instr.lookup;simp only[Sem.run_bind,run_underlying ht,Result.andThen_ok,hgo,Sem.run_pure,hK.fl,hf]
 cases e:idxOf k encV L 0 with
 | none=>
  rw[e]at hg;simp only[Bv]at hg;have hn:bc L k=none:=by
   cases hh:bc L k with
   |none=>rfl
   |some v=>rw[hh]at hg;cases hg
  simp only[hn,hz,Sem.run_bind,Result.andThen_ok,Sem.run_pure]
  cases ok<;>simp
 | some q=>
  obtain⟨j,v⟩:=q;rw[e]at hg;simp only[AS]at hg;obtain⟨u,hu,rfl⟩:∃u,bc L k=some u/\encV u=v:=by
   cases hh:bc L k with
   |none=>rw[hh]at hg;cases hg
   |some u=>rw[hh]at hg;exact⟨u,rfl,by simpa using hg.symm⟩
  simp only[hu,Sem.run_pure,Result.andThen_ok]
  cases ok<;>simp
theorem bf.len {w:World} {b:Nat} {enc:K->Value} {encV:V->Value} {L:List (K×V)} (h:bf w b enc encV L):∃es clk,w.heap[b]? =some (.map es clk)/\es.size=L.length:=by
 obtain⟨⟨es,clk,hb,hr,_⟩,_⟩:=h;refine⟨es,clk,hb,?_⟩;have:=AN List.length hr;simpa using this
def World.bp (w:World) (b:Nat) (o:Obj):World:={w with heap:=w.heap.setIfInBounds b o}
theorem rX {L:List (K×V)} (h:(L.map (·.1)).Nodup) (k:K) (v:V):((fD L k v).map (·.1)).Nodup:=by
 unfold fD;split
 . have:(L.map fun x=>if k=x.1 then(k,v)else x).map (·.1)=L.map (·.1):=by
    rw[Bp];refine ED fun x _=>?_
    simp only[Function.comp];split
    . assumption
    . rfl
   rw[this];exact h
 . rename_i hk;rw[Ba,List.nodup_append];refine⟨h,by simp,fun a ha b hb=>?_⟩;simp at hb;subst hb;rintro rfl;exact hk ha
theorem Ir {L:List (K×V)} (h:(L.map (·.1)).Nodup) {n:Nat} (hn:n<L.length) (v:V):fD L L[n].1 v=L.set n (L[n].1,v):=by
 unfold fD;rw[Ai (A1.2 ⟨L[n],AX hn,rfl⟩)];apply List.ext_getElem
 . simp
 . intro i h1 h2;simp only[List.getElem_map,List.getElem_set];have hi:i<L.length:=by simpa using h1
   by_cases e:n=i
   . subst e;simp
   . rw[Ae e];have:¬L[n].1=L[i].1:=fun he=>by
      have hp:=B5.1 h;rcases Nat.lt_or_ge n i with hlt|hge
      . exact hp n i (by simpa using hn) (by simpa using hi) hlt (by simpa using he)
      . exact hp i n (by simpa using hi) (by simpa using hn) (by omega) (by simpa using he.symm)
     rw[Ae this]
theorem pQ {w:World} {b:Nat} {es0 es:Array MapEntry} {c0 c:Nat} (hb:w.heap[b]? =some (.map es0 c0)):(setObj b (.map es c)).run P w= .ok () (World.bp w b (.map es c)):=by
 simp[setObj,Sem.run,World.bp,hb]
theorem nM {w:World} {b:Nat} {o o':Obj} (hb:w.heap[b]? =some o) (j:Nat):(World.bp w b o').heap[j]? =if j=b then some o' else w.heap[j]? :=by
 have hlt:=(Ad.1 hb).1;simp only[World.bp,Bq];by_cases e:b=j
 . subst e;simp[hlt]
 . rw[Ae e,Ae (En e)]
theorem bf.same {w w':World} {b:Nat} {enc:K->Value} {encV:V->Value} {L:List (K×V)} (h:bf w b enc encV L) (e:w'.heap[b]? =w.heap[b]?):bf w' b enc encV L:=
 ⟨by rw[e];exact h.at_,h.nd⟩
end
end Go.Gm
namespace Go.Proofs
open Go Go.Am Go.RowKit Go.Sy Go.Gm
def rf (a:Int×Int):Value:= .agg #[.int .i64 a.1, .int .i64 a.2]
def cD (d:aj):Value:= .agg #[.int .i64 d.dev, .int .i64 d.inc, .int .i64 d.seq]
def rh (k:bm):Value:= .agg #[.string ⟨k.name.toArray⟩, .string ⟨k.domain.toArray⟩, .string ⟨k.path.toArray⟩]
def eF (n:Int):Value:= .int .i64 n
theorem Km (x y:aj) (w:World):(Op.equal Ty.jl (cD x) (cD y)).run Tryz.prog w= .ok (decide (x=y)) w:=by
 letI:Inhabited aE:=⟨⟨True,#[]⟩⟩
 have h0:eqT Tryz.tab 8 Ty.jl (.agg [.int .i64 x.dev, .int .i64 x.inc, .int .i64 x.seq]) (.agg [.int .i64 y.dev, .int .i64 y.inc, .int .i64 y.seq])=(do if(<-(if(x.dev==y.dev)=true then(if(x.inc==y.inc)=true then .ok true else .ok false)else .ok false:R Bool))=true then(if(x.seq==y.seq)=true then .ok true else .ok false)else .ok false:R Bool):=by kernel_rfl
 have h:eqT Tryz.tab 8 Ty.jl (.agg [.int .i64 x.dev, .int .i64 x.inc, .int .i64 x.seq]) (.agg [.int .i64 y.dev, .int .i64 y.inc, .int .i64 y.seq])= .ok (decide (x=y)):=by
  rw[h0];by_cases e1:x.dev=y.dev<;>by_cases e2:x.inc=y.inc<;>by_cases e3:x.seq=y.seq
  all_goals first|(rw[De (aj.ext_iff.2 ⟨e1,e2,e3⟩)];simp only[e1,e2,e3,Dk,AK];rfl)|(rw[BL (fun h=>by rw[aj.ext_iff]at h;simp_all)];simp[e1,e2,e3];try rfl)
 exact nV Tryz.gC (E:=⟨fun i=>i,fun _=>0⟩) 8 Ty.jl _ _ _ h 9992 w
theorem oR:KeyLaw Tryz.prog Ty.jl cD:=⟨fun b k w=>by kernel_rfl,Km,fun k=>by simp[Instr.sameBits,cD],⟨_,Tryz.underlying77⟩⟩
theorem yT (w:World):(zeroValue 3).run Tryz.prog w= .ok (eF 0) w:=by kernel_rfl
end Go.Proofs
