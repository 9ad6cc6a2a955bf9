/- Part 7: an evaluator, proved sound, and its use at this seat; no condition. -/
import Derived.WalkKit
import Derived.Maps.OwnOps
import Derived.Test.YtcnemjkdbaicnaaGreatP0
import Derived.Test.YtcnemjkdbaicnaaGreatP6
set_option linter.unusedSimpArgs false
set_option linter.unusedVariables false
set_option linter.unusedSectionVars false
set_option linter.deprecated false
set_option maxRecDepth 100000
set_option maxHeartbeats 4000000
namespace Go.Gm
open Go Go.RowKit
section
variable {P:Program} {K V:Type} [DecidableEq K]
structure KeyLaw (P:Program) (T:TypeId) (enc:K->Value):Prop where
 iS:∀(b:Bool) (k:K) (w:World),(Instr.checkKey b 10000 T (enc k)).run P w= .ok () w
 eq:∀(a b:K) (w:World),(Op.equal T (enc a) (enc b)).run P w= .ok (decide (a=b)) w
 bits:∀k,Instr.sameBits 10000 (enc k) (enc k)=true
 und:∃fs,P.underlying T=some (.struct fs)
def idxOf (k:K) (enc:V->Value):List (K×V)->Nat->Option (Nat×Value)
 |[],_=>none
 |x::L,i=>if k=x.1 then some (i,enc x.2)else idxOf k enc L (i+1)
def gV (enc:K->Value) (encV:V->Value) (es:List MapEntry) (L:List (K×V)):Prop:=es.map (fun e=>(e.key,e.val))=L.map fun x=>(enc x.1,encV x.2)
theorem Jz {T:TypeId} {enc:K->Value} {encV:V->Value} (hK:KeyLaw P T enc) (k:K) (w:World):∀(es:List MapEntry) (L:List (K×V)) (i:Nat),gV enc encV es L->(Instr.findAsking T (enc k) es i).run P w= .ok (idxOf k encV L i) w
 |[],[],i,_=>by simp[Instr.findAsking,idxOf]
 |[],_::_,i,h=>by grind [gV]
 |_::_,[],i,h=>by grind [gV]
 |e::es,x::L,i,h=>by
  simp only[gV,AW,Dj,DV]at h;obtain⟨⟨h1,h2⟩,h3⟩:=h;have ih:=Jz hK k w es L (i+1) h3;simp only[Instr.findAsking,Sem.run_bind,h1,hK.eq,Result.andThen_ok,idxOf];by_cases hk:k=x.1
  . simp[hk,h2]
  . simp[hk,ih]
theorem uk {T:TypeId} {enc:K->Value} {encV:V->Value} (hK:KeyLaw P T enc) (k:K) (w:World) (es:List MapEntry) (L:List (K×V)) (h:gV enc encV es L):(Instr.findKey T (enc k) es).run P w= .ok (idxOf k encV L 0) w:=by
 obtain⟨fs,hu⟩:=hK.und;unfold Instr.findKey;simp only[Sem.run_bind,run_underlying hu,Result.andThen_ok]
 cases es with
 |nil=>
  simp_all[Instr.findNow,idxOf,gV]
 |cons e es=>
  have:Instr.findNow (.struct fs) (enc k) (e::es) 0=none:=by simp[Instr.findNow,Instr.sameNow]
  rw[this];grind [Jz]
structure ay (w:World) (b:Nat) (enc:K->Value) (encV:V->Value) (L:List (K×V)):Prop where
 at_:∃es clk,w.heap[b]? =some (.map es clk)/\gV enc encV es.toList L/\(es.toList.map (·.born)).Pairwise (· < ·)/\ ∀e∈es.toList,e.born<clk
 nd:(L.map (·.1)).Nodup
def aB (L:List (K×V)) (k:K):Option V:=(L.find? fun x=>decide (k=x.1)).map (·.2)
def cq (L:List (K×V)) (k:K) (v:V):List (K×V):=if k∈L.map (·.1)then L.map (fun x=>if k=x.1 then(k,v)else x)else L++[(k,v)]
def di (L:List (K×V)) (k:K):List (K×V):=L.filter fun x=> !decide (k=x.1)
theorem gu {k:K} {encV:V->Value}:∀{L:List (K×V)} {i:Nat},idxOf k encV L i=none↔k∉L.map (·.1)
 |[],i=>by simp[idxOf]
 |x::L,i=>by
  unfold idxOf;by_cases h:k=x.1
  . rw[Al h];simp[h]
  . rw[An h,gu];simp[h]
theorem xF {k:K} {encV:V->Value}:∀{L:List (K×V)} {i j:Nat} {v:Value},idxOf k encV L i=some (j,v)->∃n,j=i+n/\ ∃h:n<L.length,L[n].1=k/\v=encV L[n].2/\ ∀m (hm:m<n),L[m].1≠k
 |[],i,j,v,h=>by cases h
 |x::L,i,j,v,h=>by
  unfold idxOf at h;by_cases hk:k=x.1
  . rw[Al hk]at h
    cases h;exact⟨0,rfl,by simp,hk.symm,rfl,fun m hm=>absurd hm (A3 _)⟩
  . rw[An hk]at h;obtain⟨n,rfl,hn,h1,h2,h3⟩:=xF h;refine⟨n+1,by omega,by simpa using hn,by simpa using h1,by simpa using h2,fun m hm=>?_⟩
    cases m with
    |zero=>exact fun e=>hk e.symm
    |succ m=>exact h3 m (by omega)
theorem LV {k:K} {encV:V->Value}:∀{L:List (K×V)} {i:Nat},(idxOf k encV L i).map (·.2)=(aB L k).map encV
 |[],i=>by simp[idxOf,aB]
 |x::L,i=>by
  unfold idxOf aB;by_cases h:k=x.1
  . rw[Al h];simp[h]
  . rw[An h,LV];simp[h,aB]
theorem ay.lookup {w:World} {b:Nat} {enc:K->Value} {encV:V->Value} {L:List (K×V)} (h:ay w b enc encV L) {T Te t:TypeId} (hK:KeyLaw P T enc) (ht:P.underlying t=some (.map T Te)) {z:Value} (hz:(zeroValue Te).run P w= .ok z w) (k:K) (ok:Bool):
  (Instr.lookup t (.map (some b)) (enc k) ok).run P w= .ok (if ok then .tuple #[((aB L k).map encV).getD z, .bool (aB L k).isSome]else((aB L k).map encV).getD z) w:=by
 obtain⟨⟨es,clk,hb,hr,_⟩,_⟩:=h;have hf:=uk hK k w es.toList L hr;have hg:=LV (k:=k) (encV:=encV) (L:=L) (i:=0);have hgo:(getObj b).run P w= .ok (.map es clk) w:=by grind [getObj,Sem.run]
 unfold Instr.lookup;simp only[Sem.run_bind,run_underlying ht,Result.andThen_ok,hgo,Sem.run_pure,hK.iS,hf]
 cases e:idxOf k encV L 0 with
 | none=>
  rw[e]at hg;simp only[BP]at hg;have hn:aB L k=none:=by
   cases hh:aB L k with
   |none=>rfl
   |some v=>rw[hh]at hg;cases hg
  simp_all
 |some q=>
  grind [aB,Sem.run_pure]
theorem ay.len {w:World} {b:Nat} {enc:K->Value} {encV:V->Value} {L:List (K×V)} (h:ay w b enc encV L):∃es clk,w.heap[b]? =some (.map es clk)/\es.size=L.length:=by
 obtain⟨⟨es,clk,hb,hr,_⟩,_⟩:=h;refine⟨es,clk,hb,?_⟩;have:=Aj List.length hr;grind
def World.aU (w:World) (b:Nat) (o:Obj):World:={w with heap:=w.heap.setIfInBounds b o}
theorem wY {L:List (K×V)} (h:(L.map (·.1)).Nodup) (k:K) (v:V):((cq L k v).map (·.1)).Nodup:=by
 grind [cq]
theorem MB {L:List (K×V)} (h:(L.map (·.1)).Nodup) {n:Nat} (hn:n<L.length) (v:V):cq L L[n].1 v=L.set n (L[n].1,v):=by
 unfold cq;rw[Al (Aw.2 ⟨L[n],AN hn,rfl⟩)];apply List.ext_getElem
 all_goals grind [List.pairwise_iff_getElem]
theorem pQ {w:World} {b:Nat} {es0 es:Array MapEntry} {c0 c:Nat} (hb:w.heap[b]? =some (.map es0 c0)):(setObj b (.map es c)).run P w= .ok () (World.aU w b (.map es c)):=by
 grind [setObj,Sem.run,World.aU]
theorem mK {w:World} {b:Nat} {o o':Obj} (hb:w.heap[b]? =some o) (j:Nat):(World.aU w b o').heap[j]? =if j=b then some o' else w.heap[j]? :=by
 have hlt:=(Ab.1 hb).1;grind [World.aU]
theorem ay.update {w:World} {b:Nat} {enc:K->Value} {encV:V->Value} {L:List (K×V)} (h:ay w b enc encV L) {T Te t:TypeId} (hK:KeyLaw P T enc) (ht:P.underlying t=some (.map T Te)) (k:K) (v:V):
  ∃es clk,(Instr.mapUpdate t (.map (some b)) (enc k) (encV v)).run P w= .ok () (World.aU w b (.map es clk))/\ay (World.aU w b (.map es clk)) b enc encV (cq L k v):=by
 obtain⟨⟨es,clk,hb,hr,hs,hc⟩,hnd⟩:=h;have hf:=uk hK k w es.toList L hr;have hgo:(getObj b).run P w= .ok (.map es clk) w:=by grind [getObj,Sem.run]
 unfold Instr.mapUpdate;simp only[Sem.run_bind,run_underlying ht,Result.andThen_ok,hgo,hK.iS,hf]
 cases e:idxOf k encV L 0 with
 |none=>
  have hk:=gu.1 e;refine⟨es.push ⟨enc k,encV v,clk⟩,clk+1,pQ hb,⟨⟨_,_,by rw[mK hb,Al rfl],?_,?_,?_⟩,wY hnd k v⟩⟩
  all_goals grind [cq,gV]
 |some q=>
  obtain⟨j,u⟩:=q;obtain⟨n,hj,hn,h1,h2,_⟩:=xF e;simp only[Ax]at hj;subst hj;have hlen:es.size=L.length:=by simpa using Aj List.length hr
  have hn':j<es.size:=by omega
  have hkey:es[j].key=enc k:=by
    have:=Aj (fun l=>(l[j]?).map Prod.fst) hr;grind
  have hks:(Instr.keyThatStays (((es[j]?).map fun x:MapEntry=>x.key).getD (enc k)) (enc k)).run P w= .ok (enc k) w:=by
    simp[hn',hkey,Instr.keyThatStays,hK.bits]
  simp only[Sem.run_bind,hks,Result.andThen_ok];have hput:cq L k v=L.set j (k,v):=by
    have:=MB hnd hn v;rw[h1]at this;omega
  have hget:∀i,(es.modify j fun e=>{e with key:=enc k,val:=encV v}).toList[i]? =if j=i then(es.toList[i]?).map (fun e=>{e with key:=enc k,val:=encV v})else es.toList[i]? :=fun i=>by
    rw[Dw,Dt];grind
  have hborn:(es.modify j fun e=>{e with key:=enc k,val:=encV v}).toList.map (·.born)=es.toList.map (·.born):=by
    apply BG
    grind
  refine⟨es.modify j fun e=>{e with key:=enc k,val:=encV v},clk,pQ hb,⟨⟨_,_,by rw[mK hb,Al rfl],?_,by rw[hborn];exact hs,?_⟩,wY hnd k v⟩⟩
  . rw[hput];unfold gV at hr⊢;apply BG
    intro i;have hri:=Aj (fun l=>l[i]?) hr;simp only[AE]at hri⊢;rw[hget,D8];by_cases h:j=i
    . subst h;simp[hn,hn']
    . rw[An h,An h];exact hri
  . intro x hx;have hm:x.born∈(es.modify j fun e=>{e with key:=enc k,val:=encV v}).toList.map (·.born):=Aw.2 ⟨x,hx,rfl⟩;rw[hborn]at hm;grind
theorem ay.delete {w:World} {b:Nat} {enc:K->Value} {encV:V->Value} {L:List (K×V)} (h:ay w b enc encV L) {T Te t ty:TypeId} (hK:KeyLaw P T enc) (ht:P.underlying t=some (.map T Te)) (k:K) {ts:Array TypeId} (h0:ts[0]? =some t):
  ∃es clk,(Builtin.delete_ ts ty #[.map (some b),enc k]).run P w= .ok (.tuple #[]) (World.aU w b (.map es clk))/\ay (World.aU w b (.map es clk)) b enc encV (di L k):=by
 obtain⟨⟨es,clk,hb,hr,hs,hc⟩,hnd⟩:=h;have hf:=uk hK k w es.toList L hr;have hgo:(getObj b).run P w= .ok (.map es clk) w:=by grind [getObj,Sem.run]
 have hnd':((di L k).map (·.1)).Nodup:=Dz (List.filter_sublist.map _) hnd;unfold Builtin.delete_;simp only[h0,AJ,AQ,AZ,Sem.run_bind,run_underlying ht,Result.andThen_ok,hgo,hK.iS,hf]
 cases e:idxOf k encV L 0 with
 | none=>
  have hk:=gu.1 e;have hd:di L k=L:=by
   grind [di,List.filter_eq_self]
  refine⟨es,clk,by simp[pQ hb],⟨⟨_,_,by rw[mK hb,Al rfl],?_,hs,hc⟩,hnd'⟩⟩;rw[hd];exact hr
 | some q=>
  obtain⟨j,u⟩:=q;obtain⟨n,hj,hn,h1,h2,h3⟩:=xF e;simp only[Ax]at hj;subst hj;have hd:di L k=L.eraseIdx j:=by
   have hp:=AK.1 hnd;unfold di;rw[Eb];conv=>lhs;rw[<-BN j L,BO hn]
   rw[Dy,BU,An (by grind)];congr 1
   . rw[Bn];grind [List.getElem_of_mem]
   . rw[Bn];intro x hx;obtain⟨i,hi,rfl⟩:=AG hx;simp only[BM]at hi;simp only[BR,A0,Ai];intro he;exact hp j (j+1+i) (by simpa using hn) (by simp;omega) (by omega) (by simpa [h1]using he)
  have hlen:es.size=L.length:=by simpa using Aj List.length hr
  have hte:(es.eraseIdxIfInBounds j).toList=es.toList.eraseIdx j:=by
   rw[Array.eraseIdxIfInBounds,dif_pos (by omega)];simp
  refine⟨es.eraseIdxIfInBounds j,clk,by simp[pQ hb],⟨⟨_,_,by rw[mK hb,Al rfl],?_,?_,?_⟩,hnd'⟩⟩
  all_goals grind [gV,List.eraseIdx_eq_take_drop_succ,List.map_take,List.map_drop]
theorem ay.fresh (w:World) (enc:K->Value) (encV:V->Value):ay (w.alloc (.map #[] 0)) w.heap.size enc encV ([]:List (K×V)):=
 ⟨⟨#[],0,by(show(w.heap.push _)[w.heap.size]? =_;simp),by simp[gV],by simp,by simp⟩,by simp⟩
theorem ay.same {w w':World} {b:Nat} {enc:K->Value} {encV:V->Value} {L:List (K×V)} (h:ay w b enc encV L) (e:w'.heap[b]? =w.heap[b]?):ay w' b enc encV L:=
 ⟨by rw[e];exact h.at_,h.nd⟩
end
end Go.Gm
namespace Go.Proofs
open Go Go.Am Go.RowKit Go.Sy Go.Gm
def eI (a:Int×Int):Value:= .agg #[.int .i64 a.1, .int .i64 a.2]
def bJ (d:aq):Value:= .agg #[.int .i64 d.dev, .int .i64 d.inc, .int .i64 d.seq]
def cZ (k:aD):Value:= .agg #[.string ⟨k.name.toArray⟩, .string ⟨k.domain.toArray⟩, .string ⟨k.path.toArray⟩]
def cD (n:Int):Value:= .int .i64 n
theorem QO (x y:Int×Int) (w:World):(Op.equal vJ (eI x) (eI y)).run Tryz.prog w= .ok (decide (x=y)) w:=by
 letI:Inhabited aF:=⟨⟨True,#[]⟩⟩
 have h0:eqT Tryz.tab 8 vJ (.agg [.int .i64 x.1, .int .i64 x.2]) (.agg [.int .i64 y.1, .int .i64 y.2])=(if(x.1==y.1)=true then(if(x.2==y.2)=true then .ok true else .ok false)else .ok false:R Bool):=by kernel_rfl
 have h:eqT Tryz.tab 8 vJ (.agg [.int .i64 x.1, .int .i64 x.2]) (.agg [.int .i64 y.1, .int .i64 y.2])= .ok (decide (x=y)):=by
  rw[h0];by_cases e1:x.1=y.1<;>by_cases e2:x.2=y.2<;>simp[e1,e2,Prod.ext_iff]
 exact qN Tryz.kD (E:=⟨fun i=>i,fun _=>0⟩) 8 vJ _ _ _ h 9992 w
theorem QP (x y:aq) (w:World):(Op.equal Ty.nF (bJ x) (bJ y)).run Tryz.prog w= .ok (decide (x=y)) w:=by
 letI:Inhabited aF:=⟨⟨True,#[]⟩⟩
 have h0:eqT Tryz.tab 8 Ty.nF (.agg [.int .i64 x.dev, .int .i64 x.inc, .int .i64 x.seq]) (.agg [.int .i64 y.dev, .int .i64 y.inc, .int .i64 y.seq])=(do if(<-(if(x.dev==y.dev)=true then(if(x.inc==y.inc)=true then .ok true else .ok false)else .ok false:R Bool))=true then(if(x.seq==y.seq)=true then .ok true else .ok false)else .ok false:R Bool):=by kernel_rfl
 have h:eqT Tryz.tab 8 Ty.nF (.agg [.int .i64 x.dev, .int .i64 x.inc, .int .i64 x.seq]) (.agg [.int .i64 y.dev, .int .i64 y.inc, .int .i64 y.seq])= .ok (decide (x=y)):=by
  rw[h0];by_cases e1:x.dev=y.dev<;>by_cases e2:x.inc=y.inc<;>by_cases e3:x.seq=y.seq
  all_goals first|(rw[B7 (aq.ext_iff.2 ⟨e1,e2,e3⟩)];simp only[e1,e2,e3,Ec,BB];rfl)|(rw[A5 (fun h=>by rw[aq.ext_iff]at h;simp_all)];simp[e1,e2,e3];try rfl)
 exact qN Tryz.kD (E:=⟨fun i=>i,fun _=>0⟩) 8 Ty.nF _ _ _ h 9992 w
theorem X7 (x y:aD):x=y↔x.name=y.name/\x.domain=y.domain/\x.path=y.path:=by
 cases x;cases y;simp
theorem QQ (x y:aD) (w:World):(Op.equal vL (cZ x) (cZ y)).run Tryz.prog w= .ok (decide (x=y)) w:=by
 letI:Inhabited aF:=⟨⟨True,#[]⟩⟩
 have h0:eqT Tryz.tab 8 vL (.agg [.str x.name, .str x.domain, .str x.path]) (.agg [.str y.name, .str y.domain, .str y.path])=(if(x.name==y.name)=true then(if(x.domain==y.domain)=true then(if(x.path==y.path)=true then .ok true else .ok false)else .ok false)else .ok false:R Bool):=by kernel_rfl
 have h:eqT Tryz.tab 8 vL (.agg [.str x.name, .str x.domain, .str x.path]) (.agg [.str y.name, .str y.domain, .str y.path])= .ok (decide (x=y)):=by
  rw[h0];by_cases e1:x.name=y.name<;>by_cases e2:x.domain=y.domain<;>by_cases e3:x.path=y.path<;>simp[e1,e2,e3,X7]
 exact qN Tryz.kD (E:=⟨fun i=>i,fun _=>0⟩) 8 vL _ _ _ h 9992 w
theorem Gt:KeyLaw Tryz.prog vJ eI:=⟨fun b k w=>by kernel_rfl,QO,fun k=>by simp[Instr.sameBits,eI],⟨_,Tryz.underlying67⟩⟩
theorem iR:KeyLaw Tryz.prog Ty.nF bJ:=⟨fun b k w=>by kernel_rfl,QP,fun k=>by simp[Instr.sameBits,bJ],⟨_,Tryz.underlying70⟩⟩
theorem XU (a:ByteArray):(a==a)=true:=by
 rw[beq_toListBytes];simp
theorem yY:KeyLaw Tryz.prog vL cZ:=⟨fun b k w=>by kernel_rfl,QQ,fun k=>by simp_all[Instr.sameBits,cZ,XU],⟨_,Tryz.underlying57⟩⟩
theorem vG (w:World):(zeroValue 3).run Tryz.prog w= .ok (cD 0) w:=by kernel_rfl
theorem l4 {w:World} {bs bv:Nat} {L:List ((Int×Int)×Int)} (hs:w.cell? ⟨bs,0,none⟩=some (.map (some bv))) (hm:ay w bv eI cD L) (a i:Int):
  Calls Tryz.prog 50 #[.pointer (some ⟨bs,0,none⟩), .agg #[.int .i64 a, .int .i64 i]] w fun e w'=>e= .returned (.int .i64 ((aB L (a,i)).getD 0))/\Below w.heap.size w w':=by
 have hlk:∀w':World,w'.heap[bv]? =w.heap[bv]? ->(Instr.lookup 134 (.map (some bv)) (.agg #[.int .i64 a, .int .i64 i]) false).run Tryz.prog w'= .ok (.int .i64 ((aB L (a,i)).getD 0)) w':=fun w' h=>by
  have:=(hm.same h).lookup Gt Tryz.underlying134 (vG w') (a,i) false;simp only[Az,Bh]at this;rw[show eI (a,i)= .agg #[.int .i64 a, .int .i64 i]from rfl]at this;rw[this]
  cases aB L (a,i)<;>rfl
 have hbv:bv<w.heap.size:=by
  obtain⟨es,clk,h,_⟩:=hm.at_;grind
 have hbs:bs<w.heap.size:=by
  grind [World.cell?]
 go_enter Tryz.func50,Tryz.ntmps50
 go_wp2;have hl2:=hlk (w.alloc (.cells #[.int .i64 a, .int .i64 i] 67)).drew (Below.heap_alloc w _ bv hbv);have hs2:(w.alloc (.cells #[.int .i64 a, .int .i64 i] 67)).cell? ⟨bs,0,none⟩=some (.map (some bv)):=by
  rw[<-hs];exact((Below.refl w.heap.size w).alloc (Ad _) _).cell hbs
 clear hlk;go_region
 go_wp2;go_ret;exact⟨rfl,((Below.refl w.heap.size w).alloc (Ad _) _).drew⟩
end Go.Proofs
