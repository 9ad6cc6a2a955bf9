/- Part 14: an evaluator, proved sound, and its use at this seat; no condition. -/
import Derived.Test.YtmfohfbdddlilaaGreatP12
import Derived.Test.YtmfohfbdddlilaaGreatP13
set_option linter.unusedSimpArgs false
set_option linter.unusedVariables false
set_option linter.unusedSectionVars false
set_option linter.deprecated false
set_option maxRecDepth 100000
set_option maxHeartbeats 4000000
namespace Go.Gm
open Go Go.RowKit Go.Maps Go.Proofs Go.ChangeMaps
section
variable {P:Program} {K V:Type} [DecidableEq K]
theorem RD {es:List MapEntry} (hs:(es.map (·.born)).Pairwise (· < ·)) {j:Nat} (hj:j<es.length) {n:Nat} (hn:es[j].born=n):es.findIdx? (fun e=>((e.born:Int)==(n:Int)))=some j:=by
 rw[EO];refine⟨hj,by simp[hn],fun i hi=>?_⟩;have hp:=Bv.1 hs i j (by simp;omega) (by simpa using hj) hi;simp only[List.getElem_map]at hp;simp;omega
theorem Ik {es:Array MapEntry} (hs:(es.toList.map (·.born)).Pairwise (· < ·)) {j:Nat} (hj:j<es.size) {n:Nat} (hn:es[j].born=n):es.findIdx? (fun e=>((e.born:Int)==(n:Int)))=some j:=by
 obtain⟨l⟩:=es;rw[List.findIdx?_toArray];exact RD hs hj hn
theorem aB.entry {w:World} {b:Nat} {enc:K->Value} {encV:V->Value} {L:List (K×V)} (h:aB w b enc encV L) {T Te t:TypeId} (hK:KeyLaw P T enc) (ht:P.underlying t=some (.map T Te)) {z:V} (hz:∀w:World,(zeroValue Te).run P w= .ok (encV z) w) (k:K) (val:V):
  ∃ (v:Value) (n:Nat) (o o':Obj),(Instr.mapEntry t (.map (some b)) (enc k)).run P w= .ok (.tuple #[v,goInt n]) (World.bc w b o)/\(Instr.entryStore t (.map (some b)) (goInt n) (encV val)).run P (World.bc w b o)= .ok () (World.bc (World.bc w b o) b o')/\lJ (World.bc w b o) b/\
    aB (World.bc (World.bc w b o) b o') b enc encV (cw L k val)/\(aB (World.bc w b o) b enc encV L\/k∉L.map (·.1)/\aB (World.bc w b o) b enc encV (L++[(k,z)])):=by
 obtain⟨⟨es,clk,hb,hr,hs,hc⟩,hnd⟩:=h;have hf:=se hK k w es.toList L hr;have hgo:(getObj b).run P w= .ok (.map es clk) w:=by simp[getObj,Sem.run,hb]
 cases e:jY k encV L 0 with
 |none=>
  have hk:=gz.1 e;have h1:(Instr.mapEntry t (.map (some b)) (enc k)).run P w= .ok (.tuple #[encV z,goInt clk]) (World.bc w b (.map (es.push ⟨enc k,encV z,clk⟩) (clk+1))):=by
    unfold Instr.mapEntry;simp only[Sem.run_bind,run_underlying ht,Result.andThen_ok,hgo,hK.iM,hf,e,hz,pG hb,Sem.run_pure]
  have hb1:(World.bc w b (.map (es.push ⟨enc k,encV z,clk⟩) (clk+1))).heap[b]? =some (.map (es.push ⟨enc k,encV z,clk⟩) (clk+1)):=by rw[mO hb,if_pos rfl]
  have hgo1:(getObj b).run P (World.bc w b (.map (es.push ⟨enc k,encV z,clk⟩) (clk+1)))= .ok (.map (es.push ⟨enc k,encV z,clk⟩) (clk+1)) (World.bc w b (.map (es.push ⟨enc k,encV z,clk⟩) (clk+1))):=by simp[getObj,Sem.run,hb1]
  have hbig:(((es.push ⟨enc k,encV z,clk⟩).toList.map (·.born)).Pairwise (· < ·)):=by
    rw[Dw,A1,D7];refine⟨hs,by simp,fun a ha c hc'=>?_⟩;obtain⟨x,hx,rfl⟩:=Au.1 ha;simp at hc';subst hc';exact hc x hx
  have hfi:(es.push ⟨enc k,encV z,clk⟩).findIdx? (fun e=>((e.born:Int)==(clk:Int)))=some es.size:=by
    exact Ik hbig (j:=es.size) (by simp) (by simp)
  have h2:∀x:Value,(Instr.entryStore t (.map (some b)) (goInt clk) x).run P (World.bc w b (.map (es.push ⟨enc k,encV z,clk⟩) (clk+1)))= .ok () (World.bc (World.bc w b (.map (es.push ⟨enc k,encV z,clk⟩) (clk+1))) b (.map ((es.push ⟨enc k,encV z,clk⟩).modify es.size fun e=>{e with val:=x}) (clk+1))):=fun x=>by
    unfold Instr.entryStore;simp only[Sem.run_bind,hgo1,Result.andThen_ok,asInt,asIntOf,goInt,Sem.run_pure,hfi,pG hb1]
  have hmod:((es.push ⟨enc k,encV z,clk⟩).modify es.size fun e=>{e with val:=encV val}).toList=es.toList++[⟨enc k,encV val,clk⟩]:=by
    rw[Ec,Dw];apply Dg
    intro i;rw[D9];by_cases hi:es.size=i
    . subst hi;simp[<-Array.length_toList]
    . rcases Ef i es.size with h'|h'
      . simp[hi,A3,h']
      . obtain⟨m,hm⟩:∃m,i - es.size=m+1:=⟨i - es.size - 1,by omega⟩;simp[hi,Ba,h',hm]
  refine⟨_,clk,_,_,h1,h2 (encV val),⟨_,_,hb1⟩,⟨⟨_,_,by rw[mO hb1,if_pos rfl],?_,?_,?_⟩,uq hnd k val⟩, .inr ⟨hk,⟨_,_,hb1,?_,hbig,?_⟩,?_⟩⟩
  . unfold cw gW;rw[if_neg hk,hmod,A1,A1,hr];rfl
  . rw[hmod,A1,D7];refine⟨hs,by simp,fun a ha c hc'=>?_⟩;obtain⟨x,hx,rfl⟩:=Au.1 ha;simp at hc';subst hc';exact hc x hx
  . intro x hx;rw[hmod,A9]at hx;rcases hx with hx|hx
    . have:=hc x hx;omega
    . simp at hx;subst hx;exact D4 _
  . unfold gW;rw[Dw,A1,A1,hr];rfl
  . intro x hx;rw[Dw,A9]at hx;rcases hx with hx|hx
    . have:=hc x hx;omega
    . simp at hx;subst hx;exact D4 _
  . have:=uq hnd k z;unfold cw at this;rwa [if_neg hk]at this
 |some q=>
  obtain⟨j,u⟩:=q;obtain⟨n,hj,hn,g1,g2,_⟩:=xx e;simp only[Ax]at hj;subst hj;have hlen:es.size=L.length:=by simpa using Ap List.length hr
  have hn':j<es.size:=by omega
  have hkey:es[j].key=enc k:=by
    have:=Ap (fun l=>(l[j]?).map Prod.fst) hr;simp[hn',hn]at this;rw[this,g1]
  have hks:(Instr.keyThatStays (((es[j]?).map fun x:MapEntry=>x.key).getD (enc k)) (enc k)).run P w= .ok (enc k) w:=by
    simp[hn',hkey,Instr.keyThatStays,hK.bits]
  have hsame:(es.modify j fun e=>{e with key:=enc k})=es:=by
    apply Db
    intro i;rw[Dr];by_cases hi:j=i
    . subst hi;rw[if_pos rfl,A7 hn'];simp only[A8,<-hkey]
    . rw[if_neg hi]
  have h1:(Instr.mapEntry t (.map (some b)) (enc k)).run P w= .ok (.tuple #[u,goInt es[j].born]) (World.bc w b (.map es clk)):=by
    unfold Instr.mapEntry;simp only[Sem.run_bind,run_underlying ht,Result.andThen_ok,hgo,hK.iM,hf,e,hks,hsame,pG hb,Sem.run_pure];simp[hn']
  have hb1:(World.bc w b (.map es clk)).heap[b]? =some (.map es clk):=by rw[mO hb,if_pos rfl]
  have hgo1:(getObj b).run P (World.bc w b (.map es clk))= .ok (.map es clk) (World.bc w b (.map es clk)):=by simp[getObj,Sem.run,hb1]
  have hfi:es.findIdx? (fun e=>((e.born:Int)==(es[j].born:Int)))=some j:=by
    exact Ik hs (j:=j) hn' rfl
  have h2:∀x:Value,(Instr.entryStore t (.map (some b)) (goInt es[j].born) x).run P (World.bc w b (.map es clk))= .ok () (World.bc (World.bc w b (.map es clk)) b (.map (es.modify j fun e=>{e with val:=x}) clk)):=fun x=>by
    unfold Instr.entryStore;simp only[Sem.run_bind,hgo1,Result.andThen_ok,asInt,asIntOf,goInt,Sem.run_pure,hfi,pG hb1]
  have hput:cw L k val=L.set j (k,val):=by
    have:=M7 hnd hn val;rw[g1]at this;exact this
  have hborn:(es.modify j fun e=>{e with val:=encV val}).toList.map (·.born)=es.toList.map (·.born):=by
    apply Dg
    intro i;rw[Az,Az,Ec,D9];by_cases h:j=i
    . simp[h,Di]
    . simp[h]
  refine⟨_,es[j].born,_,_,h1,h2 (encV val),⟨_,_,hb1⟩,⟨⟨_,_,by rw[mO hb1,if_pos rfl],?_,by rw[hborn];exact hs,fun x hx=>?_⟩,uq hnd k val⟩, .inl ⟨⟨_,_,hb1,hr,hs,hc⟩,hnd⟩⟩
  . rw[hput];unfold gW at hr⊢;apply Dg
    intro i;have hri:=Ap (fun l=>l[i]?) hr;simp only[Az]at hri⊢;rw[Ec,D9,Eu];by_cases h:j=i
    . subst h;simp[hn,hn',hkey]
    . simp only[h,AB];simpa using hri
  . have hm:x.born∈(es.modify j fun e=>{e with val:=encV val}).toList.map (·.born):=Au.2 ⟨x,hx,rfl⟩;rw[hborn]at hm;obtain⟨y,hy,he⟩:=Au.1 hm;rw[<-he];exact hc y hy
end
end Go.Gm
namespace Go.Proofs
open Go Go.Am Go.RowKit Go.Sy Go.Gm Go.Maps Go.Sort Go.Shelf
theorem xr (l:List aj) {j:Nat} (hj:j<l.length*3):(fO l)[j]? =some ((jX l.toArray[j / 3]!)[j % 3]!):=by
 have hi:j / 3<l.length:=by omega
 obtain⟨e0,e1,e2⟩:=sd l (j / 3) hi;have hg:l.toArray[j / 3]! =l[j / 3]:=by rw[B6 _ _ (by simpa using hi)];simp
 rw[hg];rcases(by omega:j=j / 3*3\/j=j / 3*3+1\/j=j / 3*3+2)with e|e|e
 . have hm:j % 3=0:=by omega
   rw[hm];conv=>lhs;rw[e]
   exact e0
 . have hm:j % 3=1:=by omega
   rw[hm];conv=>lhs;rw[e]
   exact e1
 . have hm:j % 3=2:=by omega
   rw[hm];conv=>lhs;rw[e]
   exact e2
theorem MZ {w:World} {g:Nat} {cur:Array Value} {l:List aj} (hg:w.heap[g]? =some (.cells cur 35 (0,0))) (h4:cur.toList.take (l.length*3)=fO l):HoldsK jX 3 w g 0 l.toArray:=by
 intro j hj;have hj':j<l.length*3:=by simpa using hj
 have h2:=Ap (fun l=>l[j]?) h4;simp only[Bd,if_pos hj',A6]at h2;rw[xr l hj']at h2;constructor
 . unfold World.cell?
   simp only[hg,Bc,Ak,AB,Ax];rw[h2,get_flatK jX 3 l.toArray j (by simpa using hj')];rfl
 . unfold World.frozen?
   simp[hg]
theorem SR {w:World} {g:Nat} {l:List aj} {c:Nat} (hc:l.length<=c) (h:HoldsK jX 3 w g 0 l.toArray):cF w l (.slice (some ⟨g,0,none⟩) l.length c):=by
 by_cases h0:l=[]
 . subst h0;exact .inl ⟨rfl,_,_,rfl⟩
 have hlen:0<l.length:=A4.2 h0;have hcell:∀j,j<l.length*3->w.cell? ⟨g,j,none⟩=(fO l)[j]? :=fun j hj=>by
   have:=(h j (by simpa using hj)).1;rw[Ax]at this;rw[this,xr l hj,get_flatK jX 3 l.toArray j (by simpa using hj)];rfl
 have h1:=hcell 0 (by omega);have hb:∃arr e fz,w.heap[g]? =some (.cells arr e fz):=by
   rw[xr l (by omega)]at h1;unfold World.cell? at h1
   cases e:w.heap[g]? with
   |none=>simp[e]at h1
   |some o=>
    cases o with
    |cells arr t fz=>exact⟨arr,t,fz,rfl⟩
    |_=>simp[e]at h1
 obtain⟨arr,e,fz,hb⟩:=hb;have harr:∀j,j<l.length*3->arr[j]? =(fO l)[j]? :=fun j hj=>by
   have:=hcell j hj;unfold World.cell? at this;simp only[hb,Bc,Ak,AB]at this;exact this
 refine .inr ⟨g,0,c,arr,e,fz,rfl,hb,hc,?_,fun i hi=>?_⟩
 . have:=harr (l.length*3 - 1) (by omega);rw[xr l (by omega)]at this;have:=(Ae.1 this).1;omega
 . obtain⟨e0,e1,e2⟩:=sd l i hi;rw[Ax];exact⟨(harr _ (by omega)).trans e0,(harr _ (by omega)).trans e1,(harr _ (by omega)).trans e2⟩
theorem TN {l:List aj} (hn:l.Nodup) {d':Array aj} (hp:PermIn 0 l.toArray.size l.toArray d') (hs:SortedIn (ltOf og) 0 l.toArray.size d'):d'.toList=cS bS l/\d'.size=l.length:=by
 letI:Inhabited aL:=⟨⟨True,#[]⟩⟩
 obtain⟨h1,_,h3⟩:=hp;have hsz:d'.size=l.length:=by simpa using h1
 have hperm:d'.toList.Perm l:=by
   rw[show d'.extract 0 l.toArray.size=d' by rw[<-h1];simp]at h3;simpa using h3
 have hnd:d'.toList.Nodup:=hperm.nodup_iff.2 hn;refine⟨uF ?_ fun x=>hperm.mem_iff,hsz⟩;rw[Bv];intro i j hi hj hij;simp only[Array.length_toList]at hi hj;have:=hs i j (Aw _) hij (by simp;omega);rw[B6 d' j hj,B6 d' i hi]at this;have hlt:bS d'[j] d'[i]=false:=this;have hne:d'[i]≠d'[j]:=by
   have:=Bv.1 hnd i j (by simpa using hi) (by simpa using hj) hij;simpa using this
 simp only[EH];rcases vX d'[i] d'[j]with h|h|h
 . exact h
 . exact absurd h hne
 . rw[hlt]at h;cases h
theorem RM (w:World) (g off n:Nat) (d:Array aj) (os:Array Obj) {B:Nat} (hg:B<=g) (hB:B<=w.heap.size):Below B w (sortWorldK jX 3 w g off n d os):=by
 refine⟨rfl,rfl,rfl,size_sortWorldK_c jX 3 w g off n d os,fun k hk=>?_⟩;unfold sortWorldK grow putRowK putRow mapBlock Sort.ahead;simp only;rw[Eo (by simp;omega)];rw[Dr];rw[if_neg (by omega)]
theorem Pk {w:World} {base:Nat} {v:Value} {l:List aj} (hn:l.Nodup) (h:w.ownsRow base 35 3 v l.length (fO l)) (hl:l.length<=1000000) (hbase:base<=w.heap.size):
   Calls Tryz.prog 230 #[v, .func (.func 184) #[] #[]] w fun e w'=>e= .returned (.tuple #[])/\cF w' (cS bS l) v/\kM base (cS bS l) v/\Below base w w':=by
 rcases h.2 with⟨rfl,h0⟩|⟨g,cap,cur,rfl,hbg,hg,h1,h2,h3,h4⟩
 . have hl0:l=[]:=AN.1 h0;subst hl0;refine(P8 w).mono ?_;rintro e w' ⟨rfl,hb⟩;exact⟨rfl, .inl ⟨rfl,_,_,rfl⟩, .inl rfl,hb.mono hbase⟩
 . have hgl:=(Ae.1 hg).1;have hs:=P9 g 0 cap l.toArray w (MZ hg h4) hgl (by simp;omega);rw[show l.toArray.size=l.length by simp]at hs;refine hs.mono ?_;rintro e w' ⟨rfl,d',n,os,hp,hso,rfl⟩;obtain⟨hd,hsz⟩:=TN hn (d':=d') (by simpa using hp) (by simpa using hso);have hH:=holdsK_sortWorldK_c jX 3 w g 0 l.toArray d' n os (MZ hg h4) hgl (by simp[hsz]);have hlen:(cS bS l).length=l.length:=by rw[<-hd];simpa using hsz
   refine⟨rfl,?_, .inr ⟨g,0,_,_,rfl,hbg⟩,RM w g 0 n d' os hbg hbase⟩;rw[<-hlen];refine SR (by omega) ?_;rw[<-hd];simpa using hH
end Go.Proofs
