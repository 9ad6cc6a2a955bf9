/- Part 16: an evaluator, proved sound, and its use at this seat; no condition. -/
import Derived.Test.YtmfohfbdddlilaaGreatP14
import Derived.Test.YtmfohfbdddlilaaGreatP15
set_option linter.unusedSimpArgs false
set_option linter.unusedVariables false
set_option linter.unusedSectionVars false
set_option linter.deprecated false
set_option maxRecDepth 100000
set_option maxHeartbeats 4000000
namespace Go.Gm
open Go Go.RowKit Go.Maps Go.Proofs Go.ChangeMaps
section
variable {P:Program} {K V:Type} [DecidableEq K]
theorem H3 {es:List MapEntry} (hs:(es.map (·.born)).Pairwise (· < ·)) {j:Nat} (hj:j<es.length) {n:Nat} (hn:es[j].born=n):es.findIdx? (fun e=>((e.born:Int)==(n:Int)))=some j:=by
 rw[Es];refine⟨hj,by simp[hn],fun i hi=>?_⟩;have hp:=Bt.1 hs i j (by simp;omega) (by simpa using hj) hi;simp only[List.getElem_map]at hp;simp;omega
theorem yx {es:Array MapEntry} (hs:(es.toList.map (·.born)).Pairwise (· < ·)) {j:Nat} (hj:j<es.size) {n:Nat} (hn:es[j].born=n):es.findIdx? (fun e=>((e.born:Int)==(n:Int)))=some j:=by
 obtain⟨l⟩:=es;rw[List.findIdx?_toArray];exact H3 hs hj hn
theorem aj.entry {w:World} {b:Nat} {enc:K->Value} {encV:V->Value} {L:List (K×V)} (h:aj w b enc encV L) {T Te t:TypeId} (hK:KeyLaw P T enc) (ht:P.underlying t=some (.map T Te)) {z:V} (hz:∀w:World,(zeroValue Te).run P w= .ok (encV z) w) (k:K) (val:V):
  ∃ (v:Value) (n:Nat) (o o':Obj),(Instr.mapEntry t (.map (some b)) (enc k)).run P w= .ok (.tuple #[v,goInt n]) (World.aL w b o)/\(Instr.entryStore t (.map (some b)) (goInt n) (encV val)).run P (World.aL w b o)= .ok () (World.aL (World.aL w b o) b o')/\jW (World.aL w b o) b/\
    aj (World.aL (World.aL w b o) b o') b enc encV (bH L k val)/\(aj (World.aL w b o) b enc encV L\/k∉L.map (·.1)/\aj (World.aL w b o) b enc encV (L++[(k,z)])):=by
 obtain⟨⟨es,clk,hb,hr,hs,hc⟩,hnd⟩:=h;have hf:=px hK k w es.toList L hr;have hgo:(getObj b).run P w= .ok (.map es clk) w:=by simp[getObj,Sem.run,hb]
 cases e:iA k encV L 0 with
 |none=>
  have hk:=fk.1 e;have h1:(Instr.mapEntry t (.map (some b)) (enc k)).run P w= .ok (.tuple #[encV z,goInt clk]) (World.aL w b (.map (es.push ⟨enc k,encV z,clk⟩) (clk+1))):=by
    unfold Instr.mapEntry;simp only[Sem.run_bind,run_underlying ht,Result.andThen_ok,hgo,hK.gq,hf,e,hz,ni hb,Sem.run_pure]
  have hb1:(World.aL w b (.map (es.push ⟨enc k,encV z,clk⟩) (clk+1))).heap[b]? =some (.map (es.push ⟨enc k,encV z,clk⟩) (clk+1)):=by rw[kP hb,if_pos rfl]
  have hgo1:(getObj b).run P (World.aL w b (.map (es.push ⟨enc k,encV z,clk⟩) (clk+1)))= .ok (.map (es.push ⟨enc k,encV z,clk⟩) (clk+1)) (World.aL w b (.map (es.push ⟨enc k,encV z,clk⟩) (clk+1))):=by simp[getObj,Sem.run,hb1]
  have hbig:(((es.push ⟨enc k,encV z,clk⟩).toList.map (·.born)).Pairwise (· < ·)):=by
    rw[Dh,AR,Dr];refine⟨hs,by simp,fun a ha c hc'=>?_⟩;obtain⟨x,hx,rfl⟩:=Ar.1 ha;simp at hc';subst hc';exact hc x hx
  have hfi:(es.push ⟨enc k,encV z,clk⟩).findIdx? (fun e=>((e.born:Int)==(clk:Int)))=some es.size:=by
    exact yx hbig (j:=es.size) (by simp) (by simp)
  have h2:∀x:Value,(Instr.entryStore t (.map (some b)) (goInt clk) x).run P (World.aL w b (.map (es.push ⟨enc k,encV z,clk⟩) (clk+1)))= .ok () (World.aL (World.aL w b (.map (es.push ⟨enc k,encV z,clk⟩) (clk+1))) b (.map ((es.push ⟨enc k,encV z,clk⟩).modify es.size fun e=>{e with val:=x}) (clk+1))):=fun x=>by
    unfold Instr.entryStore;simp only[Sem.run_bind,hgo1,Result.andThen_ok,asInt,asIntOf,goInt,Sem.run_pure,hfi,ni hb1]
  have hmod:((es.push ⟨enc k,encV z,clk⟩).modify es.size fun e=>{e with val:=encV val}).toList=es.toList++[⟨enc k,encV val,clk⟩]:=by
    rw[DW,Dh];apply BO
    intro i;rw[DT];by_cases hi:es.size=i
    . subst hi;simp[<-Array.length_toList]
    . rcases EX i es.size with h'|h'
      . simp[hi,AL,h']
      . obtain⟨m,hm⟩:∃m,i - es.size=m+1:=⟨i - es.size - 1,by omega⟩;simp[hi,A3,h',hm]
  refine⟨_,clk,_,_,h1,h2 (encV val),⟨_,_,hb1⟩,⟨⟨_,_,by rw[kP hb1,if_pos rfl],?_,?_,?_⟩,qL hnd k val⟩, .inr ⟨hk,⟨_,_,hb1,?_,hbig,?_⟩,?_⟩⟩
  . unfold bH fI;rw[if_neg hk,hmod,AR,AR,hr];rfl
  . rw[hmod,AR,Dr];refine⟨hs,by simp,fun a ha c hc'=>?_⟩;obtain⟨x,hx,rfl⟩:=Ar.1 ha;simp at hc';subst hc';exact hc x hx
  . intro x hx;rw[hmod,Bc]at hx;rcases hx with hx|hx
    . have:=hc x hx;omega
    . simp at hx;subst hx;exact DN _
  . unfold fI;rw[Dh,AR,AR,hr];rfl
  . intro x hx;rw[Dh,Bc]at hx;rcases hx with hx|hx
    . have:=hc x hx;omega
    . simp at hx;subst hx;exact DN _
  . have:=qL hnd k z;unfold bH at this;rwa [if_neg hk]at this
 |some q=>
  obtain⟨j,u⟩:=q;obtain⟨n,hj,hn,g1,g2,_⟩:=tO e;simp only[Ax]at hj;subst hj;have hlen:es.size=L.length:=by simpa using Aq List.length hr
  have hn':j<es.size:=by omega
  have hkey:es[j].key=enc k:=by
    have:=Aq (fun l=>(l[j]?).map Prod.fst) hr;simp[hn',hn]at this;rw[this,g1]
  have hks:(Instr.keyThatStays (((es[j]?).map fun x:MapEntry=>x.key).getD (enc k)) (enc k)).run P w= .ok (enc k) w:=by
    simp[hn',hkey,Instr.keyThatStays,hK.bits]
  have hsame:(es.modify j fun e=>{e with key:=enc k})=es:=by
    apply Df
    intro i;rw[DM];by_cases hi:j=i
    . subst hi;rw[if_pos rfl,A6 hn'];simp only[A2,<-hkey]
    . rw[if_neg hi]
  have h1:(Instr.mapEntry t (.map (some b)) (enc k)).run P w= .ok (.tuple #[u,goInt es[j].born]) (World.aL w b (.map es clk)):=by
    unfold Instr.mapEntry;simp only[Sem.run_bind,run_underlying ht,Result.andThen_ok,hgo,hK.gq,hf,e,hks,hsame,ni hb,Sem.run_pure];simp[hn']
  have hb1:(World.aL w b (.map es clk)).heap[b]? =some (.map es clk):=by rw[kP hb,if_pos rfl]
  have hgo1:(getObj b).run P (World.aL w b (.map es clk))= .ok (.map es clk) (World.aL w b (.map es clk)):=by simp[getObj,Sem.run,hb1]
  have hfi:es.findIdx? (fun e=>((e.born:Int)==(es[j].born:Int)))=some j:=by
    exact yx hs (j:=j) hn' rfl
  have h2:∀x:Value,(Instr.entryStore t (.map (some b)) (goInt es[j].born) x).run P (World.aL w b (.map es clk))= .ok () (World.aL (World.aL w b (.map es clk)) b (.map (es.modify j fun e=>{e with val:=x}) clk)):=fun x=>by
    unfold Instr.entryStore;simp only[Sem.run_bind,hgo1,Result.andThen_ok,asInt,asIntOf,goInt,Sem.run_pure,hfi,ni hb1]
  have hput:bH L k val=L.set j (k,val):=by
    have:=Gw hnd hn val;rw[g1]at this;exact this
  have hborn:(es.modify j fun e=>{e with val:=encV val}).toList.map (·.born)=es.toList.map (·.born):=by
    apply BO
    intro i;rw[Av,Av,DW,DT];by_cases h:j=i
    . simp[h,B0]
    . simp[h]
  refine⟨_,es[j].born,_,_,h1,h2 (encV val),⟨_,_,hb1⟩,⟨⟨_,_,by rw[kP hb1,if_pos rfl],?_,by rw[hborn];exact hs,fun x hx=>?_⟩,qL hnd k val⟩, .inl ⟨⟨_,_,hb1,hr,hs,hc⟩,hnd⟩⟩
  . rw[hput];unfold fI at hr⊢;apply BO
    intro i;have hri:=Aq (fun l=>l[i]?) hr;simp only[Av]at hri⊢;rw[DW,DT,D7];by_cases h:j=i
    . subst h;simp[hn,hn',hkey]
    . simp only[h,Az];simpa using hri
  . have hm:x.born∈(es.modify j fun e=>{e with val:=encV val}).toList.map (·.born):=Ar.2 ⟨x,hx,rfl⟩;rw[hborn]at hm;obtain⟨y,hy,he⟩:=Ar.1 hm;rw[<-he];exact hc y hy
end
end Go.Gm
namespace Go.Proofs
open Go Go.Am Go.RowKit Go.Sy Go.Gm Go.Maps Go.Sort Go.Shelf
theorem tJ (l:List ak) {j:Nat} (hj:j<l.length*3):(eN l)[j]? =some ((iz l.toArray[j / 3]!)[j % 3]!):=by
 have hi:j / 3<l.length:=by omega
 obtain⟨e0,e1,e2⟩:=pw l (j / 3) hi;have hg:l.toArray[j / 3]! =l[j / 3]:=by rw[DY _ _ (by simpa using hi)];simp
 rw[hg];rcases(by omega:j=j / 3*3\/j=j / 3*3+1\/j=j / 3*3+2)with e|e|e
 . have hm:j % 3=0:=by omega
   rw[hm];conv=>lhs;rw[e]
   exact e0
 . have hm:j % 3=1:=by omega
   rw[hm];conv=>lhs;rw[e]
   exact e1
 . have hm:j % 3=2:=by omega
   rw[hm];conv=>lhs;rw[e]
   exact e2
theorem Gn {w:World} {g:Nat} {cur:Array Value} {l:List ak} (hg:w.heap[g]? =some (.cells cur 35 (0,0))) (h4:cur.toList.take (l.length*3)=eN l):HoldsK iz 3 w g 0 l.toArray:=by
 intro j hj;have hj':j<l.length*3:=by simpa using hj
 have h2:=Aq (fun l=>l[j]?) h4;simp only[AU,if_pos hj',AW]at h2;rw[tJ l hj']at h2;constructor
 . unfold World.cell?
   simp only[hg,A1,Ai,Az,Ax];rw[h2,get_flatK iz 3 l.toArray j (by simpa using hj')];rfl
 . unfold World.frozen?
   simp[hg]
theorem Jl {w:World} {g:Nat} {l:List ak} {c:Nat} (hc:l.length<=c) (h:HoldsK iz 3 w g 0 l.toArray):cV w l (.slice (some ⟨g,0,none⟩) l.length c):=by
 by_cases h0:l=[]
 . subst h0;exact .inl ⟨rfl,_,_,rfl⟩
 have hlen:0<l.length:=Dw.2 h0;have hcell:∀j,j<l.length*3->w.cell? ⟨g,j,none⟩=(eN l)[j]? :=fun j hj=>by
   have:=(h j (by simpa using hj)).1;rw[Ax]at this;rw[this,tJ l hj,get_flatK iz 3 l.toArray j (by simpa using hj)];rfl
 have h1:=hcell 0 (by omega);have hb:∃arr e fz,w.heap[g]? =some (.cells arr e fz):=by
   rw[tJ l (by omega)]at h1;unfold World.cell? at h1
   cases e:w.heap[g]? with
   |none=>simp[e]at h1
   |some o=>
    cases o with
    |cells arr t fz=>exact⟨arr,t,fz,rfl⟩
    |_=>simp[e]at h1
 obtain⟨arr,e,fz,hb⟩:=hb;have harr:∀j,j<l.length*3->arr[j]? =(eN l)[j]? :=fun j hj=>by
   have:=hcell j hj;unfold World.cell? at this;simp only[hb,A1,Ai,Az]at this;exact this
 refine .inr ⟨g,0,c,arr,e,fz,rfl,hb,hc,?_,fun i hi=>?_⟩
 . have:=harr (l.length*3 - 1) (by omega);rw[tJ l (by omega)]at this;have:=(Aa.1 this).1;omega
 . obtain⟨e0,e1,e2⟩:=pw l i hi;rw[Ax];exact⟨(harr _ (by omega)).trans e0,(harr _ (by omega)).trans e1,(harr _ (by omega)).trans e2⟩
theorem JQ {l:List ak} (hn:l.Nodup) {d':Array ak} (hp:PermIn 0 l.toArray.size l.toArray d') (hs:SortedIn (ltOf lT) 0 l.toArray.size d'):d'.toList=eI cM l/\d'.size=l.length:=by
 letI:Inhabited aD:=⟨⟨True,#[]⟩⟩
 obtain⟨h1,_,h3⟩:=hp;have hsz:d'.size=l.length:=by simpa using h1
 have hperm:d'.toList.Perm l:=by
   rw[show d'.extract 0 l.toArray.size=d' by rw[<-h1];simp]at h3;simpa using h3
 have hnd:d'.toList.Nodup:=hperm.nodup_iff.2 hn;refine⟨qP ?_ fun x=>hperm.mem_iff,hsz⟩;rw[Bt];intro i j hi hj hij;simp only[BG]at hi hj;have:=hs i j (Bf _) hij (by simp;omega);rw[DY d' j hj,DY d' i hi]at this;have hlt:cM d'[j] d'[i]=false:=this;have hne:d'[i]≠d'[j]:=by
   have:=Bt.1 hnd i j (by simpa using hi) (by simpa using hj) hij;simpa using this
 simp only[Fc];rcases vr d'[i] d'[j]with h|h|h
 . exact h
 . exact absurd h hne
 . rw[hlt]at h;cases h
theorem Iq (w:World) (g off n:Nat) (d:Array ak) (os:Array Obj) {B:Nat} (hg:B<=g) (hB:B<=w.heap.size):Below B w (sortWorldK iz 3 w g off n d os):=by
 refine⟨rfl,rfl,rfl,size_sortWorldK_c iz 3 w g off n d os,fun k hk=>?_⟩;unfold sortWorldK grow putRowK putRow mapBlock Sort.ahead;simp only;rw[EJ (by simp;omega)];rw[DM];rw[if_neg (by omega)]
theorem Pr {w:World} {base:Nat} {v:Value} {l:List ak} (hn:l.Nodup) (h:w.ownsRow base 35 3 v l.length (eN l)) (hl:l.length<=1000000) (hbase:base<=w.heap.size):
   Calls Tryz.prog 230 #[v, .func (.func 184) #[] #[]] w fun e w'=>e= .returned (.tuple #[])/\cV w' (eI cM l) v/\jf base (eI cM l) v/\Below base w w':=by
 rcases h.2 with⟨rfl,h0⟩|⟨g,cap,cur,rfl,hbg,hg,h1,h2,h3,h4⟩
 . have hl0:l=[]:=Bj.1 h0;subst hl0;refine(PV w).mono ?_;rintro e w' ⟨rfl,hb⟩;exact⟨rfl, .inl ⟨rfl,_,_,rfl⟩, .inl rfl,hb.mono hbase⟩
 . have hgl:=(Aa.1 hg).1;have hs:=PW g 0 cap l.toArray w (Gn hg h4) hgl (by simp;omega);rw[show l.toArray.size=l.length by simp]at hs;refine hs.mono ?_;rintro e w' ⟨rfl,d',n,os,hp,hso,rfl⟩;obtain⟨hd,hsz⟩:=JQ hn (d':=d') (by simpa using hp) (by simpa using hso);have hH:=holdsK_sortWorldK_c iz 3 w g 0 l.toArray d' n os (Gn hg h4) hgl (by simp[hsz]);have hlen:(eI cM l).length=l.length:=by rw[<-hd];simpa using hsz
   refine⟨rfl,?_, .inr ⟨g,0,_,_,rfl,hbg⟩,Iq w g 0 n d' os hbg hbase⟩;rw[<-hlen];refine Jl (by omega) ?_;rw[<-hd];simpa using hH
end Go.Proofs
