/- Part 13: an evaluator, proved sound, and its use at this seat; no condition. -/
import Derived.Test.YtmfohfbdddlilaaGreatP11
import Derived.Test.YtmfohfbdddlilaaGreatP12
set_option linter.unusedSimpArgs false
set_option linter.unusedVariables false
set_option linter.unusedSectionVars false
set_option linter.deprecated false
set_option maxRecDepth 100000
set_option maxHeartbeats 4000000
namespace Go.Gm
open Go Go.RowKit Go.Maps Go.Proofs Go.ChangeMaps
section
variable {P:Program} {K V:Type} [DecidableEq K]
theorem Kt {es:List MapEntry} (hs:(es.map (·.born)).Pairwise (· < ·)) {j:Nat} (hj:j<es.length) {n:Nat} (hn:es[j].born=n):es.findIdx? (fun e=>((e.born:Int)==(n:Int)))=some j:=by
 rw[EC];refine⟨hj,by simp[hn],fun i hi=>?_⟩;have hp:=Bo.1 hs i j (by simp;omega) (by simpa using hj) hi;simp only[List.getElem_map]at hp;simp;omega
theorem zH {es:Array MapEntry} (hs:(es.toList.map (·.born)).Pairwise (· < ·)) {j:Nat} (hj:j<es.size) {n:Nat} (hn:es[j].born=n):es.findIdx? (fun e=>((e.born:Int)==(n:Int)))=some j:=by
 obtain⟨l⟩:=es;rw[List.findIdx?_toArray];exact Kt hs hj hn
theorem au.entry {w:World} {b:Nat} {enc:K->Value} {encV:V->Value} {L:List (K×V)} (h:au w b enc encV L) {T Te t:TypeId} (hK:KeyLaw P T enc) (ht:P.underlying t=some (.map T Te)) {z:V} (hz:∀w:World,(zeroValue Te).run P w= .ok (encV z) w) (k:K) (val:V):
  ∃ (v:Value) (n:Nat) (o o':Obj),(Instr.mapEntry t (.map (some b)) (enc k)).run P w= .ok (.tuple #[v,goInt n]) (World.aM w b o)/\(Instr.entryStore t (.map (some b)) (goInt n) (encV val)).run P (World.aM w b o)= .ok () (World.aM (World.aM w b o) b o')/\kj (World.aM w b o) b/\
    au (World.aM (World.aM w b o) b o') b enc encV (bN L k val)/\(au (World.aM w b o) b enc encV L\/k∉L.map (·.1)/\au (World.aM w b o) b enc encV (L++[(k,z)])):=by
 obtain⟨⟨es,clk,hb,hr,hs,hc⟩,hnd⟩:=h;have hf:=qa hK k w es.toList L hr;have hgo:(getObj b).run P w= .ok (.map es clk) w:=by simp[getObj,Sem.run,hb]
 cases e:iW k encV L 0 with
 |none=>
  have hk:=fK.1 e;have h1:(Instr.mapEntry t (.map (some b)) (enc k)).run P w= .ok (.tuple #[encV z,goInt clk]) (World.aM w b (.map (es.push ⟨enc k,encV z,clk⟩) (clk+1))):=by
    unfold Instr.mapEntry;simp only[Sem.run_bind,run_underlying ht,Result.andThen_ok,hgo,hK.gO,hf,e,hz,nO hb,Sem.run_pure]
  have hb1:(World.aM w b (.map (es.push ⟨enc k,encV z,clk⟩) (clk+1))).heap[b]? =some (.map (es.push ⟨enc k,encV z,clk⟩) (clk+1)):=by rw[lq hb,if_pos rfl]
  have hgo1:(getObj b).run P (World.aM w b (.map (es.push ⟨enc k,encV z,clk⟩) (clk+1)))= .ok (.map (es.push ⟨enc k,encV z,clk⟩) (clk+1)) (World.aM w b (.map (es.push ⟨enc k,encV z,clk⟩) (clk+1))):=by simp[getObj,Sem.run,hb1]
  have hbig:(((es.push ⟨enc k,encV z,clk⟩).toList.map (·.born)).Pairwise (· < ·)):=by
    rw[Dj,AR,Eo];refine⟨hs,by simp,fun a ha c hc'=>?_⟩;obtain⟨x,hx,rfl⟩:=Ar.1 ha;simp at hc';subst hc';exact hc x hx
  have hfi:(es.push ⟨enc k,encV z,clk⟩).findIdx? (fun e=>((e.born:Int)==(clk:Int)))=some es.size:=by
    exact zH hbig (j:=es.size) (by simp) (by simp)
  have h2:∀x:Value,(Instr.entryStore t (.map (some b)) (goInt clk) x).run P (World.aM w b (.map (es.push ⟨enc k,encV z,clk⟩) (clk+1)))= .ok () (World.aM (World.aM w b (.map (es.push ⟨enc k,encV z,clk⟩) (clk+1))) b (.map ((es.push ⟨enc k,encV z,clk⟩).modify es.size fun e=>{e with val:=x}) (clk+1))):=fun x=>by
    unfold Instr.entryStore;simp only[Sem.run_bind,hgo1,Result.andThen_ok,asInt,asIntOf,goInt,Sem.run_pure,hfi,nO hb1]
  have hmod:((es.push ⟨enc k,encV z,clk⟩).modify es.size fun e=>{e with val:=encV val}).toList=es.toList++[⟨enc k,encV val,clk⟩]:=by
    rw[DY,Dj];apply B5
    intro i;rw[DV];by_cases hi:es.size=i
    . subst hi;simp[<-Array.length_toList]
    . rcases D3 i es.size with h'|h'
      . simp[hi,AX,h']
      . obtain⟨m,hm⟩:∃m,i - es.size=m+1:=⟨i - es.size - 1,by omega⟩;simp[hi,A3,h',hm]
  refine⟨_,clk,_,_,h1,h2 (encV val),⟨_,_,hb1⟩,⟨⟨_,_,by rw[lq hb1,if_pos rfl],?_,?_,?_⟩,rR hnd k val⟩, .inr ⟨hk,⟨_,_,hb1,?_,hbig,?_⟩,?_⟩⟩
  . unfold bN gk;rw[if_neg hk,hmod,AR,AR,hr];rfl
  . rw[hmod,AR,Eo];refine⟨hs,by simp,fun a ha c hc'=>?_⟩;obtain⟨x,hx,rfl⟩:=Ar.1 ha;simp at hc';subst hc';exact hc x hx
  . intro x hx;rw[hmod,Ba]at hx;rcases hx with hx|hx
    . have:=hc x hx;omega
    . simp at hx;subst hx;exact DP _
  . unfold gk;rw[Dj,AR,AR,hr];rfl
  . intro x hx;rw[Dj,Ba]at hx;rcases hx with hx|hx
    . have:=hc x hx;omega
    . simp at hx;subst hx;exact DP _
  . have:=rR hnd k z;unfold bN at this;rwa [if_neg hk]at this
 |some q=>
  obtain⟨j,u⟩:=q;obtain⟨n,hj,hn,g1,g2,_⟩:=uK e;simp only[Ay]at hj;subst hj;have hlen:es.size=L.length:=by simpa using Ax List.length hr
  have hn':j<es.size:=by omega
  have hkey:es[j].key=enc k:=by
    have:=Ax (fun l=>(l[j]?).map Prod.fst) hr;simp[hn',hn]at this;rw[this,g1]
  have hks:(Instr.keyThatStays (((es[j]?).map fun x:MapEntry=>x.key).getD (enc k)) (enc k)).run P w= .ok (enc k) w:=by
    simp[hn',hkey,Instr.keyThatStays,hK.bits]
  have hsame:(es.modify j fun e=>{e with key:=enc k})=es:=by
    apply Dg
    intro i;rw[Ds];by_cases hi:j=i
    . subst hi;rw[if_pos rfl,A5 hn'];simp only[A2,<-hkey]
    . rw[if_neg hi]
  have h1:(Instr.mapEntry t (.map (some b)) (enc k)).run P w= .ok (.tuple #[u,goInt es[j].born]) (World.aM w b (.map es clk)):=by
    unfold Instr.mapEntry;simp only[Sem.run_bind,run_underlying ht,Result.andThen_ok,hgo,hK.gO,hf,e,hks,hsame,nO hb,Sem.run_pure];simp[hn']
  have hb1:(World.aM w b (.map es clk)).heap[b]? =some (.map es clk):=by rw[lq hb,if_pos rfl]
  have hgo1:(getObj b).run P (World.aM w b (.map es clk))= .ok (.map es clk) (World.aM w b (.map es clk)):=by simp[getObj,Sem.run,hb1]
  have hfi:es.findIdx? (fun e=>((e.born:Int)==(es[j].born:Int)))=some j:=by
    exact zH hs (j:=j) hn' rfl
  have h2:∀x:Value,(Instr.entryStore t (.map (some b)) (goInt es[j].born) x).run P (World.aM w b (.map es clk))= .ok () (World.aM (World.aM w b (.map es clk)) b (.map (es.modify j fun e=>{e with val:=x}) clk)):=fun x=>by
    unfold Instr.entryStore;simp only[Sem.run_bind,hgo1,Result.andThen_ok,asInt,asIntOf,goInt,Sem.run_pure,hfi,nO hb1]
  have hput:bN L k val=L.set j (k,val):=by
    have:=IH hnd hn val;rw[g1]at this;exact this
  have hborn:(es.modify j fun e=>{e with val:=encV val}).toList.map (·.born)=es.toList.map (·.born):=by
    apply B5
    intro i;rw[Au,Au,DY,DV];by_cases h:j=i
    . simp[h,B7]
    . simp[h]
  refine⟨_,es[j].born,_,_,h1,h2 (encV val),⟨_,_,hb1⟩,⟨⟨_,_,by rw[lq hb1,if_pos rfl],?_,by rw[hborn];exact hs,fun x hx=>?_⟩,rR hnd k val⟩, .inl ⟨⟨_,_,hb1,hr,hs,hc⟩,hnd⟩⟩
  . rw[hput];unfold gk at hr⊢;apply B5
    intro i;have hri:=Ax (fun l=>l[i]?) hr;simp only[Au]at hri⊢;rw[DY,DV,Ef];by_cases h:j=i
    . subst h;simp[hn,hn',hkey]
    . simp only[h,Aw];simpa using hri
  . have hm:x.born∈(es.modify j fun e=>{e with val:=encV val}).toList.map (·.born):=Ar.2 ⟨x,hx,rfl⟩;rw[hborn]at hm;obtain⟨y,hy,he⟩:=Ar.1 hm;rw[<-he];exact hc y hy
end
end Go.Gm
namespace Go.Proofs
open Go Go.Am Go.RowKit Go.Sy Go.Gm Go.Maps Go.Sort Go.Shelf
theorem uF (l:List ag) {j:Nat} (hj:j<l.length*3):(fm l)[j]? =some ((iV l.toArray[j / 3]!)[j % 3]!):=by
 have hi:j / 3<l.length:=by omega
 obtain⟨e0,e1,e2⟩:=p9 l (j / 3) hi;have hg:l.toArray[j / 3]! =l[j / 3]:=by rw[D0 _ _ (by simpa using hi)];simp
 rw[hg];rcases(by omega:j=j / 3*3\/j=j / 3*3+1\/j=j / 3*3+2)with e|e|e
 . have hm:j % 3=0:=by omega
   rw[hm];conv=>lhs;rw[e]
   exact e0
 . have hm:j % 3=1:=by omega
   rw[hm];conv=>lhs;rw[e]
   exact e1
 . have hm:j % 3=2:=by omega
   rw[hm];conv=>lhs;rw[e]
   exact e2
theorem IC {w:World} {g:Nat} {cur:Array Value} {l:List ag} (hg:w.heap[g]? =some (.cells cur 35 (0,0))) (h4:cur.toList.take (l.length*3)=fm l):HoldsK iV 3 w g 0 l.toArray:=by
 intro j hj;have hj':j<l.length*3:=by simpa using hj
 have h2:=Ax (fun l=>l[j]?) h4;simp only[Be,if_pos hj',Bd]at h2;rw[uF l hj']at h2;constructor
 . unfold World.cell?
   simp only[hg,Bi,Ak,Aw,Ay];rw[h2,get_flatK iV 3 l.toArray j (by simpa using hj')];rfl
 . unfold World.frozen?
   simp[hg]
theorem L6 {w:World} {g:Nat} {l:List ag} {c:Nat} (hc:l.length<=c) (h:HoldsK iV 3 w g 0 l.toArray):bY w l (.slice (some ⟨g,0,none⟩) l.length c):=by
 by_cases h0:l=[]
 . subst h0;exact .inl ⟨rfl,_,_,rfl⟩
 have hlen:0<l.length:=AZ.2 h0;have hcell:∀j,j<l.length*3->w.cell? ⟨g,j,none⟩=(fm l)[j]? :=fun j hj=>by
   have:=(h j (by simpa using hj)).1;rw[Ay]at this;rw[this,uF l hj,get_flatK iV 3 l.toArray j (by simpa using hj)];rfl
 have h1:=hcell 0 (by omega);have hb:∃arr e fz,w.heap[g]? =some (.cells arr e fz):=by
   rw[uF l (by omega)]at h1;unfold World.cell? at h1
   cases e:w.heap[g]? with
   |none=>simp[e]at h1
   |some o=>
    cases o with
    |cells arr t fz=>exact⟨arr,t,fz,rfl⟩
    |_=>simp[e]at h1
 obtain⟨arr,e,fz,hb⟩:=hb;have harr:∀j,j<l.length*3->arr[j]? =(fm l)[j]? :=fun j hj=>by
   have:=hcell j hj;unfold World.cell? at this;simp only[hb,Bi,Ak,Aw]at this;exact this
 refine .inr ⟨g,0,c,arr,e,fz,rfl,hb,hc,?_,fun i hi=>?_⟩
 . have:=harr (l.length*3 - 1) (by omega);rw[uF l (by omega)]at this;have:=(Ac.1 this).1;omega
 . obtain⟨e0,e1,e2⟩:=p9 l i hi;rw[Ay];exact⟨(harr _ (by omega)).trans e0,(harr _ (by omega)).trans e1,(harr _ (by omega)).trans e2⟩
theorem LV {l:List ag} (hn:l.Nodup) {d':Array ag} (hp:PermIn 0 l.toArray.size l.toArray d') (hs:SortedIn (ltOf mo) 0 l.toArray.size d'):d'.toList=cw bu l/\d'.size=l.length:=by
 letI:Inhabited aF:=⟨⟨True,#[]⟩⟩
 obtain⟨h1,_,h3⟩:=hp;have hsz:d'.size=l.length:=by simpa using h1
 have hperm:d'.toList.Perm l:=by
   rw[show d'.extract 0 l.toArray.size=d' by rw[<-h1];simp]at h3;simpa using h3
 have hnd:d'.toList.Nodup:=hperm.nodup_iff.2 hn;refine⟨sg ?_ fun x=>hperm.mem_iff,hsz⟩;rw[Bo];intro i j hi hj hij;simp only[Array.length_toList]at hi hj;have:=hs i j (Av _) hij (by simp;omega);rw[D0 d' j hj,D0 d' i hi]at this;have hlt:bu d'[j] d'[i]=false:=this;have hne:d'[i]≠d'[j]:=by
   have:=Bo.1 hnd i j (by simpa using hi) (by simpa using hj) hij;simpa using this
 simp only[Fq];rcases tP d'[i] d'[j]with h|h|h
 . exact h
 . exact absurd h hne
 . rw[hlt]at h;cases h
theorem KP (w:World) (g off n:Nat) (d:Array ag) (os:Array Obj) {B:Nat} (hg:B<=g) (hB:B<=w.heap.size):Below B w (sortWorldK iV 3 w g off n d os):=by
 refine⟨rfl,rfl,rfl,size_sortWorldK_c iV 3 w g off n d os,fun k hk=>?_⟩;unfold sortWorldK grow putRowK putRow mapBlock Sort.ahead;simp only;rw[E3 (by simp;omega)];rw[Ds];rw[if_neg (by omega)]
theorem SS {w:World} {base:Nat} {v:Value} {l:List ag} (hn:l.Nodup) (h:w.ownsRow base 35 3 v l.length (fm l)) (hl:l.length<=1000000) (hbase:base<=w.heap.size):
   Calls Tryz.prog 230 #[v, .func (.func 184) #[] #[]] w fun e w'=>e= .returned (.tuple #[])/\bY w' (cw bu l) v/\jz base (cw bu l) v/\Below base w w':=by
 rcases h.2 with⟨rfl,h0⟩|⟨g,cap,cur,rfl,hbg,hg,h1,h2,h3,h4⟩
 . have hl0:l=[]:=AQ.1 h0;subst hl0;refine(SJ w).mono ?_;rintro e w' ⟨rfl,hb⟩;exact⟨rfl, .inl ⟨rfl,_,_,rfl⟩, .inl rfl,hb.mono hbase⟩
 . have hgl:=(Ac.1 hg).1;have hs:=SK g 0 cap l.toArray w (IC hg h4) hgl (by simp;omega);rw[show l.toArray.size=l.length by simp]at hs;refine hs.mono ?_;rintro e w' ⟨rfl,d',n,os,hp,hso,rfl⟩;obtain⟨hd,hsz⟩:=LV hn (d':=d') (by simpa using hp) (by simpa using hso);have hH:=holdsK_sortWorldK_c iV 3 w g 0 l.toArray d' n os (IC hg h4) hgl (by simp[hsz]);have hlen:(cw bu l).length=l.length:=by rw[<-hd];simpa using hsz
   refine⟨rfl,?_, .inr ⟨g,0,_,_,rfl,hbg⟩,KP w g 0 n d' os hbg hbase⟩;rw[<-hlen];refine L6 (by omega) ?_;rw[<-hd];simpa using hH
end Go.Proofs
