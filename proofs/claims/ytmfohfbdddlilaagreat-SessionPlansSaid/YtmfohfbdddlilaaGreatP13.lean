/- Part 13: an evaluator, proved sound, and its use at this seat; no condition. -/
import Derived.WalkKit
import Derived.LoopTactic
import Derived.Shelf.SlSortCmp.WholeK
import Derived.Shelf.SlIter.Nil
import Derived.Shelf.SortM.Plain
import Derived.Shelf.SortM.SortNone
import Derived.Shelf.SlicesE.Clone
import Derived.Test.YtmfohfbdddlilaaGreatProg
import Derived.Deep.RegionHeld3
import Derived.Test.YtmfohfbdddlilaaGreatP6
import Derived.Test.YtmfohfbdddlilaaGreatP8
import Derived.Test.YtmfohfbdddlilaaGreatP9
import Derived.Test.YtmfohfbdddlilaaGreatP12
set_option linter.unusedSimpArgs false
set_option linter.unusedVariables false
set_option linter.unusedSectionVars false
set_option linter.deprecated false
set_option maxRecDepth 100000
set_option maxHeartbeats 40000000
namespace Go.Proofs
open Go Go.Am Go.RowKit Go.Sy
section
variable [Inhabited aL]
noncomputable def Gb (f:FuncId):Option aM:=bif Nat.beq f oN then some Jz else x7 f
theorem Kj:∀g C,Gb g=some C->CO g C:=bG SJ Cm
theorem Wu:CO rm LS:=bO (cfg:=fun y=>cg Gb (cr rm 4 (Ww y))) bA (fun _=>rfl) (fun _=>Kj) (n:=600) (by
 intro (m:aK) (hm:fN m);have hwl:=zn hm
 (conv=>whnf)
 refine⟨m,?_⟩
 repeat ((conv=>whnf);first|refine⟨rfl,?_⟩|refine⟨trivial,?_⟩)
 refine⟨hm,?_⟩
 (conv=>whnf)
 refine⟨⟨(0:Nat),Au _,?_⟩,?_⟩
 . repeat' (first|exact trivial|exact rfl|((conv=>whnf);first|(apply aJ<;>intro)|apply And.intro))
 intro (x:Nat) hx;have hx:x<=(gA m).length:=hx
 (conv=>whnf)
 refine aJ (fun hlt=>?_) fun hge=>?_
 . have hlt':x<(gA m).length:=cq hlt;have hf:=wS ae.item hlt';have hz:(((gA m).take x).map ae.item).length+1<=60000:=by simp;omega
   (conv=>whnf)
   refine au.2 ⟨_,cE hlt',?_⟩
   (conv=>whnf)
   refine au.2 ⟨_,cE hlt',?_⟩
   (conv=>whnf)
   refine⟨(gA m)[x].item,rfl,?_⟩
   (conv=>whnf)
   refine af.2 ⟨vr _ hz,?_⟩
   (conv=>whnf)
   refine af.2 ⟨ch x (by omega),?_⟩
   (conv=>whnf)
   refine⟨(x+1:Nat),hlt',by show(gA m).length - (x+1)<(gA m).length - x;omega,?_⟩
   repeat' (first|exact trivial|exact rfl|((conv=>whnf);first|(apply aJ<;>intro)|apply And.intro))
   all_goals ((conv=>whnf);rw[hf])
 . have hge':(gA m).length<=x:=gf hge
   (conv=>whnf)
   refine⟨by rw[As hge'];rfl,?_⟩
   repeat' (first|exact trivial|exact rfl|((conv=>whnf);first|(apply aJ<;>intro)|apply And.intro)))
noncomputable def Nj (f:FuncId):Option aM:=bif Nat.beq f rm then some LS else Gb f
theorem U7:∀g C,Nj g=some C->CO g C:=bG Wu Kj
theorem Ug {m:aK} (hm:fN m):(cG m).length<=50000:=by unfold cG;rw[A8];exact zn hm
noncomputable def Nk (f:FuncId):Option aM:=bif Nat.beq f GF then some Ms else Nj f
theorem U8:∀g C,Nk g=some C->CO g C:=bG L7 U7
end
end Go.Proofs
namespace Go.Proofs
open Go Go.Am Go.RowKit Go.Sy Go.Gm Go.Maps Go.Sort Go.Shelf
section
theorem X2 {w:World} {n:Nat} {l:List ar} {v:Value} (h:dB w n l v):Up w n (cw l) v:=by
 unfold cw;rcases h with⟨rfl,a,c,rfl⟩|⟨b,cap,arr,rfl,hp,hb,hc,hl,hi⟩
 . exact .cf rfl a c
 . refine .aj b 0 cap arr 35 (0,0) 3 (fun i j=>(arr[i*3+j]?).getD (.bool false)) hp hb (by decide) (by omega) (fun _ _ _=>rfl) hc (fun i x j v hx hv=>?_) (fun i x j v hx hv=>?_) (fun i x j v hx hv=>?_)
   all_goals
    have hil:i<l.length:=(Ae.1 hx).1;have hxe:l[i]=x:=(Ae.1 hx).2;obtain⟨e0,e1,e2⟩:=hi i hil;rw[hxe]at e0 e1 e2;have hj:j<3:=(Ae.1 hv).1;match j,hj with
    |0,_=>cases hv;first|rfl|exact(by rw[Ay,BL,e0];rfl)|(simp only[BL,e0,BB];exact .int _ _)
    |1,_=>cases hv;first|rfl|exact(by rw[Ay,e1];rfl)|(simp only[e1,BB];exact .int _ _)
    |2,_=>cases hv;first|rfl|exact(by rw[Ay,e2];rfl)|(simp only[e2,BB];exact .int _ _)
theorem NU {w:World} {n:Nat} {l:List ae} {v:Value} (h:jR w n l v):Up w n (cL l) v:=by
 unfold cL;obtain⟨L,rfl,hd,hlen,hr⟩:=h;rcases hr with⟨rfl,h0⟩|⟨g,cap,cur,rfl,hp,hb,hc,hm,hsz,htk⟩
 . exact .fU (by simpa using h0)
 . rw[show L.length=(L.map (·.1)).length by simp];have cell:∀i (hi:i<L.length) j,j<19->cur[i*19+j]? =(cY L[i].1 L[i].2)[j]? :=fun i hi j hj=>by
     rw[<-K8 L i hi j hj,<-htk,Bc,An (by omega),Ba]
   refine .aj g 0 cap cur 42 (0,0) 19 (fun i j=>(cur[i*19+j]?).getD (.bool false)) hp hb (by decide) (by simp;omega) (fun _ _ _=>rfl) (by simpa using hc) (fun i x j v hx hv=>?_) (fun i x j v hx hv=>?_) (fun i x j v hx hv=>?_)
   . have hj:j<19:=(Ae.1 hv).1;match j,hj with
     |0,_|1,_|2,_|3,_|4,_|5,_|6,_|7,_|8,_|9,_|10,_|11,_|12,_|13,_|14,_|15,_|16,_|17,_|18,_=>cases hv;rfl
   all_goals
     have hil:i<L.length:=by simpa using(Ae.1 hx).1
     have hxe:L[i].1=x:=by simpa using(Ae.1 hx).2
     have hdi:=hd _ (AI hil);rw[hxe]at hdi;have hj:j<19:=(Ae.1 hv).1;have hcl:=cell i hil j hj;rw[hxe]at hcl
   . rw[Ay,hcl,Af (show j<(cY x L[i].2).length from hj)];rfl
   . show Up w n v ((cur[i*19+j]?).getD _)
     rw[hcl];match j,hj with
     |0,_|1,_|2,_|3,_|4,_|5,_|6,_|15,_|16,_|17,_=>cases hv;exact .int _ _
     |7,_|8,_|9,_|10,_=>cases hv;exact .str _
     |11,_|12,_|13,_|14,_=>cases hv;exact .bool _
     |18,_=>cases hv;exact X2 hdi
variable [Inhabited aL]
structure cD (b:Nat) (m:aK):Prop where
 ok:fN m
 over:∀e∈m.kept,e.over.length<=100000
 at_:YB fun w=>∃n bk ba bd bs bv G,cW w n b bk ba bd bs bv G/\cV G m
def M7:aM:={Y:=Nat×aK×aA,pre:=fun y=>cD y.1 y.2.1,args:=fun y=>[.wp ⟨y.1,0,none⟩, .agg y.2.2.enc],res:=fun y=>cL (aU y.2.1 y.2.2)}
theorem rd_key {w:World} {p:Nat->Prop} {g:Bool} {k:aA} {v:Value} (h:Rd w p g (.agg k.enc) v):v=dw k:=by
 cases h with
 | @agg cs vs h1 h2=>
  obtain⟨l⟩:=vs;match l,h1 with
  |[x,y,z],_=>
   have e1:=pc (h2 0 _ _ rfl rfl);have e2:=pc (h2 1 _ _ rfl rfl);have e3:=pc (h2 2 _ _ rfl rfl);subst e1 e2 e3;rfl
theorem Zg (hdr:¬(default:aL).dr):CO Hc M7:=kk bA.ok (by
 rintro⟨b,m,k⟩ hpre w args hold ⟨h1,h2⟩;match args,h1 with
 |[v,u],_=>
 have e1:=Ge (h2 0 _ _ rfl rfl);have e2:=rd_key (h2 1 _ _ rfl rfl);subst e1 e2;obtain⟨n,bk,ba,bd,bs,bv,G,hO,hG⟩:=hpre.at_ w hold;refine(Tryz.key hO hG hpre.ok hpre.over k).mono ?_;rintro e w' ⟨v',rfl,hv,hb⟩;exact⟨_,rfl, .inr (NU hv),hb,fun h=>(hdr h).elim⟩)
end
section
variable [Inhabited aL]
noncomputable def F5 (f:FuncId):Option aM:=bif Nat.beq f Hc then some M7 else Nk f
theorem KK (hdr:¬(default:aL).dr):∀f C,F5 f=some C->CO f C:=bG (Zg hdr) U8
def Kv:aM:={Y:=Nat×aK×aA,pre:=fun y=>cD y.1 y.2.1,args:=fun y=>[.wp ⟨y.1,0,none⟩, .agg y.2.2.enc],res:=fun y=> .bJ [.agg (dV y.2.1 y.2.2).1.enc, .bool (dV y.2.1 y.2.2).2]}
def Us (y:Nat×aK×aA):aH:=let l:=aU y.2.1 y.2.2;{α:=Nat,ok:=fun i=>i+1<=l.length,μ:=fun i=>l.length - i,aW:=[4,7],aN:=fun i=>[(21,cL (l.drop 1)),(22,i64 (Int.ofNat (l.drop 1).length)),(23,i64 i)],bn:=fun i=>[(2, .cells ((dM (l.take (i+1))).getD gQ).enc yA)]}
theorem Ke (hdr:¬(default:aL).dr):CO qE Kv:=bO (cfg:=fun y=>cg F5 (cr qE 6 (Us y))) bA (fun _=>rfl) (fun _=>KK hdr) (n:=600) (by
 rintro⟨b,m,k⟩ (hm:cD b m);have hkl:=xa hm.ok k
 (conv=>whnf)
 refine⟨(b,m,k),?_⟩
 repeat ((conv=>whnf);first|refine⟨rfl,?_⟩|refine⟨trivial,?_⟩)
 refine⟨hm,?_⟩
 (conv=>whnf)
 refine aJ (fun h0=>?_) fun h0=>?_
 . have he:aU m k=[]:=by
     have h0:(Int.ofNat (aU m k).length==0)=true:=h0;simpa using h0
   have hw:dV m k=(gQ,false):=by unfold dV;rw[he];rfl
   have hw':dV (b,m,k).2.1 (b,m,k).2.2=(gQ,false):=hw
   repeat' (first|exact trivial|(with_reducible exact rfl)|((conv=>whnf);first|(apply aJ<;>intro)|apply And.intro))
   all_goals (rw[hw'];try rfl)
 . have hp:0<(aU m k).length:=by
     have h0:(Int.ofNat (aU m k).length==0)=false:=h0;simp at h0;exact AY.2 h0
   (conv=>whnf)
   refine au.2 ⟨_,cE hp,?_⟩
   (conv=>whnf)
   refine⟨fun _=>rfl,af.2 ⟨by rw[AA];exact hp,?_⟩⟩
   (conv=>whnf)
   refine⟨⟨(0:Nat),hp,?_⟩,?_⟩
   . have hw0:(dM ((aU m k).take (0+1))).getD gQ=(aU m k)[0]:=by rw[w7 hp];rfl
     have hw0':(dM ((aU (b,m,k).2.1 (b,m,k).2.2).take (0+1))).getD gQ=(aU m k)[0]:=hw0
     repeat' (first|exact trivial|(with_reducible exact rfl)|((conv=>whnf);first|(apply aJ<;>intro)|apply And.intro))
     all_goals first|exact rfl|(rw[hw0'];exact rfl)|((conv=>whnf);exact rfl)
   intro (x:Nat) hx;have hx:x+1<=(aU m k).length:=hx
   (conv=>whnf)
   refine aJ (fun hlt=>?_) fun hge=>?_
   . have hlt':x<((aU m k).drop 1).length:=cq hlt;have hx1:x+1<(aU m k).length:=by rw[A6]at hlt';omega
     have hel:((aU m k).drop 1)[x]=(aU m k)[x+1]:=by rw[BX];congr 1;omega
     have hn:=w7 hx1;obtain⟨y,hy⟩:=uI (Nat.succ_pos x) hx;have hgd:(dM ((aU m k).take (x+1))).getD gQ=y:=by rw[hy];rfl
     rw[hy]at hn;have mu:(aU m k).length - (x+1)<(aU m k).length - x:=by omega
     (conv=>whnf)
     refine au.2 ⟨_,cE hlt',?_⟩
     (conv=>whnf)
     refine⟨(((aU m k).drop 1)[x].bu,((dM ((aU m k).take (x+1))).getD gQ).bu),?_⟩
     repeat ((conv=>whnf);first|refine⟨rfl,?_⟩|refine⟨trivial,?_⟩)
     (conv=>whnf)
     refine ag.2 ⟨fun h1=> ?gc,fun h1=> ?gd⟩
     case' gc=>
      have h1:kG (aU m k)[x+1].bu y.bu=false:=by
       have h1:(!kG ((aU m k).drop 1)[x].bu ((dM ((aU m k).take (x+1))).getD gQ).bu)=true:=h1;rw[hgd,hel]at h1;simpa using h1
      have hw:(dM ((aU m k).take (x+1+1))).getD gQ=((aU m k).drop 1)[x]:=by rw[hn,hel];simp[h1]
     case' gd=>
      have h1:kG (aU m k)[x+1].bu y.bu=true:=by
       have h1:(!kG ((aU m k).drop 1)[x].bu ((dM ((aU m k).take (x+1))).getD gQ).bu)=false:=h1;rw[hgd,hel]at h1;simpa using h1
      have hw:(dM ((aU m k).take (x+1+1))).getD gQ=(dM ((aU m k).take (x+1))).getD gQ:=by rw[hn,hgd];simp[h1]
     all_goals
      (conv=>whnf)
      refine af.2 ⟨ch x (by omega),?_⟩
      (conv=>whnf)
      refine⟨(x+1:Nat),hx1,mu,?_⟩
      repeat' (first|exact trivial|(with_reducible exact rfl)|((conv=>whnf);first|(apply aJ<;>intro)|apply And.intro))
      all_goals first|exact rfl|(rw[hw];exact rfl)
   . have hge':((aU m k).drop 1).length<=x:=gf hge;have e:(aU m k).take (x+1)=aU m k:=As (by rw[A6]at hge';omega);have h2:(dM (aU m k)).isSome=true:=by
      obtain⟨y,hy⟩:=uI (l:=aU m k) (x:=(aU m k).length) hp (Ai _);rw[Bu]at hy;rw[hy];rfl
     repeat' (first|exact trivial|(with_reducible exact rfl)|((conv=>whnf);first|(apply aJ<;>intro)|apply And.intro))
     all_goals first|exact rfl|exact h2.symm|(rw[e];done)|(rw[e];exact rfl))
end
def kF:List aA->List Value
 |[]=>[]
 |k::l=>da k.name::da k.domain::da k.path::kF l
theorem QJ (l:List aA) (x:aA):kF (l++[x])=kF l++[da x.name,da x.domain,da x.path]:=by
 induction l with
 |nil=>rfl
 |cons k l ih=>simp only[BO,kF,ih]
theorem zd:∀(l:List aA) (i:Nat) (h:i<l.length),(kF l)[i*3]? =some (da l[i].name)/\(kF l)[i*3+1]? =some (da l[i].domain)/\(kF l)[i*3+2]? =some (da l[i].path)
 |[],i,h=>absurd h (Bi _)
 |k::l,0,_=>⟨rfl,rfl,rfl⟩
 |k::l,i+1,h=>by
  obtain⟨e0,e1,e2⟩:=zd l i (by simpa using h);rw[show(i+1)*3=i*3+3 by omega];exact⟨e0,by rw[show i*3+3+1=(i*3+1)+3 by omega];exact e1,by rw[show i*3+3+2=(i*3+2)+3 by omega];exact e2⟩
theorem Lo (l:List aA) {j:Nat} (hj:j<l.length*3):(kF l)[j]? =some ((jD l.toArray[j / 3]!)[j % 3]!):=by
 have hi:j / 3<l.length:=by omega
 obtain⟨e0,e1,e2⟩:=zd l (j / 3) hi;have hg:l.toArray[j / 3]! =l[j / 3]:=by rw[BQ _ _ (by simpa using hi)];simp
 rw[hg];rcases(by omega:j=j / 3*3\/j=j / 3*3+1\/j=j / 3*3+2)with e|e|e
 . have hm:j % 3=0:=by omega
   rw[hm];conv=>lhs;rw[e]
   exact e0
 . have hm:j % 3=1:=by omega
   rw[hm];conv=>lhs;rw[e]
   exact e1
 . have hm:j % 3=2:=by omega
   rw[hm];conv=>lhs;rw[e]
   exact e2
theorem Mc {w:World} {g:Nat} {cur:Array Value} {l:List aA} (hg:w.heap[g]? =some (.cells cur 24 (0,0))) (h4:cur.toList.take (l.length*3)=kF l):HoldsK jD 3 w g 0 l.toArray:=by
 intro j hj;have hj':j<l.length*3:=by simpa using hj
 have h2:=Ap (fun l=>l[j]?) h4;simp only[Bc,An hj',Ba]at h2;rw[Lo l hj']at h2;constructor
 . unfold World.cell?
   simp only[hg,A2,Ao,AK,Ay];rw[h2,get_flatK jD 3 l.toArray j (by simpa using hj')];rfl
 . unfold World.frozen?
   simp[hg]
def gH (w:World) (g:Nat) (l:List aA):Prop:=∀i (h:i<l.length),w.cell? ⟨g,i*3,none⟩=some (da l[i].name)/\w.cell? ⟨g,i*3+1,none⟩=some (da l[i].domain)/\w.cell? ⟨g,i*3+2,none⟩=some (da l[i].path)
theorem Xt {w:World} {g:Nat} {l:List aA} (h:HoldsK jD 3 w g 0 l.toArray):gH w g l:=by
 have hcell:∀j,j<l.length*3->w.cell? ⟨g,j,none⟩=(kF l)[j]? :=fun j hj=>by
  have:=(h j (by simpa using hj)).1;rw[Ay]at this;rw[this,Lo l hj,get_flatK jD 3 l.toArray j (by simpa using hj)];rfl
 intro i hi;obtain⟨e0,e1,e2⟩:=zd l i hi;exact⟨(hcell _ (by omega)).trans e0,(hcell _ (by omega)).trans e1,(hcell _ (by omega)).trans e2⟩
theorem gH.below {w w':World} {g:Nat} {l:List aA} (h:gH w g l) (hb:w'.heap[g]? =w.heap[g]?):gH w' g l:=fun i hi=>by
 obtain⟨e0,e1,e2⟩:=h i hi;exact⟨eg e0 hb,eg e1 hb,eg e2 hb⟩
theorem Sh {l:List aA} (hn:l.Nodup) {d':Array aA} (hp:PermIn 0 l.toArray.size l.toArray d') (hs:SortedIn (ltOf nC) 0 l.toArray.size d'):d'.toList.Pairwise (fun x y=>fk x y=true)/\(∀x,x∈d'.toList↔x∈l)/\d'.size=l.length:=by
 obtain⟨h1,_,h3⟩:=hp;have hsz:d'.size=l.length:=by simpa using h1
 have hperm:d'.toList.Perm l:=by
   rw[show d'.extract 0 l.toArray.size=d' by rw[<-h1];simp]at h3;simpa using h3
 have hnd:d'.toList.Nodup:=hperm.nodup_iff.2 hn;refine⟨?_,fun x=>hperm.mem_iff,hsz⟩;rw[Bt];intro i j hi hj hij;simp only[Array.length_toList]at hi hj;have:=hs i j (Au _) hij (by simp;omega);rw[BQ d' j hj,BQ d' i hi,wR]at this;have hne:d'[i]≠d'[j]:=by
   have:=Bt.1 hnd i j (by simpa using hi) (by simpa using hj) hij;simpa using this
 simp only[EA];rcases tH d'[i] d'[j]with h|h|h
 . exact h
 . exact absurd h hne
 . rw[this]at h;cases h
theorem RN (w:World) (g off n:Nat) (d:Array aA) (os:Array Obj) {B:Nat} (hg:B<=g) (hB:B<=w.heap.size):Below B w (sortWorldK jD 3 w g off n d os):=by
 refine⟨rfl,rfl,rfl,size_sortWorldK_c jD 3 w g off n d os,fun k hk=>?_⟩;unfold sortWorldK grow putRowK putRow mapBlock Sort.ahead;simp only;rw[Ef (by simp;omega)];rw[Di];rw[Aj (by omega)]
theorem Og {w:World} {base:Nat} {v:Value} {l:List aA} (hn:l.Nodup) (h:w.ownsRow base 24 3 v l.length (kF l)) (hl:l.length<=1000000) (hbase:base<=w.heap.size):
   Calls Tryz.prog 122 #[v, .func (.func 123) #[] #[]] w fun e w'=>e= .returned (.tuple #[])/\Below base w w'/\ ∃ks:List aA,ks.Pairwise (fun x y=>fk x y=true)/\(∀x,x∈ks↔x∈l)/\ks.length=l.length/\(ks=[]\/ ∃g cap,v= .slice (some ⟨g,0,none⟩) l.length cap/\base<=g/\g<w'.heap.size/\gH w' g ks):=by
 rcases h.2 with⟨rfl,h0⟩|⟨g,cap,cur,rfl,hbg,hg,h1,h2,h3,h4⟩
 . have hl0:l=[]:=AQ.1 h0;subst hl0;refine(Pk w).mono ?_;rintro e w' ⟨rfl,hb⟩;exact⟨rfl,hb.mono hbase,[],List.Pairwise.nil,fun _=>Iff.rfl,rfl, .inl rfl⟩
 . have hgl:=(Ad.1 hg).1;have hs:=PD g 0 cap l.toArray w (Mc hg h4) hgl (by simp;omega);rw[show l.toArray.size=l.length by simp]at hs;refine hs.mono ?_;rintro e w' ⟨rfl,d',n,os,hp,hso,rfl⟩;obtain⟨hd,hmem,hsz⟩:=Sh hn (d':=d') (by simpa using hp) (by simpa using hso);have hH:=holdsK_sortWorldK_c jD 3 w g 0 l.toArray d' n os (Mc hg h4) hgl (by simp[hsz]);have hb:=RN w g 0 n d' os hbg hbase;exact⟨rfl,hb,d'.toList,hd,hmem,by simpa using hsz, .inr ⟨g,cap,rfl,hbg,AP hgl hb.size,Xt (by simpa using hH)⟩⟩
def dD (w:World) (p:Nat->Prop) (l:List ar) (v:Value):Prop:=(l=[]/\ ∃a c,v= .slice a 0 c)\/ ∃b off cap arr e fz,v= .slice (some ⟨b,off,none⟩) l.length cap/\p b/\w.heap[b]? =some (.cells arr e fz)/\l.length<=cap/\off+l.length*3<=arr.size/\
 ∀i (h:i<l.length),arr[off+i*3]? =some (.int .i64 l[i].dev)/\arr[off+i*3+1]? =some (.int .i64 l[i].inc)/\arr[off+i*3+2]? =some (.int .i64 l[i].seq)
theorem dD.one {w:World} {p:Nat->Prop} {l:List ar} {v:Value} (h:dD w p l v):∃a n c,v= .slice a n c:=by
 rcases h with⟨_,a,c,rfl⟩|⟨_,_,_,_,_,_,rfl,_⟩<;>exact⟨_,_,_,rfl⟩
theorem dD.aW {w w':World} {p q:Nat->Prop} {l:List ar} {v:Value} (h:dD w p l v) (hs:∀b,p b->b<w.heap.size->q b/\w'.heap[b]? =w.heap[b]?):dD w' q l v:=by
 rcases h with h|⟨b,off,cap,arr,e,fz,rfl,hp,hb,hr⟩
 . exact .inl h
 . obtain⟨h1,h2⟩:=hs b hp (Ad.1 hb).1;exact .inr ⟨b,off,cap,arr,e,fz,rfl,h1,h2.trans hb,hr⟩
theorem Vb [Inhabited aL] {w:World} {p:Nat->Prop} {g:Bool} {l:List ar} {v:Value} (h:Rd w p g (cw l) v):dD w p l v:=by
 unfold cw at h
 cases h with
 |fU h0=>exact .inl ⟨AQ.1 h0,_,_,rfl⟩
 |cf h h0 a c=>exact .inl ⟨AQ.1 h0,_,_,rfl⟩
 |aj b off cap arr e fz sz u hp hb hs hl hn hc h1 h2=>
  by_cases h0:l=[]
  . subst h0;exact .inl ⟨rfl,_,_,rfl⟩
  . have hsz:sz=3:=by
     obtain⟨x,l',rfl⟩:=Ec h0;exact(hn 0 x rfl).symm
    subst hsz;refine .inr ⟨b,off,cap,arr,e,fz,rfl,hp,hb,hc,hl,fun i hi=>?_⟩;have hx:l[i]? =some l[i]:=Af hi;have e0:=h1 i _ 0 _ hx rfl;have e1:=h1 i _ 1 _ hx rfl;have e2:=h1 i _ 2 _ hx rfl;rw[iN (h2 i _ 0 _ hx rfl)]at e0;rw[iN (h2 i _ 1 _ hx rfl)]at e1;rw[iN (h2 i _ 2 _ hx rfl)]at e2;exact⟨e0,e1,e2⟩
def yD (w:World) (p:Nat->Prop) (u:Value) (e:ae):Prop:=∃v,u=ic e v/\dD w p e.over v
theorem Zx [Inhabited aL] {w:World} {p:Nat->Prop} {g:Bool} {e:ae} {u:Value} (h:Rd w p g (.agg e.enc) u):yD w p u e:=by
 cases h with
 | @agg cs vs h1 h2=>
  obtain⟨l⟩:=vs;have hlen:l.length=19:=h1.symm;match l,hlen with
  |[a0,a1,a2,a3,a4,a5,a6,a7,a8,a9,a10,a11,a12,a13,a14,a15,a16,a17,a18],_=>
   have e0:=iN (h2 0 _ _ rfl rfl);have e1:=iN (h2 1 _ _ rfl rfl);have e2:=iN (h2 2 _ _ rfl rfl);have e3:=iN (h2 3 _ _ rfl rfl);have e4:=iN (h2 4 _ _ rfl rfl);have e5:=iN (h2 5 _ _ rfl rfl);have e6:=iN (h2 6 _ _ rfl rfl);have e7:=pc (h2 7 _ _ rfl rfl);have e8:=pc (h2 8 _ _ rfl rfl);have e9:=pc (h2 9 _ _ rfl rfl);have e10:=pc (h2 10 _ _ rfl rfl);have e11:=rX (h2 11 _ _ rfl rfl);have e12:=rX (h2 12 _ _ rfl rfl);have e13:=rX (h2 13 _ _ rfl rfl);have e14:=rX (h2 14 _ _ rfl rfl);have e15:=iN (h2 15 _ _ rfl rfl);have e16:=iN (h2 16 _ _ rfl rfl);have e17:=iN (h2 17 _ _ rfl rfl);have e18:=Vb (h2 18 _ _ rfl rfl);subst e0 e1 e2 e3 e4 e5 e6 e7 e8 e9 e10 e11 e12 e13 e14 e15 e16 e17;exact⟨a18,rfl,e18⟩
theorem UH [Inhabited aL] {w:World} {p:Nat->Prop} {g:Bool} {e:ae} {b:Bool} {v:Value} (h:Rd w p g (.bJ [.agg e.enc, .bool b]) v):∃u,v= .tuple #[u, .bool b]/\yD w p u e:=by
 cases h with
 | @bJ cs vs h1 h2=>
  obtain⟨l⟩:=vs;match l,h1 with
  |[x,y],_=>
   have e2:=rX (h2 1 _ _ rfl rfl);subst e2;exact⟨x,rfl,Zx (h2 0 _ _ rfl rfl)⟩
theorem S6 {wr W8 w9:World} {base sz n m lo:Nat} {ty:TypeId} {v v9:Value} {xs:List Value} (hrow:wr.ownsRow base ty sz v n xs) (h8:Below wr.heap.size wr W8) (hg:W8.grownBy w9 v.ownBlock) (hat:v9.ownBlock=v.ownBlock\/v9.ownBlock=some W8.heap.size)
   {L:List (ae×Value)} (hL:∀x∈L,dD wr (fun b=>m<=b/\some b≠v.ownBlock) x.1.over x.2) {e:ae} {v':Value} (hlo:wr.heap.size<=lo) (hm:m<=lo) (hn:dD W8 (fun b=>lo<=b) e.over v'):
   ∀x∈L++[(e,v')],dD w9 (fun b=>m<=b/\some b≠v9.ownBlock) x.1.over x.2:=by
 have key:∀b,b<W8.heap.size->some b≠v.ownBlock->some b≠v9.ownBlock/\w9.heap[b]? =W8.heap[b]? :=fun b hb hne=>by
   refine⟨?_,hg.block b hb hne⟩;rcases hat with h|h
   . rw[h];exact hne
   . rw[h];intro e;cases e;exact absurd hb (E2 _)
 have hs:=h8.size;intro x hx;rcases A7.1 hx with hx|hx
 . refine(hL x hx).aW fun b hp hb=>?_
   obtain⟨k1,k2⟩:=key b (by omega) hp.2;exact⟨⟨hp.1,k1⟩,k2.trans (h8.block b hb)⟩
 . rw[BE.1 hx];refine hn.aW fun b hp hb=>?_
   have hp:lo<=b:=hp;obtain⟨k1,k2⟩:=key b hb (fun e=>by have:=(hrow.lt b e.symm).2;omega);exact⟨⟨Aq hm hp,k1⟩,k2⟩
theorem db.below [Inhabited aL] {w w':World} (h:db w) (hb:Below w.heap.size w w'):db w':=fun b hlt=>(hb.block b (h.lt hlt)).trans (h b hlt)
theorem Pn [Inhabited aL] (hdr:¬(default:aL).dr) {b:Nat} {m:aK} (hS:cD b m) (k:aA) {w:World} (hw:db w):
  Calls Tryz.prog 75 #[.pointer (some ⟨b,0,none⟩),dw k] w fun e w'=>∃u,e= .returned (.tuple #[u, .bool (dV m k).2])/\yD w' (fun b=>w.heap.size<=b) u (dV m k).1/\Below w.heap.size w w':=by
 have h:=Oj bA.ok (Ke hdr) (fn:=Tryz.f75) (hfn:=by kernel_rfl) (hb:=rfl) (y:=(b,m,k)) hS (args:=[.pointer (some ⟨b,0,none⟩), .agg (jD k).toArray]) (w:=w) (PL.cons (.wp _) (PL.cons (CA k) PL.nil)) hw;refine Calls.mono h ?_;rintro e w' ⟨v,rfl,hv,hbel,_⟩;obtain⟨u,rfl,hu⟩:=UH hv;exact⟨u,rfl,hu,hbel⟩
theorem Pu:∃i0,Tryz.prog.info? 24=some i0/\i0.zero=some (.agg #[.string ⟨#[]⟩, .string ⟨#[]⟩, .string ⟨#[]⟩])/\i0.size=3/\i0.bytes=48:=by
 have h:(Tryz.prog.info? 24).map (fun i=>(i.zero,i.size,i.bytes))=some (some (.agg #[.string ⟨#[]⟩, .string ⟨#[]⟩, .string ⟨#[]⟩]),3,48):=by kernel_rfl
 cases e:Tryz.prog.info? 24 with
 |none=>rw[e]at h;cases h
 |some i=>rw[e]at h;simp only[Bh,A3,BP]at h;exact⟨i,rfl,h.1,h.2.1,h.2.2⟩
theorem P8 (w5:World) (e:ae) (v:Value) (hv:v.oneCell'=true):∃W7,(storeCells ⟨w5.heap.size,0,none⟩ (cY e v).toArray.toList).run Tryz.prog (w5.alloc (.cells dN 42))= .ok () W7/\(loadCellsFrom ⟨w5.heap.size,0,none⟩ 0 19 #[]).run Tryz.prog W7= .ok (cY e v).toArray W7/\Below w5.heap.size w5 W7/\W7.heap.size=w5.heap.size+1:=by
 have hth:(w5.alloc (.cells dN 42)).there w5.heap.size 0 19:=yZ w5 dN;obtain⟨_,hst⟩:=HI (e:=e) (v:=v) hv hth;have r5:=World.rangeAt_setCells_same (w5.alloc (.cells dN 42)) w5.heap.size 0 (cY e v) hth;refine⟨_,hst,Gj r5,vA (Ai _) _ _ _ ((Below.refl w5.heap.size w5).alloc (Ai _) _),?_⟩;rw[size_setCells];exact Dk _
theorem Xo (e:ae) (v:Value) (mm:Nat) (h:mm=19):Array.foldl (fun(cs:Array Value) (x:Value×Nat)=>cs.setIfInBounds x.2 x.1) (Array.map (fun x=>([.int .i64 0, .int .i64 0, .int .i64 0, .int .i64 0, .int .i64 0, .int .i64 0, .int .i64 0, .string ⟨#[]⟩, .string ⟨#[]⟩, .string ⟨#[]⟩, .string ⟨#[]⟩, .bool false, .bool false, .bool false, .bool false, .int .i64 0, .int .i64 0, .int .i64 0, .slice none 0 0]:List Value)[x % 19]?.getD default) (Array.range mm)) ((cY e v).toArray.zipIdx) 0 mm=(cY e v).toArray:=by
 subst h;kernel_rfl
theorem JY {P:Program} {ops:Array Oper} {Q:Exit->Act->World->Prop} {rest:List Oper} {a:Act} {W W':World} (h:W=W') (hk:wpList P ops Q rest a W'):wpList P ops Q rest a W:=h▸hk
theorem Se [Inhabited aL] {G:bD} {m:aK} (g:cV G m) (hn:(G.alive.map (·.1)).Nodup):G.alive.length<=m.kept.length:=by
 have:=zQ (m:=m.kept.map (·.key)) hn fun k hk=>by
  have hs:(aE G.alive k).isSome=true:=by
   cases e:aE G.alive k with
   |none=>exact absurd hk (bN.1 e)
   |some _=>rfl
  obtain⟨e,he⟩:=EZ _ ((tZ g k).1 hs);have h2:=AE.1 he;exact Av.2 ⟨e,(AE.1 h2.1).1,by simpa using h2.2⟩
 simpa using this
theorem PT [Inhabited aL] (hdr:¬(default:aL).dr) {b:Nat} {m:aK} (hS:cD b m) {w:World} (hw:db w):
  Calls Tryz.prog 80 #[.pointer (some ⟨b,0,none⟩)] w fun e w'=>∃v L,e= .returned v/\L.map (·.1)=gA m/\(∀x∈L,dD w' (fun b=>w.heap.size<=b) x.1.over x.2)/\w'.ownsRow w.heap.size 42 19 v L.length (fW L)/\Below w.heap.size w w':=by
 obtain⟨i0,hi,hz0,hz1,hz2⟩:=Pu;obtain⟨n,bk,ba,bd,bs,bv,G,hO,hG⟩:=hS.at_ w hw;have hA:G.alive.length<=50000:=Aq (Se hG hO.ma.nd) hS.ok.kept;have c1:=hO.c1;go_enter Tryz.func80,Tryz.ntmps80
 go_wp2_with (first
  |(at_range;refine Qy _ rfl _ 100 rfl Tryz.underlying100 ba rfl hO.ma ?_;intro w1 hit hb1 hs1)
  |go_in)
 go_frame
 have hbl:=iA c1;go_loopw [3] (fun v wr=>∃(ss left:List (aA×(Nat×DL))),cM wr w.heap.size ba dw oE G.alive ss left/\ss.length+left.length=G.alive.length/\wr.ownsRow w1.heap.size 24 3 v ss.length (kF (ss.map (·.1)))/\Below w.heap.size w wr/\w1.heap.size<=wr.heap.size)
  (fun _ wr=>wr.rangeLeft ba w.heap.size)
 case atStart=>exact⟨[],G.alive,hit,by simp,World.ownsRow_nil _ _ _ _,hb1,Ai _⟩
 case round=>
  obtain⟨ss,left,hrg,hcs,hrow,hbr,hbig⟩:=hrel;go_wp2_with (first
    |(at_next;refine Ic _ rfl _ rfl w.heap.size ba rfl hrg ?_ ?_)
    |go_in)
  . intro hl0 hperm;have hpk:(ss.map (·.1)).Perm (G.alive.map (·.1)):=hperm.map _;have hnd:(ss.map (·.1)).Nodup:=hpk.nodup_iff.2 hO.ma.nd;have hsl:(ss.map (·.1)).length<=1000000:=by rw[hpk.length_eq,A8];omega
    have hrow':wr.ownsRow w1.heap.size 24 3 u3 (ss.map (·.1)).length (kF (ss.map (·.1))):=by rw[A8];exact hrow
    obtain⟨sa,sc,rfl⟩:∃sa sc,u3= .slice sa ss.length sc:=by
     rcases hrow.2 with⟨h1,h2⟩|⟨g,cap,_,h1,_⟩
     . exact⟨none,0,by rw[h2];exact h1⟩
     . exact⟨_,_,h1⟩
    have hcall:=Og hnd hrow' hsl hbig;go_wp2_with (go_at_call 122;go_loud (refine hcall.mono ?_;rintro e w2 ⟨rfl,hb2,ks,hso,hmem,hlen,hks⟩))
    rw[A8]at hlen hks;have hB2:Below w.heap.size w w2:=hbr.trans (hb2.mono hb1.size);have hw2:db w2:=db.below hw hB2;obtain⟨i4,z4,by4,hi4,hz40,hz41,hz42,hz43,hz44⟩:=HL;go_loopw [5,29] (fun v i wr=>∃(j:Nat) (L:List (ae×Value)),j<=ss.length/\i= .int .i64 j/\L.map (·.1)=(ks.take j).map (fun k=>(dV m k).1)/\(∀x∈L,dD wr (fun b=>w2.heap.size<=b/\some b≠v.ownBlock) x.1.over x.2)/\wr.ownsRow w2.heap.size 42 19 v L.length (fW L)/\Below w2.heap.size w2 wr)
     (fun _ i _=>ss.length - (intOf i).toNat)
    case atStart=>exact⟨0,[],Au _,rfl,rfl,fun x hx=>absurd hx (by simp),World.ownsRow_nil _ _ _ _,Below.refl _ _⟩
    case round=>
     obtain⟨j,L,hj,rfl,hL,hLd,hrowL,hbj⟩:=hrel;have hbw:Below w.heap.size w wr:=hB2.trans (hbj.mono hB2.size);have hLl:L.length=j:=by
       have:=Ap List.length hL;simp only[A8,A5]at this;omega
     by_cases hlt:j<ss.length
     . have hltk:j<ks.length:=by omega
       obtain⟨g,cap,hv,hbg,hg2,hka⟩:∃g cap,(Value.slice sa ss.length sc)= .slice (some ⟨g,0,none⟩) ss.length cap/\w1.heap.size<=g/\g<w2.heap.size/\gH w2 g ks:=hks.resolve_left (fun e=>by rw[e]at hltk;exact absurd hltk (Bi _));simp only[Value.slice.injEq]at hv;obtain⟨rfl, -,rfl⟩:=hv;obtain⟨c0,c1',c2⟩:=hka.below (hbj.block g hg2) j hltk;obtain⟨k,hk⟩:∃k,ks[j]=k:=⟨_,rfl⟩;rw[hk]at c0 c1' c2;obtain⟨W,hW⟩:∃W,wr.alloc (.cells #[.string ⟨k.name.toArray⟩, .string ⟨k.domain.toArray⟩, .string ⟨k.path.toArray⟩] 24)=W:=⟨_,rfl⟩;have hbW:Below wr.heap.size wr W:=by rw[<-hW];exact(Below.refl _ _).alloc (Ai _) _
       have d0:W.cell? ⟨wr.heap.size,0,none⟩=some (.string ⟨k.name.toArray⟩):=by rw[<-hW];simp
       have d1:W.cell? ⟨wr.heap.size,1,none⟩=some (.string ⟨k.domain.toArray⟩):=by rw[<-hW];simp
       have d2:W.cell? ⟨wr.heap.size,2,none⟩=some (.string ⟨k.path.toArray⟩):=by rw[<-hW];simp
       have hcall:=Pn hdr hS k (w:=W) (db.below hw (hbw.trans (hbW.mono hbw.size)));rw[show dw k= .agg #[.string ⟨k.name.toArray⟩, .string ⟨k.domain.toArray⟩, .string ⟨k.path.toArray⟩]from rfl]at hcall;obtain⟨SZ,mm,hSZ,hsz,hm⟩:=uc;have hz0':dN=dN:=rfl;have hm0:¬mm=0:=by have h:mm=19:=hm;omega
       have hmx:¬16777216<mm:=by have h:mm=19:=hm;omega
       have hL1:L.length+1<=1000001:=by omega
       have hbyt:(L.length+1)*by4<=140737488355328:=Aq (EV hL1 hz44) (by decide);have hmax:L.length+1<=maxLen:=by unfold maxLen;omega
       clear hz0';go_wp2_with (first
         |(go_at_call 75;(refine hcall.mono ?_;rintro e w5 ⟨u,rfl,⟨v',hu',hd5⟩,hb5⟩;obtain⟨W7,hst,hld,hb7,hs7⟩:=P8 w5 (dV m k).1 v' (by(obtain⟨_,_,_,hh⟩:=hd5.one;rw[hh];rfl));have hone:∀u∈cY (dV m k).1 v',u.oneCell'=true:=za (by(obtain⟨_,_,_,hh⟩:=hd5.one;rw[hh];rfl));obtain⟨cs,hcs⟩:∃cs:Array Value,(cY (dV m k).1 v').toArray=cs:=⟨_,rfl⟩;have hcz:cs.size=19:=(by(rw[<-hcs];rfl));have hu2:u= .agg cs:=(by(rw[hu',<-hcs];rfl));clear hu';subst hu2;have hfo:=Xo (dV m k).1 v' mm hm;have hnl:(cY (dV m k).1 v').length=1*19:=rfl;rw[hcs]at hfo hst hld;obtain⟨nw,hnw⟩:∃nw,cY (dV m k).1 v'=nw:=⟨_,rfl⟩;rw[hnw]at hone hcs hnl;rw[<-(hm:mm=19)]at hld hcz;unfold dN at hst;obtain⟨W8,hW8⟩:∃W8,W7.alloc (.cells cs 42)=W8:=⟨_,rfl⟩;have hb8:Below W7.heap.size W7 W8:=(by(rw[<-hW8];exact(Below.refl _ _).alloc (Ai _) _));have hra:W8.rangeAt W7.heap.size 0 nw:=(by(rw[<-hW8,<-hcs,<-hnw];exact tO W7 (dV m k).1 v'));have hnc:∀j u,nw[j]? =some u->W8.cell? ((⟨w5.heap.size+1,0,none⟩:Addr).add j)=some u:=(fun j u hj=>by(rw[Addr.add_mid,<-hs7];exact hra j u hj));have hrow8:=rA (rA (rA (rA hrowL hbW) hb5) hb7) hb8;have s5:=hb5.size;have s8:=hb8.size))
         |(at_builtin;go_loud ((first|refine JY (W':=W8) (by(rw[<-hW8];exact Ap (fun x=>W7.alloc (.cells x 42)) hfo)) ?_|skip);refine wpList_append_own_at _ rfl _ _ 22 rfl w2.heap.size 42 i4 _ 19 by4 Tryz.underlying22 hi4 hz40 hz41 hz42 hz43 (by decide) _ _ _ rfl hrow8 ⟨w5.heap.size+1,0,none⟩ 1 1 nw rfl hnl hnc hone hmax hbyt (by(have:=hbj.size;have:=hbW.size;omega)) ?_;intro v9 w9 hrow9 hg9 hnil9 hat9)))
       refine⟨⟨j+1,L++[((dV m k).1,v')],hlt,by go_num,?_,?_,?_,?_⟩,?_⟩
       . rw[AL,hL,EX,Af hltk,hk,AL];rfl
       . have h1:=hbW.size;have h2:=hb5.size;refine S6 hrowL (((hbW.trans (hb5.mono h1)).trans (hb7.mono (by omega))).trans (hb8.mono (by omega))) hg9 hat9 hLd h1 (by have:=hbj.size;omega) (hd5.aW fun b hp hb=>⟨hp,?_⟩);exact(hb8.block b (AP hb hb7.size)).trans (hb7.block b hb)
       . rw[JT,AU];show w9.ownsRow w2.heap.size 42 19 v9 (L.length+1) (fW L++cY (dV m k).1 v')
         rw[hnw];exact hrow9
       . have h1:=hbj.size;have h2:=hbW.size;exact((((hbj.trans (hbW.mono h1)).trans (hb5.mono (by omega))).trans (hb7.mono (by omega))).trans (hb8.mono (by omega))).grown hg9 (by omega) (fun k e=>(hrow8.lt k e).1)
       . simp[intOf];omega
     . have hjl:j=ss.length:=by omega
       subst hjl;have hall:ks.take ss.length=ks:=As (by omega);rw[hall,Sp hG hso fun k=>by
         rw[hmem,hpk.mem_iff]
         cases e:aE G.alive k with
         |none=>exact⟨fun h=>absurd h (bN.1 e),fun h=>by cases h⟩
         |some x=>exact⟨fun _=>rfl,fun _=>by
          by_cases h:k∈G.alive.map (·.1)
          . exact h
          . rw[bN.2 h]at e;cases e⟩]at hL
       go_wp2;go_ret;refine⟨_,L,rfl,hL,fun x hx=>(hLd x hx).aW fun b hp _=>⟨Aq hB2.size hp.1,rfl⟩,⟨hrowL.1,?_⟩,hbw⟩;rcases hrowL.2 with hn|⟨g,cap,cur,hv,hbg,rest⟩
       . exact .inl hn
       . exact .inr ⟨g,cap,cur,hv,Aq hB2.size hbg,rest⟩
  . intro k jI jL left' w2 hrg2 hlt hg2 hs2 hen;rw[show dw k= .agg #[.string ⟨k.name.toArray⟩, .string ⟨k.domain.toArray⟩, .string ⟨k.path.toArray⟩]from rfl]at hen⊢;have hr0:=hrg.isWalk;have hrow2:w2.ownsRow w1.heap.size 24 3 u3 ss.length (kF (ss.map (·.1))):=hrow.kept (row:=some w.heap.size) ⟨hg2.os,hg2.tape,hg2.output,hg2.size,fun i hi hne=>hg2.block i hi fun e=>hne (by rw[e])⟩ (by
     obtain⟨o,ho,hw⟩:=hr0;exact ownsRow_ne_a hrow ho (fun cur e=>by rw[e]at hw;cases hw))
    have hb2:Below w.heap.size w w2:=hbr.trans ⟨hg2.os,hg2.tape,hg2.output,hg2.size,fun i hi=>hg2.block i (AP hi hbr.size) (by omega)⟩;obtain⟨X,hX⟩:∃X,(w2.alloc (.cells #[.string ⟨k.name.toArray⟩, .string ⟨k.domain.toArray⟩, .string ⟨k.path.toArray⟩] 24)).alloc (.cells #[.string ⟨k.name.toArray⟩, .string ⟨k.domain.toArray⟩, .string ⟨k.path.toArray⟩] 24)=X:=⟨_,rfl⟩;have hrow3:X.ownsRow w1.heap.size 24 3 u3 ss.length (kF (ss.map (·.1))):=by rw[<-hX];exact(hrow2.alloc _).alloc _
    have hk3:KeepsWalks w2 X:=by rw[<-hX];exact(KeepsWalks.alloc _ _).trans (KeepsWalks.alloc _ _)
    have hb3:Below w.heap.size w X:=by rw[<-hX];exact(hb2.alloc hb2.size _).alloc (by have:=hb2.size;simp;omega) _
    have hs3:X.heap.size=wr.heap.size+2:=by rw[<-hX];simp;omega
    have hnc:∀i u,([.string ⟨k.name.toArray⟩, .string ⟨k.domain.toArray⟩, .string ⟨k.path.toArray⟩]:List Value)[i]? =some u->X.cell? ((⟨wr.heap.size+1,0,none⟩:Addr).add i)=some u:=fun i u hi=>by
     rw[Addr.add_lit,<-hX,show wr.heap.size+1=(w2.alloc (.cells #[.string ⟨k.name.toArray⟩, .string ⟨k.domain.toArray⟩, .string ⟨k.path.toArray⟩] 24)).heap.size from by rw[<-hs2];exact(Dk _).symm];match i with
     |0=>cases hi;simp
     |1=>cases hi;simp
     |2=>cases hi;simp
     |_+3=>cases hi
    have hone:∀u∈([.string ⟨k.name.toArray⟩, .string ⟨k.domain.toArray⟩, .string ⟨k.path.toArray⟩]:List Value),u.oneCell'=true:=by simp[Value.oneCell']
    have hlen:ss.length+1<=G.alive.length:=by omega
    have hmax:ss.length+1<=maxLen:=by unfold maxLen;omega
    go_wp2_with (at_builtin;go_loud (refine wpList_append_own _ rfl _ _ 160 rfl w1.heap.size 24 i0 _ 3 48 Tryz.underlying160 hi hz0 hz1 hz2 rfl (by decide) _ _ _ rfl hrow3 ⟨wr.heap.size+1,0,none⟩ 1 1 [.string ⟨k.name.toArray⟩, .string ⟨k.domain.toArray⟩, .string ⟨k.path.toArray⟩] rfl rfl hnc hone hmax (by omega) (by omega) ?_;intro v3 w3 hown hg3 hnil))
    have hrg3:=(hrg2.jk hk3).jk (KeepsWalks.of_grownBy hg3 (ownsRow_not_walk_a hrow3));have hs4:=hg3.size;go_roundw
    case rel=>exact⟨ss++[(k,(jI,jL))],left',hrg3,by simp;omega,by rw[AL,A4,EH,QJ,AU];exact hown,hb3.grown hg3 hb3.size (fun k e=>Aq hb1.size (hrow3.lt k e).1),by omega⟩
    case measure=>rw[hrg3.left_eq,hrg.left_eq];omega
section
theorem Le {w:World} {p:Nat->Prop} {n:Nat} {l:List ar} {v:Value} (hp:∀b,p b->n<=b) (h:dD w p l v):Up w n (cw l) v:=by
 unfold cw;rcases h with⟨rfl,a,c,rfl⟩|⟨b,off,cap,arr,ty,fz,rfl,hpb,hb,hc,hl,hi⟩
 . exact .cf rfl a c
 . refine .aj b off cap arr ty fz 3 (fun i j=>(arr[off+i*3+j]?).getD (.bool false)) (hp b hpb) hb (by decide) hl (fun _ _ _=>rfl) hc (fun i x j v hx hv=>?_) (fun i x j v hx hv=>?_) (fun i x j v hx hv=>?_)
   all_goals
    have hil:i<l.length:=(Ae.1 hx).1;have hxe:l[i]=x:=(Ae.1 hx).2;obtain⟨e0,e1,e2⟩:=hi i hil;rw[hxe]at e0 e1 e2;have hj:j<3:=(Ae.1 hv).1;match j,hj with
    |0,_=>cases hv;first|rfl|exact(by rw[BL,e0];rfl)|(simp only[BL,e0,BB];exact .int _ _)
    |1,_=>cases hv;first|rfl|exact(by rw[e1];rfl)|(simp only[e1,BB];exact .int _ _)
    |2,_=>cases hv;first|rfl|exact(by rw[e2];rfl)|(simp only[e2,BB];exact .int _ _)
theorem NT {w:World} {p:Nat->Prop} {n:Nat} {L:List (ae×Value)} {v:Value} (hp:∀b,p b->n<=b) (hd:∀x∈L,dD w p x.1.over x.2) (h:w.ownsRow n 42 19 v L.length (fW L)):Up w n (cL (L.map (·.1))) v:=by
 unfold cL;obtain⟨hlen,hr⟩:=h;rcases hr with⟨rfl,h0⟩|⟨g,cap,cur,rfl,hpp,hb,hc,hm,hsz,htk⟩
 . exact .fU (by simpa using h0)
 . rw[show L.length=(L.map (·.1)).length by simp];have cell:∀i (hi:i<L.length) j,j<19->cur[i*19+j]? =(cY L[i].1 L[i].2)[j]? :=fun i hi j hj=>by
     rw[<-K8 L i hi j hj,<-htk,Bc,An (by omega),Ba]
   refine .aj g 0 cap cur 42 (0,0) 19 (fun i j=>(cur[i*19+j]?).getD (.bool false)) hpp hb (by decide) (by simp;omega) (fun _ _ _=>rfl) (by simpa using hc) (fun i x j v hx hv=>?_) (fun i x j v hx hv=>?_) (fun i x j v hx hv=>?_)
   . have hj:j<19:=(Ae.1 hv).1;match j,hj with
     |0,_|1,_|2,_|3,_|4,_|5,_|6,_|7,_|8,_|9,_|10,_|11,_|12,_|13,_|14,_|15,_|16,_|17,_|18,_=>cases hv;rfl
   all_goals
     have hil:i<L.length:=by simpa using(Ae.1 hx).1
     have hxe:L[i].1=x:=by simpa using(Ae.1 hx).2
     have hdi:=hd _ (AI hil);rw[hxe]at hdi;have hj:j<19:=(Ae.1 hv).1;have hcl:=cell i hil j hj;rw[hxe]at hcl
   . rw[Ay,hcl,Af (show j<(cY x L[i].2).length from hj)];rfl
   . show Up w n v ((cur[i*19+j]?).getD _)
     rw[hcl];match j,hj with
     |0,_|1,_|2,_|3,_|4,_|5,_|6,_|15,_|16,_|17,_=>cases hv;exact .int _ _
     |7,_|8,_|9,_|10,_=>cases hv;exact .str _
     |11,_|12,_|13,_|14,_=>cases hv;exact .bool _
     |18,_=>cases hv;exact Le hp hdi
variable [Inhabited aL]
def JA:aM:={Y:=Nat×aK,pre:=fun y=>cD y.1 y.2,args:=fun y=>[.wp ⟨y.1,0,none⟩],res:=fun y=>cL (gA y.2)}
theorem SL (hdr:¬(default:aL).dr):CO vi JA:=kk bA.ok (by
 rintro⟨b,m⟩ hpre w args hold ⟨h1,h2⟩;match args,h1 with
 |[v],_=>
 have e1:=Ge (h2 0 _ _ rfl rfl);subst e1;refine(PT hdr hpre hold).mono ?_;rintro e w' ⟨v',L,rfl,hL,hd,hr,hb⟩;refine⟨_,rfl, .inr ?_,hb,fun h=>(hdr h).elim⟩;show Up w' w.heap.size (cL (gA m)) v'
 rw[<-hL];exact NT (fun _ h=>h) hd hr)
noncomputable def F6 (f:FuncId):Option aM:=bif Nat.beq f vi then some JA else bif Nat.beq f qE then some Kv else F5 f
theorem KL (hdr:¬(default:aL).dr):∀f C,F6 f=some C->CO f C:=bG (SL hdr) (bG (Ke hdr) (KK hdr))
end
section
variable [Inhabited aL]
abbrev Mp:=Option (Nat×aK)
def Mp.arg:Mp->SV|none=> .bq|some y=> .wp ⟨y.1,0,none⟩
def Mp.m:Mp->aK|none=>⟨[],[],[]⟩|some y=>y.2
def Mp.at:Mp->Prop|none=>True|some y=>cD y.1 y.2
noncomputable def Mp.gD (c:FuncId->Option aM):Mp->FuncId->Option aM|none=>bZ|some _=>c
noncomputable def Mp.ln (a:Nat×aK->FuncId->Nat->Option aH):Mp->FuncId->Nat->Option aH|none=>fun _ _=>none|some y=>a y
theorem Gp {c:FuncId->Option aM} (h:∀f C,c f=some C->CO f C) (y:Mp):∀f C,y.gD c f=some C->CO f C:=by
 cases y with
 |none=>exact gO
 |some y=>exact h
def LU:aM:={Y:=Mp,pre:=fun y=>y.at,args:=fun y=>[y.arg],res:=fun y=>items (cG y.m)}
def Wx (y:Nat×aK):aH:=let l:=gA y.2;{α:=Nat,ok:=fun i=>i<=l.length,μ:=fun i=>l.length - i,aW:=[],aN:=fun i=>[(3, .own 0),(7,cL l),(8,i64 (Int.ofNat l.length)),(9,i64 i)],bn:=fun i=>[(0,mw ((l.take i).map ae.item))]}
theorem VI (hdr:¬(default:aL).dr):CO GK LU:=bO (cfg:=fun(y:Mp)=>cg (Mp.gD F6 y) (Mp.ln (fun z=>cr GK 3 (Wx z)) y)) bA (fun _=>rfl) (fun(y:Mp)=>Gp (KL hdr) y) (n:=600) (by
 rintro(_|⟨b,m⟩) hm
 . repeat' (first|exact trivial|exact rfl|((conv=>whnf);first|(apply aJ<;>intro)|apply And.intro))
 have hm:cD b m:=hm;have hwl:=zn hm.ok
 (conv=>whnf)
 refine⟨(b,m),?_⟩
 repeat ((conv=>whnf);first|refine⟨rfl,?_⟩|refine⟨trivial,?_⟩)
 refine⟨hm,?_⟩
 (conv=>whnf)
 refine⟨⟨(0:Nat),Au _,?_⟩,?_⟩
 . repeat' (first|exact trivial|exact rfl|((conv=>whnf);first|(apply aJ<;>intro)|apply And.intro))
   all_goals exact au.2 ⟨_,rfl,af.2 ⟨rfl,fun _=>rfl⟩⟩
 intro (x:Nat) hx;have hx:x<=(gA m).length:=hx
 (conv=>whnf)
 refine aJ (fun hlt=>?_) fun hge=>?_
 . have hlt':x<(gA m).length:=cq hlt;have hf:=wS ae.item hlt';have hz:(((gA m).take x).map ae.item).length+1<=60000:=by simp;omega
   (conv=>whnf)
   refine au.2 ⟨_,cE hlt',?_⟩
   (conv=>whnf)
   refine⟨(gA m)[x].item,rfl,?_⟩
   (conv=>whnf)
   refine af.2 ⟨vr _ hz,?_⟩
   (conv=>whnf)
   refine af.2 ⟨ch x (by omega),?_⟩
   (conv=>whnf)
   refine⟨(x+1:Nat),hlt',by show(gA m).length - (x+1)<(gA m).length - x;omega,?_⟩
   repeat' (first|exact trivial|exact rfl|((conv=>whnf);first|(apply aJ<;>intro)|apply And.intro))
   all_goals ((conv=>whnf);rw[hf])
 . have hge':(gA m).length<=x:=gf hge
   (conv=>whnf)
   refine⟨by rw[As hge'];rfl,?_⟩
   repeat' (first|exact trivial|exact rfl|((conv=>whnf);first|(apply aJ<;>intro)|apply And.intro)))
noncomputable def F7 (f:FuncId):Option aM:=bif Nat.beq f GK then some LU else F6 f
theorem KM (hdr:¬(default:aL).dr):∀f C,F7 f=some C->CO f C:=bG (VI hdr) (KL hdr)
def MW:aM:={Y:=Mp×aA,pre:=fun y=>y.1.at,args:=fun y=>[y.1.arg, .agg y.2.enc],res:=fun y=>cw (kv y.1.m y.2)}
def YE (y:Nat×aK×aA):aH:=let l:=aU y.2.1 y.2.2;{α:=Nat,ok:=fun i=>i<=l.length,μ:=fun i=>l.length - i,aW:=[3],aN:=fun i=>[(5, .own 1),(10,cL l),(11,i64 (Int.ofNat l.length)),(12,i64 i)],bn:=fun i=>[(1, .arr ar ((l.take i).map (·.dot)) ar.enc Ty.kN)]}
theorem Yd (hdr:¬(default:aL).dr):CO Gi MW:=bO (cfg:=fun(y:Mp×aA)=>cg (Mp.gD F7 y.1) (Mp.ln (fun z=>cr Gi 3 (YE (z.1,z.2,y.2))) y.1)) bA (fun _=>rfl) (fun(y:Mp×aA)=>Gp (KM hdr) y.1) (n:=600) (by
 rintro⟨_|⟨b,m⟩,k⟩ hm
 . repeat' (first|exact trivial|exact rfl|((conv=>whnf);first|(apply aJ<;>intro)|apply And.intro))
 have hm:cD b m:=hm;have hkl:=xa hm.ok k
 (conv=>whnf)
 refine⟨(b,m,k),?_⟩
 repeat ((conv=>whnf);first|refine⟨rfl,?_⟩|refine⟨trivial,?_⟩)
 refine⟨hm,?_⟩
 (conv=>whnf)
 refine⟨⟨(0:Nat),Au _,?_⟩,?_⟩
 . repeat' (first|exact trivial|exact rfl|((conv=>whnf);first|(apply aJ<;>intro)|apply And.intro))
   all_goals exact au.2 ⟨_,rfl,af.2 ⟨rfl,fun _=>rfl⟩⟩
 intro (x:Nat) hx;have hx:x<=(aU m k).length:=hx
 (conv=>whnf)
 refine aJ (fun hlt=>?_) fun hge=>?_
 . have hlt':x<(aU m k).length:=cq hlt;have hf:=wS (fun e:ae=>e.dot) hlt'
   (conv=>whnf)
   refine au.2 ⟨_,cE hlt',?_⟩
   (conv=>whnf)
   refine⟨(aU m k)[x].dot,rfl,?_⟩
   (conv=>whnf)
   refine af.2 ⟨rr _ (by simp;omega),?_⟩
   (conv=>whnf)
   refine af.2 ⟨ch x (by omega),?_⟩
   (conv=>whnf)
   refine⟨(x+1:Nat),hlt',by show(aU m k).length - (x+1)<(aU m k).length - x;omega,?_⟩
   repeat' (first|exact trivial|exact rfl|((conv=>whnf);first|(apply aJ<;>intro)|apply And.intro))
   all_goals ((conv=>whnf);rw[hf])
 . have hge':(aU m k).length<=x:=gf hge
   (conv=>whnf)
   refine⟨by rw[As hge'];rfl,?_⟩
   repeat' (first|exact trivial|exact rfl|((conv=>whnf);first|(apply aJ<;>intro)|apply And.intro)))
noncomputable def sT (f:FuncId):Option aM:=bif Nat.beq f Gi then some MW else F7 f
theorem uk (hdr:¬(default:aL).dr):∀f C,sT f=some C->CO f C:=bG (Yd hdr) (KM hdr)
end
section
inductive Flat:SV->Prop
 |bool (b:Bool):Flat (.bool b)
 |int (k:IntKind) (n:Int):Flat (.int k n)
 |str (s:List UInt8):Flat (.str s)
 |wp (a:Addr):Flat (.wp a)
 |aj {X:Type} {L:List X} {enc:X->List SV} (h:∀(i:Nat) x (j:Nat) v,L[i]? =some x->(enc x)[j]? =some v->Flat v):Flat (.aj X L enc)
theorem zC (l:List ar):Flat (cw l):= .aj fun i x j v _ hv=>by
 have hj:j<3:=(Ae.1 hv).1;match j,hj with
 |0,_|1,_|2,_=>cases hv;exact .int _ _
theorem wO (l:List ae):Flat (cL l):= .aj fun i x j v _ hv=>by
 have hj:j<19:=(Ae.1 hv).1;match j,hj with
 |0,_|1,_|2,_|3,_|4,_|5,_|6,_|15,_|16,_|17,_=>cases hv;exact .int _ _
 |7,_|8,_|9,_|10,_=>cases hv;exact .str _
 |11,_|12,_|13,_|14,_=>cases hv;exact .bool _
 |18,_=>cases hv;exact zC _
section
variable [Inhabited aL] {tab:bC} {w:World} {p:Nat->Prop} {g:Bool}
theorem TC {n:Nat} (a:Option Addr) (c:Nat):cU n (.slice a 0 c)= .nils\/cU n (.slice a 0 c)= .raw (.slice a 0 c):=by
 unfold cU;split<;>simp_all
theorem qo {s:SV} (hf:Flat s):∀{v:Value},Rd w p g s v->aT (bW tab w).get s (cU w.heap.size v):=by
 induction hf with
 |bool b=>intro v h;cases h;exact .bool b
 |int k n=>intro v h;cases h;exact .int k n
 |str s=>intro v h;cases h;exact .str s
 |wp a=>intro v h;cases h;exact .wp a
 | @aj X L enc hfl ih=>
  intro v h
  cases h with
  |fU h0=>exact .cf h0 (.inl rfl)
  |cf h h0 a c=>
   rcases TC (n:=w.heap.size) a c with e|e
   . rw[e];exact .cf h0 (.inl rfl)
   . rw[e];exact .cf h0 (.inr (.inr ⟨_,_,rfl⟩))
  |aj b off cap arr e fz sz u hp hb hs hl hn hc h1 h2=>
   exact wU hb hs (fun x hx=>by obtain⟨i,hi,rfl⟩:=Bd hx;exact hn i _ (Af hi)) hl rfl hc (fun i x j v hx hv=>⟨u i j,h1 i x j v hx hv,ih i x j v hx hv (h2 i x j v hx hv)⟩)
theorem Vk {s:SV} (hf:Flat s) {v:Value} (h:Rd w p g s v) (n:Nat):dy n v=cU n v:=by
 cases hf<;>cases h<;>rfl
theorem XX {s:SV} (hf:Flat s) {v:Value} (h:Rd w p g s v):aT (bW tab w).get s (dy w.heap.size v):=by
 rw[Vk hf h];exact qo hf h
theorem XY {cs:List SV} (hf:∀c∈cs,Flat c) {v:Value} (h:Rd w p g (.agg cs) v):aT (bW tab w).get (.agg cs) (dy w.heap.size v):=by
 cases h with
 | @agg cs vs h1 h2=>
  show aT _ (.agg cs) (.agg (vs.toList.map (cU w.heap.size)))
  refine .agg (by simpa using h1) fun i c v hc hv=>?_
  rw[AR]at hv
  cases hi:vs.toList[i]? with
  |none=>rw[hi]at hv;cases hv
  |some x=>
   rw[hi]at hv
   cases hv;exact qo (hf c (Bz hc)) (h2 i c x hc (by rw[<-Ba];exact hi))
theorem YZ {s:SV} {v:Value} (h:aT (bW tab w).get s (dy w.heap.size v)):Rd w (fun _=>True) true s v:=by
 have:=tU (oo tab w (E:=⟨fun i=>i,fun _=>0⟩) (fun _ _=>rfl)) (fun _ _ h=>h) h;rwa [zK (fun _ _=>rfl)]at this
end
def eW (w:World) (l:List ae) (v:Value):Prop:=(l=[]/\ ∃a c,v= .slice a 0 c)\/ ∃b off cap arr e fz,v= .slice (some ⟨b,off,none⟩) l.length cap/\w.heap[b]? =some (.cells arr e fz)/\l.length<=cap/\off+l.length*19<=arr.size/\
 ∀i (h:i<l.length),∃u,(∀j,j<19->arr[off+i*19+j]? =(cY l[i] u)[j]?)/\cK w l[i].over u
theorem eW.cells {w w':World} (hc:jJ w w') {l:List ae} {v:Value} (h:eW w l v):eW w' l v:=by
 rcases h with h|⟨b,off,cap,arr,e,fz,h1,h2,h3,h5,h4⟩
 . exact .inl h
 . exact .inr ⟨b,off,cap,arr,e,fz,h1,hc _ _ _ _ h2,h3,h5,fun i hi=>by obtain⟨u,k1,k2⟩:=h4 i hi;exact⟨u,k1,k2.cells hc⟩⟩
theorem eW.one {w:World} {l:List ae} {v:Value} (h:eW w l v):∃a c,v= .slice a l.length c:=by
 rcases h with⟨rfl,a,c,rfl⟩|⟨b,off,cap,arr,e,fz,rfl,_⟩<;>exact⟨_,_,rfl⟩
theorem MB [Inhabited aL] {w:World} {p:Nat->Prop} {g:Bool} {l:List ae} {v:Value} (h:Rd w p g (cL l) v):eW w l v:=by
 unfold cL at h
 cases h with
 |fU h0=>exact .inl ⟨AQ.1 h0,_,_,rfl⟩
 |cf h h0 a c=>exact .inl ⟨AQ.1 h0,_,_,rfl⟩
 |aj b off cap arr e fz sz u hp hb hs hl hn hc h1 h2=>
  by_cases h0:l=[]
  . subst h0;exact .inl ⟨rfl,_,_,rfl⟩
  . have hsz:sz=19:=by
     obtain⟨x,l',rfl⟩:=Ec h0;exact(hn 0 x rfl).symm
    subst hsz;refine .inr ⟨b,off,cap,arr,e,fz,rfl,hb,hc,hl,fun i hi=>?_⟩;have hx:l[i]? =some l[i]:=Af hi;have key:∀(j:Nat) s,(ae.enc l[i])[j]? =some s->arr[off+i*19+j]? =some (u i j)/\Rd w p g s (u i j):=fun j s hs=>⟨h1 i _ j s hx hs,h2 i _ j s hx hs⟩
    refine⟨u i 18,fun j hj=>?_,xe (key 18 _ rfl).2⟩;match j,hj with
    |0,_|1,_|2,_|3,_|4,_|5,_|6,_|15,_|16,_|17,_=>rw[(key _ _ rfl).1,iN (key _ _ rfl).2];rfl
    |7,_|8,_|9,_|10,_=>rw[(key _ _ rfl).1,pc (key _ _ rfl).2];rfl
    |11,_|12,_|13,_|14,_=>rw[(key _ _ rfl).1,rX (key _ _ rfl).2];rfl
    |18,_=>rw[(key _ _ rfl).1];rfl
    |_+19,h=>exact absurd h (by omega)
theorem xG [Inhabited aL] {w:World} {l:List ae} {v:Value} (h:eW w l v):Rd w (fun _=>True) true (cL l) v:=by
 unfold cL;rcases h with⟨rfl,a,c,rfl⟩|⟨b,off,cap,arr,e,fz,rfl,hb,hc,hl,hi⟩
 . exact .cf rfl rfl a c
 . refine .aj b off cap arr e fz 19 (fun i j=>(arr[off+i*19+j]?).getD (.bool false)) trivial hb (by decide) hl (fun _ _ _=>rfl) hc (fun i x j v hx hv=>?_) (fun i x j v hx hv=>?_)
   all_goals
     have hil:i<l.length:=(Ae.1 hx).1;have hxe:l[i]=x:=(Ae.1 hx).2;obtain⟨u,hcl,hd⟩:=hi i hil;rw[hxe]at hcl hd;have hj:j<19:=(Ae.1 hv).1;have hcl:=hcl j hj
   . rw[hcl,Af (show j<(cY x u).length from hj)];rfl
   . show Rd w _ true v ((arr[off+i*19+j]?).getD _)
     rw[hcl];match j,hj with
     |0,_|1,_|2,_|3,_|4,_|5,_|6,_|15,_|16,_|17,_=>cases hv;exact .int _ _
     |7,_|8,_|9,_|10,_=>cases hv;exact .str _
     |11,_|12,_|13,_|14,_=>cases hv;exact .bool _
     |18,_=>cases hv;exact CH hd
theorem PI {w:World} {b off:Nat} {arr:Array Value} {e:TypeId} {fz:Nat×Nat} {x:ae} {u:Value} {i:Nat} (hb:w.heap[b]? =some (.cells arr e fz)) (hc:∀j,j<19->arr[off+i*19+j]? =(cY x u)[j]?):
  (loadCellsFrom ⟨b,off+i*19,none⟩ 0 19 #[]).run Tryz.prog w= .ok (cY x u).toArray w:=by
 have hl:(loadCells ⟨b,off+i*19,none⟩ (cY x u).length).run Tryz.prog w= .ok (cY x u).toArray w:=
  run_loadCells_list (P:=Tryz.prog) w ⟨b,off+i*19,none⟩ (cY x u) (fun j v hv=>by
   have hj:j<19:=(Ae.1 hv).1;rw[Addr.add_mid];unfold World.cell?
   simp only[hb,A2,Ao,AK];rw[hc j hj];exact hv)
 exact hl
theorem cW.heap {w w':World} {n b bk ba bd bs bv:Nat} {G:bD} (h:cW w n b bk ba bd bs bv G) (hs:∀i,i<w.heap.size->w'.heap[i]? =w.heap[i]?):cW w' n b bk ba bd bs bv G where
 c0:=eg h.c0 (hs _ (iA h.c0))
 c1:=eg h.c1 (hs _ (iA h.c1))
 c2:=eg h.c2 (hs _ (iA h.c2))
 c3:=eg h.c3 (hs _ (iA h.c3))
 cv:=eg h.cv (hs _ (iA h.cv))
 ir:=h.ir.same (hs _ h.ir.lt)
 ma:=h.ma.same (hs _ h.ma.lt)
 md:=h.md.same (hs _ h.md.lt)
 mv:=h.mv.same (hs _ h.mv.lt)
 mi:=fun x hx=>(h.mi x hx).same (hs _ (h.mi x hx).lt)
 nd:=h.nd
 low:=h.low
 ev:=fun x hx=>(h.ev x hx).cells fun c arr e fz hc=>by rw[hs _ (Ad.1 hc).1];exact hc
abbrev pz (w:World):Inhabited aL:=⟨⟨False,w.heap⟩⟩
theorem KV (w:World): @db (pz w) w:=by intro b _;rfl
theorem CX (w:World):¬(@default aL (pz w)).dr:=fun h=>h
theorem UU {w:World} {n b bk ba bd bs bv:Nat} {G:bD} {m:aK} (h:cW w n b bk ba bd bs bv G) (g:cV G m) (ok:fN m) (hov:∀e∈m.kept,e.over.length<=100000): @cD (pz w) b m:=
 letI:Inhabited aL:=pz w
 ⟨ok,hov,fun w' hw=>⟨n,bk,ba,bd,bs,bv,G,h.heap fun i hi=>hw i hi,g⟩⟩
theorem Tryz.apply {w:World} {n b bk ba bd bs bv:Nat} {G:bD} {m:aK} {e:ae} {u:Value} (h:cW w n b bk ba bd bs bv G) (hg:cV G m) (hn:n<=w.heap.size) (hu:iP w u e) (hse:kY e) (hover:e.over.length<=100000) (ok:fN m):
  Calls Tryz.prog 15 #[.pointer (some ⟨b,0,none⟩),u] w fun e' w'=>e'= .returned (.tuple #[.bool (eo m e).2.1, .int .i64 (eo m e).2.2])/\Below n w w'/\jJ w w'/\ ∃G',cW w' n b bk ba bd bs bv G'/\cV G' (eo m e).1:=by
 letI:Inhabited aL:=⟨⟨True,#[]⟩⟩
 have hseq:=IL ok.seq;have hl:G.kept.length<=100000:=by rw[hg.len];have:=ok.kept;omega
 cases hA:(eo m e).2.1 with
 |false=>
  refine(Om h hg hu hse hl hseq hA).mono ?_;rintro e' w' ⟨rfl,he,hb⟩;exact⟨rfl,hb.mono hn,ep hb,G,h.below hb,by rw[he];exact hg⟩
 |true=>
  have hq:gB e=true/\eX m.ctx e.dot=false/\getM m.ctx e.dot.dev e.dot.inc+1=e.dot.seq/\ ¬2048<=m.kept.length/\(eo m e).2.2=0:=by
    unfold eo at hA⊢;split at hA
    . cases hA
    split at hA
    . cases hA
    split at hA
    . cases hA
    split at hA
    . cases hA
    rename_i q1 q2 q3 q4;rw[Aj q1,Aj q2,Aj q3,Aj q4];exact⟨by simpa using q1,by simpa using q2,by simpa using q3,q4,rfl⟩
  obtain⟨q1,q2,q3,q4,q5⟩:=hq;rw[q5];refine(OQ h hg hn hu hse hover hseq q1 q2 q3 q4).mono ?_;rintro e' w' ⟨rfl,hb,G',h1,h2⟩;have hmaps:=h.maps;refine⟨rfl,⟨hb.os,hb.tape,hb.output,hb.size,fun k hk=>hb.block k (by omega) fun hm=>?_⟩,fun c arr ty fz hc=>?_,G',h1,h2⟩
  . have:=h.low k (by unfold dW at hm;simp only[Ak]at hm⊢;exact .inr (.inr hm));omega
  . rw[hb.block c (Ad.1 hc).1 fun hm=>?_]
    . exact hc
    . obtain⟨es,clk,he⟩:=hmaps c hm;rw[hc]at he;cases he
end
section
variable [Inhabited aL]
end
section
section
variable [Inhabited aL]
theorem Sn (m:aK):(gA m).length<=m.kept.length:=by
 have h1:=wZ m (cF m) [];have h2:(cF m).length<=m.kept.length:=AF _ _;unfold gA cT;simp only[AG,Ay]at h1;omega
theorem ud (m:aK):(cG m).length<=m.kept.length:=by unfold cG;rw[A8];exact Sn m
end
end
theorem U6 [Inhabited aL] {l:List ae} (h:(bU (Int.ofNat l.length) 30&&l.all iy)=true):l.length<=30/\sm l:=by
 rw[Ac,fi,Ab,AJ]at h;have h1:(l.length:Int)<=30:=h.1;exact⟨by omega,by omega,h.2⟩
theorem Tc [Inhabited aL] {l:List ae} {i:Nat} (h:i<l.length):foldM (l.take (i+1))=(eo (foldM (l.take i)) l[i]).1:=kW (fun m e=>(eo m e).1) mr h
theorem Xq [Inhabited aL] {m:aK} {e x:ae} (h:x∈(eo m e).1.kept):x∈m.kept\/x=e:=by
 unfold eo at h;split at h
 . exact .inl h
 split at h
 . exact .inl h
 split at h
 . exact .inl h
 split at h
 . exact .inl h
 unfold gk at h;rcases A7.1 h with h|h
 . exact .inl (Ey h)
 . rcases Ak.1 h with h|h
   . exact .inr h
   . exact .inl (List.mem_of_mem_drop h)
theorem Lk [Inhabited aL] (l:List ae) {x:ae} (h:x∈(foldM l).kept):x∈l:=by
 have key:∀(l:List ae) (m:aK),x∈(l.foldl (fun m e=>(eo m e).1) m).kept->x∈m.kept\/x∈l:=by
   intro l;induction l with
   |nil=>intro m h;exact .inl h
   |cons e l ih=>
    intro m h;rcases ih _ h with h|h
    . rcases Xq h with h|rfl
      . exact .inl h
      . exact .inr Ar
    . exact .inr (AB _ h)
 rcases key l mr h with h|h
 . cases h
 . exact h
theorem Jd {w:World} {n b bk ba bd bs bv:Nat} {G:bD} {l:List ae} (h:cW w n b bk ba bd bs bv G) (g:cV G (foldM l)) (hl:sm l): @cD (pz w) b (foldM l):=by
 letI:Inhabited aL:=pz w
 have hb:=rz hl.2 l.length (Ai _);rw[Bu]at hb;exact UU h g (hb.ok (by have:=hl.1;omega)) fun e he=>by
  have:=(vD (hl.2 e (Lk l he))).2;omega
section
theorem PA {w:World} {n b bk ba bd bs bv:Nat} {G:bD} (h:cW w n b bk ba bd bs bv G) (hl:G.kept.length<=100000) (k:Nat) (hk:k<=1000000):Calls Tryz.prog 68 #[.pointer (some ⟨b,0,none⟩), .int .i64 k] w fun e w'=>e= .returned (.bool (decide ((k:Int)<=2048 - (G.kept.length:Int))))/\w'=w:=by
 obtain⟨es,clk,hb,hsz⟩:=h.ir.len;have c0:=h.c0;have hlen:(Builtin.len_ #[99] 3 #[.map (some bk)]).run Tryz.prog w= .ok (.int .i64 G.kept.length) w:=by
  rw[run_len_map w 99 3 bk es clk (by simp[Program.mapKeyOf,Program.mapElemOf,Tryz.underlying99]) hb,hsz];rfl
 have hwr:wrap64 (2048 - (G.kept.length:Int))=2048 - (G.kept.length:Int):=by
  exact IntWalk.wrap64_in _ (by omega)
 clear h hb;go_enter Tryz.func68,Tryz.ntmps68
 go_wp2;go_ret;exact⟨rfl,rfl⟩
variable [Inhabited aL]
def Mv:aM:={Y:=Nat×aK×Nat,pre:=fun y=>cD y.1 y.2.1/\y.2.2<=1000000,args:=fun y=>[.wp ⟨y.1,0,none⟩,i64 y.2.2],res:=fun y=> .bool (decide (y.2.1.kept.length+y.2.2<=2048))}
theorem Yu (hdr:¬(default:aL).dr):CO HD Mv:=kk bA.ok (by
 rintro⟨b,m,k⟩ ⟨hpre,hk⟩ w args hold ⟨h1,h2⟩;match args,h1 with
 |[v,u],_=>
 have e1:=Ge (h2 0 _ _ rfl rfl);have e2:=YY (h2 1 _ _ rfl rfl);subst e1 e2;obtain⟨n,bk,ba,bd,bs,bv,G,hO,hG⟩:=hpre.at_ w hold;have hkl:=hpre.ok.kept;refine(PA hO (by rw[hG.len];omega) k hk).mono ?_;rintro e w' ⟨rfl,rfl⟩;refine⟨_,rfl, .inr ?_,Below.refl _ _,fun h=>(hdr h).elim⟩;rw[hG.len,show decide ((k:Int)<=2048 - (m.kept.length:Int))=decide (m.kept.length+k<=2048)from by congr 1;apply propext;omega];exact .bool _)
def fY (m:aK):List aa:=(cG m).filter fun x=> !x.ab.persistent
def xk:aM:={Y:=Mp,pre:=fun y=>y.at,args:=fun y=>[y.arg],res:=fun y=>items (fY y.m)}
def Wz (y:Nat×aK):aH:=let l:=cG y.2;{α:=Nat,ok:=fun i=>i<=l.length,μ:=fun i=>l.length - i,aW:=[],aN:=fun i=>[(3, .own 0),(7,items l),(8,i64 (Int.ofNat l.length)),(9,i64 i)],bn:=fun i=>[(0,mw ((l.take i).filter fun x=> !x.ab.persistent))]}
theorem Cv (hdr:¬(default:aL).dr):CO mG xk:=bO (cfg:=fun(y:Mp)=>cg (Mp.gD sT y) (Mp.ln (fun z=>cr mG 3 (Wz z)) y)) bA (fun _=>rfl) (fun(y:Mp)=>Gp (uk hdr) y) (n:=600) (by
 rintro(_|⟨b,m⟩) hm
 . repeat' (first|exact trivial|exact rfl|((conv=>whnf);first|(apply aJ<;>intro)|apply And.intro))
 have hm:cD b m:=hm;have hil:=Ug hm.ok
 (conv=>whnf)
 refine⟨some (b,m),?_⟩
 repeat ((conv=>whnf);first|refine⟨rfl,?_⟩|refine⟨trivial,?_⟩)
 refine⟨hm,?_⟩
 (conv=>whnf)
 refine⟨⟨(0:Nat),Au _,?_⟩,?_⟩
 . repeat' (first|exact trivial|exact rfl|((conv=>whnf);first|(apply aJ<;>intro)|apply And.intro))
   all_goals exact au.2 ⟨_,rfl,af.2 ⟨rfl,fun _=>rfl⟩⟩
 intro (x:Nat) hx;have hx:x<=(cG m).length:=hx;have hlen:=C9 (l:=cG m) (x:=x) (p:=fun z:aa=> !z.ab.persistent)
 (conv=>whnf)
 refine aJ (fun hlt=>?_) fun hge=>?_
 . have hlt':x<(cG m).length:=cq hlt;have hf:=uA (p:=fun z:aa=> !z.ab.persistent) hlt';have mu:(cG m).length - (x+1)<(cG m).length - x:=by omega
   have hz:(((cG m).take x).filter fun z:aa=> !z.ab.persistent).length+1<=60000:=by omega
   (conv=>whnf)
   refine au.2 ⟨_,cE hlt',?_⟩
   (conv=>whnf)
   refine aJ (fun h=>?_) fun h=>?_
   . have h:(!(cG m)[x].ab.persistent)=true:=h;simp only[h,Bb]at hf
     (conv=>whnf)
     refine⟨(cG m)[x],rfl,?_⟩
     (conv=>whnf)
     refine af.2 ⟨vr _ hz,?_⟩
     (conv=>whnf)
     refine af.2 ⟨ch x (by omega),?_⟩
     (conv=>whnf)
     refine⟨(x+1:Nat),hlt',mu,?_⟩
     repeat' (first|exact trivial|exact rfl|((conv=>whnf);first|(apply aJ<;>intro)|apply And.intro))
     all_goals ((conv=>whnf);rw[hf])
   . have h:(!(cG m)[x].ab.persistent)=false:=h;simp only[h,Ao,AK,A9]at hf
     (conv=>whnf)
     refine af.2 ⟨ch x (by omega),?_⟩
     (conv=>whnf)
     refine⟨(x+1:Nat),hlt',mu,?_⟩
     repeat' (first|exact trivial|exact rfl|((conv=>whnf);first|(apply aJ<;>intro)|apply And.intro))
     all_goals ((conv=>whnf);rw[hf])
 . (conv=>whnf)
   refine⟨by rw[xM (gz hge)];rfl,?_⟩
   repeat' (first|exact trivial|exact rfl|((conv=>whnf);first|(apply aJ<;>intro)|apply And.intro)))
end
section
section
variable [Inhabited aL]
end
theorem cell_of {w:World} {b o:Nat} {arr:Array Value} {ty:TypeId} {fz:Nat×Nat} (h:w.heap[b]? =some (.cells arr ty fz)):w.cell? ⟨b,o,none⟩=arr[o]? :=by simp[World.cell?,h]
theorem NP:fN mr:=⟨by decide,fun x hx=>(by cases hx),by decide,by decide⟩
end
def chunk (n:Nat) (s:List ar):List (List ar):=match n with
 |0=>[]
 |n+1=>if s=[]then[]else s.take 64::chunk n (s.drop 64)
def kX (v:Value):List Value:=[.int .i64 2, .string ⟨#[]⟩, .string ⟨#[]⟩, .string ⟨#[]⟩, .string ⟨#[]⟩, .bool false, .bool false, .bool false, .bool false, .int .i64 0, .int .i64 0, .int .i64 0,v]
def lX (L:List (List ar×Value)):List Value:=L.flatMap fun x=>kX x.2
theorem SU (L:List (List ar×Value)) (x:List ar×Value):lX (L++[x])=lX L++kX x.2:=by
 unfold lX;rw[Dz,DP,List.flatMap_nil,A9]
theorem I3:∀(n m:Nat) (s:List ar),s.length<=n->s.length<=m->chunk n s=chunk m s
 |0,m,s,h,_=>by
  have:s=[]:=AQ.1 (Fj.1 h);subst this
  cases m<;>rfl
 |n+1,0,s,_,h=>by
  have:s=[]:=AQ.1 (Fj.1 h);subst this;rfl
 |n+1,m+1,s,h1,h2=>by
  unfold chunk;split
  . rfl
  . rename_i hne;have:0<s.length:=AY.2 hne;rw[I3 n m (s.drop 64) (by simp;omega) (by simp;omega)]
theorem Sb {s:List ar} {k Q:Nat} (hk:k<s.length) (hQ:Q=min (s.length - k) 64):chunk (s.length - k) (s.drop k)=(s.drop k).take 64::chunk (s.length - (k+Q)) (s.drop (k+Q)):=by
 obtain⟨n,hn⟩:∃n,s.length - k=n+1:=⟨s.length - k - 1,by omega⟩;have hne:s.drop k≠[]:=fun e=>by have:=Ap List.length e;simp at this;omega
 have hd:s.drop (k+64)=s.drop (k+Q):=by
  by_cases h:s.length - k<64
  . rw[DT (by omega),DT (by omega)]
  . congr 1;omega
 rw[hn];show(if s.drop k=[]then[]else(s.drop k).take 64::chunk n ((s.drop k).drop 64))=_
 rw[Aj hne,DU,hd];congr 1
 exact I3 _ _ _ (by rw[A6];omega) (by rw[A6];omega)
theorem IH {W8 w9:World} {m:Nat} {v v9:Value} (hg:W8.grownBy w9 v.ownBlock) (hat:v9.ownBlock=v.ownBlock\/v9.ownBlock=some W8.heap.size) {l:List ar} {x:Value} (h:dD W8 (fun b=>m<=b/\some b≠v.ownBlock) l x):
   dD w9 (fun b=>m<=b/\some b≠v9.ownBlock) l x:=h.aW fun b hp hb=>by
 refine⟨⟨hp.1,?_⟩,hg.block b hb hp.2⟩;rcases hat with h|h
 . rw[h];exact hp.2
 . rw[h];intro e;cases e;exact absurd hb (E2 _)
theorem P5:∃i0 z by0,Tryz.prog.info? 124=some i0/\i0.zero=some z/\i0.size=13/\i0.bytes=by0/\z.cells.size=13/\by0<=256:=by
 have h:(Tryz.prog.info? 124).map (fun i=>(i.zero.map (·.cells.size),i.size,decide (i.bytes<=256)))=some (some 13,13,true):=by kernel_rfl
 cases e:Tryz.prog.info? 124 with
 |none=>rw[e]at h;cases h
 |some i=>
  rw[e]at h;simp only[Bh,A3,BP]at h;obtain⟨h1,h2,h3⟩:=h
  cases hz:i.zero with
  |none=>rw[hz]at h1;cases h1
  |some z=>rw[hz]at h1;exact⟨i,z,i.bytes,rfl,hz,h2,rfl,by simpa using h1,Bv h3⟩
theorem PJ {w:World} {l:List ar} {v:Value} (h:cK w l v) (hl:l.length<=1000000):
  Calls Tryz.prog 125 #[v] w fun e w'=>∃v' L,e= .returned v'/\L.map (·.1)=chunk ((cz bI l).length) (cz bI l)/\(∀x∈L,dD w' (fun b=>w.heap.size<=b) x.1 x.2)/\w'.ownsRow w.heap.size 124 13 v' L.length (lX L)/\Below w.heap.size w w':=by
 letI:Inhabited aL:=⟨⟨True,#[]⟩⟩
 have hsort:=G0 h hl;obtain⟨s,hs⟩:∃s,cz bI l=s:=⟨_,rfl⟩;rw[hs]at hsort⊢;have hsl:s.length<=1000000:=by have:=rH (less:=bI) l [];rw[<-hs];unfold cz;simp at this;omega
 obtain⟨sa,sn,sc,rfl⟩:=h.one;go_enter Tryz.func125,Tryz.ntmps125
 go_wp2_with (go_at_call 156;refine hsort.mono ?_;rintro e w1 ⟨v1,rfl,hd1,hn1,hb1⟩)
 go_loopw [3,4] (fun v v4 wr=>∃(k:Nat) (L:List (List ar×Value)) (a4:Option Addr) (c4:Nat),k<=s.length/\L.length<=k/\v4= .slice a4 (s.length - k) c4/\(k<s.length->∃ob off cap arr ty fz,a4=some ⟨ob,off+k*3,none⟩/\c4=cap - k/\s.length<=cap/\w.heap.size<=ob/\w1.heap[ob]? =some (.cells arr ty fz)/\off+s.length*3<=arr.size/\
    ∀i (h:i<s.length),arr[off+i*3]? =some (.int .i64 s[i].dev)/\arr[off+i*3+1]? =some (.int .i64 s[i].inc)/\arr[off+i*3+2]? =some (.int .i64 s[i].seq))/\
    L.map (·.1)++chunk (s.length - k) (s.drop k)=chunk s.length s/\(∀x∈L,dD wr (fun b=>w.heap.size<=b/\some b≠v.ownBlock) x.1 x.2)/\wr.ownsRow w1.heap.size 124 13 v L.length (lX L)/\Below w1.heap.size w1 wr)
  (fun _ v4 _=>match v4 with| .slice _ n _=>n|_=>0)
 case atStart=>
  rcases hd1 with⟨rfl,a,c,rfl⟩|⟨ob,off,cap,arr,ty,fz,rfl,hob,hcap,hsz,hcells⟩
  . exact⟨0,[],a,c,Ai _,Ai _,rfl,fun h=>absurd h (Bi _),rfl,fun x hx=>absurd hx (by simp),World.ownsRow_nil _ _ _ _,Below.refl _ _⟩
  . refine⟨0,[],_,cap,Au _,Ai _,rfl,fun h0=>⟨ob,off,cap,arr,ty,fz,by rw[Ep,BL],rfl,hcap,?_,hob,hsz,hcells⟩,rfl,fun x hx=>absurd hx (by simp),World.ownsRow_nil _ _ _ _,Below.refl _ _⟩;rcases hn1 with rfl|⟨b',off',k',c',he,hb'⟩
    . exact absurd h0 (E2 _)
    . cases he;exact hb'
 case round=>
  obtain⟨k,L,a4,c4,hk,hLk,rfl,hval,hL,hLd,hrow,hbr⟩:=hrel;by_cases hlt:k<s.length
  . obtain⟨ob,off,cap,arr,ty,fz,rfl,rfl,hcap,hob,harr,hasz,hcells⟩:=hval hlt;obtain⟨i4,z4,by4,hi4,hz40,hz41,hz42,hz43,hz44⟩:=P5;obtain⟨Q,hQ⟩:∃Q,(min ((s.length - k:Nat):Int) 64).toNat=Q:=⟨_,rfl⟩;obtain⟨W,hW⟩:∃W,wr.alloc (.cells (kX (.slice (some ⟨ob,off+k*3,none⟩) Q Q)).toArray 124)=W:=⟨_,rfl⟩;have hbW:Below wr.heap.size wr W:=by rw[<-hW];exact(Below.refl _ _).alloc (Ai _) _
    have hnew:W.heap[wr.heap.size]? =some (.cells (kX (.slice (some ⟨ob,off+k*3,none⟩) Q Q)).toArray 124 (0,0)):=by rw[<-hW];exact World.alloc_heap_new _ _
    have hsW:W.heap.size=wr.heap.size+1:=by rw[<-hW];exact Dk _
    have hrowW:W.ownsRow w1.heap.size 124 13 u3 L.length (lX L):=by rw[<-hW];exact hrow.alloc _
    have hnc:∀j u,(kX (.slice (some ⟨ob,off+k*3,none⟩) Q Q))[j]? =some u->W.cell? ((⟨wr.heap.size,0,none⟩:Addr).add j)=some u:=fun j u hj=>by
      rw[Addr.add_lit,Ay,cell_of hnew,A0];exact hj
    have hone:∀u∈kX (.slice (some ⟨ob,off+k*3,none⟩) Q Q),u.oneCell'=true:=by simp[kX,Value.oneCell']
    have hLlen:L.length<=s.length:=Aq hLk hk;have hmax:L.length+1<=maxLen:=by unfold maxLen;omega
    have hbyt:(L.length+1)*by4<=140737488355328:=Aq (EV (show L.length+1<=1000001 by omega) hz44) (by decide);have hbase:w1.heap.size<=W.heap.size:=Aq hbr.size hbW.size;have hLd':=hLd;have hL':=hL;clear hL hLd hs hsort hval;go_wp2_with (at_builtin;go_loud (refine JY (W':=W) hW ?_;refine wpList_append_own_at _ rfl _ _ 64 rfl w1.heap.size 124 i4 _ 13 by4 Tryz.underlying64 hi4 hz40 hz41 hz42 hz43 (by decide) u3 L.length (lX L) rfl hrowW ⟨wr.heap.size,0,none⟩ 1 1 (kX (.slice (some ⟨ob,off+k*3,none⟩) Q Q)) rfl rfl hnc hone hmax hbyt hbase ?_;intro v9 w9 hrow9 hg9 hnil9 hat9))
    have hQ':Q=min (s.length - k) 64:=by omega
    have hob1:=(Ad.1 harr).1;have hnr:some ob≠u3.ownBlock:=fun e=>by have:=(hrow.lt ob e.symm).1;omega
    have hWb:∀b,b<wr.heap.size->W.heap[b]? =wr.heap[b]? :=fun b hb=>hbW.block b hb
    have hlen:((s.drop k).take 64).length=Q:=by simp;omega
    have hnewD:dD W (fun b=>w.heap.size<=b/\some b≠u3.ownBlock) ((s.drop k).take 64) (.slice (some ⟨ob,off+k*3,none⟩) Q Q):=by
      refine .inr ⟨ob,off+k*3,Q,arr,ty,fz,by rw[hlen],⟨hob,hnr⟩,?_,by rw[hlen];exact Ai _,by rw[hlen];omega,fun i hi=>?_⟩
      . rw[hWb ob (AP hob1 hbr.size),hbr.block ob hob1];exact harr
      . have hi':k+i<s.length:=by rw[hlen]at hi;omega
        have hel:((s.drop k).take 64)[i]=s[k+i]:=by rw[Ek,BX]
        rw[hel,show off+k*3+i*3=off+(k+i)*3 by omega];exact hcells (k+i) hi'
    refine⟨⟨k+Q,L++[((s.drop k).take 64, .slice (some ⟨ob,off+k*3,none⟩) Q Q)],_,_,by omega,by simp;omega,by rw[Nat.sub_sub],fun hlt2=>⟨ob,off,cap,arr,ty,fz,?_,by omega,hcap,hob,harr,hasz,hcells⟩,?_,fun x hx=>?_,?_,?_⟩,?_⟩
    . rw[Aj (by omega),show off+k*3+Q*3=off+(k+Q)*3 by omega]
    . rw[<-hL',Sb hlt hQ',AL];simp
    . rcases A7.1 hx with hx|hx
      . exact IH hg9 hat9 ((hLd' x hx).aW fun b hp hb=>⟨hp,hWb b hb⟩)
      . rw[BE.1 hx];exact IH hg9 hat9 hnewD
    . rw[SU,AU];exact hrow9
    . exact(hbr.trans (hbW.mono hbr.size)).grown hg9 hbase (fun j e=>(hrow.lt j e).1)
    . show s.length - k - Q<s.length - k;omega
  . have hks:k=s.length:=by omega
    subst hks;go_wp2;go_ret;rw[Nat.sub_self]at hL;refine⟨_,L,rfl,by simpa [chunk]using hL,fun x hx=>(hLd x hx).aW fun b hp _=>⟨hp.1,rfl⟩,⟨hrow.1,?_⟩,hb1.trans (hbr.mono hb1.size)⟩;rcases hrow.2 with hn|⟨g,cap,cur,hv,hbg,rest⟩
    . exact .inl hn
    . exact .inr ⟨g,cap,cur,hv,Aq hb1.size hbg,rest⟩
section
structure bY where
 kind:Int
 item:aa
 over:List ar
def bY.enc (x:bY):List SV:=[.int .i64 x.kind, .str x.item.key.name, .str x.item.key.domain, .str x.item.key.path, .str x.item.ab.value, .bool x.item.ab.aF, .bool x.item.ab.aV, .bool x.item.ab.aG, .bool x.item.ab.persistent,
 .int .i64 x.item.ab.aP, .int .i64 x.item.ab.aq, .int .i64 x.item.ab.access,cw x.over]
def jd (l:List bY):SV:= .aj bY l bY.enc
def ig (c:List ar):bY:=⟨2,je,c⟩
def iv (l:List ar):List bY:=(chunk (cz bI l).length (cz bI l)).map ig
theorem UK (L:List (List ar×Value)) (i:Nat) (h:i<L.length) (j:Nat) (hj:j<13):(lX L)[i*13+j]? =(kX L[i].2)[j]? :=by
 induction L generalizing i with
 |nil=>exact absurd h (Bi _)
 | cons x L ih=>
  have hr:lX (x::L)=kX x.2++lX L:=by unfold lX;rw[DP]
  have hl:(kX x.2).length=13:=rfl;rw[hr]
  cases i with
  |zero=>rw[Ep,Ay,AW (by omega)];rfl
  |succ i=>
   rw[Bk (by omega),hl,show(i+1)*13+j - 13=i*13+j by omega];exact ih i (by simpa using h)
section
variable [Inhabited aL]
theorem NS {w:World} {p:Nat->Prop} {n:Nat} {L:List (List ar×Value)} {v:Value} (hp:∀b,p b->n<=b) (hd:∀x∈L,dD w p x.1 x.2) (h:w.ownsRow n 124 13 v L.length (lX L)):Up w n (jd (L.map fun x=>ig x.1)) v:=by
 unfold jd;obtain⟨hlen,hr⟩:=h;rcases hr with⟨rfl,h0⟩|⟨g,cap,cur,rfl,hpp,hb,hc,hm,hsz,htk⟩
 . exact .fU (by simpa using h0)
 . rw[show L.length=(L.map fun x=>ig x.1).length by simp];have cell:∀i (hi:i<L.length) j,j<13->cur[i*13+j]? =(kX L[i].2)[j]? :=fun i hi j hj=>by
     rw[<-UK L i hi j hj,<-htk,Bc,An (by omega),Ba]
   refine .aj g 0 cap cur 124 (0,0) 13 (fun i j=>(cur[i*13+j]?).getD (.bool false)) hpp hb (by decide) (by simp;omega) (fun _ _ _=>rfl) (by simpa using hc) (fun i x j v hx hv=>?_) (fun i x j v hx hv=>?_) (fun i x j v hx hv=>?_)
   . have hj:j<13:=(Ae.1 hv).1;match j,hj with
     |0,_|1,_|2,_|3,_|4,_|5,_|6,_|7,_|8,_|9,_|10,_|11,_|12,_=>cases hv;rfl
   all_goals
     have hil:i<L.length:=by simpa using(Ae.1 hx).1
     have hxe:ig L[i].1=x:=by simpa using(Ae.1 hx).2
     have hdi:=hd _ (AI hil);have hj:j<13:=(Ae.1 hv).1;have hcl:=cell i hil j hj;subst hxe
   . rw[Ay,hcl,Af (show j<(kX L[i].2).length from hj)];rfl
   . show Up w n v ((cur[i*13+j]?).getD _)
     rw[hcl];match j,hj with
     |0,_|9,_|10,_|11,_=>cases hv;exact .int _ _
     |1,_|2,_|3,_|4,_=>cases hv;exact .str _
     |5,_|6,_|7,_|8,_=>cases hv;exact .bool _
     |12,_=>cases hv;exact Le hp hdi
def Ks:aM:={Y:=List ar,pre:=fun y=>y.length<=1000000,args:=fun y=>[cw y],res:=fun y=>jd (iv y)}
theorem TW (hdr:¬(default:aL).dr):CO He Ks:=kk bA.ok (by
 rintro l hl w args hold ⟨h1,h2⟩;match args,h1 with
 |[v],_=>
 have e1:=xe (h2 0 _ _ rfl rfl);refine(PJ e1 hl).mono ?_;rintro e w' ⟨v',L,rfl,hL,hd,hr,hb⟩;refine⟨_,rfl, .inr ?_,hb,fun h=>(hdr h).elim⟩;show Up w' w.heap.size (jd (iv l)) v'
 unfold iv;rw[<-hL,Dy];exact NS (fun _ h=>h) hd hr)
def kB (l:List bY):Prop:=l.length<=100000/\ ∀d∈l,d.over.length<=64
noncomputable def F3 (f:FuncId):Option aM:=bif Nat.beq f He then some Ks else bif Nat.beq f HD then some Mv else bif Nat.beq f mG then some xk else sT f
theorem KD (hdr:¬(default:aL).dr):∀f C,F3 f=some C->CO f C:=bG (TW hdr) (bG (Yu hdr) (bG (Cv hdr) (uk hdr)))
def MZ:aM:={Y:=Nat×aK×List bY,pre:=fun y=>cD y.1 y.2.1/\kB y.2.2,args:=fun y=>[.wp ⟨y.1,0,none⟩,jd y.2.2],res:=fun y=> .bool (decide (y.2.1.kept.length+y.2.2.length<=2048))}
def OU (l:List bY):aH:={α:=Nat,ok:=fun i=>i<=l.length,μ:=fun i=>l.length - i,aW:=[0,1],aN:=fun i=>[(7,jd l),(8,i64 (Int.ofNat l.length)),(9,i64 i)],bn:=fun _=>[]}
theorem Y9 (hdr:¬(default:aL).dr):CO GJ MZ:=bO (cfg:=fun(y:Nat×aK×List bY)=>cg F3 (cr GJ 2 (OU y.2.2))) bA (fun _=>rfl) (fun _=>KD hdr) (n:=600) (by
 rintro⟨b,m,l⟩ ⟨hm,hl⟩;have hm:cD b m:=hm;have hl:kB l:=hl;have hl1:=hl.1
 (conv=>whnf)
 refine⟨⟨(0:Nat),Au _,?_⟩,?_⟩
 . repeat' (first|exact trivial|exact rfl|((conv=>whnf);first|(apply aJ<;>intro)|apply And.intro))
 intro (x:Nat) hx;have hx:x<=l.length:=hx
 (conv=>whnf)
 refine aJ (fun hlt=>?_) fun hge=>?_
 . have hlt':x<l.length:=cq hlt;have hov:=hl.2 l[x] (AI hlt')
   (conv=>whnf)
   refine au.2 ⟨_,cE hlt',?_⟩
   (conv=>whnf)
   refine aJ (fun h=>?_) fun h=>?_
   . exfalso;have h:bw 64 (Int.ofNat l[x].over.length)=true:=h;rw[cj,Ab]at h;have h:(64:Int)<(l[x].over.length:Int):=h;omega
   . (conv=>whnf)
     refine af.2 ⟨ch x (by omega),?_⟩
     (conv=>whnf)
     refine⟨(x+1:Nat),hlt',by show l.length - (x+1)<l.length - x;omega,?_⟩
     repeat' (first|exact trivial|exact rfl|((conv=>whnf);first|(apply aJ<;>intro)|apply And.intro))
 . (conv=>whnf)
   refine⟨(b,m,l.length),?_⟩
   repeat ((conv=>whnf);first|refine⟨rfl,?_⟩|refine⟨trivial,?_⟩)
   refine⟨⟨hm,by show l.length<=1000000;omega⟩,?_⟩
   repeat' (first|exact trivial|exact rfl|((conv=>whnf);first|(apply aJ<;>intro)|apply And.intro)))
end
end
section
theorem Kx:∀(n:Nat) (s:List ar),(chunk n s).length<=s.length
 |0,s=>Au _
 |n+1,s=>by
  unfold chunk;split
  . exact Au _
  . rename_i h;have h1:=Kx n (s.drop 64);have h2:0<s.length:=AY.2 h;rw[A6]at h1;rw[Az];omega
theorem IF:∀(n:Nat) (s:List ar),∀c∈chunk n s,c.length<=64
 |0,s,c,h=>by cases h
 |n+1,s,c,h=>by
  unfold chunk at h;split at h
  . cases h
  . rcases Ak.1 h with rfl|h
    . rw[A5];omega
    . exact IF n _ c h
def cy (m:aK) (l:List aa):List ar:=l.flatMap fun x=>kv m x.key
theorem Lb (l:List ar):(cz bI l).length<=l.length:=by
 letI:Inhabited aL:=⟨⟨True,#[]⟩⟩
 have:=rH (less:=bI) l [];unfold cz;simpa using this
theorem tP (l:List ar):(iv l).length<=l.length:=by unfold iv;rw[A8];exact Aq (Kx _ _) (Lb l)
theorem pW {l:List ar} (h:l.length<=100000):kB (iv l):=by
 refine⟨Aq (tP l) h,fun d hd=>?_⟩;unfold iv at hd;obtain⟨c,hc,rfl⟩:=Av.1 hd;exact IF _ _ c hc
theorem ug {m:aK} {a b:Nat} (hd:∀k,(kv m k).length<=b):∀{l:List aa},l.length<=a->(cy m l).length<=a*b
 |[],h=>Au _
 |x::l,h=>by
  obtain⟨c,rfl⟩:∃c,a=c+1:=⟨a - 1,by simp at h;omega⟩;have h1:=ug hd (a:=c) (l:=l) (by simpa using h);unfold cy at h1⊢;rw[DP,AU,Nat.succ_mul];have:=hd x.key;omega
theorem zG {m:aK} {l:List aa} {i:Nat} (h:i<l.length):cy m (l.take (i+1))=cy m (l.take i)++kv m l[i].key:=by
 unfold cy;rw[Aw h,Dz];simp
section
variable [Inhabited aL]
theorem pf (m:aK) (k:aA):(kv m k).length<=m.kept.length:=by
 unfold kv;rw[A8];exact Aq (AF _ _) (AF _ _)
def jn (m:aK):List bY:=iv (cy m (fY m))
noncomputable def ym (f:FuncId):Option aM:=bif Nat.beq f GJ then some MZ else F3 f
theorem Ce (hdr:¬(default:aL).dr):∀f C,ym f=some C->CO f C:=bG (Y9 hdr) (KD hdr)
def FT:aM:={Y:=Nat×aK,pre:=fun y=>cD y.1 y.2/\y.2.kept.length<=40,args:=fun y=>[.wp ⟨y.1,0,none⟩],res:=fun y=> .bJ [jd (jn y.2),i64 0]}
def LK (m:aK) (l:List aa) (k:Nat):aH:={α:=Nat,ok:=fun i=>i<=l.length,μ:=fun i=>l.length - i,aW:=[0,2],aN:=fun i=>[(8, .own k),(12,items l),(13,i64 (Int.ofNat l.length)),(14,i64 i)],bn:=fun i=>[(k, .arr ar (cy m (l.take i)) ar.enc Ty.kN)]}
theorem MK (hdr:¬(default:aL).dr):CO Gs FT:=bO (cfg:=fun(y:Nat×aK)=>cg ym (cr qI 3 (LK y.2 (fY y.2) 0))) bA (fun _=>rfl) (fun _=>Ce hdr) (n:=900) (by
 rintro⟨b,m⟩ ⟨hm,hk⟩;have hm:cD b m:=hm;have hk:m.kept.length<=40:=hk;have hil:(fY m).length<=40:=by
   have h1:=ud m;have h2:(fY m).length<=(cG m).length:=AF _ _;omega
 have hal:∀{l:List aa},l.length<=40->(cy m l).length<=1600:=fun h=>ug (fun k=>Aq (pf m k) hk) h
 (conv=>whnf)
 refine⟨some (b,m),?_⟩
 repeat ((conv=>whnf);first|refine⟨rfl,?_⟩|refine⟨trivial,?_⟩)
 refine⟨hm,?_⟩
 (conv=>whnf)
 refine⟨⟨(0:Nat),Au _,?_⟩,?_⟩
 . repeat' (first|exact trivial|exact rfl|((conv=>whnf);first|(apply aJ<;>intro)|apply And.intro))
   all_goals exact au.2 ⟨_,rfl,af.2 ⟨rfl,fun _=>rfl⟩⟩
 intro (x:Nat) hx;have hx:x<=(fY m).length:=hx
 (conv=>whnf)
 refine aJ (fun hlt=>?_) fun hge=>?_
 . have hlt':x<(fY m).length:=cq hlt
   (conv=>whnf)
   refine au.2 ⟨_,cE hlt',?_⟩
   (conv=>whnf)
   refine⟨((some (b,m),(fY m)[x].key):Mp×aA),?_⟩
   repeat ((conv=>whnf);first|refine⟨rfl,?_⟩|refine⟨trivial,?_⟩)
   refine⟨hm,?_⟩
   (conv=>whnf)
   have hf:=zG (m:=m) hlt';have h1:=hal (l:=(fY m).take x) (by rw[A5];omega);have h2:=Aq (pf m (fY m)[x].key) hk;refine⟨fun _=>⟨rfl,rfl⟩,kv m (fY m)[x].key,rfl,af.2 ⟨rr _ (by show(cy m ((fY m).take x)).length+(kv m (fY m)[x].key).length<=600000;omega),?_⟩⟩
   (conv=>whnf)
   refine af.2 ⟨ch x (by omega),?_⟩
   (conv=>whnf)
   refine⟨(x+1:Nat),hlt',by show(fY m).length - (x+1)<(fY m).length - x;omega,?_⟩
   repeat' (first|exact trivial|exact rfl|((conv=>whnf);first|(apply aJ<;>intro)|apply And.intro))
   all_goals ((conv=>whnf);rw[hf])
 . have hge':(fY m).length<=x:=gf hge;have h1:=hal (l:=fY m) hil;have hrl:=tP (cy m (fY m))
   (conv=>whnf)
   refine⟨cy m (fY m),?_⟩
   (conv=>whnf)
   refine⟨by rw[As hge'],?_⟩
   repeat ((conv=>whnf);first|refine⟨rfl,?_⟩|refine⟨trivial,?_⟩)
   refine⟨by show(cy m (fY m)).length<=1000000;omega,?_⟩
   (conv=>whnf)
   refine⟨(b,m,jn m),?_⟩
   repeat ((conv=>whnf);first|refine⟨rfl,?_⟩|refine⟨trivial,?_⟩)
   refine⟨⟨hm,pW (by omega)⟩,?_⟩;have hfit:decide (m.kept.length+(jn m).length<=2048)=true:=Bj (by unfold jn;omega)
   (conv=>whnf)
   refine aJ (fun h=>?_) fun h=>?_
   . have h:(!decide (m.kept.length+(jn m).length<=2048))=true:=h;rw[hfit]at h;cases h
   . repeat' (first|exact trivial|exact rfl|((conv=>whnf);first|(apply aJ<;>intro)|apply And.intro)))
end
end
section
section
variable [Inhabited aL]
theorem Q5 {m:aK} {l:List aa} {p:aa->Bool} {i:Nat} (h:i<l.length):cy m ((l.take (i+1)).filter p)=cy m ((l.take i).filter p)++(if p l[i]then kv m l[i].key else[]):=by
 rw[uA h];unfold cy;rw[Dz];congr 1
 split<;>simp
def si (m:aK) (d:Bs):List bY:=iv (cy m (eZ (cG m) d))
def KX:aM:={Y:=(Nat×aK)×Bs,pre:=fun y=>cD y.1.1 y.1.2/\y.1.2.kept.length<=40,args:=fun y=>[.wp ⟨y.1.1,0,none⟩, .str y.2],res:=fun y=> .bJ [jd (si y.1.2 y.2),i64 0]}
def Un (m:aK) (l:List aa) (p:aa->Bool) (k:Nat):aH:={α:=Nat,ok:=fun i=>i<=l.length,μ:=fun i=>l.length - i,aW:=[0,2],aN:=fun i=>[(8, .own k),(12,items l),(13,i64 (Int.ofNat l.length)),(14,i64 i)],bn:=fun i=>[(k, .arr ar (cy m ((l.take i).filter p)) ar.enc Ty.kN)]}
theorem TT (hdr:¬(default:aL).dr):CO G9 KX:=bO (cfg:=fun(y:(Nat×aK)×Bs)=>cg ym (cr qI 3 (Un y.1.2 (cG y.1.2) (fun x=>decide (x.key.domain=y.2)) 1))) bA (fun _=>rfl) (fun _=>Ce hdr) (n:=900) (by
 rintro⟨⟨b,m⟩,d⟩ ⟨hm,hk⟩;have hm:cD b m:=hm;have hk:m.kept.length<=40:=hk;have hil:(cG m).length<=40:=Aq (ud m) hk;have hal:∀{l:List aa},l.length<=40->(cy m l).length<=1600:=fun h=>ug (fun k=>Aq (pf m k) hk) h
 have hfl:∀i,(((cG m).take i).filter fun x=>decide (x.key.domain=d)).length<=40:=fun i=>Aq (AF _ _) (by rw[A5];omega)
 (conv=>whnf)
 refine⟨some (b,m),?_⟩
 repeat ((conv=>whnf);first|refine⟨rfl,?_⟩|refine⟨trivial,?_⟩)
 refine⟨hm,?_⟩
 (conv=>whnf)
 refine⟨⟨(0:Nat),Au _,?_⟩,?_⟩
 . repeat' (first|exact trivial|exact rfl|((conv=>whnf);first|(apply aJ<;>intro)|apply And.intro))
   all_goals exact au.2 ⟨_,rfl,af.2 ⟨rfl,fun _=>rfl⟩⟩
 intro (x:Nat) hx;have hx:x<=(cG m).length:=hx
 (conv=>whnf)
 refine aJ (fun hlt=>?_) fun hge=>?_
 . have hlt':x<(cG m).length:=cq hlt;have hf:=Q5 (m:=m) (p:=fun z=>decide (z.key.domain=d)) hlt';have h1:=hal (hfl x);have h2:=Aq (pf m (cG m)[x].key) hk;have mu:(cG m).length - (x+1)<(cG m).length - x:=by omega
   (conv=>whnf)
   refine au.2 ⟨_,cE hlt',?_⟩
   (conv=>whnf)
   refine aJ (fun h=>?_) fun h=>?_
   . have h:((cG m)[x].key.domain==d)=true:=h;have hd:decide ((cG m)[x].key.domain=d)=true:=by simpa using h
     rw[An hd]at hf
     (conv=>whnf)
     refine⟨((some (b,m),(cG m)[x].key):Mp×aA),?_⟩
     repeat ((conv=>whnf);first|refine⟨rfl,?_⟩|refine⟨trivial,?_⟩)
     refine⟨hm,?_⟩
     (conv=>whnf)
     refine⟨fun _=>⟨rfl,rfl⟩,kv m (cG m)[x].key,rfl,af.2 ⟨rr _ (by show(cy m (((cG m).take x).filter fun z=>decide (z.key.domain=d))).length+(kv m (cG m)[x].key).length<=600000;omega),?_⟩⟩
     (conv=>whnf)
     refine af.2 ⟨ch x (by omega),?_⟩
     (conv=>whnf)
     refine⟨(x+1:Nat),hlt',mu,?_⟩
     repeat' (first|exact trivial|exact rfl|((conv=>whnf);first|(apply aJ<;>intro)|apply And.intro))
     all_goals ((conv=>whnf);rw[hf])
   . have h:((cG m)[x].key.domain==d)=false:=h;have hd:¬decide ((cG m)[x].key.domain=d)=true:=by simpa using h
     rw[Aj hd,A9]at hf
     (conv=>whnf)
     refine af.2 ⟨ch x (by omega),?_⟩
     (conv=>whnf)
     refine⟨(x+1:Nat),hlt',mu,?_⟩
     repeat' (first|exact trivial|exact rfl|((conv=>whnf);first|(apply aJ<;>intro)|apply And.intro))
     all_goals ((conv=>whnf);rw[hf])
 . have hge':(cG m).length<=x:=gf hge;have hdl:(eZ (cG m) d).length<=40:=Aq (AF _ _) hil;have h1:=hal hdl;have hrl:=tP (cy m (eZ (cG m) d))
   (conv=>whnf)
   refine⟨cy m (eZ (cG m) d),?_⟩
   (conv=>whnf)
   refine⟨by rw[As hge'];rfl,?_⟩
   repeat ((conv=>whnf);first|refine⟨rfl,?_⟩|refine⟨trivial,?_⟩)
   refine⟨by show(cy m (eZ (cG m) d)).length<=1000000;omega,?_⟩
   (conv=>whnf)
   refine⟨(b,m,si m d),?_⟩
   repeat ((conv=>whnf);first|refine⟨rfl,?_⟩|refine⟨trivial,?_⟩)
   refine⟨⟨hm,pW (by omega)⟩,?_⟩;have hfit:decide (m.kept.length+(si m d).length<=2048)=true:=Bj (by unfold si;omega)
   (conv=>whnf)
   refine aJ (fun h=>?_) fun h=>?_
   . have h:(!decide (m.kept.length+(si m d).length<=2048))=true:=h;rw[hfit]at h;cases h
   . repeat' (first|exact trivial|exact rfl|((conv=>whnf);first|(apply aJ<;>intro)|apply And.intro)))
end
end
section
theorem z8:∀(k n:Nat) (s:List ar),s.length<=k->64*n<s.length->(chunk k s)[n]? =some ((s.drop (64*n)).take 64)
 |0,n,s,h,h2=>by omega
 | k+1,n,s,h,h2=>by
  unfold chunk;rw[Aj (by intro e;rw[e]at h2;simp at h2)]
  cases n with
  |zero=>rfl
  |succ n=>
   rw[Bo,z8 k n (s.drop 64) (by rw[A6];omega) (by rw[A6];omega),DU];congr 3;omega
theorem rK:∀(k:Nat) (s:List ar),s.length<=k->(chunk k s).length=(s.length+63) / 64
 |0,s,h=>by
  have:s.length=0:=by omega
  rw[this];rfl
 |k+1,s,h=>by
  unfold chunk;split
  . rename_i e;rw[e];rfl
  . rename_i e;have:=AY.2 e;rw[Az,rK k (s.drop 64) (by rw[A6];omega),A6];omega
section
variable [Inhabited aL]
def Kt:aM:={Y:=aK,pre:=fN,args:=fun y=>[.agg y.enc],res:=fun y=>items (fY y)}
def Uq (m:aK):aH:=let l:=cG m;{α:=Nat,ok:=fun i=>i<=l.length,μ:=fun i=>l.length - i,aW:=[],aN:=fun i=>[(3, .own 1),(4,items l),(5,i64 i)],bn:=fun i=>[(1,mw ((l.take i).filter fun x=> !x.ab.persistent))]}
theorem TY (hdr:¬(default:aL).dr):CO rn Kt:=bO (cfg:=fun y=>cg sT (cr rn 4 (Uq y))) bA (fun _=>rfl) (fun _=>uk hdr) (n:=600) (by
 intro (m:aK) (hm:fN m);have hil:(cG m).length<=50000:=Aq (ud m) hm.kept
 (conv=>whnf)
 refine⟨m,?_⟩
 repeat ((conv=>whnf);first|refine⟨rfl,?_⟩|refine⟨trivial,?_⟩)
 refine⟨hm,?_⟩
 (conv=>whnf)
 refine⟨⟨(0:Nat),Au _,?_⟩,?_⟩
 . repeat' (first|exact trivial|exact rfl|((conv=>whnf);first|(apply aJ<;>intro)|apply And.intro))
 intro (x:Nat) hx;have hx:x<=(cG m).length:=hx;have hlen:=C9 (l:=cG m) (x:=x) (p:=fun z:aa=> !z.ab.persistent)
 (conv=>whnf)
 refine aJ (fun hlt=>?_) fun hge=>?_
 . have hlt':x<(cG m).length:=cq hlt;have hf:=uA (p:=fun z:aa=> !z.ab.persistent) hlt';have mu:(cG m).length - (x+1)<(cG m).length - x:=by omega
   have hz:(((cG m).take x).filter fun z:aa=> !z.ab.persistent).length+1<=60000:=by omega
   (conv=>whnf)
   refine au.2 ⟨_,cE hlt',?_⟩
   (conv=>whnf)
   refine aJ (fun h=>?_) fun h=>?_
   . have h:(!(cG m)[x].ab.persistent)=true:=h;simp only[h,Bb]at hf
     (conv=>whnf)
     refine au.2 ⟨_,cE hlt',?_⟩
     (conv=>whnf)
     refine⟨(cG m)[x],rfl,?_⟩
     (conv=>whnf)
     refine af.2 ⟨vr _ hz,?_⟩
     (conv=>whnf)
     refine af.2 ⟨ch x (by omega),?_⟩
     (conv=>whnf)
     refine⟨(x+1:Nat),hlt',mu,?_⟩
     repeat' (first|exact trivial|exact rfl|((conv=>whnf);first|(apply aJ<;>intro)|apply And.intro))
     all_goals ((conv=>whnf);rw[hf])
   . have h:(!(cG m)[x].ab.persistent)=false:=h;simp only[h,Ao,AK,A9]at hf
     (conv=>whnf)
     refine af.2 ⟨ch x (by omega),?_⟩
     (conv=>whnf)
     refine⟨(x+1:Nat),hlt',mu,?_⟩
     repeat' (first|exact trivial|exact rfl|((conv=>whnf);first|(apply aJ<;>intro)|apply And.intro))
     all_goals ((conv=>whnf);rw[hf])
 . (conv=>whnf)
   refine⟨by rw[xM (gz hge)];rfl,?_⟩
   repeat' (first|exact trivial|exact rfl|((conv=>whnf);first|(apply aJ<;>intro)|apply And.intro)))
theorem tf (n:Nat) (h:n<=60000):(Nat.ble (n*128) 16777216&&Nat.ble n 16777216)=true:=by
 simp only[Ac,AA];omega
noncomputable def yI (gD:FuncId->Option aM) (ln:FuncId->Nat->Option aH):ik:={tab:=oH,view:=fun t=>bif Nat.beq t HR then some ⟨bY,bY.enc⟩else Np t,gD,ln}
def Jy:aM:={Y:=List ar,pre:=fun y=>y.length<=100000,args:=fun y=>[cw y],res:=fun y=>jd (iv y)}
def jU (l:List ar):List (List ar):=chunk (cz bI l).length (cz bI l)
def TB (l:List ar):aH:=let s:=cz bI l;{α:=Nat,ok:=fun n=>n=0\/64*n<s.length,μ:=fun n=>s.length - 64*n,aW:=[],aN:=fun n=>[(3, .own 0),(4,cw (s.drop (64*n)))],bn:=fun n=>[(0, .arr bY (((jU l).take n).map ig) bY.enc HR)]}
theorem SG:CO qP Jy:=bO (cfg:=fun y=>yI pt (cr qP 3 (TB y))) bA (fun _=>rfl) (fun _=>qf) (n:=600) (by
 intro (l:List ar) (hl:l.length<=100000);have hsl:=Lb l;have hcl:(jU l).length=((cz bI l).length+63) / 64:=rK _ _ (Ai _)
 (conv=>whnf)
 refine⟨l,?_⟩
 repeat ((conv=>whnf);first|refine⟨rfl,?_⟩|refine⟨trivial,?_⟩)
 refine⟨by show l.length<=300000;omega,?_⟩
 (conv=>whnf)
 refine⟨⟨(0:Nat), .inl rfl,?_⟩,?_⟩
 . repeat' (first|exact trivial|exact rfl|((conv=>whnf);first|(apply aJ<;>intro)|apply And.intro))
 intro (n:Nat) hn;have hn:n=0\/64*n<(cz bI l).length:=hn;have hdl:((cz bI l).drop (64*n)).length=(cz bI l).length - 64*n:=A6
 (conv=>whnf)
 refine aJ (fun h=>?_) fun h=>?_
 . have h:bw 64 (Int.ofNat ((cz bI l).drop (64*n)).length)=true:=h;rw[cj,Ab]at h;have h:(64:Int)<(((cz bI l).drop (64*n)).length:Int):=h;rw[hdl]at h;have hn1:64*n<(cz bI l).length:=by omega
   have hat:=z8 _ n _ (Ai _) hn1;have hnl:n<(jU l).length:=(Ae.1 hat).1;have hge:(jU l)[n]=((cz bI l).drop (64*n)).take 64:=(Ae.1 hat).2;have hf:((jU l).take (n+1)).map ig=((jU l).take n).map ig++[ig (((cz bI l).drop (64*n)).take 64)]:=by
     rw[Aw hnl,AL,hge];rfl
   have hz:(((jU l).take n).map ig).length+1<=50000:=by rw[A8,A5];omega
   (conv=>whnf)
   refine⟨fun _=>rfl,?_⟩
   (conv=>whnf)
   refine af.2 ⟨?_,?_⟩
   . simp only[AA];show 64<=_
     omega
   (conv=>whnf)
   refine⟨ig (((cz bI l).drop (64*n)).take 64),rfl,?_⟩
   (conv=>whnf)
   refine af.2 ⟨tf _ (by rw[Fg];omega),?_⟩
   (conv=>whnf)
   refine⟨fun _=>rfl,?_⟩
   (conv=>whnf)
   refine af.2 ⟨?_,?_⟩
   . simp only[AA];show 64<=_
     omega
   (conv=>whnf)
   refine⟨(n+1:Nat), .inr (by show 64*(n+1)<(cz bI l).length;omega),by show(cz bI l).length - 64*(n+1)<(cz bI l).length - 64*n;omega,?_⟩
   repeat' (first|exact trivial|exact rfl|((conv=>whnf);first|(apply aJ<;>intro)|apply And.intro))
   . show SV.aj ar (((cz bI l).drop (64*n)).drop 64) ar.enc=SV.aj ar ((cz bI l).drop (64*(n+1))) ar.enc
     rw[DU];congr 2
   all_goals ((conv=>whnf);rw[hf])
 . have h:bw 64 (Int.ofNat ((cz bI l).drop (64*n)).length)=false:=h;rw[cj,Ah]at h;have h:¬(64:Int)<(((cz bI l).drop (64*n)).length:Int):=h;rw[hdl]at h
   (conv=>whnf)
   refine aJ (fun h2=>?_) fun h2=>?_
   . have h2:bw 0 (Int.ofNat ((cz bI l).drop (64*n)).length)=true:=h2;rw[cj,Ab]at h2;have h2:(0:Int)<(((cz bI l).drop (64*n)).length:Int):=h2;rw[hdl]at h2;have hn1:64*n<(cz bI l).length:=by omega
     have hat:=z8 _ n _ (Ai _) hn1;have hnl:n<(jU l).length:=(Ae.1 hat).1;have hge:(jU l)[n]=((cz bI l).drop (64*n)).take 64:=(Ae.1 hat).2;have hr:((cz bI l).drop (64*n)).take 64=(cz bI l).drop (64*n):=As (by omega);have hf:iv l=((jU l).take n).map ig++[ig ((cz bI l).drop (64*n))]:=by
       have:(jU l).length<=n+1:=by omega
       rw[<-hr,<-hge,show[ig (jU l)[n]]=[(jU l)[n]].map ig from rfl,<-AL,<-Aw hnl,As this];rfl
     have hz:(((jU l).take n).map ig).length+1<=50000:=by rw[A8,A5];omega
     (conv=>whnf)
     refine⟨ig ((cz bI l).drop (64*n)),rfl,?_⟩
     (conv=>whnf)
     refine af.2 ⟨tf _ (by rw[Fg];omega),?_⟩
     (conv=>whnf)
     refine⟨?_,?_⟩
     . show SV.aj bY (((jU l).take n).map ig++[ig ((cz bI l).drop (64*n))]) bY.enc=jd (iv l)
       rw[hf];rfl
     repeat' (first|exact trivial|exact rfl|((conv=>whnf);first|(apply aJ<;>intro)|apply And.intro))
   . have h2:bw 0 (Int.ofNat ((cz bI l).drop (64*n)).length)=false:=h2;rw[cj,Ah]at h2;have h2:¬(0:Int)<(((cz bI l).drop (64*n)).length:Int):=h2;rw[hdl]at h2;have hf:((jU l).take n).map ig=iv l:=by rw[As (by omega)];rfl
     (conv=>whnf)
     refine⟨?_,?_⟩
     . show SV.aj bY (((jU l).take n).map ig) bY.enc=jd (iv l)
       rw[hf];rfl
     repeat' (first|exact trivial|exact rfl|((conv=>whnf);first|(apply aJ<;>intro)|apply And.intro)))
end
end
section
variable [Inhabited aL]
structure okC (c:List ar):Prop where
 ne:c≠[]
 le:c.length<=64
 dot:∀d∈c,fB d=true
 own:∀d∈c,¬(d.dev=63/\d.inc=1048576)
 up:c.Pairwise fun x y=>bI x y=true
end
end Go.Proofs
namespace Go.Proofs
open Go.Shelf
def qK:Go.Shelf.Ren:=⟨fun|6=>130|15=>159|14=>161|28=>193|29=>194|20=>195|21=>196|22=>197|23=>198|24=>199|25=>200|26=>201|27=>202|46=>237|47=>233|48=>234|49=>238|50=>239|57=>256|n=>n,fun|22=>52|24=>48|25=>164|3=>3|39=>187|0=>0|53=>215|55=>217|4=>4|46=>209|45=>208|50=>153|5=>5|9=>9|66=>235|70=>239|76=>251|77=>252|n=>n,fun|n=>n⟩
theorem PN:Go.Proofs.SlLaysF0.n6 Tryz.prog qK:={
 mixed:=by kernel_rfl
 f6:=⟨Tryz.f130.name,by decide,Tryz.func130.trans (Ap some (by kernel_rfl))⟩
 f14:=⟨Tryz.f161.name,by decide,Tryz.func161.trans (Ap some (by kernel_rfl))⟩
 f15:=Tryz.func159.trans (Ap some (by kernel_rfl))
 f20:=⟨Tryz.f195.name,by decide,Tryz.func195.trans (Ap some (by kernel_rfl))⟩
 f21:=⟨Tryz.f196.name,by decide,Tryz.func196.trans (Ap some (by kernel_rfl))⟩
 f22:=⟨Tryz.f197.name,by decide,Tryz.func197.trans (Ap some (by kernel_rfl))⟩
 f23:=⟨Tryz.f198.name,by decide,Tryz.func198.trans (Ap some (by kernel_rfl))⟩
 f24:=⟨Tryz.f199.name,by decide,Tryz.func199.trans (Ap some (by kernel_rfl))⟩
 f25:=⟨Tryz.f200.name,by decide,Tryz.func200.trans (Ap some (by kernel_rfl))⟩
 f26:=⟨Tryz.f201.name,by decide,Tryz.func201.trans (Ap some (by kernel_rfl))⟩
 f27:=⟨Tryz.f202.name,by decide,Tryz.func202.trans (Ap some (by kernel_rfl))⟩
 f28:=Tryz.func193.trans (Ap some (by kernel_rfl))
 f29:=Tryz.func194.trans (Ap some (by kernel_rfl))
 f46:=⟨Tryz.f237.name,by decide,Tryz.func237.trans (Ap some (by kernel_rfl))⟩
 f47:=Tryz.func233.trans (Ap some (by kernel_rfl))
 f48:=Tryz.func234.trans (Ap some (by kernel_rfl))
 f49:=⟨Tryz.f238.name,by decide,Tryz.func238.trans (Ap some (by kernel_rfl))⟩
 f50:=⟨Tryz.f239.name,by decide,Tryz.func239.trans (Ap some (by kernel_rfl))⟩
 f57:=⟨Tryz.f256.name,by decide,Tryz.func256.trans (Ap some (by kernel_rfl))⟩
 t0:=Tryz.underlying0
 a0:=Tryz.isAgg0
 z0:=Tryz.sizeOf0
 v0:=Tryz.zeroValue0
 t3:=Tryz.underlying3
 a3:=Tryz.isAgg3
 z3:=Tryz.sizeOf3
 v3:=Tryz.zeroValue3
 t4:=Tryz.underlying4
 a4:=Tryz.isAgg4
 z4:=Tryz.sizeOf4
 v4:=Tryz.zeroValue4
 t5:=Tryz.underlying5
 a5:=Tryz.isAgg5
 z5:=Tryz.sizeOf5
 v5:=Tryz.zeroValue5
 t9:=Tryz.underlying9
 a9:=Tryz.isAgg9
 z9:=Tryz.sizeOf9
 v9:=Tryz.zeroValue9
 t22:=Tryz.underlying52
 a22:=Tryz.isAgg52
 z22:=Tryz.sizeOf52
 v22:=Tryz.zeroValue52
 t25:=Tryz.underlying164
 a25:=Tryz.isAgg164
 z25:=Tryz.sizeOf164
 v25:=Tryz.zeroValue164
 t39:=Tryz.underlying187
 a39:=Tryz.isAgg187
 z39:=Tryz.sizeOf187
 v39:=Tryz.zeroValue187
 t45:=Tryz.underlying208
 a45:=Tryz.isAgg208
 z45:=Tryz.sizeOf208
 v45:=Tryz.zeroValue208
 t46:=Tryz.underlying209
 a46:=Tryz.isAgg209
 z46:=Tryz.sizeOf209
 v46:=Tryz.zeroValue209
 t50:=Tryz.underlying153
 a50:=Tryz.isAgg153
 z50:=Tryz.sizeOf153
 v50:=Tryz.zeroValue153
 t53:=Tryz.underlying215
 a53:=Tryz.isAgg215
 z53:=Tryz.sizeOf215
 v53:=Tryz.zeroValue215
 t55:=Tryz.underlying217
 a55:=Tryz.isAgg217
 z55:=Tryz.sizeOf217
 v55:=Tryz.zeroValue217
 t66:=Tryz.underlying235
 a66:=Tryz.isAgg235
 z66:=Tryz.sizeOf235
 v66:=Tryz.zeroValue235
 t70:=Tryz.underlying239
 a70:=Tryz.isAgg239
 z70:=Tryz.sizeOf239
 v70:=Tryz.zeroValue239
 t76:=Tryz.underlying251
 a76:=Tryz.isAgg251
 z76:=Tryz.sizeOf251
 v76:=Tryz.zeroValue251
 t77:=Tryz.underlying252
 a77:=Tryz.isAgg252
 z77:=Tryz.sizeOf252
 v77:=Tryz.zeroValue252}
def OC:Go.Shelf.Ren:=⟨fun|41=>129|n=>n,fun|22=>52|23=>48|4=>4|n=>n,fun|n=>n⟩
theorem OR:Go.Proofs.SlLaysE0.n41 Tryz.prog OC:={
 mixed:=by kernel_rfl
 f41:=⟨Tryz.f129.name,by decide,Tryz.func129.trans (Ap some (by kernel_rfl))⟩
 t4:=Tryz.underlying4
 a4:=Tryz.isAgg4
 z4:=Tryz.sizeOf4
 v4:=Tryz.zeroValue4
 t22:=Tryz.underlying52
 a22:=Tryz.isAgg52
 z22:=Tryz.sizeOf52
 v22:=Tryz.zeroValue52}
def Ha:Go.Shelf.Ren:=⟨fun|7=>101|10=>140|n=>n,fun|23=>135|26=>9|3=>3|28=>138|0=>0|27=>137|33=>167|4=>4|n=>n,fun|n=>n⟩
theorem G4:Go.Proofs.SlLaysZ.n7 Tryz.prog Ha:={
 mixed:=by kernel_rfl
 f7:=⟨Tryz.f101.name,by decide,Tryz.func101.trans (Ap some (by kernel_rfl))⟩
 f10:=⟨Tryz.f140.name,by decide,Tryz.func140.trans (Ap some (by kernel_rfl))⟩
 t0:=Tryz.underlying0
 a0:=Tryz.isAgg0
 z0:=Tryz.sizeOf0
 v0:=Tryz.zeroValue0
 t4:=Tryz.underlying4
 a4:=Tryz.isAgg4
 z4:=Tryz.sizeOf4
 v4:=Tryz.zeroValue4
 t23:=Tryz.underlying135
 a23:=Tryz.isAgg135
 z23:=Tryz.sizeOf135
 v23:=Tryz.zeroValue135
 t26:=Tryz.underlying9
 a26:=Tryz.isAgg9
 z26:=Tryz.sizeOf9
 v26:=Tryz.zeroValue9
 t27:=Tryz.underlying137
 a27:=Tryz.isAgg137
 z27:=Tryz.sizeOf137
 v27:=Tryz.zeroValue137
 t28:=Tryz.underlying138
 a28:=Tryz.isAgg138
 z28:=Tryz.sizeOf138
 v28:=Tryz.zeroValue138
 t33:=Tryz.underlying167
 a33:=Tryz.isAgg167
 z33:=Tryz.sizeOf167
 v33:=Tryz.zeroValue167}
def vo:Go.Shelf.Ren:=⟨fun|6=>100|8=>138|9=>139|11=>169|13=>159|12=>170|23=>193|24=>194|14=>210|15=>211|16=>212|17=>213|18=>214|19=>215|20=>216|21=>217|22=>218|25=>245|26=>233|27=>234|28=>246|29=>247|30=>248|31=>257|n=>n,fun|26=>9|28=>138|24=>70|0=>0|3=>3|37=>187|48=>215|50=>217|4=>4|40=>209|39=>208|45=>153|5=>5|9=>9|51=>235|55=>239|57=>251|58=>252|33=>167|n=>n,fun|n=>n⟩
theorem OL:Go.Proofs.SlLaysZ.n6 Tryz.prog vo:={
 mixed:=by kernel_rfl
 f6:=⟨Tryz.f100.name,by decide,Tryz.func100.trans (Ap some (by kernel_rfl))⟩
 f8:=⟨Tryz.f138.name,by decide,Tryz.func138.trans (Ap some (by kernel_rfl))⟩
 f11:=⟨Tryz.f169.name,by decide,Tryz.func169.trans (Ap some (by kernel_rfl))⟩
 t0:=Tryz.underlying0
 a0:=Tryz.isAgg0
 z0:=Tryz.sizeOf0
 v0:=Tryz.zeroValue0
 t24:=Tryz.underlying70
 a24:=Tryz.isAgg70
 z24:=Tryz.sizeOf70
 v24:=Tryz.zeroValue70
 t26:=Tryz.underlying9
 a26:=Tryz.isAgg9
 z26:=Tryz.sizeOf9
 v26:=Tryz.zeroValue9
 t28:=Tryz.underlying138
 a28:=Tryz.isAgg138
 z28:=Tryz.sizeOf138
 v28:=Tryz.zeroValue138
 i26:=by kernel_rfl}
def OG:Go.Shelf.Ren:=⟨fun|6=>139|8=>159|9=>170|19=>193|20=>194|21=>210|22=>211|23=>212|24=>213|25=>214|26=>215|27=>216|28=>217|29=>218|36=>245|31=>233|32=>234|37=>246|38=>247|39=>248|41=>257|n=>n,fun|27=>70|29=>9|3=>3|32=>187|26=>70|0=>0|44=>215|46=>217|4=>4|36=>209|35=>208|41=>153|5=>5|9=>9|53=>235|57=>239|63=>251|64=>252|n=>n,fun|n=>n⟩
theorem G5:Go.Proofs.SlLaysM.n6 Tryz.prog OG:={
 mixed:=by kernel_rfl
 f6:=⟨Tryz.f139.name,by decide,Tryz.func139.trans (Ap some (by kernel_rfl))⟩
 f8:=Tryz.func159.trans (Ap some (by kernel_rfl))
 f9:=⟨Tryz.f170.name,by decide,Tryz.func170.trans (Ap some (by kernel_rfl))⟩
 f19:=Tryz.func193.trans (Ap some (by kernel_rfl))
 f20:=Tryz.func194.trans (Ap some (by kernel_rfl))
 f21:=⟨Tryz.f210.name,by decide,Tryz.func210.trans (Ap some (by kernel_rfl))⟩
 f22:=⟨Tryz.f211.name,by decide,Tryz.func211.trans (Ap some (by kernel_rfl))⟩
 f23:=⟨Tryz.f212.name,by decide,Tryz.func212.trans (Ap some (by kernel_rfl))⟩
 f24:=⟨Tryz.f213.name,by decide,Tryz.func213.trans (Ap some (by kernel_rfl))⟩
 f25:=⟨Tryz.f214.name,by decide,Tryz.func214.trans (Ap some (by kernel_rfl))⟩
 f26:=⟨Tryz.f215.name,by decide,Tryz.func215.trans (Ap some (by kernel_rfl))⟩
 f27:=⟨Tryz.f216.name,by decide,Tryz.func216.trans (Ap some (by kernel_rfl))⟩
 f28:=⟨Tryz.f217.name,by decide,Tryz.func217.trans (Ap some (by kernel_rfl))⟩
 f29:=⟨Tryz.f218.name,by decide,Tryz.func218.trans (Ap some (by kernel_rfl))⟩
 f31:=Tryz.func233.trans (Ap some (by kernel_rfl))
 f32:=Tryz.func234.trans (Ap some (by kernel_rfl))
 f36:=⟨Tryz.f245.name,by decide,Tryz.func245.trans (Ap some (by kernel_rfl))⟩
 f37:=⟨Tryz.f246.name,by decide,Tryz.func246.trans (Ap some (by kernel_rfl))⟩
 f38:=⟨Tryz.f247.name,by decide,Tryz.func247.trans (Ap some (by kernel_rfl))⟩
 f39:=⟨Tryz.f248.name,by decide,Tryz.func248.trans (Ap some (by kernel_rfl))⟩
 f41:=⟨Tryz.f257.name,by decide,Tryz.func257.trans (Ap some (by kernel_rfl))⟩
 t0:=Tryz.underlying0
 a0:=Tryz.isAgg0
 z0:=Tryz.sizeOf0
 v0:=Tryz.zeroValue0
 t3:=Tryz.underlying3
 a3:=Tryz.isAgg3
 z3:=Tryz.sizeOf3
 v3:=Tryz.zeroValue3
 t4:=Tryz.underlying4
 a4:=Tryz.isAgg4
 z4:=Tryz.sizeOf4
 v4:=Tryz.zeroValue4
 t5:=Tryz.underlying5
 a5:=Tryz.isAgg5
 z5:=Tryz.sizeOf5
 v5:=Tryz.zeroValue5
 t9:=Tryz.underlying9
 a9:=Tryz.isAgg9
 z9:=Tryz.sizeOf9
 v9:=Tryz.zeroValue9
 t26:=Tryz.underlying70
 a26:=Tryz.isAgg70
 z26:=Tryz.sizeOf70
 v26:=Tryz.zeroValue70
 t27:=Tryz.underlying70
 a27:=Tryz.isAgg70
 z27:=Tryz.sizeOf70
 v27:=Tryz.zeroValue70
 t29:=Tryz.underlying9
 a29:=Tryz.isAgg9
 z29:=Tryz.sizeOf9
 v29:=Tryz.zeroValue9
 t32:=Tryz.underlying187
 a32:=Tryz.isAgg187
 z32:=Tryz.sizeOf187
 v32:=Tryz.zeroValue187
 t35:=Tryz.underlying208
 a35:=Tryz.isAgg208
 z35:=Tryz.sizeOf208
 v35:=Tryz.zeroValue208
 t36:=Tryz.underlying209
 a36:=Tryz.isAgg209
 z36:=Tryz.sizeOf209
 v36:=Tryz.zeroValue209
 t41:=Tryz.underlying153
 a41:=Tryz.isAgg153
 z41:=Tryz.sizeOf153
 v41:=Tryz.zeroValue153
 t44:=Tryz.underlying215
 a44:=Tryz.isAgg215
 z44:=Tryz.sizeOf215
 v44:=Tryz.zeroValue215
 t46:=Tryz.underlying217
 a46:=Tryz.isAgg217
 z46:=Tryz.sizeOf217
 v46:=Tryz.zeroValue217
 t53:=Tryz.underlying235
 a53:=Tryz.isAgg235
 z53:=Tryz.sizeOf235
 v53:=Tryz.zeroValue235
 t57:=Tryz.underlying239
 a57:=Tryz.isAgg239
 z57:=Tryz.sizeOf239
 v57:=Tryz.zeroValue239
 t63:=Tryz.underlying251
 a63:=Tryz.isAgg251
 z63:=Tryz.sizeOf251
 v63:=Tryz.zeroValue251
 t64:=Tryz.underlying252
 a64:=Tryz.isAgg252
 z64:=Tryz.sizeOf252
 v64:=Tryz.zeroValue252}
end Go.Proofs
namespace Go.Proofs
open Go.RowKit Go.Maps Go.Sort Go.Shelf
-- maps.Keys[map[string]int,string,int] (function 101; its iterator 140) · slices.Sorted[string] (100) · slices.Sort[[]string,string] (139) · the map's type 135, the keys' 9
theorem Oh (m:Nat):AnyZ.SortsIn Tryz.prog vo Fence.wide m:=
  ⟨fun aY off cap ss W hH hblk hsz=>callsIn_wide.2 (AnyM.slices_Sort_string G5 aY off cap ss W hH hblk hsz),
   fun p cap W=>callsIn_wide.2 (AnyM.slices_Sort_string_none G5 p cap W)⟩
theorem qF (mb:Option Nat) (W:World):CallsIn Fence.wide 5 Tryz.prog 101 #[.map mb] W fun e w'=>e= .returned (.func (.func 140) #[] #[.pointer (some ⟨W.heap.size,0,none⟩)])/\w'=W.alloc (.cells #[.map mb] 135):=
 AnyZ.keys_in G4 Fence.wide 5 trivial rfl mb W
set_option maxHeartbeats 1000000 in
theorem qA {H:Type} (b nn:Nat) (D0:DataW H) (R:Value->Option (DataW H×List MemPlace)) (w:World) (hown:w.ownsMap Tryz.prog 9 R b nn D0) (hmax:Maps.size D0<=maxLen) (hbytes:Maps.size D0*16<=140737488355328):
  CallsIn Fence.wide 5 Tryz.prog 100 #[.func (.func 140) #[] #[.pointer (some ⟨w.heap.size,0,none⟩)]] (w.alloc (.cells #[.map (some b)] 135)) fun e w'=>∃(v:Value) (ss:List (List UInt8)),e= .returned v/\ss.Perm (strKeys D0)/\
   w'.ownsRow (w.alloc (.cells #[.map (some b)] 135)).heap.size 9 1 v ss.length ((ss.mergeSort (fun x y=>decide (x<=y))).map encStr)/\(v= .slice none 0 0↔ss=[])/\Below (w.alloc (.cells #[.map (some b)] 135)).heap.size (w.alloc (.cells #[.map (some b)] 135)) w':=by
 have hbl:=hown.lt;have hseq:SeqGives Fence.wide 2 Tryz.prog 140 #[.pointer (some ⟨w.heap.size,0,none⟩)] encStr (fun ss=>ss.Perm (strKeys D0)) (Maps.size D0) (w.alloc (.cells #[.map (some b)] 135)):=
  AnyZ.keys_gives (ρ:=Ha) {G4 with} Fence.wide _ trivial rfl (by omega) w.heap.size b nn D0 _ (by simp) (by simp) (by
   obtain⟨es,clock,hb,Ft,hs,hD⟩:=hown;exact⟨es,clock,(Below.heap_alloc _ _ b hbl).trans hb,Ft,hs,hD⟩)
 exact AnyZ.sorted_in OL Fence.wide 5 trivial trivial trivial trivial rfl (by omega) (Oh _) (enters_of Tryz.func139 (by kernel_rfl) rfl) 140 #[.pointer (some ⟨w.heap.size,0,none⟩)] trivial (enters_of Tryz.func140 (by kernel_rfl) rfl) _ _ hmax hbytes _ hseq
-- THE CALLER's WALK over 'slices.Sorted(maps.Keys(m))' (inside '(callsIn_wide (n := 6)).1'; 'have hfK : Fence.wide.fn 101 := trivial', 'have hfS : Fence.wide.fn 100 := trivial' ahead): THE TWO ARMS TO PASTE:
--   gi_wp2_with (first
--     | (gi_at_call 101; refine (qF _ _).mono ?_; rintro e w' ⟨rfl, rfl⟩)
--     | (gi_at_call 100; refine (qA b nn D0 R w hown hmax hbytes).mono ?_; rintro e w' ⟨v, ss, rfl, hS, hrow, hnil, hb⟩))
-- maps.Keys[map[biscotti/api.kN]int,biscotti/api.kN,int]: its keys are of no string's kind: not laid by this program
end Go.Proofs
namespace Go.Proofs
open Go Go.Am Go.RowKit Go.Sy Go.Maps Go.Sort Go.Shelf Go.WideMaps
section
variable [Inhabited aL]
theorem HN:Keyed Tryz.prog 9:=string_keyed Tryz.underlying9
theorem O5 (w:World):(zeroValue 3).run Tryz.prog w= .ok (.int .i64 0) w:=by kernel_rfl
theorem Xs {s:Bs} (h:s.length<=maxLen):keyOf Tryz.prog 9 (dR s)=some (.string s):=by
 have:=keyOf_string_mk (s:=⟨s.toArray⟩) Tryz.underlying9 (by simpa [ByteArray.size]using h);simpa using this
theorem rowAt.cells {w:World} {b off:Nat} {l:List aa} (h:rowAt w b off l) {i:Nat} {x:aa} (hx:l[i]? =some x):
  w.cell? ⟨b,off+i*11,none⟩=some (dR x.key.name)/\w.cell? ⟨b,off+i*11+1,none⟩=some (dR x.key.domain)/\w.cell? ⟨b,off+i*11+2,none⟩=some (dR x.key.path)/\
  w.cell? ⟨b,off+i*11+3,none⟩=some (dR x.ab.value)/\w.cell? ⟨b,off+i*11+4,none⟩=some (.bool x.ab.aF)/\w.cell? ⟨b,off+i*11+5,none⟩=some (.bool x.ab.aV)/\
  w.cell? ⟨b,off+i*11+6,none⟩=some (.bool x.ab.aG)/\w.cell? ⟨b,off+i*11+7,none⟩=some (.bool x.ab.persistent)/\w.cell? ⟨b,off+i*11+8,none⟩=some (.int .i64 x.ab.aP)/\
  w.cell? ⟨b,off+i*11+9,none⟩=some (.int .i64 x.ab.aq)/\w.cell? ⟨b,off+i*11+10,none⟩=some (.int .i64 x.ab.access):=
 ⟨h i x 0 _ hx rfl,h i x 1 _ hx rfl,h i x 2 _ hx rfl,h i x 3 _ hx rfl,h i x 4 _ hx rfl,h i x 5 _ hx rfl,h i x 6 _ hx rfl,h i x 7 _ hx rfl,h i x 8 _ hx rfl,h i x 9 _ hx rfl,h i x 10 _ hx rfl⟩
theorem Qb {b off cap:Nat} {l:List aa} {w:World} (hlen:l.length<=10000) (hb:b<w.heap.size) (hrow:rowAt w b off l) (hsz:∀x∈l,x.key.domain.length<=maxLen):
  Calls Tryz.prog 54 #[.slice (some ⟨b,off,none⟩) l.length cap] w fun e w'=>∃v,e= .returned v/\w'.ownsRow w.heap.size 9 1 v (bj l).length ((bj l).map dR)/\Below w.heap.size w w':=by
 have hmm:= @run_makeMap Tryz.prog;go_enter Tryz.func54,Tryz.ntmps54
 go_wp2;go_loopw [9] (fun i wr=>∃(k:Nat) (D:DataW Unit),k<=l.length/\i= .int .i64 k/\wr.ownsMap Tryz.prog 9 (plainElem Tryz.prog 3) w.heap.size k D/\SK D ((l.take k).map fun x=>x.key.domain)/\Below w.heap.size w wr)
  (fun i _=>l.length - (intOf i).toNat)
 case atStart=>exact⟨0, .map [],Au _,rfl,World.ownsMap_made _ _ _ _,SK.start,(Below.refl _ _).alloc (Ai _) _⟩
 case round=>
  obtain⟨k,D,hk,rfl,hown,hsk,hnx⟩:=hrel;by_cases hlt:k<l.length
  . obtain⟨x,hx⟩:∃x,l[k]? =some x:=⟨_,Af hlt⟩;obtain⟨c0,c1,c2,c3,c4,c5,c6,c7,c8,c9,c10⟩:=(hrow.below hnx hb).cells hx;have hxm:x∈l:=Bz hx;have hkey:keyOf Tryz.prog 9 (dR x.key.domain)=some (.string x.key.domain):=Xs (hsz x hxm);have hbel:∀o,Below w.heap.size w (wr.alloc o):=fun o=>hnx.alloc hnx.size o
    go_wp2_with (first
      |(at_lookup;refine wpList_lookup_own_int _ rfl _ _ 135 rfl 9 3 .i64 HN Tryz.underlying135 Tryz.underlying3 (O5 _) w.heap.size k _ rfl (hown.alloc _) _ _ rfl hkey ?_;intro c hat hwc)
      |(at_mapUpdate;refine wpList_mapUpdate_own _ rfl _ _ _ 135 rfl 9 3 HN Tryz.underlying135 _ w.heap.size k _ rfl (hown.alloc _) (by unfold maxLen;omega) _ _ _ rfl rfl hkey _ [] (plainElem_int Tryz.underlying3 (wrap64_wf _)) ?_;intro w1 hown1 hgrow1)
      |go_in)
    have R1:=hsk.put (x.key.domain) (.lit (.int .i64 (wrap64 (c+1)))) (L':=(l.take (k+1)).map fun x=>x.key.domain) (fun d=>by
      rw[List.take_add_one,hx];simp;exact or_comm)
    have R2:=(hbel _).grown hgrow1 (hbel _).size (fun j hj=>by cases hj;exact Ai _);clear hown hsk c0 c1 c2 c3 c4 c5 c6 c7 c8 c9 c10 hbel hgrow1;go_roundw
    case rel=>exact⟨k+1,_,by omega,by go_num,hown1,R1,R2⟩
    case measure=>simp[intOf];omega
  . have hkl:k=l.length:=by omega
    subst hkl;rw[Bu]at hsk;have hks:=hsk.keys;have hsize:Maps.size D<=l.length:=hown.size_le;have hkeys:=fun W=>callsIn_wide.1 (qF (some w.heap.size) W)
    have hsort:=callsIn_wide.1 (qA w.heap.size l.length D (plainElem Tryz.prog 3) wr hown (by unfold maxLen;omega) (by omega));go_wp2_with (first
      |(go_at_call 101;refine(hkeys _).mono ?_;rintro e w1 ⟨rfl,rfl⟩)
      |(go_at_call 100;refine hsort.mono ?_;rintro e w2 ⟨v,ss,rfl,hS,hrowS,hnil,hbelS⟩))
    go_ret;have hd:=H9 hsk hS;refine⟨_,rfl,?_,?_⟩
    . rw[hd]at hrowS;have hl:ss.length=(bj l).length:=by rw[<-hd];simp
      have he:(encStr:Bs->Value)=dR:=by funext s;simp[encStr]
      rw[hl,he]at hrowS;exact ownsRow_base_a hrowS (by have:=hnx.size;simp;omega)
    . exact(hnx.alloc hnx.size _).trans (hbelS.mono (by have:=hnx.size;simp;omega))
theorem Ps (a:Option Addr) (c:Nat) (w:World):Calls Tryz.prog 54 #[.slice a 0 c] w fun e w'=>∃v,e= .returned v/\w'.ownsRow w.heap.size 9 1 v 0 []/\Below w.heap.size w w':=by
 have hmm:= @run_makeMap Tryz.prog;obtain⟨D,hown0,hsk⟩:∃D:DataW Unit,(w.alloc (.map #[] 0)).ownsMap Tryz.prog 9 (plainElem Tryz.prog 3) w.heap.size 0 D/\SK D []:=⟨.map [],World.ownsMap_made _ _ _ _,SK.start⟩;have hbel0:Below w.heap.size w (w.alloc (.map #[] 0)):=(Below.refl _ _).alloc (Ai _) _;go_enter Tryz.func54,Tryz.ntmps54
 go_wp2;refine wp_loop_rounds 1 ?_;rw[rounds_succ];generalize w.alloc (.map #[] 0)=wr at*
 have hsize:Maps.size D<=0:=hown0.size_le;have hkeys:=fun W=>callsIn_wide.1 (qF (some w.heap.size) W)
 have hsort:=callsIn_wide.1 (qA w.heap.size 0 D (plainElem Tryz.prog 3) wr hown0 (by unfold maxLen;omega) (by omega));go_wp2_with (first
  |(go_at_call 101;refine(hkeys _).mono ?_;rintro e w1 ⟨rfl,rfl⟩)
  |(go_at_call 100;refine hsort.mono ?_;rintro e w2 ⟨v,ss,rfl,hS,hrowS,hnil,hbelS⟩))
 go_ret;have hd:=H9 (l:=[]) hsk hS;have hl:ss.length=0:=by
  have:=Ap List.length hd;simpa [bj]using this
 rw[hd,hl]at hrowS;exact⟨_,rfl,ownsRow_base_a hrowS (by have:=hbel0.size;simp;omega),(hbel0.alloc hbel0.size _).trans (hbelS.mono (by have:=hbel0.size;simp;omega))⟩
theorem SF (hdr:¬(default:aL).dr):CO Hi MU:=kk bA.ok (by
 rintro l ⟨hl,hsh⟩ w args - hargs;obtain⟨h1,h2⟩:=hargs;match args,h1 with
 |[v],_=>
 rcases K6 (h2 0 _ _ rfl rfl)with⟨rfl,a,c,rfl⟩|⟨b,off,cap,rfl,hb,hrow,_⟩
 . exact(Ps a c w).mono fun e w' ⟨v,he,hr,hbel⟩=>⟨v,he, .inr (Mg hr),hbel,fun h=>(hdr h).elim⟩
 . exact(Qb hl hb hrow fun x hx=>by have:=hsh x hx;unfold maxLen;omega).mono fun e w' ⟨v,he,hr,hbel⟩=>⟨v,he, .inr (Mg hr),hbel,fun h=>(hdr h).elim⟩)
end
end Go.Proofs
namespace Go.Proofs
open Go Go.Am Go.RowKit Go.Sy Go.Maps Go.Sort Go.Shelf
section
theorem LX {Fz:Nat->Option AO} {n:Nat} (x:aa):aT Fz (.agg x.enc) (dy n (.agg (fm x).toArray)):=by
 unfold dy;refine .agg (by simp[fm,aa.enc]) fun i c v hc hv=>?_
 have hj:i<11:=(Ae.1 hc).1;unfold aa.enc at hc;unfold fm at hv;match i,hj with
 |0,_|1,_|2,_|3,_=>cases hc;cases hv;exact .str _
 |4,_|5,_|6,_|7,_=>cases hc;cases hv;exact .bool _
 |8,_|9,_|10,_=>cases hc;cases hv;exact .int _ _
theorem UZ {w w':World} (h:Below w.heap.size w w') (hd:w.drawn<=w'.drawn):∃q os,w'=grow (w.drewN q) os:=by
 refine⟨w'.drawn - w.drawn,w'.heap.extract w.heap.size w'.heap.size,?_⟩;unfold grow World.drewN
 cases w' with
 | mk heap tape drawn os output=>
  obtain⟨h1,h2,h3,h4,h5⟩:=h;simp only at h1 h2 h3 h4 h5 hd⊢;subst h1;subst h2;subst h3;congr 1
  . apply BU
    intro i;rw[Ex];split
    . rename_i hi;exact h5 i hi
    . rename_i hi;rw[Fc];by_cases h6:i<heap.size
      . simp only[Nat.min_self];rw[An (by omega),show w.heap.size+(i - w.heap.size)=i by omega]
      . rw[Aj (by omega),DV (by omega)]
  . omega
section
variable [Inhabited aL]
theorem Y3:CO Hp uK:=bO (cfg:=fun y=>bE nL (cS y)) bA (fun _=>rfl) (fun _=>uj) (n:=400) (by
 rw[NZ];rintro⟨a,b⟩ -;exact⟨(a,b),rfl,rfl,rfl,rfl,rfl,rfl,rfl,rfl,rfl,rfl,rfl,rfl,rfl,rfl,rfl,rfl,rfl,rfl,rfl,rfl,rfl,rfl,trivial,rfl,trivial⟩)
theorem WS:pK (fun y:List aa×aA=>iH y.1) bL.args aa (fun y=>eP y.1 y.2) aa.enc (fun y=>bE bZ (cr lF 3 (jN y.1 fun x=>decide (x.key≠y.2)))) 600 mO:=by
 rw[Sl];rintro⟨l,k⟩ hpre;have hpre:l.length<=10000:=hpre;refine⟨⟨0,by simp,?_⟩,?_⟩
 . (repeat' (first|exact trivial|exact rfl|exact(fun _=>rfl)|apply And.intro))
 intro x hx;refine ag.2 ⟨fun hlt=>au.2 ⟨_,cE (cq hlt),?_⟩,fun hge=>by rw[filter_all (gz hge)];rfl⟩;have hlt':x<l.length:=cq hlt;have hlen:=oW (l:=l) (x:=x) (p:=fun z:aa=>decide (z.key≠k));refine ag.2 ⟨fun h=>⟨l[x],rfl,af.2 ⟨by simp only[Ac,AA,Az,AG];omega,af.2 ⟨ch x (by omega),x+1,hlt',?_,?_⟩⟩⟩,fun h=>af.2 ⟨ch x (by omega),x+1,hlt',?_,?_⟩⟩
 . show l.length - (x+1)<l.length - x
   omega
 . have hp:(fun z:aa=>decide (z.key≠k)) l[x]=true:=by rw[mj]at h;simpa using h
   have hf:=kR (p:=fun z:aa=>decide (z.key≠k)) hlt';rw[An hp]at hf
   (repeat' (first|exact trivial|exact rfl|exact(fun _=>rfl)|apply And.intro))
   all_goals (first|(rw[hf])|(simp[ai]))
 . show l.length - (x+1)<l.length - x
   omega
 . have hp:(fun z:aa=>decide (z.key≠k)) l[x]=false:=by rw[mj]at h;simpa using h
   have hf:=kR (p:=fun z:aa=>decide (z.key≠k)) hlt';rw[Aj (by simp only[hp];simp),A9]at hf
   (repeat' (first|exact trivial|exact rfl|exact(fun _=>rfl)|apply And.intro))
   all_goals (first|(rw[hf])|(simp[ai]))
end
theorem Uu:SWO (ltOf hZ) where
 irrefl x:=vz x
 trans x y z:=vM
 ntrans x y z:=Iu
theorem PZ (aY off size:Nat) (w:World):CmpLays Tryz.prog 131 #[] fm 11 hZ aY off size w:=by
 intro m os dk _ x y;letI:Inhabited aL:=⟨⟨True,#[]⟩⟩
 have h:=nh bA.ok Y3 (fn:=Tryz.f131) (hfn:=by kernel_rfl) (hb:=rfl) (y:=(x,y)) trivial (args:=[.agg (fm x).toArray, .agg (fm y).toArray]) (w:=sortWorldK fm 11 w aY off m dk os) (PL.cons (LX x) (PL.cons (LX y) PL.nil)) (db.oV rfl _);refine Calls.mono h ?_;rintro e w' ⟨v,rfl,hv,hbel,hd⟩;have hv:v= .int .i64 (hZ x y):=FF hv;exact⟨by rw[hv],UZ hbel (hd trivial)⟩
theorem P2:∀w,(isAgg (qK.t 24)).run Tryz.prog w= .ok true w:=fun w=>by kernel_rfl
theorem PH:∀w,(Go.sizeOf (qK.t 24)).run Tryz.prog w= .ok 11 w:=fun w=>by kernel_rfl
theorem LH (x:aa):∀v∈fm x,v.oneCell'=true:=by
 intro v hv;unfold fm at hv;simp only[Ak,BN,Dr]at hv;rcases hv with rfl|rfl|rfl|rfl|rfl|rfl|rfl|rfl|rfl|rfl|rfl<;>rfl
theorem PE (aY off cap:Nat) (d:Array aa) (w:World) (hH:HoldsK fm 11 w aY off d) (hblk:aY<w.heap.size) (hsz:d.size<4611686018427387904):
  Calls Tryz.prog 130 #[.slice (some ⟨aY,off,none⟩) d.size cap, .func (.func 131) #[] #[]] w fun e w'=>e= .returned (.tuple #[])/\ ∃d' n os,PermIn 0 d.size d d'/\SortedIn (ltOf hZ) 0 d.size d'/\w'=sortWorldK fm 11 w aY off n d' os:=
 AnyQ.slices_SortFunc PN 11 P2 PH fm (fun _=>rfl) LH hZ Uu 131 #[] aY off cap d w (enters_of Tryz.func131 (by kernel_rfl) rfl) (PZ aY off d.size w) hH hblk hsz
def jm (w:World) (v:Value) (l:List aa):Prop:=(l=[]/\ ∃a c,v= .slice a 0 c)\/
 ∃b off cap,v= .slice (some ⟨b,off,none⟩) l.length cap/\l.length<=cap/\(∃arr e fz,w.heap[b]? =some (.cells arr e fz)/\off+l.length*11<=arr.size)/\rowAt w b off l
theorem jm.below {w w':World} {v:Value} {l:List aa} (h:jm w v l) (hb:Below w.heap.size w w'):jm w' v l:=by
 rcases h with h|⟨b,off,cap,h1,h2,⟨arr,e,fz,h3,h4⟩,h5⟩
 . exact .inl h
 . have hlt:=(Ad.1 h3).1;exact .inr ⟨b,off,cap,h1,h2,⟨arr,e,fz,by rw[hb.block b hlt];exact h3,h4⟩,h5.below hb hlt⟩
section
variable [Inhabited aL]
theorem I9 {w:World} {n:Nat} {l:List aa} {v:Value} (h:qm w n l aa.enc v):jm w v l/\Up w n (items l) v:=by
 rcases h with⟨rfl,h0⟩|⟨b,cap,arr,e,fz,sz,rfl,h1,h2,h3,h4,h5,h6,h7⟩
 . exact⟨.inl ⟨AQ.1 h0,none,0,rfl⟩, .fU h0⟩
 . have hsz:l≠[]->sz=11:=by
    intro hne
    cases hL:l with
    |nil=>exact absurd hL hne
    |cons x l'=>exact(h6 0 x (by rw[hL];rfl)).symm
   have hl:0+l.length*11<=arr.size:=by
    by_cases hne:l=[]
    . subst hne;simp
    . rw[<-hsz hne];omega
   have hcell:∀(i:Nat) x (j:Nat) v,l[i]? =some x->(fm x)[j]? =some v->arr[0+i*11+j]? =some v:=by
    intro i x j v hx hv;have hj:j<11:=(Ae.1 hv).1;obtain⟨s,hs⟩:=LJ (x:=x) hj;obtain⟨u,hu,hr⟩:=h7 i x j s hx hs;have:sz=11:=(h6 i x hx).symm;subst this;rw[LZ hs hv hr]at hu;rw[Ay];exact hu
   refine⟨.inr ⟨b,0,cap,rfl,h3,⟨arr,e,fz,h2,hl⟩,fun i x j v hx hv=>?_⟩,WE h1 h2 h3 hl hcell⟩;unfold World.cell?
   simp only[h2,A2,Ao,AK];exact hcell i x j v hx hv
theorem YW {Fz:Nat->Option AO} {n:Nat} (k:aA):aT Fz (.agg k.enc) (dy n (.agg #[dR k.name,dR k.domain,dR k.path])):=by
 unfold dy;refine .agg rfl fun i c v hc hv=>?_
 have hj:i<3:=(Ae.1 hc).1;unfold aA.enc at hc;match i,hj with
 |0,_|1,_|2,_=>cases hc;cases hv;exact .str _
theorem VC {tab:bC} {w:World} {v:Value} {l:List aa} (h:jm w v l):aT (bW tab w).get (items l) (dy w.heap.size v):=by
 rcases h with⟨rfl,a,c,rfl⟩|⟨b,off,cap,rfl,h2,h3,h4⟩
 . show aT _ (items []) (cU w.heap.size (.slice a 0 c))
   cases a with
   |none=>
    cases c with
    |zero=>exact .cf rfl (.inl rfl)
    |succ c=>exact .cf rfl (.inr (.inr ⟨_,_,rfl⟩))
   |some a=>rw[wB];exact .cf rfl (.inr (.inr ⟨_,_,rfl⟩))
 . exact UO h2 h3 h4
theorem Oi {l:List aa} {k:aA} {v:Value} {w:World} (hl:l.length<=10000) (h:jm w v l) (hw:db w):
  Calls Tryz.prog 50 #[v, .agg #[dR k.name,dR k.domain,dR k.path]] w fun e w'=>∃u,e= .returned u/\jm w' u (eP l k)/\qm w' w.heap.size (eP l k) aa.enc u/\Below w.heap.size w w':=by
 refine Calls.mono (To bA (fun _=>rfl) (fun _=>gO) (fn:=Tryz.f50) (by kernel_rfl) WS (y:=(l,k)) hl (args:=[v, .agg #[dR k.name,dR k.domain,dR k.path]]) (w:=w) (PL.cons (VC h) (PL.cons (YW k) PL.nil)) hw) ?_;rintro e w' ⟨u,rfl,hu,hb,_⟩;exact⟨u,rfl,(I9 hu).1,hu,hb⟩
theorem RE {w:World} {n m:Nat} {l:List aa} {v:Value} (h:qm w n l aa.enc v) (hm:m<=n):qm w m l aa.enc v:=by
 rcases h with h|⟨b,cap,arr,e,fz,sz,h0,h1,h2⟩
 . exact .inl h
 . exact .inr ⟨b,cap,arr,e,fz,sz,h0,by omega,h2⟩
end
theorem R9 (w:World) (g off n:Nat) (d:Array aa) (os:Array Obj) {B:Nat} (hg:B<=g) (hB:B<=w.heap.size):Below B w (sortWorldK fm 11 w g off n d os):=by
 refine⟨rfl,rfl,rfl,size_sortWorldK_c fm 11 w g off n d os,fun k hk=>?_⟩;unfold sortWorldK grow putRowK putRow mapBlock Sort.ahead;simp only;rw[Ef (by simp;omega)];rw[Di];rw[Aj (by omega)]
theorem Lj (l:List aa) {t:Nat} {u:Value} (h:(flatK fm 11 l.toArray).toList[t]? =some u):∃x,l[t / 11]? =some x/\(fm x)[t % 11]? =some u:=by
 have ht:t<l.length*11:=by
  have:=(Ae.1 h).1;simpa using this
 have hi:t / 11<l.length:=by omega
 refine⟨l[t / 11],Af hi,?_⟩;have h1:=get_flatK fm 11 l.toArray t (by simpa using ht);rw[Ba]at h;rw[BQ _ t (by simpa using ht)]at h1;rw[AX (by simpa using ht),h1]at h
 cases h;have h2:(l.toArray[t / 11]! :aa)=l[t / 11]:=by rw[BQ _ _ (by simpa using hi)];simp
 rw[h2,Af (show t % 11<(fm l[t / 11]).length by rw[Tw];omega),BQ]
theorem RW {l:List aa} {d':Array aa} (hp:PermIn 0 l.toArray.size l.toArray d') (hs:SortedIn (ltOf hZ) 0 l.toArray.size d'):d'.toList.Perm l/\d'.toList.Pairwise (fun a b=>fx b a=false)/\d'.size=l.length:=by
 obtain⟨h1,_,h3⟩:=hp;have hsz:d'.size=l.length:=by simpa using h1
 refine⟨?_,?_,hsz⟩
 . rw[show d'.extract 0 l.toArray.size=d' by rw[<-h1];simp]at h3;simpa using h3
 . rw[Bt];intro i j hi hj hij;simp only[Array.length_toList]at hi hj;have:=hs i j (Au _) hij (by simp;omega);rw[BQ d' j hj,BQ d' i hi]at this;simp only[EA];exact this
theorem P6:(Tryz.prog.info? 48).map (fun i=>(i.zero,i.size,i.bytes))=some (some (.agg (fm je).toArray),11,96):=by kernel_rfl
end
section
variable [Inhabited aL]
theorem PF {l:List aa} {b off cap:Nat} {w:World} (hl:l.length<=10000) (h:rowAt w b off l):
   Calls Tryz.prog 129 #[.slice (some ⟨b,off,none⟩) l.length cap] w fun e w'=>∃g c,e= .returned (.slice (some ⟨g,0,none⟩) l.length c)/\w.heap.size<=g/\g<w'.heap.size/\l.length<=c/\HoldsK fm 11 w' g 0 l.toArray/\Below w.heap.size w w':=by
 obtain⟨i0,hi,hz0,hz1,hz2⟩:=info_parts P6;have hnl:(flatK fm 11 l.toArray).toList.length=l.length*11:=by simp
 have hc:=AnyE.slices_Clone OR i0 _ 11 96 hi hz0 hz1 hz2 rfl (by decide) (fun w=>by kernel_rfl) b off l.length cap (flatK fm 11 l.toArray).toList w hnl (by unfold maxLen;omega) (by omega)
   (fun j u hu=>by
     obtain⟨x,hx,hxu⟩:=Lj l hu;have:=h (j / 11) x (j % 11) u hx hxu;rw[show off+j / 11*11+j % 11=off+j by omega]at this;exact this)
   (fun u hu=>by
     obtain⟨j,hj,rfl⟩:=Bd hu;obtain⟨x,hx,hxu⟩:=Lj l (Af hj);exact LH x _ (Bz hxu))
 refine Calls.mono hc ?_;rintro e w' ⟨v',rfl,⟨h1,⟨rfl,_⟩|⟨g,c,cur,rfl,hg,hw,hn,_,hcs,htk⟩⟩,hne,hb⟩
 . exact absurd rfl hne
 . refine⟨g,c,rfl,hg,(Ad.1 hw).1,hn,fun j hj=>?_,hb⟩;have hj2:j<l.length*11:=by simpa using hj
   have h2:=Ap (fun l=>l[j]?) htk;simp only[Bc,An hj2,Ba]at h2;have hjf:j<(flatK fm 11 l.toArray).size:=hj;rw[AX hjf]at h2;constructor
   . unfold World.cell?
     simp only[hw,A2,Ao,AK,Ay];rw[h2,BQ _ j hjf];rfl
   . unfold World.frozen?
     simp[hw]
theorem HX:∀(s l:List aa),(s.foldl (fun a x=>eP a x.key) l).length<=l.length
 |[],l=>Ai _
 |x::s,l=>Aq (HX s _) (zo l x.key)
theorem P9 {l:List aa} {m b off cap:Nat} {w:World} (hl:l.length<=10000) (hk:KN l) (hm:m<l.length) (h:jm w (.slice (some ⟨b,off,none⟩) l.length cap) l) (hrow:rowAt w b off l) (hb:b<w.heap.size) (hw:db w):
  Calls Tryz.prog 90 #[.slice (some ⟨b,off,none⟩) l.length cap, .int .i64 m] w fun e w'=>∃u,e= .returned u/\qm w' w.heap.size (fc m l) aa.enc u/\Below w.heap.size w w':=by
 have hclone:=PF (cap:=cap) hl hrow;go_enter Tryz.func90,Tryz.ntmps90
 go_wp2_with (go_at_call 129;refine hclone.mono ?_;rintro e w1 ⟨g,c,rfl,hg,hg1,hlc,hH,hbel1⟩)
 have hsort:=PE g 0 c l.toArray w1 hH hg1 (by simp;omega);rw[show l.toArray.size=l.length by simp]at hsort;refine Calls.mono hsort ?_;rintro e w2 ⟨rfl,d',n,os,hp,hs,hw2⟩;have hbel2:Below w.heap.size w w2:=hbel1.trans (by rw[hw2];exact R9 w1 g 0 n d' os hg hbel1.size);obtain⟨hperm,hpw,hdsz⟩:=RW (l:=l) (d':=d') (by simpa using hp) (by simpa using hs);have hH2:HoldsK fm 11 w2 g 0 d':=by rw[hw2];exact holdsK_sortWorldK_c fm 11 w1 g 0 l.toArray d' n os hH hg1 (by simp[hdsz])
 have hg2:g<w2.heap.size:=by rw[hw2];exact AP hg1 (size_sortWorldK_c fm 11 w1 g 0 n d' os)
 clear hw2 hp hs hsort hclone hH;have hlen:l.length - m<=d'.size:=by omega
 have hsub:(wrap64 ((l.length:Int) - (m:Int)))=((l.length - m:Nat):Int):=by
  rw[wrap64];omega
 go_wp2;generalize hnm:l.length - m=q at hlen hsub⊢
 go_loopw [0,24] (fun v i wr=>∃k:Nat,k<=q/\i= .int .i64 k/\jm wr v ((d'.toList.take k).foldl (fun a x=>eP a x.key) l)/\(k=0\/qm wr w.heap.size ((d'.toList.take k).foldl (fun a x=>eP a x.key) l) aa.enc v)/\Below w2.heap.size w2 wr)
  (fun _ i _=>q - (intOf i).toNat)
 case atStart=>exact⟨0,Au _,rfl,h.below (hbel2.mono (Ai _)), .inl rfl,Below.refl _ _⟩
 case round=>
  obtain⟨k,hkq,rfl,hv,hnew,hbw⟩:=hrel;by_cases hlt:k<q
  . have hkd:k<d'.size:=by omega
    have hHw:HoldsK fm 11 wr g 0 d':=fun j hj=>by
      have:=hH2 j hj;unfold World.cell? World.frozen? at this⊢;rw[hbw.block g hg2];exact this
    have hcl:∀c,c<11->wr.cell? ⟨g,0+k*11+c,none⟩=some (fm d'[k])[c]! :=fun c hc=>by
      have:=(hHw.cell (i:=k) (c:=c) hkd hc).1;rw[BQ d' k hkd]at this;exact this
    obtain⟨x,hx⟩:∃x,x=d'[k]:=⟨_,rfl⟩;have hcur:((d'.toList.take k).foldl (fun a x=>eP a x.key) l).length<=10000:=by
      have:=HX (d'.toList.take k) l;omega
    have hnext:(d'.toList.take (k+1)).foldl (fun a x=>eP a x.key) l=eP ((d'.toList.take k).foldl (fun a x=>eP a x.key) l) x.key:=by
      rw[hx,kW _ _ (by simpa using hkd)];simp
    have c0:wr.cell? ⟨g,k*11,none⟩=some (dR x.key.name):=by have:=hcl 0 (by omega);rw[Ay,BL,<-hx]at this;exact this
    have c1:wr.cell? ⟨g,k*11+1,none⟩=some (dR x.key.domain):=by have:=hcl 1 (by omega);rw[Ay,<-hx]at this;exact this
    have c2:wr.cell? ⟨g,k*11+2,none⟩=some (dR x.key.path):=by have:=hcl 2 (by omega);rw[Ay,<-hx]at this;exact this
    have c3:wr.cell? ⟨g,k*11+3,none⟩=some (dR x.ab.value):=by have:=hcl 3 (by omega);rw[Ay,<-hx]at this;exact this
    have c4:wr.cell? ⟨g,k*11+4,none⟩=some (.bool x.ab.aF):=by have:=hcl 4 (by omega);rw[Ay,<-hx]at this;exact this
    have c5:wr.cell? ⟨g,k*11+5,none⟩=some (.bool x.ab.aV):=by have:=hcl 5 (by omega);rw[Ay,<-hx]at this;exact this
    have c6:wr.cell? ⟨g,k*11+6,none⟩=some (.bool x.ab.aG):=by have:=hcl 6 (by omega);rw[Ay,<-hx]at this;exact this
    have c7:wr.cell? ⟨g,k*11+7,none⟩=some (.bool x.ab.persistent):=by have:=hcl 7 (by omega);rw[Ay,<-hx]at this;exact this
    have c8:wr.cell? ⟨g,k*11+8,none⟩=some (.int .i64 x.ab.aP):=by have:=hcl 8 (by omega);rw[Ay,<-hx]at this;exact this
    have c9:wr.cell? ⟨g,k*11+9,none⟩=some (.int .i64 x.ab.aq):=by have:=hcl 9 (by omega);rw[Ay,<-hx]at this;exact this
    have c10:wr.cell? ⟨g,k*11+10,none⟩=some (.int .i64 x.ab.access):=by have:=hcl 10 (by omega);rw[Ay,<-hx]at this;exact this
    clear hx hcl hHw;have hsz0:w.heap.size<=wr.heap.size:=Aq hbel2.size hbw.size;go_wp2_with (go_at_call 50;refine(Oi (k:=x.key) hcur (hv.below ((Below.refl _ _).alloc (Ai _) _)) (((hw.below hbel2).below hbw).below ((Below.refl _ _).alloc (Ai _) _))).mono ?_;rintro e w3 ⟨u,rfl,hu1,hu2,hu3⟩)
    have R1:=hnext.symm▸hu1;have R2:=hnext.symm▸(RE hu2 (m:=w.heap.size) (by simp;omega));have R3:Below w2.heap.size w2 w3:=(hbw.alloc hbw.size _).trans (hu3.mono (by have:=hbw.size;simp;omega));clear hu1 hu2 hu3 hv hnew c0 c1 c2 c3 c4 c5 c6 c7 c8 c9 c10 hnext;go_roundw
    case rel=>exact⟨k+1,by omega,by go_num,R1, .inr R2,R3⟩
    case measure=>simp[intOf];omega
  . have hkq':k=q:=by omega
    subst hkq';go_wp2;go_ret;refine⟨_,rfl,?_,hbel2.trans (hbw.mono hbel2.size)⟩;rcases hnew with h0|hnew
    . omega
    . rw[<-hnm,Zr m l.length l d'.toList (by omega) hk hperm hpw]at hnew;exact hnew
theorem Pq (a:Option Addr) (n cap m:Nat) (h:n<=m) (w:World):Calls Tryz.prog 90 #[.slice a n cap, .int .i64 m] w fun e w'=>e= .returned (.slice a n cap)/\w'=w:=by
 go_enter Tryz.func90,Tryz.ntmps90
 go_wp2;go_ret;exact⟨rfl,rfl⟩
theorem Y4 (hdr:¬(default:aL).dr):CO HE MY:=kk bA.ok (by
 rintro⟨l,m⟩ ⟨hl,hk,hm⟩ w args hold ⟨h1,h2⟩;have hm:0<=m:=hm;obtain⟨q,rfl⟩:∃q:Nat,m=(q:Int):=⟨m.toNat,by omega⟩;match args,h1 with
 |[v,u],_=>
 have hu:=FF (h2 1 _ _ rfl rfl);subst hu;have hv:=K6 (h2 0 _ _ rfl rfl);have hl:l.length<=10000:=hl;have hk:KN l:=hk;by_cases hq:l.length<=q
 . obtain⟨a,cap,rfl⟩:∃a cap,v= .slice a l.length cap:=by
     rcases hv with⟨rfl,a,c,rfl⟩|⟨b,off,cap,rfl,_⟩
     . exact⟨a,c,rfl⟩
     . exact⟨_,cap,rfl⟩
   refine Calls.mono (Pq a l.length cap q hq w) ?_;rintro e w' ⟨rfl,rfl⟩;refine⟨_,rfl, .inl ⟨0,?_,rfl⟩,Below.refl _ _,fun h=>(hdr h).elim⟩;show some (items l)=some (items (fc ((q:Int)).toNat l))
   rw[Dq,tK hq]
 . rcases hv with⟨rfl,a,c,rfl⟩|⟨b,off,cap,rfl,hb,hrow,hcap,hcells⟩
   . simp at hq
   . refine Calls.mono (P9 (m:=q) (cap:=cap) hl hk (Nat.lt_of_not_le hq) (.inr ⟨b,off,cap,rfl,hcap,hcells,hrow⟩) hrow hb hold) ?_;rintro e w' ⟨u,rfl,hu,hbel⟩;exact⟨u,rfl, .inr (by
       show Up w' w.heap.size (items (fc ((q:Int)).toNat l)) u
       rw[Dq];exact(I9 hu).2),hbel,fun h=>(hdr h).elim⟩)
end
end Go.Proofs
namespace Go.Proofs
open Go Go.Am Go.RowKit Go.Sy Go.Gm Go.Maps Go.Sort Go.Shelf
section
abbrev fL (c:az) (m:aK) (now:Int):List aa×Int:=gX (c,cG m,now)
def lA (c:az) (m:aK) (now:Int):List bY:=iv (cy m (fL c m now).1)
theorem JK {m:aK} {l:List aa} {i:Nat}:(cy m (l.take i)).length<=(cy m l).length:=by
 conv=>rhs;rw[<-Dh i l]
 unfold cy;rw[Dz,AU];omega
section
variable [Inhabited aL]
theorem tA (hdr:¬(default:aL).dr):∀g C,qt g=some C->CO g C:=bG (SF hdr) (bG (Y4 hdr) KJ)
noncomputable def Nh (f:FuncId):Option aM:=bif Nat.beq f mU then some FU else ym f
theorem Vw (hdr:¬(default:aL).dr):∀f C,Nh f=some C->CO f C:=bG (Zc (Vu (tA hdr))) (Ce hdr)
structure fO (c:az) (m:aK) (now:Int):Prop where
 rules:uG c
 iH:(cG m).length<=10000
 short:uO (cG m)
 cw:(cy m (fL c m now).1).length<=10000
 one:m.kept.length<=2000
 room:m.kept.length+(lA c m now).length<=2048
def LC:aM:={Y:=az×(Nat×aK)×Int,pre:=fun y=>cD y.2.1.1 y.2.1.2/\fO y.1 y.2.1.2 y.2.2,args:=fun y=>[.agg y.1.enc, .wp ⟨y.2.1.1,0,none⟩,i64 y.2.2],res:=fun y=> .bJ [jd (lA y.1 y.2.1.2 y.2.2),i64 (fL y.1 y.2.1.2 y.2.2).2]}
theorem Fy (y:az×List aa×Int):(gX y).1.length<=y.2.1.length:=by
 unfold gX;split
 . exact Au _
 . exact Ma _ _
theorem VO (hdr:¬(default:aL).dr):CO Hd LC:=bO (cfg:=fun(y:az×(Nat×aK)×Int)=>cg Nh (cr qI 3 (LK y.2.1.2 (fL y.1 y.2.1.2 y.2.2).1 1))) bA (fun _=>rfl) (fun _=>Vw hdr) (n:=900) (by
 rintro⟨c,⟨b,m⟩,now⟩ ⟨hm,hp⟩;have hm:cD b m:=hm;have hp:fO c m now:=hp;have hil:(fL c m now).1.length<=10000:=Aq (Fy _) hp.iH
 (conv=>whnf)
 refine⟨some (b,m),?_⟩
 repeat ((conv=>whnf);first|refine⟨rfl,?_⟩|refine⟨trivial,?_⟩)
 refine⟨hm,?_⟩
 (conv=>whnf)
 refine⟨(c,cG m,now),?_⟩
 repeat ((conv=>whnf);first|refine⟨rfl,?_⟩|refine⟨trivial,?_⟩)
 refine⟨⟨hp.rules,hp.iH,hp.short⟩,?_⟩
 (conv=>whnf)
 refine aJ (fun h=>?_) fun h=>?_
 . have h:(!decide ((fL c m now).2=0))=true:=h;have h0:(fL c m now).1=[]:=by
     show(gX (c,cG m,now)).1=[]
     unfold gX;split
     . rfl
     . rename_i hn;exfalso;have:(fL c m now).2=0:=by
        show(gX (c,cG m,now)).2=0
        unfold gX;rw[Aj hn]
       rw[Bj this]at h;cases h
   (conv=>whnf)
   refine⟨?_,?_⟩
   . show lA c m now=[]
     unfold lA;rw[h0];rfl
   repeat' (first|exact trivial|exact rfl|((conv=>whnf);first|(apply aJ<;>intro)|apply And.intro))
 have hz:(fL c m now).2=0:=by
   have h:(!decide ((fL c m now).2=0))=false:=h;simpa using h
 (conv=>whnf)
 refine⟨⟨(0:Nat),Au _,?_⟩,?_⟩
 . repeat' (first|exact trivial|exact rfl|((conv=>whnf);first|(apply aJ<;>intro)|apply And.intro))
   all_goals exact au.2 ⟨_,rfl,af.2 ⟨rfl,fun _=>rfl⟩⟩
 intro (x:Nat) hx;have hx:x<=(fL c m now).1.length:=hx
 (conv=>whnf)
 refine aJ (fun hlt=>?_) fun hge=>?_
 . have hlt':x<(fL c m now).1.length:=cq hlt
   (conv=>whnf)
   refine au.2 ⟨_,cE hlt',?_⟩
   (conv=>whnf)
   refine⟨((some (b,m),(fL c m now).1[x].key):Mp×aA),?_⟩
   repeat ((conv=>whnf);first|refine⟨rfl,?_⟩|refine⟨trivial,?_⟩)
   refine⟨hm,?_⟩
   (conv=>whnf)
   have hf:=zG (m:=m) hlt';have h1:=JK (m:=m) (l:=(fL c m now).1) (i:=x);have h2:=Aq (pf m (fL c m now).1[x].key) hp.one;have h3:=hp.cw;refine⟨fun _=>⟨rfl,rfl⟩,kv m (fL c m now).1[x].key,rfl,af.2 ⟨rr _ (by show(cy m ((fL c m now).1.take x)).length+(kv m (fL c m now).1[x].key).length<=600000;omega),?_⟩⟩
   (conv=>whnf)
   refine af.2 ⟨ch x (by omega),?_⟩
   (conv=>whnf)
   refine⟨(x+1:Nat),hlt',by show(fL c m now).1.length - (x+1)<(fL c m now).1.length - x;omega,?_⟩
   repeat' (first|exact trivial|exact rfl|((conv=>whnf);first|(apply aJ<;>intro)|apply And.intro))
   all_goals ((conv=>whnf);rw[hf])
 . have hge':(fL c m now).1.length<=x:=gf hge;have h1:=hp.cw
   (conv=>whnf)
   refine⟨cy m (fL c m now).1,?_⟩
   (conv=>whnf)
   refine⟨by rw[As hge'],?_⟩
   repeat ((conv=>whnf);first|refine⟨rfl,?_⟩|refine⟨trivial,?_⟩)
   refine⟨by show(cy m (fL c m now).1).length<=1000000;omega,?_⟩
   (conv=>whnf)
   refine⟨(b,m,lA c m now),?_⟩
   repeat ((conv=>whnf);first|refine⟨rfl,?_⟩|refine⟨trivial,?_⟩)
   refine⟨⟨hm,pW (by omega)⟩,?_⟩;have hfit:decide (m.kept.length+(lA c m now).length<=2048)=true:=Bj hp.room
   (conv=>whnf)
   refine aJ (fun h=>?_) fun h=>?_
   . have h:(!decide (m.kept.length+(lA c m now).length<=2048))=true:=h;rw[hfit]at h;cases h
   . repeat' (first|exact trivial|exact rfl|((conv=>whnf);first|(apply aJ<;>intro)|apply And.intro))
     exact hz.symm)
end
end
section
variable [Inhabited aL]
theorem Rj {G:bD} {m:aK} (g:cV G m):gS (cG m)=true:=by
 rw[fH];unfold cG;rw[DO];exact Ia g
theorem Zw {c:az} {m:aK} {now:Int} (hr:gS (cG m)=true) (h:(fL c m now).2=0):eL c=0/\(fL c m now).1=jg (cG m) (fo (aD c) (cA c) (cG m) now):=by
 by_cases hc:eL c=0
 . refine⟨hc,?_⟩;have e:=MA (l:=cG m) (now:=now) hc hr;show(gX (c,cG m,now)).1=_
   rw[FA (by rw[e]),e]
 . exfalso;have e:=Lz (l:=cG m) (now:=now) hc;have h:(gX (c,cG m,now)).2=0:=h;rw[CL (by rw[e];exact hc),e]at h;exact hc h
theorem Xj {c:az} {m:aK} {now:Int} (h:(fL c m now).2≠0):lA c m now=[]:=by
 unfold lA;have h0:(fL c m now).1=[]:=by
  show(gX (c,cG m,now)).1=[]
  have h:(gX (c,cG m,now)).2≠0:=h;unfold gX at h⊢;split
  . rfl
  . rename_i hn;rw[Aj hn]at h;exact absurd rfl h
 rw[h0];rfl
end
section
def iR (w:World) (u:Value) (m:aK):Prop:=∃vc vk vd,u= .agg #[vc,vk,vd]/\cK w m.ctx vc/\eW w m.kept vk/\cK w m.dead vd
theorem iR.cells {w w':World} (hc:jJ w w') {u:Value} {m:aK} (h:iR w u m):iR w' u m:=by
 obtain⟨vc,vk,vd,h1,h2,h3,h4⟩:=h;exact⟨vc,vk,vd,h1,h2.cells hc,h3.cells hc,h4.cells hc⟩
section
variable [Inhabited aL]
theorem ZC {w:World} {p:Nat->Prop} {g:Bool} {m:aK} {u:Value} (h:Rd w p g (.agg m.enc) u):iR w u m:=by
 cases h with
 | @agg cs vs h1 h2=>
  obtain⟨l⟩:=vs;match l,h1 with
  |[x,y,z],_=>exact⟨x,y,z,rfl,xe (h2 0 _ _ rfl rfl),MB (h2 1 _ _ rfl rfl),xe (h2 2 _ _ rfl rfl)⟩
end
end
structure ij (b0:Nat) (w w':World):Prop where
 same:∀i,i≠b0->w'.heap[i]? =w.heap[i]?
 bare:∀arr e fz,w.heap[b0]? =some (.cells arr e fz)->∀(i:Nat) (k:IntKind) (z:Int),arr[i]? ≠some (Value.int k z)
theorem cK.box {w w':World} {b0:Nat} (hb:ij b0 w w') {l:List ar} {v:Value} (h:cK w l v):cK w' l v:=by
 rcases h with h|⟨b,off,cap,arr,e,fz,rfl,h2,h3,h4,h5⟩
 . exact .inl h
 . by_cases h0:l=[]
   . subst h0;exact .inl ⟨rfl,_,_,rfl⟩
   . refine .inr ⟨b,off,cap,arr,e,fz,rfl,?_,h3,h4,h5⟩;rw[hb.same b fun eb=>?_]
     . exact h2
     . subst eb;exact hb.bare arr e fz h2 _ _ _ (h5 0 (AY.2 h0)).1
theorem eW.box {w w':World} {b0:Nat} (hb:ij b0 w w') {l:List ae} {v:Value} (h:eW w l v):eW w' l v:=by
 rcases h with h|⟨b,off,cap,arr,e,fz,rfl,h2,h3,h4,h5⟩
 . exact .inl h
 . by_cases h0:l=[]
   . subst h0;exact .inl ⟨rfl,_,_,rfl⟩
   . refine .inr ⟨b,off,cap,arr,e,fz,rfl,?_,h3,h4,fun i hi=>by obtain⟨u,k1,k2⟩:=h5 i hi;exact⟨u,k1,k2.box hb⟩⟩;rw[hb.same b fun eb=>?_]
     . exact h2
     . subst eb;obtain⟨u,k1,_⟩:=h5 0 (AY.2 h0);exact hb.bare arr e fz h2 _ _ _ (k1 0 (by omega))
theorem iR.box {w w':World} {b0:Nat} (hb:ij b0 w w') {u:Value} {m:aK} (h:iR w u m):iR w' u m:=by
 obtain⟨vc,vk,vd,h1,h2,h3,h4⟩:=h;exact⟨vc,vk,vd,h1,h2.box hb,h3.box hb,h4.box hb⟩
theorem cW.box {w w':World} {n b bk ba bd bs bv b0:Nat} {G:bD} (h:cW w n b bk ba bd bs bv G) (hb:ij b0 w w') (h0:b0<n):cW w' n b bk ba bd bs bv G:=by
 have hl:=h.low;simp only[Ak,Av]at hl;have ne:∀j,n<=j->w'.heap[j]? =w.heap[j]? :=fun j hj=>hb.same j (by omega)
 exact⟨eg h.c0 (ne _ (hl _ (.inl rfl))),eg h.c1 (ne _ (hl _ (.inl rfl))),eg h.c2 (ne _ (hl _ (.inl rfl))),eg h.c3 (ne _ (hl _ (.inl rfl))),eg h.cv (ne _ (hl _ (.inr (.inl rfl)))),
  h.ir.same (ne _ (hl _ (.inr (.inr (.inl rfl))))),h.ma.same (ne _ (hl _ (.inr (.inr (.inr (.inl rfl)))))),h.md.same (ne _ (hl _ (.inr (.inr (.inr (.inr (.inl rfl))))))),h.mv.same (ne _ (hl _ (.inr (.inr (.inr (.inr (.inr (.inl rfl)))))))),
  fun x hx=>(h.mi x hx).same (ne _ (hl _ (.inr (.inr (.inr (.inr (.inr (.inr ⟨x,hx,rfl⟩)))))))),h.nd,h.low,fun x hx=>by obtain⟨v,k1,k2⟩:=h.ev x hx;exact⟨v,k1,k2.box hb⟩⟩
theorem ry {w:World} {b o:Nat} {arr:Array Value} {ty:TypeId} {fz:Nat×Nat} (h:w.heap[b]? =some (.cells arr ty fz)) (v:Value):(w.setCell ⟨b,o,none⟩ v).heap[b]? =some (.cells (arr.setIfInBounds o v) ty fz):=by
 have h4:=(Ad.1 h).2;simp only[World.setCell,Di,h];simp
theorem zD {w:World} {b o:Nat} {arr:Array Value} {ty:TypeId} (h:w.heap[b]? =some (.cells arr ty (0,0))):w.frozen? ⟨b,o,none⟩=false:=by simp[World.frozen?,h]
theorem MQ {w:World} {b:Nat} (h:w.heap[b]? =some (.cells #[.slice none 0 0, .slice none 0 0, .slice none 0 0] 45 (0,0))) (x y z:Value):∃W1 W2 W3,w.setCell ⟨b,0,none⟩ x=W1/\W1.setCell ⟨b,1,none⟩ y=W2/\W2.setCell ⟨b,2,none⟩ z=W3/\
   w.cell? ⟨b,0,none⟩=some (.slice none 0 0)/\w.frozen? ⟨b,0,none⟩=false/\W1.cell? ⟨b,1,none⟩=some (.slice none 0 0)/\W1.frozen? ⟨b,1,none⟩=false/\W2.cell? ⟨b,2,none⟩=some (.slice none 0 0)/\W2.frozen? ⟨b,2,none⟩=false/\
   W3.cell? ⟨b,0,none⟩=some x/\W3.cell? ⟨b,1,none⟩=some y/\W3.cell? ⟨b,2,none⟩=some z/\ij b w W3/\ ∀B,B<=b->Below B w W3:=by
 have h1:=ry (o:=0) h x;have h2:=ry (o:=1) h1 y;have h3:=ry (o:=2) h2 z;refine⟨_,_,_,rfl,rfl,rfl,cell_of h,zD h,cell_of h1,zD h1,cell_of h2,zD h2,cell_of h3,cell_of h3,cell_of h3,⟨fun i hi=>?_,fun arr e fz ha i k q=>?_⟩,fun B hB=>?_⟩
 . rw[Below.heap_setCell _ _ _ _ hi,Below.heap_setCell _ _ _ _ hi,Below.heap_setCell _ _ _ _ hi]
 . rw[h]at ha
   cases ha;match i with
   |0|1|2=>intro e;cases e
   |_+3=>intro e;cases e
 . exact(((Below.refl B w).setCell hB x).setCell hB y).setCell hB z
theorem O1 {w:World} {b:Nat} {x y z:Value} (h0:w.cell? ⟨b,0,none⟩=some x) (h1:w.cell? ⟨b,1,none⟩=some y) (h2:w.cell? ⟨b,2,none⟩=some z):(loadVar 45 ⟨b,0,none⟩).run Tryz.prog w= .ok (.agg #[x,y,z]) w:=by
 have h:w.rangeAt b 0 [x,y,z]:=fun j v hj=>by
  match j with
  |0=>cases hj;exact h0
  |1=>cases hj;exact h1
  |2=>cases hj;exact h2
  |_+3=>cases hj
 exact run_loadVar_mid w b 0 45 [x,y,z] _ h Tryz.underlying45 rfl (by kernel_rfl)
theorem QG {fn:Func} {s t:Tmp} {ty:TypeId} (h:fn.results=#[.tmp s, .cell t ty]) {tmps:Array Value} {w:World} {a:Addr} {v:Value} (hp:tmps.getD t undef= .pointer (some a)) (hl:(loadVar ty a).run Tryz.prog w= .ok v w):(results fn tmps).run Tryz.prog w= .ok (.tuple #[tmps.getD s undef,v]) w:=by
 have hp':tmps[t]?.getD undef= .pointer (some a):=by simpa using hp
 simp[results,h,asAddr,hp',hl]
theorem cW.mono {w:World} {n k b bk ba bd bs bv:Nat} {G:bD} (h:cW w n b bk ba bd bs bv G) (hk:k<=n):cW w k b bk ba bd bs bv G:={h with low:=fun j hj=>Aq hk (h.low j hj)}
theorem Tryz.fold {l:List ae} {v:Value} {w:World} (hv:eW w l v) (hl:sm l):Calls Tryz.prog 16 #[v] w fun e w'=>∃u,e= .returned u/\iR w' u (foldM l)/\Below w.heap.size w w':=by
 letI:Inhabited aL:=⟨⟨True,#[]⟩⟩
 have h:=nh bA.ok L7 (fn:=Tryz.f16) (hfn:=by kernel_rfl) (hb:=rfl) (y:=l) hl (args:=[v]) (w:=w) (PL.cons (XX (wO l) (xG hv)) PL.nil) (db.oV rfl _);refine Calls.mono h ?_;rintro e w' ⟨u,rfl,hu,hb,_⟩;exact⟨u,rfl,ZC hu,hb⟩
theorem Qi {l:List ae} {v:Value} {w:World} (hv:eW w l v) (hlt:sm l) (hl30:l.length<=30):
  Calls Tryz.prog 28 #[v] w fun e w'=>∃b bk ba bd bs bv G u,e= .returned (.tuple #[.pointer (some ⟨b,0,none⟩),u])/\cW w' w.heap.size b bk ba bd bs bv G/\cV G (foldM l)/\iR w' u (foldM l)/\Below w.heap.size w w':=by
 obtain⟨sa,sc,rfl⟩:=hv.one;obtain⟨W0,hW0⟩:∃W0,w.alloc (.cells #[.slice none 0 0, .slice none 0 0, .slice none 0 0] 45)=W0:=⟨_,rfl⟩;have hbW0:Below w.heap.size w W0:=by rw[<-hW0];exact(Below.refl _ _).alloc (Ai _) _
 have sW0:W0.heap.size=w.heap.size+1:=by rw[<-hW0];exact Dk _
 have hbx:W0.heap[w.heap.size]? =some (.cells #[.slice none 0 0, .slice none 0 0, .slice none 0 0] 45 (0,0)):=by rw[<-hW0];exact World.alloc_heap_new _ _
 have hv0:=hv.cells (ep hbW0);have hnew:=HP W0;go_enter Tryz.func28,Tryz.ntmps28
 go_wp2_with (go_at_call 14;refine hnew.mono ?_;rintro e w2 ⟨b,bk,ba,bd,bs,bv,rfl,hO,hb2⟩)
 have hv2:=hv0.cells (ep hb2);go_loopw [5] (fun i wr=>∃(k:Nat) (G:bD),k<=l.length/\i= .int .i64 k/\eW wr l (.slice sa l.length sc)/\cW wr W0.heap.size b bk ba bd bs bv G/\cV G (foldM (l.take k))/\Below W0.heap.size W0 wr)
  (fun i _=>l.length - (intOf i).toNat)
 case atStart=>exact⟨0,_,Au _,rfl,hv2,hO,cV.start,hb2⟩
 case round=>
  obtain⟨k,G,hk,rfl,hvr,hOr,hgr,hbr⟩:=hrel;by_cases hlt2:k<l.length
  . obtain⟨bb,off,cap,arr,ty,fz,hsl,hbb,hcap,hsz,hcells⟩:=hvr.resolve_left (fun h=>by rw[h.1]at hlt2;exact absurd hlt2 (Bi _));simp only[Value.slice.injEq]at hsl;obtain⟨rfl, -,rfl⟩:=hsl;obtain⟨u,hcu,hdu⟩:=hcells k hlt2;have hld:=PI hbb hcu;have hlk:=hlt.2 l[k] (AI hlt2);obtain⟨hsm,hov⟩:= @vD ⟨⟨True,#[]⟩⟩ _ hlk;have hok:fN (foldM (l.take k)):= @fp.ok ⟨⟨True,#[]⟩⟩ _ _ (@rz ⟨⟨True,#[]⟩⟩ l hlt.2 k hk) (by omega);have happ:=Tryz.apply hOr hgr hbr.size (e:=l[k]) (u:=ic l[k] u) ⟨u,rfl,hdu⟩ hsm (by omega) hok;obtain⟨SZ,mm,hSZ,hsz2,hm⟩:=uc;obtain⟨cs,hcs⟩:∃cs:Array Value,(cY l[k] u).toArray=cs:=⟨_,rfl⟩;have hcz:cs.size=mm:=by rw[<-hcs];exact(show(19:Nat)=mm from Eq.symm hm)
    rw[show ic l[k] u= .agg cs from by rw[<-hcs];rfl]at happ;rw[hcs,<-(hm:mm=19)]at hld;clear hbx;go_wp2_with (go_at_call 15;refine happ.mono ?_;rintro e wn ⟨rfl,hbn,hcn,G',hO',hg'⟩)
    exact⟨⟨k+1,G',hlt2,by go_num,hvr.cells hcn,hO',by rw[@Tc ⟨⟨True,#[]⟩⟩ l k hlt2];exact hg',hbr.trans hbn⟩,by simp[intOf];omega⟩
  . have hkl:k=l.length:=by omega
    subst hkl;rw[Bu]at hgr;have hfold:=Tryz.fold hvr hlt;have hbxr:=(hbr.block _ (Ad.1 hbx).1).trans hbx;go_wp2_with (go_at_call 16;refine hfold.mono ?_;rintro e w3 ⟨u,rfl,⟨vc,vk,vd,rfl,hm1,hm2,hm3⟩,hb3⟩;have hbx3:=(hb3.block _ (Ad.1 hbxr).1).trans hbxr;obtain⟨ca,na,pa,rfl⟩:=hm1.one;obtain⟨ck,pk,rfl⟩:=hm2.one;obtain⟨cd,nd,pd,rfl⟩:=hm3.one;obtain⟨W1,W2,W3,e1,e2,e3,c0,f0,c1,f1,c2,f2,g0,g1,g2,hbb,hbel⟩:=MQ hbx3 (.slice ca na pa) (.slice ck (foldM l).kept.length pk) (.slice cd nd pd);clear hbx3)
    refine bodyPost_ret (QG rfl rfl (O1 g0 g1 g2)) rfl ?_;have hm:iR W3 (.agg #[.slice ca na pa, .slice ck (foldM l).kept.length pk, .slice cd nd pd]) (foldM l):=⟨_,_,_,rfl,hm1.box hbb,hm2.box hbb,hm3.box hbb⟩;have hO3:=(hOr.below hb3).box hbb (show w.heap.size<W0.heap.size by omega);refine⟨b,bk,ba,bd,bs,bv,G,_,rfl,hO3.mono (by omega),hgr,hm,?_⟩;have h1:=Aq hbW0.size hbr.size;exact((hbW0.trans (hbr.mono hbW0.size)).trans (hb3.mono h1)).trans (hbel _ (Ai _))
def pI (w:World) (cs:List (List ar)) (v:Value):Prop:=(cs=[]/\ ∃a c,v= .slice a 0 c)\/ ∃b off cap arr e fz,v= .slice (some ⟨b,off,none⟩) cs.length cap/\w.heap[b]? =some (.cells arr e fz)/\cs.length<=cap/\off+cs.length*13<=arr.size/\
 ∀i (h:i<cs.length),∃u,(∀j,j<13->arr[off+i*13+j]? =(kX u)[j]?)/\cK w cs[i] u
theorem pI.cells {w w':World} (hc:jJ w w') {l:List (List ar)} {v:Value} (h:pI w l v):pI w' l v:=by
 rcases h with h|⟨b,off,cap,arr,e,fz,h1,h2,h3,h5,h4⟩
 . exact .inl h
 . exact .inr ⟨b,off,cap,arr,e,fz,h1,hc _ _ _ _ h2,h3,h5,fun i hi=>by obtain⟨u,k1,k2⟩:=h4 i hi;exact⟨u,k1,k2.cells hc⟩⟩
section
section
variable [Inhabited aL]
end
end
end Go.Proofs
