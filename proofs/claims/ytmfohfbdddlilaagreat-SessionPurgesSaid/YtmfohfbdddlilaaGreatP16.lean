/- Part 16: an evaluator, proved sound, and its use at this seat; no condition. -/
import Derived.Test.YtmfohfbdddlilaaGreatP9
import Derived.Test.YtmfohfbdddlilaaGreatP15
set_option linter.unusedSimpArgs false
set_option linter.unusedVariables false
set_option linter.unusedSectionVars false
set_option linter.deprecated false
set_option maxRecDepth 100000
set_option maxHeartbeats 40000000
namespace Go.Proofs
open Go Go.Am Go.RowKit Go.Sy
section
variable [Inhabited aL]
noncomputable def Gr (f:FuncId):Option aN:=bif Nat.beq f ph then some JM else yy f
theorem LS:∀g C,Gr g=some C->CO g C:=bR SF CN
theorem V3:CO rO Mf:=bZ (cfg:=fun y=>cz Gr (cD rO 4 (XG y))) bC (fun _=>rfl) (fun _=>LS) (n:=600) (by
 intro (m:aJ) (hm:gL m);have hwl:=wA hm
 (conv=>whnf)
 refine⟨m,?_⟩
 repeat ((conv=>whnf);first|refine⟨rfl,?_⟩|refine⟨trivial,?_⟩)
 refine⟨hm,?_⟩
 (conv=>whnf)
 refine⟨⟨(0:Nat),Aw _,?_⟩,?_⟩
 . repeat' (first|exact trivial|exact rfl|((conv=>whnf);first|(apply aK<;>intro)|apply And.intro))
 intro (x:Nat) hx;have hx:x<=(fC m).length:=hx
 (conv=>whnf)
 refine aK (fun hlt=>?_) fun hge=>?_
 . have hlt':x<(fC m).length:=cB hlt;have hf:=wY ae.item hlt';have hz:(((fC m).take x).map ae.item).length+1<=60000:=by simp;omega
   (conv=>whnf)
   refine au.2 ⟨_,cO hlt',?_⟩
   (conv=>whnf)
   refine au.2 ⟨_,cO hlt',?_⟩
   (conv=>whnf)
   refine⟨(fC m)[x].item,rfl,?_⟩
   (conv=>whnf)
   refine ag.2 ⟨vL _ hz,?_⟩
   (conv=>whnf)
   refine ag.2 ⟨cu x (by omega),?_⟩
   (conv=>whnf)
   refine⟨(x+1:Nat),hlt',by show(fC m).length - (x+1)<(fC m).length - x;omega,?_⟩
   repeat' (first|exact trivial|exact rfl|((conv=>whnf);first|(apply aK<;>intro)|apply And.intro))
   all_goals ((conv=>whnf);rw[hf])
 . have hge':(fC m).length<=x:=gr hge
   (conv=>whnf)
   refine⟨by rw[Ay hge'];rfl,?_⟩
   repeat' (first|exact trivial|exact rfl|((conv=>whnf);first|(apply aK<;>intro)|apply And.intro)))
noncomputable def NT (f:FuncId):Option aN:=bif Nat.beq f rO then some Mf else Gr f
theorem Vr:∀g C,NT g=some C->CO g C:=bR V3 LS
theorem Ub {m:aJ} (hm:gL m):(dF m).length<=50000:=by unfold dF;rw[Bf];exact wA hm
noncomputable def Gs (f:FuncId):Option aN:=bif Nat.beq f GX then some Nf else NT f
theorem LU:∀g C,Gs g=some C->CO g C:=bR Mr Vr
end
end Go.Proofs
namespace Go.Proofs
open Go Go.Am Go.RowKit Go.Sy Go.Gm Go.Maps Go.Sort Go.Shelf
section
theorem Yk {w:World} {n:Nat} {l:List aj} {v:Value} (h:dG w n l v):Up w n (cL l) v:=by
 unfold cL;rcases h with⟨rfl,a,c,rfl⟩|⟨b,cap,arr,rfl,hp,hb,hc,hl,hi⟩
 . exact .bX rfl a c
 . refine .ar b 0 cap arr 35 (0,0) 3 (fun i j=>(arr[i*3+j]?).getD (.bool false)) hp hb (by decide) (by omega) (fun _ _ _=>rfl) hc (fun i x j v hx hv=>?_) (fun i x j v hx hv=>?_) (fun i x j v hx hv=>?_)
   all_goals
    have hil:i<l.length:=(Ab.1 hx).1;have hxe:l[i]=x:=(Ab.1 hx).2;obtain⟨e0,e1,e2⟩:=hi i hil;rw[hxe]at e0 e1 e2;have hj:j<3:=(Ab.1 hv).1;match j,hj with
    |0,_=>cases hv;first|rfl|exact(by rw[Ax,Bw,e0];rfl)|(simp only[Bw,e0,AU];exact .int _ _)
    |1,_=>cases hv;first|rfl|exact(by rw[Ax,e1];rfl)|(simp only[e1,AU];exact .int _ _)
    |2,_=>cases hv;first|rfl|exact(by rw[Ax,e2];rfl)|(simp only[e2,AU];exact .int _ _)
theorem Ot {w:World} {n:Nat} {l:List ae} {v:Value} (h:ke w n l v):Up w n (cG l) v:=by
 unfold cG;obtain⟨L,rfl,hd,hlen,hr⟩:=h;rcases hr with⟨rfl,h0⟩|⟨g,cap,cur,rfl,hp,hb,hc,hm,hsz,htk⟩
 . exact .fN (by simpa using h0)
 . rw[show L.length=(L.map (·.1)).length by simp];have cell:∀i (hi:i<L.length) j,j<19->cur[i*19+j]? =(cX L[i].1 L[i].2)[j]? :=fun i hi j hj=>by
     rw[<-Ld L i hi j hj,<-htk,Bd,if_pos (by omega),A6]
   refine .ar g 0 cap cur 42 (0,0) 19 (fun i j=>(cur[i*19+j]?).getD (.bool false)) hp hb (by decide) (by simp;omega) (fun _ _ _=>rfl) (by simpa using hc) (fun i x j v hx hv=>?_) (fun i x j v hx hv=>?_) (fun i x j v hx hv=>?_)
   . have hj:j<19:=(Ab.1 hv).1;match j,hj with
     |0,_|1,_|2,_|3,_|4,_|5,_|6,_|7,_|8,_|9,_|10,_|11,_|12,_|13,_|14,_|15,_|16,_|17,_|18,_=>cases hv;rfl
   all_goals
     have hil:i<L.length:=by simpa using(Ab.1 hx).1
     have hxe:L[i].1=x:=by simpa using(Ab.1 hx).2
     have hdi:=hd _ (AJ hil);rw[hxe]at hdi;have hj:j<19:=(Ab.1 hv).1;have hcl:=cell i hil j hj;rw[hxe]at hcl
   . rw[Ax,hcl,Af (show j<(cX x L[i].2).length from hj)];rfl
   . show Up w n v ((cur[i*19+j]?).getD _)
     rw[hcl];match j,hj with
     |0,_|1,_|2,_|3,_|4,_|5,_|6,_|15,_|16,_|17,_=>cases hv;exact .int _ _
     |7,_|8,_|9,_|10,_=>cases hv;exact .str _
     |11,_|12,_|13,_|14,_=>cases hv;exact .bool _
     |18,_=>cases hv;exact Yk hdi
variable [Inhabited aL]
structure ch (b:Nat) (m:aJ):Prop where
 ok:gL m
 over:∀e∈m.kept,e.over.length<=100000
 at_:YN fun w=>∃n bk ba bd bs bv G,cT w n b bk ba bd bs bv G/\cq G m
def Nx:aN:={Y:=Nat×aJ×aA,pre:=fun y=>ch y.1 y.2.1,args:=fun y=>[.wp ⟨y.1,0,none⟩, .agg y.2.2.enc],res:=fun y=>cG (aR y.2.1 y.2.2)}
theorem Y5 {w:World} {p:Nat->Prop} {g:Bool} {k:aA} {v:Value} (h:Rd w p g (.agg k.enc) v):v=dx k:=by
 cases h with
 | @agg cs vs h1 h2=>
  obtain⟨l⟩:=vs;match l,h1 with
  |[x,y,z],_=>
   have e1:=oQ (h2 0 _ _ rfl rfl);have e2:=oQ (h2 1 _ _ rfl rfl);have e3:=oQ (h2 2 _ _ rfl rfl);subst e1 e2 e3;rfl
theorem Zo (hdr:¬(default:aL).dr):CO HZ Nx:=kD bC.ok (by
 rintro⟨b,m,k⟩ hpre w args hold ⟨h1,h2⟩;match args,h1 with
 |[v,u],_=>
 have e1:=GI (h2 0 _ _ rfl rfl);have e2:=Y5 (h2 1 _ _ rfl rfl);subst e1 e2;obtain⟨n,bk,ba,bd,bs,bv,G,hO,hG⟩:=hpre.at_ w hold;refine(Tryz.key hO hG hpre.ok hpre.over k).mono ?_;rintro e w' ⟨v',rfl,hv,hb⟩;exact⟨_,rfl, .inr (Ot hv),hb,fun h=>(hdr h).elim⟩)
end
section
variable [Inhabited aL]
noncomputable def Gj (f:FuncId):Option aN:=bif Nat.beq f HZ then some Nx else Gs f
theorem LM (hdr:¬(default:aL).dr):∀f C,Gj f=some C->CO f C:=bR (Zo hdr) LU
def K6:aN:={Y:=Nat×aJ×aA,pre:=fun y=>ch y.1 y.2.1,args:=fun y=>[.wp ⟨y.1,0,none⟩, .agg y.2.2.enc],res:=fun y=> .bG [.agg (dS y.2.1 y.2.2).1.enc, .bool (dS y.2.1 y.2.2).2]}
def Vz (y:Nat×aJ×aA):aI:=let l:=aR y.2.1 y.2.2;{α:=Nat,ok:=fun i=>i+1<=l.length,μ:=fun i=>l.length - i,aX:=[4,7],aS:=fun i=>[(21,cG (l.drop 1)),(22,i64 (Int.ofNat (l.drop 1).length)),(23,i64 i)],bw:=fun i=>[(2, .cells ((dT (l.take (i+1))).getD gU).enc yT)]}
theorem Ki (hdr:¬(default:aL).dr):CO rj K6:=bZ (cfg:=fun y=>cz Gj (cD rj 6 (Vz y))) bC (fun _=>rfl) (fun _=>LM hdr) (n:=600) (by
 rintro⟨b,m,k⟩ (hm:ch b m);have hkl:=C3 hm.ok k
 (conv=>whnf)
 refine⟨(b,m,k),?_⟩
 repeat ((conv=>whnf);first|refine⟨rfl,?_⟩|refine⟨trivial,?_⟩)
 refine⟨hm,?_⟩
 (conv=>whnf)
 refine aK (fun h0=>?_) fun h0=>?_
 . have he:aR m k=[]:=by
     have h0:(Int.ofNat (aR m k).length==0)=true:=h0;simpa using h0
   have hw:dS m k=(gU,false):=by unfold dS;rw[he];rfl
   have hw':dS (b,m,k).2.1 (b,m,k).2.2=(gU,false):=hw
   repeat' (first|exact trivial|(with_reducible exact rfl)|((conv=>whnf);first|(apply aK<;>intro)|apply And.intro))
   all_goals (rw[hw'];try rfl)
 . have hp:0<(aR m k).length:=by
     have h0:(Int.ofNat (aR m k).length==0)=false:=h0;simp at h0;exact A4.2 h0
   (conv=>whnf)
   refine au.2 ⟨_,cO hp,?_⟩
   (conv=>whnf)
   refine⟨fun _=>rfl,ag.2 ⟨by rw[AG];exact hp,?_⟩⟩
   (conv=>whnf)
   refine⟨⟨(0:Nat),hp,?_⟩,?_⟩
   . have hw0:(dT ((aR m k).take (0+1))).getD gU=(aR m k)[0]:=by rw[xh hp];rfl
     have hw0':(dT ((aR (b,m,k).2.1 (b,m,k).2.2).take (0+1))).getD gU=(aR m k)[0]:=hw0
     repeat' (first|exact trivial|(with_reducible exact rfl)|((conv=>whnf);first|(apply aK<;>intro)|apply And.intro))
     all_goals first|exact rfl|(rw[hw0'];exact rfl)|((conv=>whnf);exact rfl)
   intro (x:Nat) hx;have hx:x+1<=(aR m k).length:=hx
   (conv=>whnf)
   refine aK (fun hlt=>?_) fun hge=>?_
   . have hlt':x<((aR m k).drop 1).length:=cB hlt;have hx1:x+1<(aR m k).length:=by rw[Bx]at hlt';omega
     have hel:((aR m k).drop 1)[x]=(aR m k)[x+1]:=by rw[Df];congr 1;omega
     have hn:=xh hx1;obtain⟨y,hy⟩:=uM (Nat.succ_pos x) hx;have hgd:(dT ((aR m k).take (x+1))).getD gU=y:=by rw[hy];rfl
     rw[hy]at hn;have mu:(aR m k).length - (x+1)<(aR m k).length - x:=by omega
     (conv=>whnf)
     refine au.2 ⟨_,cO hlt',?_⟩
     (conv=>whnf)
     refine⟨(((aR m k).drop 1)[x].bp,((dT ((aR m k).take (x+1))).getD gU).bp),?_⟩
     repeat ((conv=>whnf);first|refine⟨rfl,?_⟩|refine⟨trivial,?_⟩)
     (conv=>whnf)
     refine ah.2 ⟨fun h1=> ?gc,fun h1=> ?gd⟩
     case' gc=>
      have h1:kR (aR m k)[x+1].bp y.bp=false:=by
       have h1:(!kR ((aR m k).drop 1)[x].bp ((dT ((aR m k).take (x+1))).getD gU).bp)=true:=h1;rw[hgd,hel]at h1;simpa using h1
      have hw:(dT ((aR m k).take (x+1+1))).getD gU=((aR m k).drop 1)[x]:=by rw[hn,hel];simp[h1]
     case' gd=>
      have h1:kR (aR m k)[x+1].bp y.bp=true:=by
       have h1:(!kR ((aR m k).drop 1)[x].bp ((dT ((aR m k).take (x+1))).getD gU).bp)=false:=h1;rw[hgd,hel]at h1;simpa using h1
      have hw:(dT ((aR m k).take (x+1+1))).getD gU=(dT ((aR m k).take (x+1))).getD gU:=by rw[hn,hgd];simp[h1]
     all_goals
      (conv=>whnf)
      refine ag.2 ⟨cu x (by omega),?_⟩
      (conv=>whnf)
      refine⟨(x+1:Nat),hx1,mu,?_⟩
      repeat' (first|exact trivial|(with_reducible exact rfl)|((conv=>whnf);first|(apply aK<;>intro)|apply And.intro))
      all_goals first|exact rfl|(rw[hw];exact rfl)
   . have hge':((aR m k).drop 1).length<=x:=gr hge;have e:(aR m k).take (x+1)=aR m k:=Ay (by rw[Bx]at hge';omega);have h2:(dT (aR m k)).isSome=true:=by
      obtain⟨y,hy⟩:=uM (l:=aR m k) (x:=(aR m k).length) hp (Ai _);rw[Bp]at hy;rw[hy];rfl
     repeat' (first|exact trivial|(with_reducible exact rfl)|((conv=>whnf);first|(apply aK<;>intro)|apply And.intro))
     all_goals first|exact rfl|exact h2.symm|(rw[e];done)|(rw[e];exact rfl))
end
def kQ:List aA->List Value
 |[]=>[]
 |k::l=>db k.name::db k.domain::db k.path::kQ l
theorem Ru (l:List aA) (x:aA):kQ (l++[x])=kQ l++[db x.name,db x.domain,db x.path]:=by
 induction l with
 |nil=>rfl
 |cons k l ih=>simp only[By,kQ,ih]
theorem zG:∀(l:List aA) (i:Nat) (h:i<l.length),(kQ l)[i*3]? =some (db l[i].name)/\(kQ l)[i*3+1]? =some (db l[i].domain)/\(kQ l)[i*3+2]? =some (db l[i].path)
 |[],i,h=>absurd h (Be _)
 |k::l,0,_=>⟨rfl,rfl,rfl⟩
 |k::l,i+1,h=>by
  obtain⟨e0,e1,e2⟩:=zG l i (by simpa using h);rw[show(i+1)*3=i*3+3 by omega];exact⟨e0,by rw[show i*3+3+1=(i*3+1)+3 by omega];exact e1,by rw[show i*3+3+2=(i*3+2)+3 by omega];exact e2⟩
theorem Ll (l:List aA) {j:Nat} (hj:j<l.length*3):(kQ l)[j]? =some ((jM l.toArray[j / 3]!)[j % 3]!):=by
 have hi:j / 3<l.length:=by omega
 obtain⟨e0,e1,e2⟩:=zG l (j / 3) hi;have hg:l.toArray[j / 3]! =l[j / 3]:=by rw[B6 _ _ (by simpa using hi)];simp
 rw[hg];rcases(by omega:j=j / 3*3\/j=j / 3*3+1\/j=j / 3*3+2)with e|e|e
 . have hm:j % 3=0:=by omega
   rw[hm];conv=>lhs;rw[e]
   exact e0
 . have hm:j % 3=1:=by omega
   rw[hm];conv=>lhs;rw[e]
   exact e1
 . have hm:j % 3=2:=by omega
   rw[hm];conv=>lhs;rw[e]
   exact e2
theorem Mv {w:World} {g:Nat} {cur:Array Value} {l:List aA} (hg:w.heap[g]? =some (.cells cur 24 (0,0))) (h4:cur.toList.take (l.length*3)=kQ l):HoldsK jM 3 w g 0 l.toArray:=by
 intro j hj;have hj':j<l.length*3:=by simpa using hj
 have h2:=Ap (fun l=>l[j]?) h4;simp only[Bd,if_pos hj',A6]at h2;rw[Ll l hj']at h2;constructor
 . unfold World.cell?
   simp only[hg,Bc,Ak,AB,Ax];rw[h2,get_flatK jM 3 l.toArray j (by simpa using hj')];rfl
 . unfold World.frozen?
   simp[hg]
def gI (w:World) (g:Nat) (l:List aA):Prop:=∀i (h:i<l.length),w.cell? ⟨g,i*3,none⟩=some (db l[i].name)/\w.cell? ⟨g,i*3+1,none⟩=some (db l[i].domain)/\w.cell? ⟨g,i*3+2,none⟩=some (db l[i].path)
theorem Xm {w:World} {g:Nat} {l:List aA} (h:HoldsK jM 3 w g 0 l.toArray):gI w g l:=by
 have hcell:∀j,j<l.length*3->w.cell? ⟨g,j,none⟩=(kQ l)[j]? :=fun j hj=>by
  have:=(h j (by simpa using hj)).1;rw[Ax]at this;rw[this,Ll l hj,get_flatK jM 3 l.toArray j (by simpa using hj)];rfl
 intro i hi;obtain⟨e0,e1,e2⟩:=zG l i hi;exact⟨(hcell _ (by omega)).trans e0,(hcell _ (by omega)).trans e1,(hcell _ (by omega)).trans e2⟩
theorem gI.below {w w':World} {g:Nat} {l:List aA} (h:gI w g l) (hb:w'.heap[g]? =w.heap[g]?):gI w' g l:=fun i hi=>by
 obtain⟨e0,e1,e2⟩:=h i hi;exact⟨eF e0 hb,eF e1 hb,eF e2 hb⟩
theorem TP {l:List aA} (hn:l.Nodup) {d':Array aA} (hp:PermIn 0 l.toArray.size l.toArray d') (hs:SortedIn (ltOf nY) 0 l.toArray.size d'):d'.toList.Pairwise (fun x y=>fy x y=true)/\(∀x,x∈d'.toList↔x∈l)/\d'.size=l.length:=by
 obtain⟨h1,_,h3⟩:=hp;have hsz:d'.size=l.length:=by simpa using h1
 have hperm:d'.toList.Perm l:=by
   rw[show d'.extract 0 l.toArray.size=d' by rw[<-h1];simp]at h3;simpa using h3
 have hnd:d'.toList.Nodup:=hperm.nodup_iff.2 hn;refine⟨?_,fun x=>hperm.mem_iff,hsz⟩;rw[Bv];intro i j hi hj hij;simp only[Array.length_toList]at hi hj;have:=hs i j (Aw _) hij (by simp;omega);rw[B6 d' j hj,B6 d' i hi,xA]at this;have hne:d'[i]≠d'[j]:=by
   have:=Bv.1 hnd i j (by simpa using hi) (by simpa using hj) hij;simpa using this
 simp only[EH];rcases ue d'[i] d'[j]with h|h|h
 . exact h
 . exact absurd h hne
 . rw[this]at h;cases h
theorem RN (w:World) (g off n:Nat) (d:Array aA) (os:Array Obj) {B:Nat} (hg:B<=g) (hB:B<=w.heap.size):Below B w (sortWorldK jM 3 w g off n d os):=by
 refine⟨rfl,rfl,rfl,size_sortWorldK_c jM 3 w g off n d os,fun k hk=>?_⟩;unfold sortWorldK grow putRowK putRow mapBlock Sort.ahead;simp only;rw[Eo (by simp;omega)];rw[Dr];rw[if_neg (by omega)]
theorem Pl {w:World} {base:Nat} {v:Value} {l:List aA} (hn:l.Nodup) (h:w.ownsRow base 24 3 v l.length (kQ l)) (hl:l.length<=1000000) (hbase:base<=w.heap.size):
   Calls Tryz.prog 122 #[v, .func (.func 123) #[] #[]] w fun e w'=>e= .returned (.tuple #[])/\Below base w w'/\ ∃ks:List aA,ks.Pairwise (fun x y=>fy x y=true)/\(∀x,x∈ks↔x∈l)/\ks.length=l.length/\(ks=[]\/ ∃g cap,v= .slice (some ⟨g,0,none⟩) l.length cap/\base<=g/\g<w'.heap.size/\gI w' g ks):=by
 rcases h.2 with⟨rfl,h0⟩|⟨g,cap,cur,rfl,hbg,hg,h1,h2,h3,h4⟩
 . have hl0:l=[]:=AN.1 h0;subst hl0;refine(PR w).mono ?_;rintro e w' ⟨rfl,hb⟩;exact⟨rfl,hb.mono hbase,[],List.Pairwise.nil,fun _=>Iff.rfl,rfl, .inl rfl⟩
 . have hgl:=(Ae.1 hg).1;have hs:=Qa g 0 cap l.toArray w (Mv hg h4) hgl (by simp;omega);rw[show l.toArray.size=l.length by simp]at hs;refine hs.mono ?_;rintro e w' ⟨rfl,d',n,os,hp,hso,rfl⟩;obtain⟨hd,hmem,hsz⟩:=TP hn (d':=d') (by simpa using hp) (by simpa using hso);have hH:=holdsK_sortWorldK_c jM 3 w g 0 l.toArray d' n os (Mv hg h4) hgl (by simp[hsz]);have hb:=RN w g 0 n d' os hbg hbase;exact⟨rfl,hb,d'.toList,hd,hmem,by simpa using hsz, .inr ⟨g,cap,rfl,hbg,AY hgl hb.size,Xm (by simpa using hH)⟩⟩
def dH (w:World) (p:Nat->Prop) (l:List aj) (v:Value):Prop:=(l=[]/\ ∃a c,v= .slice a 0 c)\/ ∃b off cap arr e fz,v= .slice (some ⟨b,off,none⟩) l.length cap/\p b/\w.heap[b]? =some (.cells arr e fz)/\l.length<=cap/\off+l.length*3<=arr.size/\
 ∀i (h:i<l.length),arr[off+i*3]? =some (.int .i64 l[i].dev)/\arr[off+i*3+1]? =some (.int .i64 l[i].inc)/\arr[off+i*3+2]? =some (.int .i64 l[i].seq)
theorem dH.one {w:World} {p:Nat->Prop} {l:List aj} {v:Value} (h:dH w p l v):∃a n c,v= .slice a n c:=by
 rcases h with⟨_,a,c,rfl⟩|⟨_,_,_,_,_,_,rfl,_⟩<;>exact⟨_,_,_,rfl⟩
theorem dH.aX {w w':World} {p q:Nat->Prop} {l:List aj} {v:Value} (h:dH w p l v) (hs:∀b,p b->b<w.heap.size->q b/\w'.heap[b]? =w.heap[b]?):dH w' q l v:=by
 rcases h with h|⟨b,off,cap,arr,e,fz,rfl,hp,hb,hr⟩
 . exact .inl h
 . obtain⟨h1,h2⟩:=hs b hp (Ae.1 hb).1;exact .inr ⟨b,off,cap,arr,e,fz,rfl,h1,h2.trans hb,hr⟩
theorem Vu [Inhabited aL] {w:World} {p:Nat->Prop} {g:Bool} {l:List aj} {v:Value} (h:Rd w p g (cL l) v):dH w p l v:=by
 unfold cL at h
 cases h with
 |fN h0=>exact .inl ⟨AN.1 h0,_,_,rfl⟩
 |bX h h0 a c=>exact .inl ⟨AN.1 h0,_,_,rfl⟩
 |ar b off cap arr e fz sz u hp hb hs hl hn hc h1 h2=>
  by_cases h0:l=[]
  . subst h0;exact .inl ⟨rfl,_,_,rfl⟩
  . have hsz:sz=3:=by
     obtain⟨x,l',rfl⟩:=El h0;exact(hn 0 x rfl).symm
    subst hsz;refine .inr ⟨b,off,cap,arr,e,fz,rfl,hp,hb,hc,hl,fun i hi=>?_⟩;have hx:l[i]? =some l[i]:=Af hi;have e0:=h1 i _ 0 _ hx rfl;have e1:=h1 i _ 1 _ hx rfl;have e2:=h1 i _ 2 _ hx rfl;rw[ik (h2 i _ 0 _ hx rfl)]at e0;rw[ik (h2 i _ 1 _ hx rfl)]at e1;rw[ik (h2 i _ 2 _ hx rfl)]at e2;exact⟨e0,e1,e2⟩
def yW (w:World) (p:Nat->Prop) (u:Value) (e:ae):Prop:=∃v,u=gS e v/\dH w p e.over v
theorem ZJ [Inhabited aL] {w:World} {p:Nat->Prop} {g:Bool} {e:ae} {u:Value} (h:Rd w p g (.agg e.enc) u):yW w p u e:=by
 cases h with
 | @agg cs vs h1 h2=>
  obtain⟨l⟩:=vs;have hlen:l.length=19:=h1.symm;match l,hlen with
  |[a0,a1,a2,a3,a4,a5,a6,a7,a8,a9,a10,a11,a12,a13,a14,a15,a16,a17,a18],_=>
   have e0:=ik (h2 0 _ _ rfl rfl);have e1:=ik (h2 1 _ _ rfl rfl);have e2:=ik (h2 2 _ _ rfl rfl);have e3:=ik (h2 3 _ _ rfl rfl);have e4:=ik (h2 4 _ _ rfl rfl);have e5:=ik (h2 5 _ _ rfl rfl);have e6:=ik (h2 6 _ _ rfl rfl);have e7:=oQ (h2 7 _ _ rfl rfl);have e8:=oQ (h2 8 _ _ rfl rfl);have e9:=oQ (h2 9 _ _ rfl rfl);have e10:=oQ (h2 10 _ _ rfl rfl);have e11:=qC (h2 11 _ _ rfl rfl);have e12:=qC (h2 12 _ _ rfl rfl);have e13:=qC (h2 13 _ _ rfl rfl);have e14:=qC (h2 14 _ _ rfl rfl);have e15:=ik (h2 15 _ _ rfl rfl);have e16:=ik (h2 16 _ _ rfl rfl);have e17:=ik (h2 17 _ _ rfl rfl);have e18:=Vu (h2 18 _ _ rfl rfl);subst e0 e1 e2 e3 e4 e5 e6 e7 e8 e9 e10 e11 e12 e13 e14 e15 e16 e17;exact⟨a18,rfl,e18⟩
theorem Va [Inhabited aL] {w:World} {p:Nat->Prop} {g:Bool} {e:ae} {b:Bool} {v:Value} (h:Rd w p g (.bG [.agg e.enc, .bool b]) v):∃u,v= .tuple #[u, .bool b]/\yW w p u e:=by
 cases h with
 | @bG cs vs h1 h2=>
  obtain⟨l⟩:=vs;match l,h1 with
  |[x,y],_=>
   have e2:=qC (h2 1 _ _ rfl rfl);subst e2;exact⟨x,rfl,ZJ (h2 0 _ _ rfl rfl)⟩
theorem SQ {wr W8 w9:World} {base sz n m lo:Nat} {ty:TypeId} {v v9:Value} {xs:List Value} (hrow:wr.ownsRow base ty sz v n xs) (h8:Below wr.heap.size wr W8) (hg:W8.grownBy w9 v.ownBlock) (hat:v9.ownBlock=v.ownBlock\/v9.ownBlock=some W8.heap.size)
   {L:List (ae×Value)} (hL:∀x∈L,dH wr (fun b=>m<=b/\some b≠v.ownBlock) x.1.over x.2) {e:ae} {v':Value} (hlo:wr.heap.size<=lo) (hm:m<=lo) (hn:dH W8 (fun b=>lo<=b) e.over v'):
   ∀x∈L++[(e,v')],dH w9 (fun b=>m<=b/\some b≠v9.ownBlock) x.1.over x.2:=by
 have key:∀b,b<W8.heap.size->some b≠v.ownBlock->some b≠v9.ownBlock/\w9.heap[b]? =W8.heap[b]? :=fun b hb hne=>by
   refine⟨?_,hg.block b hb hne⟩;rcases hat with h|h
   . rw[h];exact hne
   . rw[h];intro e;cases e;exact absurd hb (Fj _)
 have hs:=h8.size;intro x hx;rcases A9.1 hx with hx|hx
 . refine(hL x hx).aX fun b hp hb=>?_
   obtain⟨k1,k2⟩:=key b (by omega) hp.2;exact⟨⟨hp.1,k1⟩,k2.trans (h8.block b hb)⟩
 . rw[BQ.1 hx];refine hn.aX fun b hp hb=>?_
   have hp:lo<=b:=hp;obtain⟨k1,k2⟩:=key b hb (fun e=>by have:=(hrow.lt b e.symm).2;omega);exact⟨⟨Aq hm hp,k1⟩,k2⟩
theorem dd.below [Inhabited aL] {w w':World} (h:dd w) (hb:Below w.heap.size w w'):dd w':=fun b hlt=>(hb.block b (h.lt hlt)).trans (h b hlt)
theorem PU [Inhabited aL] (hdr:¬(default:aL).dr) {b:Nat} {m:aJ} (hS:ch b m) (k:aA) {w:World} (hw:dd w):
  Calls Tryz.prog 75 #[.pointer (some ⟨b,0,none⟩),dx k] w fun e w'=>∃u,e= .returned (.tuple #[u, .bool (dS m k).2])/\yW w' (fun b=>w.heap.size<=b) u (dS m k).1/\Below w.heap.size w w':=by
 have h:=OM bC.ok (Ki hdr) (fn:=Tryz.f75) (hfn:=by kernel_rfl) (hb:=rfl) (y:=(b,m,k)) hS (args:=[.pointer (some ⟨b,0,none⟩), .agg (jM k).toArray]) (w:=w) (PL.cons (.wp _) (PL.cons (CJ k) PL.nil)) hw;refine Calls.mono h ?_;rintro e w' ⟨v,rfl,hv,hbel,_⟩;obtain⟨u,rfl,hu⟩:=Va hv;exact⟨u,rfl,hu,hbel⟩
theorem P1:∃i0,Tryz.prog.info? 24=some i0/\i0.zero=some (.agg #[.string ⟨#[]⟩, .string ⟨#[]⟩, .string ⟨#[]⟩])/\i0.size=3/\i0.bytes=48:=by
 have h:(Tryz.prog.info? 24).map (fun i=>(i.zero,i.size,i.bytes))=some (some (.agg #[.string ⟨#[]⟩, .string ⟨#[]⟩, .string ⟨#[]⟩]),3,48):=by kernel_rfl
 cases e:Tryz.prog.info? 24 with
 |none=>rw[e]at h;cases h
 |some i=>rw[e]at h;simp only[A8,AX,B5]at h;exact⟨i,rfl,h.1,h.2.1,h.2.2⟩
theorem PM (w5:World) (e:ae) (v:Value) (hv:v.oneCell'=true):∃W7,(storeCells ⟨w5.heap.size,0,none⟩ (cX e v).toArray.toList).run Tryz.prog (w5.alloc (.cells dU 42))= .ok () W7/\(loadCellsFrom ⟨w5.heap.size,0,none⟩ 0 19 #[]).run Tryz.prog W7= .ok (cX e v).toArray W7/\Below w5.heap.size w5 W7/\W7.heap.size=w5.heap.size+1:=by
 have hth:(w5.alloc (.cells dU 42)).there w5.heap.size 0 19:=zu w5 dU;obtain⟨_,hst⟩:=Ht (e:=e) (v:=v) hv hth;have r5:=World.rangeAt_setCells_same (w5.alloc (.cells dU 42)) w5.heap.size 0 (cX e v) hth;refine⟨_,hst,G9 r5,vS (Ai _) _ _ _ ((Below.refl w5.heap.size w5).alloc (Ai _) _),?_⟩;rw[II];exact Dl _
theorem Xh (e:ae) (v:Value) (mm:Nat) (h:mm=19):Array.foldl (fun(cs:Array Value) (x:Value×Nat)=>cs.setIfInBounds x.2 x.1) (Array.map (fun x=>([.int .i64 0, .int .i64 0, .int .i64 0, .int .i64 0, .int .i64 0, .int .i64 0, .int .i64 0, .string ⟨#[]⟩, .string ⟨#[]⟩, .string ⟨#[]⟩, .string ⟨#[]⟩, .bool false, .bool false, .bool false, .bool false, .int .i64 0, .int .i64 0, .int .i64 0, .slice none 0 0]:List Value)[x % 19]?.getD default) (Array.range mm)) ((cX e v).toArray.zipIdx) 0 mm=(cX e v).toArray:=by
 subst h;kernel_rfl
theorem KH {P:Program} {ops:Array Oper} {Q:Exit->Act->World->Prop} {rest:List Oper} {a:Act} {W W':World} (h:W=W') (hk:wpList P ops Q rest a W'):wpList P ops Q rest a W:=h▸hk
theorem Tg [Inhabited aL] {G:bn} {m:aJ} (g:cq G m) (hn:(G.alive.map (·.1)).Nodup):G.alive.length<=m.kept.length:=by
 have:=Cq (m:=m.kept.map (·.key)) hn fun k hk=>by
  have hs:(aE G.alive k).isSome=true:=by
   cases e:aE G.alive k with
   |none=>exact absurd hk (bK.1 e)
   |some _=>rfl
  obtain⟨e,he⟩:=Fh _ ((um g k).1 hs);have h2:=Ar.1 he;exact Au.2 ⟨e,(Ar.1 h2.1).1,by simpa using h2.2⟩
 simpa using this
theorem Qn [Inhabited aL] (hdr:¬(default:aL).dr) {b:Nat} {m:aJ} (hS:ch b m) {w:World} (hw:dd w):
  Calls Tryz.prog 80 #[.pointer (some ⟨b,0,none⟩)] w fun e w'=>∃v L,e= .returned v/\L.map (·.1)=fC m/\(∀x∈L,dH w' (fun b=>w.heap.size<=b) x.1.over x.2)/\w'.ownsRow w.heap.size 42 19 v L.length (fY L)/\Below w.heap.size w w':=by
 obtain⟨i0,hi,hz0,hz1,hz2⟩:=P1;obtain⟨n,bk,ba,bd,bs,bv,G,hO,hG⟩:=hS.at_ w hw;have hA:G.alive.length<=50000:=Aq (Tg hG hO.ma.nd) hS.ok.kept;have c1:=hO.c1;go_enter Tryz.func80,Tryz.ntmps80
 go_wp2_with (first
  |(at_range;refine Rf _ rfl _ 100 rfl Tryz.underlying100 ba rfl hO.ma ?_;intro w1 hit hb1 hs1)
  |go_in)
 go_frame
 have hbl:=iC c1;go_loopw [3] (fun v wr=>∃(ss left:List (aA×(Nat×DL))),cI wr w.heap.size ba dx oZ G.alive ss left/\ss.length+left.length=G.alive.length/\wr.ownsRow w1.heap.size 24 3 v ss.length (kQ (ss.map (·.1)))/\Below w.heap.size w wr/\w1.heap.size<=wr.heap.size)
  (fun _ wr=>wr.rangeLeft ba w.heap.size)
 case atStart=>exact⟨[],G.alive,hit,by simp,World.ownsRow_nil _ _ _ _,hb1,Ai _⟩
 case round=>
  obtain⟨ss,left,hrg,hcs,hrow,hbr,hbig⟩:=hrel;go_wp2_with (first
    |(at_next;refine Is _ rfl _ rfl w.heap.size ba rfl hrg ?_ ?_)
    |go_in)
  . intro hl0 hperm;have hpk:(ss.map (·.1)).Perm (G.alive.map (·.1)):=hperm.map _;have hnd:(ss.map (·.1)).Nodup:=hpk.nodup_iff.2 hO.ma.nd;have hsl:(ss.map (·.1)).length<=1000000:=by rw[hpk.length_eq,Bf];omega
    have hrow':wr.ownsRow w1.heap.size 24 3 u3 (ss.map (·.1)).length (kQ (ss.map (·.1))):=by rw[Bf];exact hrow
    obtain⟨sa,sc,rfl⟩:∃sa sc,u3= .slice sa ss.length sc:=by
     rcases hrow.2 with⟨h1,h2⟩|⟨g,cap,_,h1,_⟩
     . exact⟨none,0,by rw[h2];exact h1⟩
     . exact⟨_,_,h1⟩
    have hcall:=Pl hnd hrow' hsl hbig;go_wp2_with (go_at_call 122;go_loud (refine hcall.mono ?_;rintro e w2 ⟨rfl,hb2,ks,hso,hmem,hlen,hks⟩))
    rw[Bf]at hlen hks;have hB2:Below w.heap.size w w2:=hbr.trans (hb2.mono hb1.size);have hw2:dd w2:=dd.below hw hB2;obtain⟨i4,z4,by4,hi4,hz40,hz41,hz42,hz43,hz44⟩:=H6;go_loopw [5,29] (fun v i wr=>∃(j:Nat) (L:List (ae×Value)),j<=ss.length/\i= .int .i64 j/\L.map (·.1)=(ks.take j).map (fun k=>(dS m k).1)/\(∀x∈L,dH wr (fun b=>w2.heap.size<=b/\some b≠v.ownBlock) x.1.over x.2)/\wr.ownsRow w2.heap.size 42 19 v L.length (fY L)/\Below w2.heap.size w2 wr)
     (fun _ i _=>ss.length - (intOf i).toNat)
    case atStart=>exact⟨0,[],Aw _,rfl,rfl,fun x hx=>absurd hx (by simp),World.ownsRow_nil _ _ _ _,Below.refl _ _⟩
    case round=>
     obtain⟨j,L,hj,rfl,hL,hLd,hrowL,hbj⟩:=hrel;have hbw:Below w.heap.size w wr:=hB2.trans (hbj.mono hB2.size);have hLl:L.length=j:=by
       have:=Ap List.length hL;simp only[Bf,Bi]at this;omega
     by_cases hlt:j<ss.length
     . have hltk:j<ks.length:=by omega
       obtain⟨g,cap,hv,hbg,hg2,hka⟩:∃g cap,(Value.slice sa ss.length sc)= .slice (some ⟨g,0,none⟩) ss.length cap/\w1.heap.size<=g/\g<w2.heap.size/\gI w2 g ks:=hks.resolve_left (fun e=>by rw[e]at hltk;exact absurd hltk (Be _));simp only[Value.slice.injEq]at hv;obtain⟨rfl, -,rfl⟩:=hv;obtain⟨c0,c1',c2⟩:=hka.below (hbj.block g hg2) j hltk;obtain⟨k,hk⟩:∃k,ks[j]=k:=⟨_,rfl⟩;rw[hk]at c0 c1' c2;obtain⟨W,hW⟩:∃W,wr.alloc (.cells #[.string ⟨k.name.toArray⟩, .string ⟨k.domain.toArray⟩, .string ⟨k.path.toArray⟩] 24)=W:=⟨_,rfl⟩;have hbW:Below wr.heap.size wr W:=by rw[<-hW];exact(Below.refl _ _).alloc (Ai _) _
       have d0:W.cell? ⟨wr.heap.size,0,none⟩=some (.string ⟨k.name.toArray⟩):=by rw[<-hW];simp
       have d1:W.cell? ⟨wr.heap.size,1,none⟩=some (.string ⟨k.domain.toArray⟩):=by rw[<-hW];simp
       have d2:W.cell? ⟨wr.heap.size,2,none⟩=some (.string ⟨k.path.toArray⟩):=by rw[<-hW];simp
       have hcall:=PU hdr hS k (w:=W) (dd.below hw (hbw.trans (hbW.mono hbw.size)));rw[show dx k= .agg #[.string ⟨k.name.toArray⟩, .string ⟨k.domain.toArray⟩, .string ⟨k.path.toArray⟩]from rfl]at hcall;obtain⟨SZ,mm,hSZ,hsz,hm⟩:=uv;have hz0':dU=dU:=rfl;have hm0:¬mm=0:=by have h:mm=19:=hm;omega
       have hmx:¬16777216<mm:=by have h:mm=19:=hm;omega
       have hL1:L.length+1<=1000001:=by omega
       have hbyt:(L.length+1)*by4<=140737488355328:=Aq (E9 hL1 hz44) (by decide);have hmax:L.length+1<=maxLen:=by unfold maxLen;omega
       clear hz0';go_wp2_with (first
         |(go_at_call 75;(refine hcall.mono ?_;rintro e w5 ⟨u,rfl,⟨v',hu',hd5⟩,hb5⟩;obtain⟨W7,hst,hld,hb7,hs7⟩:=PM w5 (dS m k).1 v' (by(obtain⟨_,_,_,hh⟩:=hd5.one;rw[hh];rfl));have hone:∀u∈cX (dS m k).1 v',u.oneCell'=true:=zE (by(obtain⟨_,_,_,hh⟩:=hd5.one;rw[hh];rfl));obtain⟨cs,hcs⟩:∃cs:Array Value,(cX (dS m k).1 v').toArray=cs:=⟨_,rfl⟩;have hcz:cs.size=19:=(by(rw[<-hcs];rfl));have hu2:u= .agg cs:=(by(rw[hu',<-hcs];rfl));clear hu';subst hu2;have hfo:=Xh (dS m k).1 v' mm hm;have hnl:(cX (dS m k).1 v').length=1*19:=rfl;rw[hcs]at hfo hst hld;obtain⟨nw,hnw⟩:∃nw,cX (dS m k).1 v'=nw:=⟨_,rfl⟩;rw[hnw]at hone hcs hnl;rw[<-(hm:mm=19)]at hld hcz;unfold dU at hst;obtain⟨W8,hW8⟩:∃W8,W7.alloc (.cells cs 42)=W8:=⟨_,rfl⟩;have hb8:Below W7.heap.size W7 W8:=(by(rw[<-hW8];exact(Below.refl _ _).alloc (Ai _) _));have hra:W8.rangeAt W7.heap.size 0 nw:=(by(rw[<-hW8,<-hcs,<-hnw];exact ug W7 (dS m k).1 v'));have hnc:∀j u,nw[j]? =some u->W8.cell? ((⟨w5.heap.size+1,0,none⟩:Addr).add j)=some u:=(fun j u hj=>by(rw[Addr.add_mid,<-hs7];exact hra j u hj));have hrow8:=rY (rY (rY (rY hrowL hbW) hb5) hb7) hb8;have s5:=hb5.size;have s8:=hb8.size))
         |(at_builtin;go_loud ((first|refine KH (W':=W8) (by(rw[<-hW8];exact Ap (fun x=>W7.alloc (.cells x 42)) hfo)) ?_|skip);refine wpList_append_own_at _ rfl _ _ 22 rfl w2.heap.size 42 i4 _ 19 by4 Tryz.underlying22 hi4 hz40 hz41 hz42 hz43 (by decide) _ _ _ rfl hrow8 ⟨w5.heap.size+1,0,none⟩ 1 1 nw rfl hnl hnc hone hmax hbyt (by(have:=hbj.size;have:=hbW.size;omega)) ?_;intro v9 w9 hrow9 hg9 hnil9 hat9)))
       refine⟨⟨j+1,L++[((dS m k).1,v')],hlt,by go_num,?_,?_,?_,?_⟩,?_⟩
       . rw[A1,hL,Fb,Af hltk,hk,A1];rfl
       . have h1:=hbW.size;have h2:=hb5.size;refine SQ hrowL (((hbW.trans (hb5.mono h1)).trans (hb7.mono (by omega))).trans (hb8.mono (by omega))) hg9 hat9 hLd h1 (by have:=hbj.size;omega) (hd5.aX fun b hp hb=>⟨hp,?_⟩);exact(hb8.block b (AY hb hb7.size)).trans (hb7.block b hb)
       . rw[J2,A5];show w9.ownsRow w2.heap.size 42 19 v9 (L.length+1) (fY L++cX (dS m k).1 v')
         rw[hnw];exact hrow9
       . have h1:=hbj.size;have h2:=hbW.size;exact((((hbj.trans (hbW.mono h1)).trans (hb5.mono (by omega))).trans (hb7.mono (by omega))).trans (hb8.mono (by omega))).grown hg9 (by omega) (fun k e=>(hrow8.lt k e).1)
       . simp[intOf];omega
     . have hjl:j=ss.length:=by omega
       subst hjl;have hall:ks.take ss.length=ks:=Ay (by omega);rw[hall,TW hG hso fun k=>by
         rw[hmem,hpk.mem_iff]
         cases e:aE G.alive k with
         |none=>exact⟨fun h=>absurd h (bK.1 e),fun h=>by cases h⟩
         |some x=>exact⟨fun _=>rfl,fun _=>by
          by_cases h:k∈G.alive.map (·.1)
          . exact h
          . rw[bK.2 h]at e;cases e⟩]at hL
       go_wp2;go_ret;refine⟨_,L,rfl,hL,fun x hx=>(hLd x hx).aX fun b hp _=>⟨Aq hB2.size hp.1,rfl⟩,⟨hrowL.1,?_⟩,hbw⟩;rcases hrowL.2 with hn|⟨g,cap,cur,hv,hbg,rest⟩
       . exact .inl hn
       . exact .inr ⟨g,cap,cur,hv,Aq hB2.size hbg,rest⟩
  . intro k jI jL left' w2 hrg2 hlt hg2 hs2 hen;rw[show dx k= .agg #[.string ⟨k.name.toArray⟩, .string ⟨k.domain.toArray⟩, .string ⟨k.path.toArray⟩]from rfl]at hen⊢;have hr0:=hrg.isWalk;have hrow2:w2.ownsRow w1.heap.size 24 3 u3 ss.length (kQ (ss.map (·.1))):=hrow.kept (row:=some w.heap.size) ⟨hg2.os,hg2.tape,hg2.output,hg2.size,fun i hi hne=>hg2.block i hi fun e=>hne (by rw[e])⟩ (by
     obtain⟨o,ho,hw⟩:=hr0;exact ownsRow_ne_a hrow ho (fun cur e=>by rw[e]at hw;cases hw))
    have hb2:Below w.heap.size w w2:=hbr.trans ⟨hg2.os,hg2.tape,hg2.output,hg2.size,fun i hi=>hg2.block i (AY hi hbr.size) (by omega)⟩;obtain⟨X,hX⟩:∃X,(w2.alloc (.cells #[.string ⟨k.name.toArray⟩, .string ⟨k.domain.toArray⟩, .string ⟨k.path.toArray⟩] 24)).alloc (.cells #[.string ⟨k.name.toArray⟩, .string ⟨k.domain.toArray⟩, .string ⟨k.path.toArray⟩] 24)=X:=⟨_,rfl⟩;have hrow3:X.ownsRow w1.heap.size 24 3 u3 ss.length (kQ (ss.map (·.1))):=by rw[<-hX];exact(hrow2.alloc _).alloc _
    have hk3:KeepsWalks w2 X:=by rw[<-hX];exact(KeepsWalks.alloc _ _).trans (KeepsWalks.alloc _ _)
    have hb3:Below w.heap.size w X:=by rw[<-hX];exact(hb2.alloc hb2.size _).alloc (by have:=hb2.size;simp;omega) _
    have hs3:X.heap.size=wr.heap.size+2:=by rw[<-hX];simp;omega
    have hnc:∀i u,([.string ⟨k.name.toArray⟩, .string ⟨k.domain.toArray⟩, .string ⟨k.path.toArray⟩]:List Value)[i]? =some u->X.cell? ((⟨wr.heap.size+1,0,none⟩:Addr).add i)=some u:=fun i u hi=>by
     rw[Addr.add_lit,<-hX,show wr.heap.size+1=(w2.alloc (.cells #[.string ⟨k.name.toArray⟩, .string ⟨k.domain.toArray⟩, .string ⟨k.path.toArray⟩] 24)).heap.size from by rw[<-hs2];exact(Dl _).symm];match i with
     |0=>cases hi;simp
     |1=>cases hi;simp
     |2=>cases hi;simp
     |_+3=>cases hi
    have hone:∀u∈([.string ⟨k.name.toArray⟩, .string ⟨k.domain.toArray⟩, .string ⟨k.path.toArray⟩]:List Value),u.oneCell'=true:=by simp[Value.oneCell']
    have hlen:ss.length+1<=G.alive.length:=by omega
    have hmax:ss.length+1<=maxLen:=by unfold maxLen;omega
    go_wp2_with (at_builtin;go_loud (refine wpList_append_own _ rfl _ _ 160 rfl w1.heap.size 24 i0 _ 3 48 Tryz.underlying160 hi hz0 hz1 hz2 rfl (by decide) _ _ _ rfl hrow3 ⟨wr.heap.size+1,0,none⟩ 1 1 [.string ⟨k.name.toArray⟩, .string ⟨k.domain.toArray⟩, .string ⟨k.path.toArray⟩] rfl rfl hnc hone hmax (by omega) (by omega) ?_;intro v3 w3 hown hg3 hnil))
    have hrg3:=(hrg2.jv hk3).jv (KeepsWalks.of_grownBy hg3 (ownsRow_not_walk_a hrow3));have hs4:=hg3.size;go_roundw
    case rel=>exact⟨ss++[(k,(jI,jL))],left',hrg3,by simp;omega,by rw[A1,AR,Eg,Ru,A5];exact hown,hb3.grown hg3 hb3.size (fun k e=>Aq hb1.size (hrow3.lt k e).1),by omega⟩
    case measure=>rw[hrg3.left_eq,hrg.left_eq];omega
section
theorem L6 {w:World} {p:Nat->Prop} {n:Nat} {l:List aj} {v:Value} (hp:∀b,p b->n<=b) (h:dH w p l v):Up w n (cL l) v:=by
 unfold cL;rcases h with⟨rfl,a,c,rfl⟩|⟨b,off,cap,arr,ty,fz,rfl,hpb,hb,hc,hl,hi⟩
 . exact .bX rfl a c
 . refine .ar b off cap arr ty fz 3 (fun i j=>(arr[off+i*3+j]?).getD (.bool false)) (hp b hpb) hb (by decide) hl (fun _ _ _=>rfl) hc (fun i x j v hx hv=>?_) (fun i x j v hx hv=>?_) (fun i x j v hx hv=>?_)
   all_goals
    have hil:i<l.length:=(Ab.1 hx).1;have hxe:l[i]=x:=(Ab.1 hx).2;obtain⟨e0,e1,e2⟩:=hi i hil;rw[hxe]at e0 e1 e2;have hj:j<3:=(Ab.1 hv).1;match j,hj with
    |0,_=>cases hv;first|rfl|exact(by rw[Bw,e0];rfl)|(simp only[Bw,e0,AU];exact .int _ _)
    |1,_=>cases hv;first|rfl|exact(by rw[e1];rfl)|(simp only[e1,AU];exact .int _ _)
    |2,_=>cases hv;first|rfl|exact(by rw[e2];rfl)|(simp only[e2,AU];exact .int _ _)
theorem Oq {w:World} {p:Nat->Prop} {n:Nat} {L:List (ae×Value)} {v:Value} (hp:∀b,p b->n<=b) (hd:∀x∈L,dH w p x.1.over x.2) (h:w.ownsRow n 42 19 v L.length (fY L)):Up w n (cG (L.map (·.1))) v:=by
 unfold cG;obtain⟨hlen,hr⟩:=h;rcases hr with⟨rfl,h0⟩|⟨g,cap,cur,rfl,hpp,hb,hc,hm,hsz,htk⟩
 . exact .fN (by simpa using h0)
 . rw[show L.length=(L.map (·.1)).length by simp];have cell:∀i (hi:i<L.length) j,j<19->cur[i*19+j]? =(cX L[i].1 L[i].2)[j]? :=fun i hi j hj=>by
     rw[<-Ld L i hi j hj,<-htk,Bd,if_pos (by omega),A6]
   refine .ar g 0 cap cur 42 (0,0) 19 (fun i j=>(cur[i*19+j]?).getD (.bool false)) hpp hb (by decide) (by simp;omega) (fun _ _ _=>rfl) (by simpa using hc) (fun i x j v hx hv=>?_) (fun i x j v hx hv=>?_) (fun i x j v hx hv=>?_)
   . have hj:j<19:=(Ab.1 hv).1;match j,hj with
     |0,_|1,_|2,_|3,_|4,_|5,_|6,_|7,_|8,_|9,_|10,_|11,_|12,_|13,_|14,_|15,_|16,_|17,_|18,_=>cases hv;rfl
   all_goals
     have hil:i<L.length:=by simpa using(Ab.1 hx).1
     have hxe:L[i].1=x:=by simpa using(Ab.1 hx).2
     have hdi:=hd _ (AJ hil);rw[hxe]at hdi;have hj:j<19:=(Ab.1 hv).1;have hcl:=cell i hil j hj;rw[hxe]at hcl
   . rw[Ax,hcl,Af (show j<(cX x L[i].2).length from hj)];rfl
   . show Up w n v ((cur[i*19+j]?).getD _)
     rw[hcl];match j,hj with
     |0,_|1,_|2,_|3,_|4,_|5,_|6,_|15,_|16,_|17,_=>cases hv;exact .int _ _
     |7,_|8,_|9,_|10,_=>cases hv;exact .str _
     |11,_|12,_|13,_|14,_=>cases hv;exact .bool _
     |18,_=>cases hv;exact L6 hp hdi
variable [Inhabited aL]
def JN:aN:={Y:=Nat×aJ,pre:=fun y=>ch y.1 y.2,args:=fun y=>[.wp ⟨y.1,0,none⟩],res:=fun y=>cG (fC y.2)}
theorem SG (hdr:¬(default:aL).dr):CO vD JN:=kD bC.ok (by
 rintro⟨b,m⟩ hpre w args hold ⟨h1,h2⟩;match args,h1 with
 |[v],_=>
 have e1:=GI (h2 0 _ _ rfl rfl);subst e1;refine(Qn hdr hpre hold).mono ?_;rintro e w' ⟨v',L,rfl,hL,hd,hr,hb⟩;refine⟨_,rfl, .inr ?_,hb,fun h=>(hdr h).elim⟩;show Up w' w.heap.size (cG (fC m)) v'
 rw[<-hL];exact Oq (fun _ h=>h) hd hr)
noncomputable def yu (f:FuncId):Option aN:=bif Nat.beq f vD then some JN else bif Nat.beq f rj then some K6 else Gj f
theorem Cz (hdr:¬(default:aL).dr):∀f C,yu f=some C->CO f C:=bR (SG hdr) (bR (Ki hdr) (LM hdr))
end
section
variable [Inhabited aL]
abbrev Mp:=Option (Nat×aJ)
def Mp.arg:Mp->SV|none=> .bo|some y=> .wp ⟨y.1,0,none⟩
def Mp.m:Mp->aJ|none=>⟨[],[],[]⟩|some y=>y.2
def Mp.at:Mp->Prop|none=>True|some y=>ch y.1 y.2
noncomputable def Mp.gP (c:FuncId->Option aN):Mp->FuncId->Option aN|none=>cj|some _=>c
noncomputable def Mp.mB (a:Nat×aJ->FuncId->Nat->Option aI):Mp->FuncId->Nat->Option aI|none=>fun _ _=>none|some y=>a y
theorem GL {c:FuncId->Option aN} (h:∀f C,c f=some C->CO f C) (y:Mp):∀f C,y.gP c f=some C->CO f C:=by
 cases y with
 |none=>exact iD
 |some y=>exact h
def Mg:aN:={Y:=Mp,pre:=fun y=>y.at,args:=fun y=>[y.arg],res:=fun y=>ec (dF y.m)}
def XH (y:Nat×aJ):aI:=let l:=fC y.2;{α:=Nat,ok:=fun i=>i<=l.length,μ:=fun i=>l.length - i,aX:=[],aS:=fun i=>[(3, .own 0),(7,cG l),(8,i64 (Int.ofNat l.length)),(9,i64 i)],bw:=fun i=>[(0,om ((l.take i).map ae.item))]}
theorem V4 (hdr:¬(default:aL).dr):CO GZ Mg:=bZ (cfg:=fun(y:Mp)=>cz (Mp.gP yu y) (Mp.mB (fun z=>cD GZ 3 (XH z)) y)) bC (fun _=>rfl) (fun(y:Mp)=>GL (Cz hdr) y) (n:=600) (by
 rintro(_|⟨b,m⟩) hm
 . repeat' (first|exact trivial|exact rfl|((conv=>whnf);first|(apply aK<;>intro)|apply And.intro))
 have hm:ch b m:=hm;have hwl:=wA hm.ok
 (conv=>whnf)
 refine⟨(b,m),?_⟩
 repeat ((conv=>whnf);first|refine⟨rfl,?_⟩|refine⟨trivial,?_⟩)
 refine⟨hm,?_⟩
 (conv=>whnf)
 refine⟨⟨(0:Nat),Aw _,?_⟩,?_⟩
 . repeat' (first|exact trivial|exact rfl|((conv=>whnf);first|(apply aK<;>intro)|apply And.intro))
   all_goals exact au.2 ⟨_,rfl,ag.2 ⟨rfl,fun _=>rfl⟩⟩
 intro (x:Nat) hx;have hx:x<=(fC m).length:=hx
 (conv=>whnf)
 refine aK (fun hlt=>?_) fun hge=>?_
 . have hlt':x<(fC m).length:=cB hlt;have hf:=wY ae.item hlt';have hz:(((fC m).take x).map ae.item).length+1<=60000:=by simp;omega
   (conv=>whnf)
   refine au.2 ⟨_,cO hlt',?_⟩
   (conv=>whnf)
   refine⟨(fC m)[x].item,rfl,?_⟩
   (conv=>whnf)
   refine ag.2 ⟨vL _ hz,?_⟩
   (conv=>whnf)
   refine ag.2 ⟨cu x (by omega),?_⟩
   (conv=>whnf)
   refine⟨(x+1:Nat),hlt',by show(fC m).length - (x+1)<(fC m).length - x;omega,?_⟩
   repeat' (first|exact trivial|exact rfl|((conv=>whnf);first|(apply aK<;>intro)|apply And.intro))
   all_goals ((conv=>whnf);rw[hf])
 . have hge':(fC m).length<=x:=gr hge
   (conv=>whnf)
   refine⟨by rw[Ay hge'];rfl,?_⟩
   repeat' (first|exact trivial|exact rfl|((conv=>whnf);first|(apply aK<;>intro)|apply And.intro)))
noncomputable def Gk (f:FuncId):Option aN:=bif Nat.beq f GZ then some Mg else yu f
theorem LN (hdr:¬(default:aL).dr):∀f C,Gk f=some C->CO f C:=bR (V4 hdr) (Cz hdr)
def Nd:aN:={Y:=Mp×aA,pre:=fun y=>y.1.at,args:=fun y=>[y.1.arg, .agg y.2.enc],res:=fun y=>cL (mU y.1.m y.2)}
def YP (y:Nat×aJ×aA):aI:=let l:=aR y.2.1 y.2.2;{α:=Nat,ok:=fun i=>i<=l.length,μ:=fun i=>l.length - i,aX:=[3],aS:=fun i=>[(5, .own 1),(10,cG l),(11,i64 (Int.ofNat l.length)),(12,i64 i)],bw:=fun i=>[(1, .arr aj ((l.take i).map (·.dot)) aj.enc Ty.mA)]}
theorem Yz (hdr:¬(default:aL).dr):CO G8 Nd:=bZ (cfg:=fun(y:Mp×aA)=>cz (Mp.gP Gk y.1) (Mp.mB (fun z=>cD G8 3 (YP (z.1,z.2,y.2))) y.1)) bC (fun _=>rfl) (fun(y:Mp×aA)=>GL (LN hdr) y.1) (n:=600) (by
 rintro⟨_|⟨b,m⟩,k⟩ hm
 . repeat' (first|exact trivial|exact rfl|((conv=>whnf);first|(apply aK<;>intro)|apply And.intro))
 have hm:ch b m:=hm;have hkl:=C3 hm.ok k
 (conv=>whnf)
 refine⟨(b,m,k),?_⟩
 repeat ((conv=>whnf);first|refine⟨rfl,?_⟩|refine⟨trivial,?_⟩)
 refine⟨hm,?_⟩
 (conv=>whnf)
 refine⟨⟨(0:Nat),Aw _,?_⟩,?_⟩
 . repeat' (first|exact trivial|exact rfl|((conv=>whnf);first|(apply aK<;>intro)|apply And.intro))
   all_goals exact au.2 ⟨_,rfl,ag.2 ⟨rfl,fun _=>rfl⟩⟩
 intro (x:Nat) hx;have hx:x<=(aR m k).length:=hx
 (conv=>whnf)
 refine aK (fun hlt=>?_) fun hge=>?_
 . have hlt':x<(aR m k).length:=cB hlt;have hf:=wY (fun e:ae=>e.dot) hlt'
   (conv=>whnf)
   refine au.2 ⟨_,cO hlt',?_⟩
   (conv=>whnf)
   refine⟨(aR m k)[x].dot,rfl,?_⟩
   (conv=>whnf)
   refine ag.2 ⟨y6 _ (by simp;omega),?_⟩
   (conv=>whnf)
   refine ag.2 ⟨cu x (by omega),?_⟩
   (conv=>whnf)
   refine⟨(x+1:Nat),hlt',by show(aR m k).length - (x+1)<(aR m k).length - x;omega,?_⟩
   repeat' (first|exact trivial|exact rfl|((conv=>whnf);first|(apply aK<;>intro)|apply And.intro))
   all_goals ((conv=>whnf);rw[hf])
 . have hge':(aR m k).length<=x:=gr hge
   (conv=>whnf)
   refine⟨by rw[Ay hge'];rfl,?_⟩
   repeat' (first|exact trivial|exact rfl|((conv=>whnf);first|(apply aK<;>intro)|apply And.intro)))
noncomputable def vh (f:FuncId):Option aN:=bif Nat.beq f G8 then some Nd else Gk f
theorem xo (hdr:¬(default:aL).dr):∀f C,vh f=some C->CO f C:=bR (Yz hdr) (LN hdr)
end
end Go.Proofs
