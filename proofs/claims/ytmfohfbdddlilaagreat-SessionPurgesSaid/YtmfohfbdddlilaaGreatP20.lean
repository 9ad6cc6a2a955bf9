/- Part 20: an evaluator, proved sound, and its use at this seat; no condition. -/
import Derived.KernelRfl
import Derived.Test.YtmfohfbdddlilaaGreatP3
import Derived.Test.YtmfohfbdddlilaaGreatP5
import Derived.Test.YtmfohfbdddlilaaGreatP17
import Derived.Test.YtmfohfbdddlilaaGreatP18
import Derived.Test.YtmfohfbdddlilaaGreatP19
set_option linter.unusedSimpArgs false
set_option linter.unusedVariables false
set_option linter.unusedSectionVars false
set_option linter.deprecated false
set_option maxRecDepth 100000
set_option maxHeartbeats 40000000
namespace Go.Proofs
open Go Go.Am Go.RowKit Go.Sy
theorem Oy:(cf (fun(y:aN.Y uS)=>bH pT (cW y)) 400 HE)=(∀(y:aa×aa),True->∃(z:aa×aa),y.1.key.name=z.1.key.name/\y.1.key.domain=z.1.key.domain/\y.1.key.path=z.1.key.path/\y.1.ab.value=z.1.ab.value/\y.1.ab.aG=z.1.ab.aG/\y.1.ab.aV=z.1.ab.aV/\y.1.ab.aH=z.1.ab.aH/\y.1.ab.persistent=z.1.ab.persistent/\ak y.1.ab.aQ z.1.ab.aQ/\ak y.1.ab.aq z.1.ab.aq/\ak y.1.ab.access z.1.ab.access/\y.2.key.name=z.2.key.name/\y.2.key.domain=z.2.key.domain/\y.2.key.path=z.2.key.path/\y.2.ab.value=z.2.ab.value/\y.2.ab.aG=z.2.ab.aG/\y.2.ab.aV=z.2.ab.aV/\y.2.ab.aH=z.2.ab.aH/\y.2.ab.persistent=z.2.ab.persistent/\ak y.2.ab.aQ z.2.ab.aQ/\ak y.2.ab.aq z.2.ab.aq/\ak y.2.ab.access z.2.ab.access/\True/\ak (ic z.1 z.2) (ic y.1 y.2)/\True):=by kernel_rfl
theorem TT:(p5 (fun(y:List aa×aA)=>jx y.1) (aN.args bJ) aa (fun(y:List aa×aA)=>eV y.1 y.2) aa.enc (fun(y:List aa×aA)=>bH cj (cD lS 3 (jW y.1 fun(x:aa)=>decide (x.key≠y.2)))) 600 nz)=(∀(y:List aa×aA),y.1.length<=10000->(∃(x:Nat),x<=y.1.length/\(SV.fn 98 [] [SV.ptr (SH.next (St.h {ts:=Fr.of (aN.args bJ y) 0,h:={next:=0,os:=[]},log:=[]})) 0]=SV.fn 98 [] [SV.ptr (SH.next (St.h {ts:=Fr.of (aN.args bJ y) 0,h:={next:=0,os:=[]},log:=[]})) 0]/\SV.ar aa y.1 aa.enc=SV.ar aa y.1 aa.enc/\ak (Int.ofNat y.1.length) (Int.ofNat y.1.length)/\ak 0 ↑x/\True/\True)/\((List.filter (fun(x:aa)=>decide (x.key≠y.2)) (List.take x y.1)=[]/\ ∀(x:aa),List.length (aa.enc x)=11)/\(y.2.name=y.2.name/\y.2.domain=y.2.domain/\y.2.path=y.2.path/\True)/\True)/\True)/\ ∀(x:Nat),x<=y.1.length->br (bI (↑x) (Int.ofNat y.1.length)) (so y.1[Int.toNat ↑x]? fun(val:aa)=>br (!(val.key.name==y.2.name&&(val.key.domain==y.2.domain&&(val.key.path==y.2.path&&true)))) (∃(u:aa),(aa.enc u)=(aa.enc val)/\ck (Nat.ble ((List.length (List.filter (fun(x:aa)=>decide (x.key≠y.2)) (List.take x y.1))+List.length [u])*96) 16777216&&Nat.ble (List.length (List.filter (fun(x:aa)=>decide (x.key≠y.2)) (List.take x y.1))+List.length [u]) 16777216) (ck (bq .i64 (↑x+1)) (∃(z:Nat),z<=y.1.length/\aI.μ (jW y.1 fun(x:aa)=>decide (x.key≠y.2)) z<aI.μ (jW y.1 fun(x:aa)=>decide (x.key≠y.2)) x/\(SV.fn 98 [] [SV.ptr (SH.next (St.h {ts:=Fr.of (aN.args bJ y) 0,h:={next:=0,os:=[]},log:=[]})) 0]=SV.fn 98 [] [SV.ptr (SH.next (St.h {ts:=Fr.of (aN.args bJ y) 0,h:={next:=0,os:=[]},log:=[]})) 0]/\SV.ar aa y.1 aa.enc=SV.ar aa y.1 aa.enc/\ak (Int.ofNat y.1.length) (Int.ofNat y.1.length)/\ak (↑x+1) ↑z/\True/\True)/\(SV.ar aa (List.filter (fun(x:aa)=>decide (x.key≠y.2)) (List.take x y.1)++[u]) aa.enc=SV.ar aa (List.filter (fun(x:aa)=>decide (x.key≠y.2)) (List.take z y.1)) aa.enc/\(y.2.name=y.2.name/\y.2.domain=y.2.domain/\y.2.path=y.2.path/\True)/\True)/\True))) (ck (bq .i64 (↑x+1)) (∃(z:Nat),z<=y.1.length/\aI.μ (jW y.1 fun(x:aa)=>decide (x.key≠y.2)) z<aI.μ (jW y.1 fun(x:aa)=>decide (x.key≠y.2)) x/\(SV.fn 98 [] [SV.ptr (SH.next (St.h {ts:=Fr.of (aN.args bJ y) 0,h:={next:=0,os:=[]},log:=[]})) 0]=SV.fn 98 [] [SV.ptr (SH.next (St.h {ts:=Fr.of (aN.args bJ y) 0,h:={next:=0,os:=[]},log:=[]})) 0]/\SV.ar aa y.1 aa.enc=SV.ar aa y.1 aa.enc/\ak (Int.ofNat y.1.length) (Int.ofNat y.1.length)/\ak (↑x+1) ↑z/\True/\True)/\(SV.ar aa (List.filter (fun(x:aa)=>decide (x.key≠y.2)) (List.take x y.1)) aa.enc=SV.ar aa (List.filter (fun(x:aa)=>decide (x.key≠y.2)) (List.take z y.1)) aa.enc/\(y.2.name=y.2.name/\y.2.domain=y.2.domain/\y.2.path=y.2.path/\True)/\True)/\True))) (SV.ar aa (List.filter (fun(x:aa)=>decide (x.key≠y.2)) (List.take x y.1)) aa.enc=SV.ar aa (eV y.1 y.2) aa.enc)):=by kernel_rfl
end Go.Proofs
namespace Go.Proofs
open Go Go.Am Go.RowKit Go.Sy Go.Maps Go.Sort Go.Shelf
section
theorem MP {Fz:Nat->Option AO} {n:Nat} (x:aa):aT Fz (.agg x.enc) (dB n (.agg (fA x).toArray)):=by
 unfold dB;refine .agg (by simp[fA,aa.enc]) fun i c v hc hv=>?_
 have hj:i<11:=(Ab.1 hc).1;unfold aa.enc at hc;unfold fA at hv;match i,hj with
 |0,_|1,_|2,_|3,_=>cases hc;cases hv;exact .str _
 |4,_|5,_|6,_|7,_=>cases hc;cases hv;exact .bool _
 |8,_|9,_|10,_=>cases hc;cases hv;exact .int _ _
theorem Wk {w w':World} (h:Below w.heap.size w w') (hd:w.drawn<=w'.drawn):∃q os,w'=grow (w.drewN q) os:=by
 refine⟨w'.drawn - w.drawn,w'.heap.extract w.heap.size w'.heap.size,?_⟩;unfold grow World.drewN
 cases w' with
 | mk heap tape drawn os output=>
  obtain⟨h1,h2,h3,h4,h5⟩:=h;simp only at h1 h2 h3 h4 h5 hd⊢;subst h1;subst h2;subst h3;congr 1
  . apply Db
    intro i;rw[EB];split
    . rename_i hi;exact h5 i hi
    . rename_i hi;rw[Fv];by_cases h6:i<heap.size
      . simp only[Nat.min_self];rw[if_pos (by omega),show w.heap.size+(i - w.heap.size)=i by omega]
      . rw[if_neg (by omega),DA (by omega)]
  . omega
section
variable [Inhabited aL]
theorem ZV:CO HE uS:=bZ (cfg:=fun y=>bH pT (cW y)) bC (fun _=>rfl) (fun _=>xn) (n:=400) (by
 rw[Oy];rintro⟨a,b⟩ -;exact⟨(a,b),rfl,rfl,rfl,rfl,rfl,rfl,rfl,rfl,rfl,rfl,rfl,rfl,rfl,rfl,rfl,rfl,rfl,rfl,rfl,rfl,rfl,rfl,trivial,rfl,trivial⟩)
theorem WH:p5 (fun y:List aa×aA=>jx y.1) bJ.args aa (fun y=>eV y.1 y.2) aa.enc (fun y=>bH cj (cD lS 3 (jW y.1 fun x=>decide (x.key≠y.2)))) 600 nz:=by
 rw[TT];rintro⟨l,k⟩ hpre;have hpre:l.length<=10000:=hpre;refine⟨⟨0,by simp,?_⟩,?_⟩
 . (repeat' (first|exact trivial|exact rfl|exact(fun _=>rfl)|apply And.intro))
 intro x hx;refine ah.2 ⟨fun hlt=>au.2 ⟨_,cO (cB hlt),?_⟩,fun hge=>by rw[ql (gQ hge)];rfl⟩;have hlt':x<l.length:=cB hlt;have hlen:=qm (l:=l) (x:=x) (p:=fun z:aa=>decide (z.key≠k));refine ah.2 ⟨fun h=>⟨l[x],rfl,ag.2 ⟨by simp only[Aa,AG,AA,AK];omega,ag.2 ⟨cu x (by omega),x+1,hlt',?_,?_⟩⟩⟩,fun h=>ag.2 ⟨cu x (by omega),x+1,hlt',?_,?_⟩⟩
 . show l.length - (x+1)<l.length - x
   omega
 . have hp:(fun z:aa=>decide (z.key≠k)) l[x]=true:=by rw[oO]at h;simpa using h
   have hf:=lG (p:=fun z:aa=>decide (z.key≠k)) hlt';rw[if_pos hp]at hf
   (repeat' (first|exact trivial|exact rfl|exact(fun _=>rfl)|apply And.intro))
   all_goals (first|(rw[hf])|(simp[ak]))
 . show l.length - (x+1)<l.length - x
   omega
 . have hp:(fun z:aa=>decide (z.key≠k)) l[x]=false:=by rw[oO]at h;simpa using h
   have hf:=lG (p:=fun z:aa=>decide (z.key≠k)) hlt';rw[if_neg (by simp only[hp];simp),Bu]at hf
   (repeat' (first|exact trivial|exact rfl|exact(fun _=>rfl)|apply And.intro))
   all_goals (first|(rw[hf])|(simp[ak]))
end
theorem UT:SWO (ltOf ic) where
 irrefl x:=vU x
 trans x y z:=vZ
 ntrans x y z:=IJ
theorem Qt (bh off size:Nat) (w:World):CmpLays Tryz.prog 131 #[] fA 11 ic bh off size w:=by
 intro m os dk _ x y;letI:Inhabited aL:=⟨⟨True,#[]⟩⟩
 have h:=lV bC.ok ZV (fn:=Tryz.f131) (hfn:=by kernel_rfl) (hb:=rfl) (y:=(x,y)) trivial (args:=[.agg (fA x).toArray, .agg (fA y).toArray]) (w:=sortWorldK fA 11 w bh off m dk os) (PL.cons (MP x) (PL.cons (MP y) PL.nil)) (dd.px rfl _);refine Calls.mono h ?_;rintro e w' ⟨v,rfl,hv,hbel,hd⟩;have hv:v= .int .i64 (ic x y):=Gf hv;exact⟨by rw[hv],Wk hbel (hd trivial)⟩
theorem Qw:∀w,(isAgg (rq.t 24)).run Tryz.prog w= .ok true w:=fun w=>by kernel_rfl
theorem OT:∀w,(Go.sizeOf (rq.t 24)).run Tryz.prog w= .ok 11 w:=fun w=>by kernel_rfl
theorem MD (x:aa):∀v∈fA x,v.oneCell'=true:=by
 intro v hv;unfold fA at hv;simp only[Aj,BT,DB]at hv;rcases hv with rfl|rfl|rfl|rfl|rfl|rfl|rfl|rfl|rfl|rfl|rfl<;>rfl
theorem Qb (bh off cap:Nat) (d:Array aa) (w:World) (hH:HoldsK fA 11 w bh off d) (hblk:bh<w.heap.size) (hsz:d.size<4611686018427387904):
  Calls Tryz.prog 130 #[.slice (some ⟨bh,off,none⟩) d.size cap, .func (.func 131) #[] #[]] w fun e w'=>e= .returned (.tuple #[])/\ ∃d' n os,PermIn 0 d.size d d'/\SortedIn (ltOf ic) 0 d.size d'/\w'=sortWorldK fA 11 w bh off n d' os:=
 AnyQ.slices_SortFunc Qi 11 Qw OT fA (fun _=>rfl) MD ic UT 131 #[] bh off cap d w (enters_of Tryz.func131 (by kernel_rfl) rfl) (Qt bh off d.size w) hH hblk hsz
def jw (w:World) (v:Value) (l:List aa):Prop:=(l=[]/\ ∃a c,v= .slice a 0 c)\/
 ∃b off cap,v= .slice (some ⟨b,off,none⟩) l.length cap/\l.length<=cap/\(∃arr e fz,w.heap[b]? =some (.cells arr e fz)/\off+l.length*11<=arr.size)/\rowAt w b off l
theorem jw.below {w w':World} {v:Value} {l:List aa} (h:jw w v l) (hb:Below w.heap.size w w'):jw w' v l:=by
 rcases h with h|⟨b,off,cap,h1,h2,⟨arr,e,fz,h3,h4⟩,h5⟩
 . exact .inl h
 . have hlt:=(Ae.1 h3).1;exact .inr ⟨b,off,cap,h1,h2,⟨arr,e,fz,by rw[hb.block b hlt];exact h3,h4⟩,h5.below hb hlt⟩
section
variable [Inhabited aL]
theorem Je {w:World} {n:Nat} {l:List aa} {v:Value} (h:qL w n l aa.enc v):jw w v l/\Up w n (ec l) v:=by
 rcases h with⟨rfl,h0⟩|⟨b,cap,arr,e,fz,sz,rfl,h1,h2,h3,h4,h5,h6,h7⟩
 . exact⟨.inl ⟨AN.1 h0,none,0,rfl⟩, .fN h0⟩
 . have hsz:l≠[]->sz=11:=by
    intro hne
    cases hL:l with
    |nil=>exact absurd hL hne
    |cons x l'=>exact(h6 0 x (by rw[hL];rfl)).symm
   have hl:0+l.length*11<=arr.size:=by
    by_cases hne:l=[]
    . subst hne;simp
    . rw[<-hsz hne];omega
   have hcell:∀(i:Nat) x (j:Nat) v,l[i]? =some x->(fA x)[j]? =some v->arr[0+i*11+j]? =some v:=by
    intro i x j v hx hv;have hj:j<11:=(Ab.1 hv).1;obtain⟨s,hs⟩:=MF (x:=x) hj;obtain⟨u,hu,hr⟩:=h7 i x j s hx hs;have:sz=11:=(h6 i x hx).symm;subst this;rw[MR hs hv hr]at hu;rw[Ax];exact hu
   refine⟨.inr ⟨b,0,cap,rfl,h3,⟨arr,e,fz,h2,hl⟩,fun i x j v hx hv=>?_⟩,Xa h1 h2 h3 hl hcell⟩;unfold World.cell?
   simp only[h2,Bc,Ak,AB];exact hcell i x j v hx hv
theorem ZC {Fz:Nat->Option AO} {n:Nat} (k:aA):aT Fz (.agg k.enc) (dB n (.agg #[dY k.name,dY k.domain,dY k.path])):=by
 unfold dB;refine .agg rfl fun i c v hc hv=>?_
 have hj:i<3:=(Ab.1 hc).1;unfold aA.enc at hc;match i,hj with
 |0,_|1,_|2,_=>cases hc;cases hv;exact .str _
theorem WU {tab:bB} {w:World} {v:Value} {l:List aa} (h:jw w v l):aT (bT tab w).get (ec l) (dB w.heap.size v):=by
 rcases h with⟨rfl,a,c,rfl⟩|⟨b,off,cap,rfl,h2,h3,h4⟩
 . show aT _ (ec []) (cQ w.heap.size (.slice a 0 c))
   cases a with
   |none=>
    cases c with
    |zero=>exact .bX rfl (.inl rfl)
    |succ c=>exact .bX rfl (.inr (.inr ⟨_,_,rfl⟩))
   |some a=>rw[xi];exact .bX rfl (.inr (.inr ⟨_,_,rfl⟩))
 . exact UL h2 h3 h4
theorem Pn {l:List aa} {k:aA} {v:Value} {w:World} (hl:l.length<=10000) (h:jw w v l) (hw:dd w):
  Calls Tryz.prog 50 #[v, .agg #[dY k.name,dY k.domain,dY k.path]] w fun e w'=>∃u,e= .returned u/\jw w' u (eV l k)/\qL w' w.heap.size (eV l k) aa.enc u/\Below w.heap.size w w':=by
 refine Calls.mono (Ts bC (fun _=>rfl) (fun _=>iD) (fn:=Tryz.f50) (by kernel_rfl) WH (y:=(l,k)) hl (args:=[v, .agg #[dY k.name,dY k.domain,dY k.path]]) (w:=w) (PL.cons (WU h) (PL.cons (ZC k) PL.nil)) hw) ?_;rintro e w' ⟨u,rfl,hu,hb,_⟩;exact⟨u,rfl,(Je hu).1,hu,hb⟩
theorem Se {w:World} {n m:Nat} {l:List aa} {v:Value} (h:qL w n l aa.enc v) (hm:m<=n):qL w m l aa.enc v:=by
 rcases h with h|⟨b,cap,arr,e,fz,sz,h0,h1,h2⟩
 . exact .inl h
 . exact .inr ⟨b,cap,arr,e,fz,sz,h0,by omega,h2⟩
end
theorem Tl (w:World) (g off n:Nat) (d:Array aa) (os:Array Obj) {B:Nat} (hg:B<=g) (hB:B<=w.heap.size):Below B w (sortWorldK fA 11 w g off n d os):=by
 refine⟨rfl,rfl,rfl,size_sortWorldK_c fA 11 w g off n d os,fun k hk=>?_⟩;unfold sortWorldK grow putRowK putRow mapBlock Sort.ahead;simp only;rw[Eo (by simp;omega)];rw[Dr];rw[if_neg (by omega)]
theorem L4 (l:List aa) {t:Nat} {u:Value} (h:(flatK fA 11 l.toArray).toList[t]? =some u):∃x,l[t / 11]? =some x/\(fA x)[t % 11]? =some u:=by
 have ht:t<l.length*11:=by
  have:=(Ab.1 h).1;simpa using this
 have hi:t / 11<l.length:=by omega
 refine⟨l[t / 11],Af hi,?_⟩;have h1:=get_flatK fA 11 l.toArray t (by simpa using ht);rw[A6]at h;rw[B6 _ t (by simpa using ht)]at h1;rw[A7 (by simpa using ht),h1]at h
 cases h;have h2:(l.toArray[t / 11]! :aa)=l[t / 11]:=by rw[B6 _ _ (by simpa using hi)];simp
 rw[h2,Af (show t % 11<(fA l[t / 11]).length by rw[Un];omega),B6]
theorem Ss {l:List aa} {d':Array aa} (hp:PermIn 0 l.toArray.size l.toArray d') (hs:SortedIn (ltOf ic) 0 l.toArray.size d'):d'.toList.Perm l/\d'.toList.Pairwise (fun a b=>fF b a=false)/\d'.size=l.length:=by
 obtain⟨h1,_,h3⟩:=hp;have hsz:d'.size=l.length:=by simpa using h1
 refine⟨?_,?_,hsz⟩
 . rw[show d'.extract 0 l.toArray.size=d' by rw[<-h1];simp]at h3;simpa using h3
 . rw[Bv];intro i j hi hj hij;simp only[Array.length_toList]at hi hj;have:=hs i j (Aw _) hij (by simp;omega);rw[B6 d' j hj,B6 d' i hi]at this;simp only[EH];exact this
theorem QA:(Tryz.prog.info? 48).map (fun i=>(i.zero,i.size,i.bytes))=some (some (.agg (fA bE).toArray),11,96):=by kernel_rfl
end
section
variable [Inhabited aL]
theorem OR {l:List aa} {b off cap:Nat} {w:World} (hl:l.length<=10000) (h:rowAt w b off l):
   Calls Tryz.prog 129 #[.slice (some ⟨b,off,none⟩) l.length cap] w fun e w'=>∃g c,e= .returned (.slice (some ⟨g,0,none⟩) l.length c)/\w.heap.size<=g/\g<w'.heap.size/\l.length<=c/\HoldsK fA 11 w' g 0 l.toArray/\Below w.heap.size w w':=by
 obtain⟨i0,hi,hz0,hz1,hz2⟩:=info_parts QA;have hnl:(flatK fA 11 l.toArray).toList.length=l.length*11:=by simp
 have hc:=AnyE.slices_Clone Pg i0 _ 11 96 hi hz0 hz1 hz2 rfl (by decide) (fun w=>by kernel_rfl) b off l.length cap (flatK fA 11 l.toArray).toList w hnl (by unfold maxLen;omega) (by omega)
   (fun j u hu=>by
     obtain⟨x,hx,hxu⟩:=L4 l hu;have:=h (j / 11) x (j % 11) u hx hxu;rw[show off+j / 11*11+j % 11=off+j by omega]at this;exact this)
   (fun u hu=>by
     obtain⟨j,hj,rfl⟩:=Bn hu;obtain⟨x,hx,hxu⟩:=L4 l (Af hj);exact MD x _ (BD hxu))
 refine Calls.mono hc ?_;rintro e w' ⟨v',rfl,⟨h1,⟨rfl,_⟩|⟨g,c,cur,rfl,hg,hw,hn,_,hcs,htk⟩⟩,hne,hb⟩
 . exact absurd rfl hne
 . refine⟨g,c,rfl,hg,(Ae.1 hw).1,hn,fun j hj=>?_,hb⟩;have hj2:j<l.length*11:=by simpa using hj
   have h2:=Ap (fun l=>l[j]?) htk;simp only[Bd,if_pos hj2,A6]at h2;have hjf:j<(flatK fA 11 l.toArray).size:=hj;rw[A7 hjf]at h2;constructor
   . unfold World.cell?
     simp only[hw,Bc,Ak,AB,Ax];rw[h2,B6 _ j hjf];rfl
   . unfold World.frozen?
     simp[hw]
theorem Ig:∀(s l:List aa),(s.foldl (fun a x=>eV a x.key) l).length<=l.length
 |[],l=>Ai _
 |x::s,l=>Aq (Ig s _) (zC l x.key)
theorem PN {l:List aa} {m b off cap:Nat} {w:World} (hl:l.length<=10000) (hk:KN l) (hm:m<l.length) (h:jw w (.slice (some ⟨b,off,none⟩) l.length cap) l) (hrow:rowAt w b off l) (hb:b<w.heap.size) (hw:dd w):
  Calls Tryz.prog 90 #[.slice (some ⟨b,off,none⟩) l.length cap, .int .i64 m] w fun e w'=>∃u,e= .returned u/\qL w' w.heap.size (fq m l) aa.enc u/\Below w.heap.size w w':=by
 have hclone:=OR (cap:=cap) hl hrow;go_enter Tryz.func90,Tryz.ntmps90
 go_wp2_with (go_at_call 129;refine hclone.mono ?_;rintro e w1 ⟨g,c,rfl,hg,hg1,hlc,hH,hbel1⟩)
 have hsort:=Qb g 0 c l.toArray w1 hH hg1 (by simp;omega);rw[show l.toArray.size=l.length by simp]at hsort;refine Calls.mono hsort ?_;rintro e w2 ⟨rfl,d',n,os,hp,hs,hw2⟩;have hbel2:Below w.heap.size w w2:=hbel1.trans (by rw[hw2];exact Tl w1 g 0 n d' os hg hbel1.size);obtain⟨hperm,hpw,hdsz⟩:=Ss (l:=l) (d':=d') (by simpa using hp) (by simpa using hs);have hH2:HoldsK fA 11 w2 g 0 d':=by rw[hw2];exact holdsK_sortWorldK_c fA 11 w1 g 0 l.toArray d' n os hH hg1 (by simp[hdsz])
 have hg2:g<w2.heap.size:=by rw[hw2];exact AY hg1 (size_sortWorldK_c fA 11 w1 g 0 n d' os)
 clear hw2 hp hs hsort hclone hH;have hlen:l.length - m<=d'.size:=by omega
 have hsub:(wrap64 ((l.length:Int) - (m:Int)))=((l.length - m:Nat):Int):=by
  rw[wrap64];omega
 go_wp2;generalize hnm:l.length - m=q at hlen hsub⊢
 go_loopw [0,24] (fun v i wr=>∃k:Nat,k<=q/\i= .int .i64 k/\jw wr v ((d'.toList.take k).foldl (fun a x=>eV a x.key) l)/\(k=0\/qL wr w.heap.size ((d'.toList.take k).foldl (fun a x=>eV a x.key) l) aa.enc v)/\Below w2.heap.size w2 wr)
  (fun _ i _=>q - (intOf i).toNat)
 case atStart=>exact⟨0,Aw _,rfl,h.below (hbel2.mono (Ai _)), .inl rfl,Below.refl _ _⟩
 case round=>
  obtain⟨k,hkq,rfl,hv,hnew,hbw⟩:=hrel;by_cases hlt:k<q
  . have hkd:k<d'.size:=by omega
    have hHw:HoldsK fA 11 wr g 0 d':=fun j hj=>by
      have:=hH2 j hj;unfold World.cell? World.frozen? at this⊢;rw[hbw.block g hg2];exact this
    have hcl:∀c,c<11->wr.cell? ⟨g,0+k*11+c,none⟩=some (fA d'[k])[c]! :=fun c hc=>by
      have:=(hHw.cell (i:=k) (c:=c) hkd hc).1;rw[B6 d' k hkd]at this;exact this
    obtain⟨x,hx⟩:∃x,x=d'[k]:=⟨_,rfl⟩;have hcur:((d'.toList.take k).foldl (fun a x=>eV a x.key) l).length<=10000:=by
      have:=Ig (d'.toList.take k) l;omega
    have hnext:(d'.toList.take (k+1)).foldl (fun a x=>eV a x.key) l=eV ((d'.toList.take k).foldl (fun a x=>eV a x.key) l) x.key:=by
      rw[hx,ln _ _ (by simpa using hkd)];simp
    have c0:wr.cell? ⟨g,k*11,none⟩=some (dY x.key.name):=by have:=hcl 0 (by omega);rw[Ax,Bw,<-hx]at this;exact this
    have c1:wr.cell? ⟨g,k*11+1,none⟩=some (dY x.key.domain):=by have:=hcl 1 (by omega);rw[Ax,<-hx]at this;exact this
    have c2:wr.cell? ⟨g,k*11+2,none⟩=some (dY x.key.path):=by have:=hcl 2 (by omega);rw[Ax,<-hx]at this;exact this
    have c3:wr.cell? ⟨g,k*11+3,none⟩=some (dY x.ab.value):=by have:=hcl 3 (by omega);rw[Ax,<-hx]at this;exact this
    have c4:wr.cell? ⟨g,k*11+4,none⟩=some (.bool x.ab.aG):=by have:=hcl 4 (by omega);rw[Ax,<-hx]at this;exact this
    have c5:wr.cell? ⟨g,k*11+5,none⟩=some (.bool x.ab.aV):=by have:=hcl 5 (by omega);rw[Ax,<-hx]at this;exact this
    have c6:wr.cell? ⟨g,k*11+6,none⟩=some (.bool x.ab.aH):=by have:=hcl 6 (by omega);rw[Ax,<-hx]at this;exact this
    have c7:wr.cell? ⟨g,k*11+7,none⟩=some (.bool x.ab.persistent):=by have:=hcl 7 (by omega);rw[Ax,<-hx]at this;exact this
    have c8:wr.cell? ⟨g,k*11+8,none⟩=some (.int .i64 x.ab.aQ):=by have:=hcl 8 (by omega);rw[Ax,<-hx]at this;exact this
    have c9:wr.cell? ⟨g,k*11+9,none⟩=some (.int .i64 x.ab.aq):=by have:=hcl 9 (by omega);rw[Ax,<-hx]at this;exact this
    have c10:wr.cell? ⟨g,k*11+10,none⟩=some (.int .i64 x.ab.access):=by have:=hcl 10 (by omega);rw[Ax,<-hx]at this;exact this
    clear hx hcl hHw;have hsz0:w.heap.size<=wr.heap.size:=Aq hbel2.size hbw.size;go_wp2_with (go_at_call 50;refine(Pn (k:=x.key) hcur (hv.below ((Below.refl _ _).alloc (Ai _) _)) (((hw.below hbel2).below hbw).below ((Below.refl _ _).alloc (Ai _) _))).mono ?_;rintro e w3 ⟨u,rfl,hu1,hu2,hu3⟩)
    have R1:=hnext.symm▸hu1;have R2:=hnext.symm▸(Se hu2 (m:=w.heap.size) (by simp;omega));have R3:Below w2.heap.size w2 w3:=(hbw.alloc hbw.size _).trans (hu3.mono (by have:=hbw.size;simp;omega));clear hu1 hu2 hu3 hv hnew c0 c1 c2 c3 c4 c5 c6 c7 c8 c9 c10 hnext;go_roundw
    case rel=>exact⟨k+1,by omega,by go_num,R1, .inr R2,R3⟩
    case measure=>simp[intOf];omega
  . have hkq':k=q:=by omega
    subst hkq';go_wp2;go_ret;refine⟨_,rfl,?_,hbel2.trans (hbw.mono hbel2.size)⟩;rcases hnew with h0|hnew
    . omega
    . rw[<-hnm,ZE m l.length l d'.toList (by omega) hk hperm hpw]at hnew;exact hnew
theorem PX (a:Option Addr) (n cap m:Nat) (h:n<=m) (w:World):Calls Tryz.prog 90 #[.slice a n cap, .int .i64 m] w fun e w'=>e= .returned (.slice a n cap)/\w'=w:=by
 go_enter Tryz.func90,Tryz.ntmps90
 go_wp2;go_ret;exact⟨rfl,rfl⟩
theorem ZW (hdr:¬(default:aL).dr):CO Ho NK:=kD bC.ok (by
 rintro⟨l,m⟩ ⟨hl,hk,hm⟩ w args hold ⟨h1,h2⟩;have hm:0<=m:=hm;obtain⟨q,rfl⟩:∃q:Nat,m=(q:Int):=⟨m.toNat,by omega⟩;match args,h1 with
 |[v,u],_=>
 have hu:=Gf (h2 1 _ _ rfl rfl);subst hu;have hv:=LC (h2 0 _ _ rfl rfl);have hl:l.length<=10000:=hl;have hk:KN l:=hk;by_cases hq:l.length<=q
 . obtain⟨a,cap,rfl⟩:∃a cap,v= .slice a l.length cap:=by
     rcases hv with⟨rfl,a,c,rfl⟩|⟨b,off,cap,rfl,_⟩
     . exact⟨a,c,rfl⟩
     . exact⟨_,cap,rfl⟩
   refine Calls.mono (PX a l.length cap q hq w) ?_;rintro e w' ⟨rfl,rfl⟩;refine⟨_,rfl, .inl ⟨0,?_,rfl⟩,Below.refl _ _,fun h=>(hdr h).elim⟩;show some (ec l)=some (ec (fq ((q:Int)).toNat l))
   rw[Dv,rU hq]
 . rcases hv with⟨rfl,a,c,rfl⟩|⟨b,off,cap,rfl,hb,hrow,hcap,hcells⟩
   . simp at hq
   . refine Calls.mono (PN (m:=q) (cap:=cap) hl hk (Nat.lt_of_not_le hq) (.inr ⟨b,off,cap,rfl,hcap,hcells,hrow⟩) hrow hb hold) ?_;rintro e w' ⟨u,rfl,hu,hbel⟩;exact⟨u,rfl, .inr (by
       show Up w' w.heap.size (ec (fq ((q:Int)).toNat l)) u
       rw[Dv];exact(Je hu).2),hbel,fun h=>(hdr h).elim⟩)
end
end Go.Proofs
namespace Go.Proofs
open Go Go.Am Go.RowKit Go.Sy Go.Gm Go.Maps Go.Sort Go.Shelf
section
abbrev fg (c:az) (m:aJ) (now:Int):List aa×Int:=iw (c,dF m,now)
def mf (c:az) (m:aJ) (now:Int):List dM:=nW (de m (fg c m now).1)
theorem Tz {m:aJ} {l:List aa} {i:Nat}:(de m (l.take i)).length<=(de m l).length:=by
 conv=>rhs;rw[<-BV i l]
 unfold de;rw[Eb,A5];omega
section
variable [Inhabited aL]
theorem tR (hdr:¬(default:aL).dr):∀g C,qR g=some C->CO g C:=bR (SE hdr) (bR (ZW hdr) LL)
noncomputable def NF (f:FuncId):Option aN:=bif Nat.beq f nF then some Gx else GH f
theorem Vp (hdr:¬(default:aL).dr):∀f C,NF f=some C->CO f C:=bR (Zk (Vn (tR hdr))) (KT hdr)
structure fQ (c:az) (m:aJ) (now:Int):Prop where
 rules:uJ c
 jx:(dF m).length<=10000
 short:u4 (dF m)
 cL:(de m (fg c m now).1).length<=10000
 one:m.kept.length<=2000
 room:m.kept.length+(mf c m now).length<=2048
def Mk:aN:={Y:=az×(Nat×aJ)×Int,pre:=fun y=>ch y.2.1.1 y.2.1.2/\fQ y.1 y.2.1.2 y.2.2,args:=fun y=>[.agg y.1.enc, .wp ⟨y.2.1.1,0,none⟩,i64 y.2.2],res:=fun y=> .bG [oh (mf y.1 y.2.1.2 y.2.2),i64 (fg y.1 y.2.1.2 y.2.2).2]}
theorem Nl (y:az×List aa×Int):(iw y).1.length<=y.2.1.length:=by
 unfold iw;split
 . exact Aw _
 . exact Mt _ _
theorem Lw (hdr:¬(default:aL).dr):CO H3 Mk:=bZ (cfg:=fun(y:az×(Nat×aJ)×Int)=>cz NF (cD vI 3 (Ml y.2.1.2 (fg y.1 y.2.1.2 y.2.2).1 1))) bC (fun _=>rfl) (fun _=>Vp hdr) (n:=900) (by
 rintro⟨c,⟨b,m⟩,now⟩ ⟨hm,hp⟩;have hm:ch b m:=hm;have hp:fQ c m now:=hp;have hil:(fg c m now).1.length<=10000:=Aq (Nl _) hp.jx
 (conv=>whnf)
 refine⟨some (b,m),?_⟩
 repeat ((conv=>whnf);first|refine⟨rfl,?_⟩|refine⟨trivial,?_⟩)
 refine⟨hm,?_⟩
 (conv=>whnf)
 refine⟨(c,dF m,now),?_⟩
 repeat ((conv=>whnf);first|refine⟨rfl,?_⟩|refine⟨trivial,?_⟩)
 refine⟨⟨hp.rules,hp.jx,hp.short⟩,?_⟩
 (conv=>whnf)
 refine aK (fun h=>?_) fun h=>?_
 . have h:(!decide ((fg c m now).2=0))=true:=h;have h0:(fg c m now).1=[]:=by
     show(iw (c,dF m,now)).1=[]
     unfold iw;split
     . rfl
     . rename_i hn;exfalso;have:(fg c m now).2=0:=by
        show(iw (c,dF m,now)).2=0
        unfold iw;rw[if_neg hn]
       rw[Bg this]at h;cases h
   (conv=>whnf)
   refine⟨?_,?_⟩
   . show mf c m now=[]
     unfold mf;rw[h0];rfl
   repeat' (first|exact trivial|exact rfl|((conv=>whnf);first|(apply aK<;>intro)|apply And.intro))
 have hz:(fg c m now).2=0:=by
   have h:(!decide ((fg c m now).2=0))=false:=h;simpa using h
 (conv=>whnf)
 refine⟨⟨(0:Nat),Aw _,?_⟩,?_⟩
 . repeat' (first|exact trivial|exact rfl|((conv=>whnf);first|(apply aK<;>intro)|apply And.intro))
   all_goals exact au.2 ⟨_,rfl,ag.2 ⟨rfl,fun _=>rfl⟩⟩
 intro (x:Nat) hx;have hx:x<=(fg c m now).1.length:=hx
 (conv=>whnf)
 refine aK (fun hlt=>?_) fun hge=>?_
 . have hlt':x<(fg c m now).1.length:=cB hlt
   (conv=>whnf)
   refine au.2 ⟨_,cO hlt',?_⟩
   (conv=>whnf)
   refine⟨((some (b,m),(fg c m now).1[x].key):Mp×aA),?_⟩
   repeat ((conv=>whnf);first|refine⟨rfl,?_⟩|refine⟨trivial,?_⟩)
   refine⟨hm,?_⟩
   (conv=>whnf)
   have hf:=JR (m:=m) hlt';have h1:=Tz (m:=m) (l:=(fg c m now).1) (i:=x);have h2:=Aq (xO m (fg c m now).1[x].key) hp.one;have h3:=hp.cL;refine⟨fun _=>⟨rfl,rfl⟩,mU m (fg c m now).1[x].key,rfl,ag.2 ⟨y6 _ (by show(de m ((fg c m now).1.take x)).length+(mU m (fg c m now).1[x].key).length<=600000;omega),?_⟩⟩
   (conv=>whnf)
   refine ag.2 ⟨cu x (by omega),?_⟩
   (conv=>whnf)
   refine⟨(x+1:Nat),hlt',by show(fg c m now).1.length - (x+1)<(fg c m now).1.length - x;omega,?_⟩
   repeat' (first|exact trivial|exact rfl|((conv=>whnf);first|(apply aK<;>intro)|apply And.intro))
   all_goals ((conv=>whnf);rw[hf])
 . have hge':(fg c m now).1.length<=x:=gr hge;have h1:=hp.cL
   (conv=>whnf)
   refine⟨de m (fg c m now).1,?_⟩
   (conv=>whnf)
   refine⟨by rw[Ay hge'],?_⟩
   repeat ((conv=>whnf);first|refine⟨rfl,?_⟩|refine⟨trivial,?_⟩)
   refine⟨by show(de m (fg c m now).1).length<=1000000;omega,?_⟩
   (conv=>whnf)
   refine⟨(b,m,mf c m now),?_⟩
   repeat ((conv=>whnf);first|refine⟨rfl,?_⟩|refine⟨trivial,?_⟩)
   refine⟨⟨hm,I3 (by omega)⟩,?_⟩;have hfit:decide (m.kept.length+(mf c m now).length<=2048)=true:=Bg hp.room
   (conv=>whnf)
   refine aK (fun h=>?_) fun h=>?_
   . have h:(!decide (m.kept.length+(mf c m now).length<=2048))=true:=h;rw[hfit]at h;cases h
   . repeat' (first|exact trivial|exact rfl|((conv=>whnf);first|(apply aK<;>intro)|apply And.intro))
     exact hz.symm)
end
end
section
variable [Inhabited aL]
theorem w7 {G:bn} {m:aJ} (g:cq G m) {gs:List aa} {cs:List (List aj)} (hcs:cs.flatten=cS bS (de m gs)) (k:aA):((∃x∈gs,x.key=k)->aR (dX m 0 cs) k=[])/\((¬∃x∈gs,x.key=k)->aR (dX m 0 cs) k=aR m k):=by
 have he:aR (dX m 0 cs) k=(aR m k).filter fun e=> !decide (e.dot∈cs.flatten):=by
   unfold aR;rw[J1,BZ,BZ];exact B8 fun e _=>Fl _ _
 have hin:∀e∈aR m k,e.dot∈cs.flatten↔∃x∈gs,x.key=k:=by
   intro e hm;obtain⟨hal,hek⟩:=cR.1 hm;rw[hcs,oN];unfold de mU;rw[List.mem_flatMap];constructor
   . rintro⟨x,hx,hd⟩;obtain⟨e',he',hdd⟩:=Au.1 hd;obtain⟨hal',hek'⟩:=cR.1 he';have:=CA g hal' hal hdd;subst this;exact⟨x,hx,hek'.symm.trans hek⟩
   . rintro⟨x,hx,rfl⟩;exact⟨x,hx,Au.2 ⟨e,hm,rfl⟩⟩
 rw[he];refine⟨fun hP=>?_,fun hP=>?_⟩
 . rw[DW];intro e hm;simp[(hin e hm).2 hP]
 . rw[Bz];intro e hm;have:¬e.dot∈cs.flatten:=fun h=>hP ((hin e hm).1 h)
   simp[this]
theorem Ry {G G':bn} {m:aJ} {gs:List aa} {cs:List (List aj)} (g:cq G m) (hcs:cs.flatten=cS bS (de m gs)) (g':cq G' (dX m 0 cs)):fC (dX m 0 cs)=(fC m).filter fun e=> !decide (∃x∈gs,x.key=e.key):=by
 refine wz (less:=kU) (fun x=>mK _) (fun x y z=>pz _ _ _) (vT g') (D3 BU (vT g)) fun y=>?_
 rw[wB g',Ar,wB g];have hk:∀{k},aR m k≠[]->(dS m k).1.key=k:=fun h=>(cR.1 (rW h)).2
 have hw:∀k,(¬∃x∈gs,x.key=k)->dS (dX m 0 cs) k=dS m k:=fun k hP=>by
   unfold dS;rw[(w7 g hcs k).2 hP]
 constructor
 . rintro⟨k,hne,rfl⟩;by_cases hP:∃x∈gs,x.key=k
   . exact absurd ((w7 g hcs k).1 hP) hne
   . rw[(w7 g hcs k).2 hP]at hne;rw[hw k hP];refine⟨⟨k,hne,rfl⟩,?_⟩;rw[hk hne,Br hP];rfl
 . rintro⟨⟨k,hne,rfl⟩,hp⟩;rw[hk hne]at hp;have hP:¬∃x∈gs,x.key=k:=fun hP=>by rw[Bg hP]at hp;cases hp
   exact⟨k,by rw[(w7 g hcs k).2 hP];exact hne,by rw[hw k hP]⟩
theorem TJ {G G':bn} {m:aJ} {gs:List aa} {cs:List (List aj)} (g:cq G m) (hcs:cs.flatten=cS bS (de m gs)) (g':cq G' (dX m 0 cs)):dF (dX m 0 cs)=(dF m).filter fun x=> !decide (∃y∈gs,y.key=x.key):=by
 unfold dF;rw[Ry g hcs g',List.filter_map];rfl
theorem zr {G:bn} {m:aJ} (g:cq G m):iE (dF m)=true:=by
 rw[ep];unfold dF;rw[DT];exact vT g
theorem Np {c:az} {m:aJ} {now:Int} (hr:iE (dF m)=true) (h:(fg c m now).2=0):gD c=0/\(fg c m now).1=iU (dF m) (fX (aD c) (cY c) (dF m) now):=by
 by_cases hc:gD c=0
 . refine⟨hc,?_⟩;have e:=Nn (l:=dF m) (now:=now) hc hr;show(iw (c,dF m,now)).1=_
   rw[F8 (by rw[e]),e]
 . exfalso;have e:=XA (l:=dF m) (now:=now) hc;have h:(iw (c,dF m,now)).2=0:=h;rw[MG (by rw[e];exact hc),e]at h;exact hc h
theorem Sh {G G':bn} {m:aJ} {c:az} {now:Int} {cs:List (List aj)} (g:cq G m) (h:(fg c m now).2=0) (hcs:cs.flatten=cS bS (de m (fg c m now).1)) (g':cq G' (dX m 0 cs)):dF (dX m 0 cs)=fX (aD c) (cY c) (dF m) now:=by
 rw[TJ g hcs g',(Np (zr g) h).2];have hk:KN (dF m):=J0 (zr g);have hs:=uA (aD c) (cY c) (dF m) now;refine(B8 fun x hx=>?_).trans (Q9 hs hk.nodup);by_cases h:x∈fX (aD c) (cY c) (dF m) now
 . have:¬∃y∈iU (dF m) (fX (aD c) (cY c) (dF m) now),y.key=x.key:=by
    rintro⟨y,hy,he⟩;obtain⟨h1,h2⟩:=Ar.1 hy;have:=hk.inj h1 hx he;subst this;exact(Bo h2) h
   rw[Br this,Bg h];rfl
 . have:∃y∈iU (dF m) (fX (aD c) (cY c) (dF m) now),y.key=x.key:=⟨x,Ar.2 ⟨hx,Bg h⟩,rfl⟩;rw[Bg this,Br h];rfl
theorem S8 (c:az) (l:List aa) (now:Int):fX (aD c) (cY c) (fX (aD c) (cY c) l now) now=fX (aD c) (cY c) l now:=by
 obtain⟨h1,h2⟩:=RK (cap:=aD c) (total:=cY c) (l:=l) (now:=now);exact Wr (fun x hx=>(h2 x hx).1) (fun x hx=>(h2 x hx).2) h1
theorem TG {m':aJ} {c:az} {l:List aa} {now:Int} (hc:gD c=0) (hr:iE l=true) (h:dF m'=fX (aD c) (cY c) l now):fg c m' now=([],0):=by
 have hr':=TI hr (uA (aD c) (cY c) l now);have e:=Nn (l:=fX (aD c) (cY c) l now) (now:=now) hc hr';show iw (c,dF m',now)=([],0)
 rw[h,F8 (by rw[e]),e];show(iU _ (fX _ _ (fX _ _ l now) now),(0:Int))=_
 rw[S8,T6]
theorem VM {G:bn} {m:aJ} {gs:List aa} (g:cq G m) (h0:getM m.ctx 63 1048576=0):∀c∈fW (cS bS (de m gs)).length (cS bS (de m gs)),py c:=by
 refine K9 _ _ (fun d hd=>?_) (fun d hd=>?_) (IX (fun x=>tU x) (fun x y z=>tX) vX _)
 all_goals
   obtain⟨e,he,rfl⟩:=VA (oN (less:=bS) _ _|>.1 hd);have:=Tx g he
 . exact this.1
 . exact this.2 h0
end
end Go.Proofs
