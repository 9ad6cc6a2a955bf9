/- Part 5: an evaluator, proved sound, and its use at this seat; no condition. -/
import Derived.KernelRfl
import Derived.Laws.CopyOwn
import Derived.Lib.AppendZerosOnto
import Derived.Lib.Overlaps
import Derived.Laws.AppendOwn
import Derived.Shelf.Spec.SlicesInsertGrow
import Derived.Test.YtmfohfbdddlilaaGreatP3
import Derived.Test.YtmfohfbdddlilaaGreatP4
set_option linter.unusedSimpArgs false
set_option linter.unusedVariables false
set_option linter.unusedSectionVars false
set_option linter.deprecated false
set_option maxRecDepth 100000
set_option maxHeartbeats 4000000
namespace Go.Proofs
open Go Go.Am Go.RowKit Go.Sy
end Go.Proofs
namespace Go.Proofs
open Go Go.Am Go.RowKit Go.Sy Go.Maps Go.Sort Go.Shelf
section
section
variable [Inhabited aD]
end
theorem pQ (x:aa):∀v∈cg x,v.oneCell'=true:=by
 intro v hv;unfold cg at hv;simp only[Ag,BT,DQ]at hv;rcases hv with rfl|rfl|rfl|rfl|rfl|rfl|rfl|rfl|rfl|rfl|rfl<;>rfl
def fJ (w:World) (v:Value) (l:List aa):Prop:=(l=[]/\ ∃a c,v= .slice a 0 c)\/
 ∃b off cap,v= .slice (some ⟨b,off,none⟩) l.length cap/\l.length<=cap/\(∃arr e fz,w.heap[b]? =some (.cells arr e fz)/\off+l.length*11<=arr.size)/\rowAt w b off l
theorem fJ.below {w w':World} {v:Value} {l:List aa} (h:fJ w v l) (hb:Below w.heap.size w w'):fJ w' v l:=by
 rcases h with h|⟨b,off,cap,h1,h2,⟨arr,e,fz,h3,h4⟩,h5⟩
 . exact .inl h
 . have hlt:=(Aa.1 h3).1;exact .inr ⟨b,off,cap,h1,h2,⟨arr,e,fz,by rw[hb.block b hlt];exact h3,h4⟩,h5.below hb hlt⟩
section
variable [Inhabited aD]
theorem Gv {Fz:Nat->Option AO} {n:Nat} (k:ay):aF Fz (.agg k.enc) (dm n (.agg #[aV k.name,aV k.domain,aV k.path])):=by
 unfold dm;refine .agg rfl fun i c v hc hv=>?_
 have hj:i<3:=(Ac.1 hc).1;unfold ay.enc at hc;match i,hj with
 |0,_|1,_|2,_=>cases hc;cases hv;exact .str _
theorem CY {tab:aR} {w:World} {v:Value} {l:List aa} (h:fJ w v l):aF (bK tab w).get (eH l) (dm w.heap.size v):=by
 rcases h with⟨rfl,a,c,rfl⟩|⟨b,off,cap,rfl,h2,h3,h4⟩
 . show aF _ (eH []) (dq w.heap.size (.slice a 0 c))
   cases a with
   |none=>
    cases c with
    |zero=>exact .bL rfl (.inl rfl)
    |succ c=>exact .bL rfl (.inr (.inr ⟨_,_,rfl⟩))
   |some a=>rw[tE];exact .bL rfl (.inr (.inr ⟨_,_,rfl⟩))
 . exact K4 h2 h3 h4
end
theorem mW:(Tryz.prog.info? 48).map (fun i=>(i.zero,i.size,i.bytes))=some (some (.agg (cg iv).toArray),11,96):=by kernel_rfl
end
section
variable [Inhabited aD]
end
def bu (l:List aa):List Value:=l.flatMap cg
theorem kn:∀l:List aa,(bu l).length=l.length*11
 |[]=>rfl
 |x::l=>by
  have h:=kn l;unfold bu at h⊢;rw[DD,Aw,h,As,jz];omega
theorem pz (a b:List aa):bu (a++b)=bu a++bu b:=by unfold bu;rw[Fh]
theorem wO (x:aa):bu [x]=cg x:=by unfold bu;simp
theorem mC:∀{l:List aa} {i:Nat} {x:aa} {j:Nat},l[i]? =some x->j<11->(bu l)[i*11+j]? =(cg x)[j]?
 |[],i,x,j,h,_=>by simp at h
 |y::l,0,x,j,h,hj=>by
  cases h;unfold bu;rw[DD,AL (by rw[jz];omega)];congr 1;omega
 |y::l,i+1,x,j,h,hj=>by
  have:=mC (l:=l) (i:=i) (x:=x) (j:=j) h hj;unfold bu at this⊢;rw[DD,A3 (by rw[jz];omega),jz,<-this];congr 1;omega
abbrev iE (w:World) (base:Nat) (v:Value) (l:List aa):Prop:=w.ownsRow base 48 11 v l.length (bu l)
theorem iM {w:World} {b o:Nat} {x:aa} (h:∀j v,(cg x)[j]? =some v->w.cell? ⟨b,o+j,none⟩=some v):w.cell? ⟨b,o,none⟩=some (aV x.key.name)/\w.cell? ⟨b,o+1,none⟩=some (aV x.key.domain)/\w.cell? ⟨b,o+2,none⟩=some (aV x.key.path)/\w.cell? ⟨b,o+3,none⟩=some (aV x.ab.value)/\
  w.cell? ⟨b,o+4,none⟩=some (.bool x.ab.aH)/\w.cell? ⟨b,o+5,none⟩=some (.bool x.ab.aZ)/\w.cell? ⟨b,o+6,none⟩=some (.bool x.ab.aI)/\w.cell? ⟨b,o+7,none⟩=some (.bool x.ab.persistent)/\
  w.cell? ⟨b,o+8,none⟩=some (.int .i64 x.ab.aW)/\w.cell? ⟨b,o+9,none⟩=some (.int .i64 x.ab.aG)/\w.cell? ⟨b,o+10,none⟩=some (.int .i64 x.ab.access):=
 ⟨h 0 _ rfl,h 1 _ rfl,h 2 _ rfl,h 3 _ rfl,h 4 _ rfl,h 5 _ rfl,h 6 _ rfl,h 7 _ rfl,h 8 _ rfl,h 9 _ rfl,h 10 _ rfl⟩
theorem kh {w:World} {b:Nat} {x:aa} {e:TypeId} {fz:Nat×Nat} (h:w.heap[b]? =some (.cells (cg x).toArray e fz)):∀j v,(cg x)[j]? =some v->w.cell? ⟨b,0+j,none⟩=some v:=fun j v hv=>by
 unfold World.cell?
 simp only[h,A1,Ai,Az,Ax];rw[AS];exact hv
theorem pD {w w':World} {base n size:Nat} {e:TypeId} {v:Value} {xs:List Value} (h:w.ownsRow base e size v n xs) (hb:Below w.heap.size w w'):w'.ownsRow base e size v n xs:=
 h.kept (row:=none) ⟨hb.os,hb.tape,hb.output,hb.size,fun i hi _=>hb.block i hi⟩ (Classical.em _)
theorem yb {w w0:World} {n:Nat} {v:Value} {xs:List Value} {x:aa} (h:w.ownsRow w0.heap.size 48 11 v n xs) (hb:Below w0.heap.size w0 w):∃Y,w.alloc (.cells (cg x).toArray 48)=Y/\Y.ownsRow w0.heap.size 48 11 v n xs/\Below w0.heap.size w0 Y/\ ∀i u,(cg x)[i]? =some u->Y.cell? ((⟨w.heap.size,0,none⟩:Addr).add i)=some u:=
 ⟨_,rfl,h.alloc _,hb.alloc hb.size _,fun i u hi=>by
  rw[Addr.add_lit];exact kh (World.alloc_heap_new _ _) i u hi⟩
theorem QJ {x:aa} {k:ay} {kb:Nat} {w:World} (h0:w.cell? ⟨kb,0,none⟩=some (aV k.name)) (h1:w.cell? ⟨kb,1,none⟩=some (aV k.domain)) (h2:w.cell? ⟨kb,2,none⟩=some (aV k.path)) (hb:kb<w.heap.size):
  Calls Tryz.prog 98 #[.agg (cg x).toArray, .pointer (some ⟨kb,0,none⟩)] w fun e w'=>e= .returned (.bool (decide (x.key≠k)))/\Below w.heap.size w w':=by
 go_enter Tryz.func98,Tryz.ntmps98
 unfold cg;go_wp2
 all_goals
  go_ret;refine⟨?_,(Below.refl _ _).alloc (Af _) _⟩;obtain⟨⟨a,b,c⟩,z⟩:=x;obtain⟨a',b',c'⟩:=k;simp_all
theorem QG {l:List aa} {k:ay} {kb:Nat} {v:Value} {w:World} (hl:l.length<=10000) (h:fJ w v l) (h0:w.cell? ⟨kb,0,none⟩=some (aV k.name)) (h1:w.cell? ⟨kb,1,none⟩=some (aV k.domain)) (h2:w.cell? ⟨kb,2,none⟩=some (aV k.path)) (hb:kb<w.heap.size):
  Calls Tryz.prog 82 #[v, .func (.func 98) #[] #[.pointer (some ⟨kb,0,none⟩)]] w fun e w'=>∃u,e= .returned u/\iE w' w.heap.size u (eO l k)/\Below w.heap.size w w':=by
 letI:Inhabited aD:=⟨⟨True,#[]⟩⟩
 obtain⟨i0,hi,hz0,hz1,hz2⟩:=info_parts mW;obtain⟨a,cap,rfl⟩:∃a cap,v= .slice a l.length cap:=by
  rcases h with⟨rfl,a,c,rfl⟩|⟨b,off,cap,rfl,_⟩
  . exact⟨a,c,rfl⟩
  . exact⟨_,cap,rfl⟩
 go_enter Tryz.func82,Tryz.ntmps82
 go_wp2;go_loopw [5,10] (fun u i wr=>∃k':Nat,k'<=l.length/\i= .int .i64 k'/\iE wr w.heap.size u (eO (l.take k') k)/\Below w.heap.size w wr)
  (fun _ i _=>l.length - (intOf i).toNat)
 case atStart=>exact⟨0,Bf _,rfl,World.ownsRow_nil _ _ _ _,Below.refl _ _⟩
 case round=>
  obtain⟨k',hkl,rfl,hown,hbw⟩:=hrel;by_cases hlt:k'<l.length
  . obtain⟨b,off,rfl,hbl,hrow⟩:∃b off,a=some ⟨b,off,none⟩/\b<w.heap.size/\rowAt w b off l:=by
     rcases h with⟨rfl,_⟩|⟨b,off,cap',h1,h2,⟨arr,e,fz,h3,h4⟩,h5⟩
     . simp at hlt
     . cases h1;exact⟨b,off,rfl,(Aa.1 h3).1,h5⟩
    obtain⟨x,hx⟩:∃x,l[k']? =some x:=⟨_,Ae hlt⟩;have hcl:∀j v,(cg x)[j]? =some v->wr.cell? ⟨b,off+k'*11+j,none⟩=some v:=fun j v hv=>(hrow.below hbw hbl) k' x j v hx hv
    obtain⟨c0,c1,c2,c3,c4,c5,c6,c7,c8,c9,c10⟩:=iM hcl;obtain⟨X,hX⟩:∃X,wr.alloc (.cells #[aV x.key.name,aV x.key.domain,aV x.key.path,aV x.ab.value, .bool x.ab.aH, .bool x.ab.aZ, .bool x.ab.aI, .bool x.ab.persistent, .int .i64 x.ab.aW, .int .i64 x.ab.aG, .int .i64 x.ab.access] 48)=X:=⟨_,rfl⟩;have hbX:Below wr.heap.size wr X:=by rw[<-hX];exact(Below.refl _ _).alloc (Af _) _
    have hXn:X.heap[wr.heap.size]? =some (.cells (cg x).toArray 48 (0,0)):=by rw[<-hX];exact World.alloc_heap_new _ _
    have hkX:=(hbw.trans (hbX.mono hbw.size));have hwo:=QJ (x:=x) (k:=k) (w:=X) (by rw[World.cell?_of_block (hkX.block kb hb)];exact h0) (by rw[World.cell?_of_block (hkX.block kb hb)];exact h1) (by rw[World.cell?_of_block (hkX.block kb hb)];exact h2) (AJ hb hkX.size);clear hcl;obtain⟨d0,d1,d2,d3,d4,d5,d6,d7,d8,d9,d10⟩:=iM (kh hXn);simp only[Ax]at d1 d2 d3 d4 d5 d6 d7 d8 d9 d10;have hf:=kO (p:=fun z:aa=>decide (z.key≠k)) hlt;have hxl:l[k']=x:=by rw[Ae hlt]at hx;exact B7 hx
    rw[hxl]at hf;have ho3:=pD hown hbX;have hfl:(eO (l.take k') k).length<=k':=Ay (Bi _ _) (by rw[A7];omega)
    cases hd:decide (x.key≠k)with
    |false=>
     rw[hd]at hwo;simp only[hd,Ai,Az,Br]at hf;go_wp2_with (go_at_call 98;refine hwo.mono ?_;rintro e w3 ⟨rfl,hb3⟩)
     have ho4:=pD ho3 hb3;go_roundw
     case rel=>exact⟨k'+1,by omega,by go_num,by unfold eO;rw[hf];exact ho4,hkX.trans (hb3.mono hkX.size)⟩
     case measure=>simp[intOf];omega
    |true=>
     rw[hd]at hwo;simp only[hd,if_true]at hf;go_wp2_with (first
       |(go_at_call 98;refine hwo.mono ?_;rintro e w3 ⟨rfl,hb3⟩;have hX3:=(hb3.block _ (Aa.1 hXn).1).trans hXn;obtain⟨e0,e1,e2,e3,e4,e5,e6,e7,e8,e9,e10⟩:=iM (kh hX3);simp only[Ax]at e1 e2 e3 e4 e5 e6 e7 e8 e9 e10;have ho4:=pD ho3 hb3;have hk3:=hkX.trans (hb3.mono hkX.size);obtain⟨Y,hY,ho5,hk5,hnc⟩:=yb (x:=x) ho4 hk3;unfold cg at hY;have hsY:w3.heap.size<Y.heap.size:=by(rw[<-hY];simp))
       |(at_builtin;go_loud (refine wpList_append_own _ rfl _ _ 52 rfl w.heap.size 48 i0 _ 11 96 Tryz.underlying52 hi hz0 hz1 hz2 rfl (by decide) _ _ _ rfl ho5 ⟨w3.heap.size,0,none⟩ 1 1 (cg x) rfl rfl hnc (pQ x) (by unfold maxLen;omega) (by omega) hk5.size ?_;intro v3 w4 hown4 hg4 hnil)))
     go_roundw
     case rel=>exact⟨k'+1,by omega,by go_num,by unfold eO;rw[hf];show World.ownsRow w4 _ 48 11 v3 _ (bu (_++[x]));rw[pz,wO,Aw];exact hown4,hk5.grown hg4 hk5.size (fun k e=>(ho5.lt k e).1)⟩
     case measure=>simp[intOf];omega
  . have hkq:k'=l.length:=by omega
    subst hkq;go_wp2;go_ret;rw[Bz]at hown;exact⟨_,rfl,hown,hbw⟩
theorem Pu {l:List aa} {k:ay} {v:Value} {w:World} (hl:l.length<=10000) (h:fJ w v l):
  Calls Tryz.prog 50 #[v, .agg #[aV k.name,aV k.domain,aV k.path]] w fun e w'=>∃u,e= .returned u/\iE w' w.heap.size u (eO l k)/\Below w.heap.size w w':=by
 obtain⟨W,hW⟩:∃W,w.alloc (.cells #[aV k.name,aV k.domain,aV k.path] 24)=W:=⟨_,rfl⟩;have hbW:Below w.heap.size w W:=by rw[<-hW];exact(Below.refl _ _).alloc (Af _) _
 have hsW:w.heap.size<W.heap.size:=by rw[<-hW];simp
 have hb:W.heap[w.heap.size]? =some (.cells #[aV k.name,aV k.domain,aV k.path] 24 (0,0)):=by rw[<-hW];exact World.alloc_heap_new _ _
 have h0:W.cell? ⟨w.heap.size,0,none⟩=some (aV k.name):=by simp[World.cell?,hb]
 have h1:W.cell? ⟨w.heap.size,1,none⟩=some (aV k.domain):=by simp[World.cell?,hb]
 have h2:W.cell? ⟨w.heap.size,2,none⟩=some (aV k.path):=by simp[World.cell?,hb]
 have hk:=QG (k:=k) hl (h.below hbW) h0 h1 h2 hsW;go_enter Tryz.func50,Tryz.ntmps50
 go_wp2_with (go_at_call 82;refine hk.mono ?_;rintro e w1 ⟨u,rfl,hu,hb1⟩)
 go_ret;exact⟨_,rfl,ownsRow_base_a hu (Nat.le_of_lt hsW),hbW.trans (hb1.mono (Nat.le_of_lt hsW))⟩
theorem sN {P:Program} (w:World) (dT sT ty elem:TypeId) (K g o dLen dCap:Nat) (a:Addr) (sLen sCap:Nat) (cur:Array Value) (t:TypeId) (cs:List Value)
  (hu:P.underlying dT=some (.slice elem)) (hs:(P.info? elem).map (·.size)=some K)
  (hg:w.heap[g]? =some (.cells cur t (0,0))) (hn:cs.length=Nat.min sLen dLen*K)
  (hsrc:∀j v,cs[j]? =some v->w.cell? (a.add j)=some v) (hfit:o+cs.length<=cur.size) (h1:∀v∈cs,v.oneCell'=true):
  (Builtin.copy_ #[dT,sT] ty #[.slice (some ⟨g,o,none⟩) dLen dCap, .slice (some a) sLen sCap]).run P w=
   .ok (goInt (Nat.min sLen dLen)) (w.setRow g (cur.toList.take o++cs++cur.toList.drop (o+cs.length)).toArray):=by
 have hl:=run_loadCells_list (P:=P) w a cs hsrc;have hst:=run_storeCells_at P g o t cs 0 cur w hg (by simpa using hfit) h1
 cases hq:P.info? elem with
 |none=>simp[hq]at hs
 |some i=>
  have hi:i.size=K:=by simpa [hq]using hs
  simp[Builtin.copy_,run_underlying hu,Builtin.lenOf,Builtin.firstCells,sizeOf,typeInfo,hq,hi,<-hn,hl,hst]
def fM (C:List Value) (l:List aa) (i:Nat):List Value:=C.take ((i+1)*11)++bu (l.drop i)++C.drop ((i+1)*11+(bu (l.drop i)).length)
def gA (C:List Value) (x:aa) (i:Nat):List Value:=C.take (i*11)++cg x++C.drop (i*11+(cg x).length)
theorem Pn {l:List aa} {x:aa} {i b cap vb:Nat} {cur:Array Value} {w:World} (hi:i<l.length) (hl:l.length<=10000) (hroom:l.length+1<=cap) (hcap:cap<=maxLen)
  (hb:w.heap[b]? =some (.cells cur 48 (0,0))) (hcs:cur.size=cap*11) (htk:cur.toList.take (l.length*11)=bu l) (hg:w.heap[vb]? =some (.cells (cg x).toArray 48 (0,0))) (hvb:vb≠b):
  Calls Tryz.prog 97 #[.slice (some ⟨b,0,none⟩) l.length cap, .int .i64 i, .slice (some ⟨vb,0,none⟩) 1 1] w fun e w'=>e= .returned (.slice (some ⟨b,0,none⟩) (l.length+1) cap)/\
   w'=(w.drew.setRow b (fM cur.toList l i).toArray).setRow b (gA (fM cur.toList l i) x i).toArray:=by
 have mixed:Tryz.prog.follows Departure.mixedOrders=true:=by kernel_rfl
 have hz2:¬((i:Int)=(l.length:Int)):=by omega
 have hc63:cap<=9223372036854775807:=by unfold maxLen at hcap;omega
 have hw1:IntKind.i64.wrap ((i:Int)+1)=(i:Int)+1:=by rw[IntKind.wrap_i64];omega
 have hw2:IntKind.i64.wrap ((l.length:Int)+1)=(l.length:Int)+1:=by rw[IntKind.wrap_i64];omega
 have hb1:(0:Int)<=(i:Int)+1:=by omega
 have hin:i<=l.length:=by omega
 have htn:((i:Int)+1).toNat=i+1:=by omega
 have hb2:¬(cap=i+1):=by omega
 have hb3:(i:Int)<=(l.length:Int)+1:=by omega
 have hb4:¬(cap=i):=by omega
 have hsz:(Tryz.prog.info? 48).map (·.size)=some 11:=by
  have:=mW
  cases h:Tryz.prog.info? 48 with
  |none=>rw[h]at this;cases this
  |some j=>rw[h]at this;simp at this;simp[this.2.1]
 have hov:∀lb cb,(callFunc 136 #[.slice (some ⟨vb,0,none⟩) 1 1, .slice (some ⟨b,(i+1)*11,none⟩) lb cb]).run Tryz.prog w= .ok (.value (.bool false)) w:=fun lb cb=>by
  rw[run_callFunc_extern Tryz.func136 (by kernel_rfl) (by kernel_rfl) (by kernel_rfl) (e:=Extern.SlicesOverlaps.overlaps #[52,52] #[4]) (by kernel_rfl),
   Lib.run_overlaps_apart w 52 4 48 Tryz.underlying52 11 (fun w=>by kernel_rfl) ⟨vb,0,none⟩ ⟨b,(i+1)*11,none⟩ 1 1 lb cb hvb 48 48 11 (cap*11) (by simp[World.shape?,hg];rfl) (by simp[World.shape?,hb,hcs]) (by omega) (by simp[World.frozen?,hg]) (by simp[World.frozen?,hg])]
  rfl
 have hdl:(bu (l.drop i)).length=(l.length - i)*11:=by rw[kn,A9]
 have hsrc:∀j v,(bu (l.drop i))[j]? =some v->w.cell? ((⟨b,i*11,none⟩:Addr).add j)=some v:=fun j v hj=>by
  have hj2:j<(l.length - i)*11:=by rw[<-hdl];exact(Ac.1 hj).1
  have hx:(l.drop i)[j / 11]? =some l[i+j / 11]:=by rw[BD,Ae]
  have h1:=mC (j:=j % 11) hx (by omega);have h2:=mC (l:=l) (i:=i+j / 11) (j:=j % 11) (Ae (by omega)) (by omega);rw[show j / 11*11+j % 11=j by omega,hj]at h1;rw[show(i+j / 11)*11+j % 11=i*11+j by omega,<-h1,<-htk,AU,if_pos (by omega),AW]at h2;rw[Addr.add_lit];simp only[World.cell?,hb,A1,Ai,Az];exact h2
 have hone:∀v∈bu (l.drop i),v.oneCell'=true:=fun v hv=>by
  unfold bu at hv;obtain⟨x,_,hv⟩:=List.mem_flatMap.1 hv;exact pQ x v hv
 have hcp1:∀ty dl dc sl sc,Nat.min sl dl=l.length - i->(Builtin.copy_ #[52,52] ty #[.slice (some ⟨b,(i+1)*11,none⟩) dl dc, .slice (some ⟨b,i*11,none⟩) sl sc]).run Tryz.prog w.drew= .ok (goInt (Nat.min sl dl)) (w.drew.setRow b (fM cur.toList l i).toArray):=fun ty dl dc sl sc hm=>
  sN w.drew 52 52 ty 48 11 b ((i+1)*11) dl dc ⟨b,i*11,none⟩ sl sc cur 48 (bu (l.drop i)) Tryz.underlying52 hsz hb (by rw[hm,hdl]) hsrc (by rw[hdl,hcs];omega) hone
 obtain⟨W1,hW1⟩:∃W1,W1=w.drew.setRow b (fM cur.toList l i).toArray:=⟨_,rfl⟩;have hb1:W1.heap[b]? =some (.cells (fM cur.toList l i).toArray 48 (0,0)):=by rw[hW1];exact setRow_heap w.drew b cur _ 48 (0,0) hb
 have hg1:W1.heap[vb]? =some (.cells (cg x).toArray 48 (0,0)):=by rw[hW1];exact(setRow_other w.drew b vb _ hvb).trans hg
 have hl1:(fM cur.toList l i).length=cap*11:=by
  unfold fM;have:cur.toList.length=cap*11:=by simpa using hcs
  simp only[Aw,A7,A9,hdl,this];omega
 have hcp2:∀(W:World),W.heap=W1.heap->∀ty dl dc,Nat.min 1 dl=1->(Builtin.copy_ #[52,52] ty #[.slice (some ⟨b,i*11,none⟩) dl dc, .slice (some ⟨vb,0,none⟩) 1 1]).run Tryz.prog W= .ok (goInt (Nat.min 1 dl)) (W.setRow b (gA (fM cur.toList l i) x i).toArray):=fun W hWh ty dl dc hm=>by
  have:=sN (P:=Tryz.prog) W 52 52 ty 48 11 b (i*11) dl dc ⟨vb,0,none⟩ 1 1 (fM cur.toList l i).toArray 48 (cg x) Tryz.underlying52 hsz (by rw[hWh];exact hb1) (by rw[hm,jz]) (fun j v hj=>by
   rw[Addr.add_lit];exact kh (by rw[hWh];exact hg1) j v hj) (by rw[jz];simp only[A4];omega) (pQ x)
  exact this
 rw[<-hW1]at hcp1⊢;clear hsrc hone hW1;go_enter Tryz.func97,Tryz.ntmps97
 go_wp2_with (simp only[hov])
 go_region_law_o (refine step_copy_runI rfl _ _ 52 52 rfl (.slice (some ⟨b,(i+1)*11,none⟩) (l.length - i) (cap - (i+1))) (.slice (some ⟨b,i*11,none⟩) (l.length+1 - i) (cap - i)) (by simp[Act.eval,Act.put]) (by simp[Act.eval,Act.put]) (hcp1 _ _ _ _ _ (by simp only[Nat.min_def];split<;>omega)) ?_)
 have hcp3:∀ty dc,(Builtin.copy_ #[52,52] ty #[.slice (some ⟨b,i*11,none⟩) (l.length+1 - i) dc, .slice (some ⟨vb,0,none⟩) 1 1]).run Tryz.prog W1= .ok (goInt (Nat.min 1 (l.length+1 - i))) (W1.setRow b (gA (fM cur.toList l i) x i).toArray):=fun ty dc=>hcp2 W1 rfl ty _ dc (by simp only[Nat.min_def];split<;>omega)
 go_wp2_with (simp only[hcp3])
 go_ret;exact⟨rfl,rfl⟩
theorem O0 {l:List aa} {x:aa} {i b cap vb:Nat} {cur:Array Value} {w:World} (hi:i<l.length) (hl:l.length<=10000) (hroom:cap<l.length+1) (hlc:l.length<=cap)
  (hb:w.heap[b]? =some (.cells cur 48 (0,0))) (hcs:cur.size=cap*11) (htk:cur.toList.take (l.length*11)=bu l) (hg:w.heap[vb]? =some (.cells (cg x).toArray 48 (0,0))):
  Calls Tryz.prog 97 #[.slice (some ⟨b,0,none⟩) l.length cap, .int .i64 i, .slice (some ⟨vb,0,none⟩) 1 1] w fun e w'=>∃G R,e= .returned (.slice (some ⟨w.heap.size,0,none⟩) (l.length+1) G)/\l.length+1<=G/\G<=maxLen/\R.length=G*11/\R.take (i*11)=bu (l.take i)/\
   w'.heap[w.heap.size]? =some (.cells (fM (gA R x i) l i).toArray 48 (0,0))/\Below w.heap.size w w':=by
 have mixed:Tryz.prog.follows Departure.mixedOrders=true:=by kernel_rfl
 obtain⟨i0,hi0,hz0,hz1,hz2⟩:=info_parts mW;have hsz:(Tryz.prog.info? 48).map (·.size)=some 11:=by rw[hi0];simp[hz1]
 have hne:¬((i:Int)=(l.length:Int)):=by omega
 have hw1:IntKind.i64.wrap ((i:Int)+1)=(i:Int)+1:=by rw[IntKind.wrap_i64];omega
 have hw2:IntKind.i64.wrap ((l.length:Int)+1)=(l.length:Int)+1:=by rw[IntKind.wrap_i64];omega
 have hw3:IntKind.i64.wrap ((l.length:Int)+1 - i)=(l.length:Int)+1 - i:=by rw[IntKind.wrap_i64];omega
 have hb1:(0:Int)<=(i:Int)+1:=by omega
 have hin:i<=l.length:=by omega
 have htn:((i:Int)+1).toNat=i+1:=by omega
 have hbw:b<w.heap.size:=(Aa.1 hb).1;have hvw:vb<w.heap.size:=(Aa.1 hg).1;have hcell:∀(l':List aa) o,l'=l.drop o->∀j v,(bu l')[j]? =some v->cur[o*11+j]? =some v:=fun l' o hl' j v hj=>by
  subst hl';have hj2:j<(l.length - o)*11:=by have:=(Ac.1 hj).1;rwa [kn,A9]at this
  have hx:(l.drop o)[j / 11]? =some l[o+j / 11]:=by rw[BD,Ae]
  have h1:=mC (j:=j % 11) hx (by omega);have h2:=mC (l:=l) (i:=o+j / 11) (j:=j % 11) (Ae (by omega)) (by omega);rw[show j / 11*11+j % 11=j by omega,hj]at h1;rw[show(o+j / 11)*11+j % 11=o*11+j by omega,<-h1,<-htk,AU,if_pos (by omega),AW]at h2;exact h2
 have hsplit:bu l=bu (l.take i)++bu (l.drop i):=by rw[<-pz,BS]
 have htl:(bu (l.take i)).length=i*11:=by rw[kn,A7];congr 1;omega
 have hold:(Builtin.firstCells i0.size i (.slice (some ⟨b,0,none⟩) i cap)).run Tryz.prog w.drew= .ok (bu (l.take i)).toArray w.drew:=by
  rw [hz1];exact run_firstCells_some w.drew 11 i ⟨b,0,none⟩ i cap (bu (l.take i)) htl (fun j v hj=>by
   have hj2:=(Ac.1 hj).1;have h2:(bu l)[j]? =some v:=by rw[hsplit,AL hj2];exact hj
   rw[<-htk,AU,AW]at h2;split at h2
   . rw[Addr.add_lit,Ax];show World.cell? w _=_
     simp only[World.cell?,hb,A1,Ai,Az];exact h2
   . cases h2)
 obtain⟨G,hG⟩:∃G,grownCap w (l.length+1) cap 48=G:=⟨_,rfl⟩;have hGn:l.length+1<=G:=by rw[<-hG];exact grownCap_ge w _ _ _
 have hGm:G<=maxLen:=by rw[<-hG];exact grownCap_le_maxLen w _ _ _ (by unfold maxLen;omega)
 have hG63:G<=9223372036854775807:=by unfold maxLen at hGm;omega
 have hkk:(l.length:Int)+1 - (i:Int)=((l.length+1 - i:Nat):Int):=by omega
 have hik:i+(l.length+1 - i)=l.length+1:=by omega
 obtain⟨R,hR⟩:∃R:List Value,bu (l.take i)++(Builtin.zeroCells (Value.agg (cg iv).toArray).cells (l.length+1 - i)).toList++(Builtin.zeroCells (Value.agg (cg iv).toArray).cells (G - (l.length+1))).toList=R:=⟨_,rfl⟩;have hzl:∀n,(Builtin.zeroCells (Value.agg (cg iv).toArray).cells n).size=n*11:=fun n=>by rw[size_zeroCells];rfl
 have hRl:R.length=G*11:=by
  rw[<-hR];simp only[Aw,htl,BG,hzl];omega
 have hRt:R.take (i*11)=bu (l.take i):=by rw[<-hR,A5,<-htl];exact List.take_left
 obtain⟨W1,hW1⟩:∃W1,w.drew.alloc (.cells R.toArray 48)=W1:=⟨_,rfl⟩;have hrz:∀ty,(Builtin.append_ #[52,3] ty #[.slice (some ⟨b,0,none⟩) i cap, .int .i64 ((l.length:Int)+1 - (i:Int))]).run Tryz.prog w= .ok (.slice (some ⟨w.heap.size,0,none⟩) (l.length+1) G) W1:=fun ty=>by
  have h:=Lib.run_append_grow_zeros w 52 3 ty 48 i0 _ .i64 .i64 Tryz.underlying52 Tryz.underlying3 hi0 hz0 (some ⟨b,0,none⟩) i cap (bu (l.take i)) hold (l.length+1 - i) (by omega) (by omega) (by omega) (by omega) (by rw[hz2];omega) (by rw[hz2,hik];exact growslice_fits hroom (by omega));rw[hik,hG]at h;rw[hkk,h,<-hW1,<-hR];congr 3
  simp only[A5,Array.append_assoc];apply Er;simp
 have hN:W1.heap[w.heap.size]? =some (.cells R.toArray 48 (0,0)):=by rw[<-hW1];exact World.alloc_heap_new _ _
 have hbel:Below w.heap.size w W1:=by rw[<-hW1];exact((Below.refl _ _).drew).alloc (Af _) _
 have h2l:(gA R x i).length=G*11:=by
  unfold gA;simp only[Aw,A7,A9,jz,hRl];omega
 have hcpA:∀ty dl dc,Nat.min 1 dl=1->(Builtin.copy_ #[52,52] ty #[.slice (some ⟨w.heap.size,i*11,none⟩) dl dc, .slice (some ⟨vb,0,none⟩) 1 1]).run Tryz.prog W1= .ok (goInt (Nat.min 1 dl)) (W1.setRow w.heap.size (gA R x i).toArray):=fun ty dl dc hm=>
  sN (P:=Tryz.prog) W1 52 52 ty 48 11 w.heap.size (i*11) dl dc ⟨vb,0,none⟩ 1 1 R.toArray 48 (cg x) Tryz.underlying52 hsz hN (by rw[hm,jz]) (fun j v hj=>by
   rw[Addr.add_lit];exact kh ((hbel.block vb hvw).trans hg) j v hj) (by rw[jz];simp only[A4];omega) (pQ x)
 obtain⟨W2,hW2⟩:∃W2,W1.setRow w.heap.size (gA R x i).toArray=W2:=⟨_,rfl⟩;have hN2:W2.heap[w.heap.size]? =some (.cells (gA R x i).toArray 48 (0,0)):=by rw[<-hW2];exact setRow_heap W1 _ _ _ 48 (0,0) hN
 have hbel2:Below w.heap.size w W2:=by rw[<-hW2];exact below_setRow hbel (Af _) _
 have hdl:(bu (l.drop i)).length=(l.length - i)*11:=by rw[kn,A9]
 have hone:∀v∈bu (l.drop i),v.oneCell'=true:=fun v hv=>by
  unfold bu at hv;obtain⟨x,_,hv⟩:=List.mem_flatMap.1 hv;exact pQ x v hv
 have hcpB:∀ty dl dc sl sc,Nat.min sl dl=l.length - i->(Builtin.copy_ #[52,52] ty #[.slice (some ⟨w.heap.size,(i+1)*11,none⟩) dl dc, .slice (some ⟨b,i*11,none⟩) sl sc]).run Tryz.prog W2.drew= .ok (goInt (Nat.min sl dl)) (W2.drew.setRow w.heap.size (fM (gA R x i) l i).toArray):=fun ty dl dc sl sc hm=>
  sN (P:=Tryz.prog) W2.drew 52 52 ty 48 11 w.heap.size ((i+1)*11) dl dc ⟨b,i*11,none⟩ sl sc (gA R x i).toArray 48 (bu (l.drop i)) Tryz.underlying52 hsz hN2 (by rw[hm,hdl]) (fun j v hj=>by
   rw[Addr.add_lit];show World.cell? W2 _=_
   simp only[World.cell?,hbel2.block b hbw,hb,A1,Ai,Az];exact hcell _ i rfl j v hj) (by rw[hdl];simp only[A4];omega) hone
 have hbel3:Below w.heap.size w (W2.drew.setRow w.heap.size (fM (gA R x i) l i).toArray):=below_setRow hbel2.drew (Af _) _;have hN3:(W2.drew.setRow w.heap.size (fM (gA R x i) l i).toArray).heap[w.heap.size]? =some (.cells (fM (gA R x i) l i).toArray 48 (0,0)):=setRow_heap W2.drew _ _ _ 48 (0,0) hN2;have hcp3:∀ty dc,(Builtin.copy_ #[52,52] ty #[.slice (some ⟨w.heap.size,i*11,none⟩) (l.length+1 - i) dc, .slice (some ⟨vb,0,none⟩) 1 1]).run Tryz.prog W1= .ok (goInt (Nat.min 1 (l.length+1 - i))) W2:=fun ty dc=>by
  rw[<-hW2];exact hcpA ty _ dc (by simp only[Nat.min_def];split<;>omega)
 have hnn:(0:Int)<=(l.length:Int)+1 - (i:Int):=by omega
 have hnm:¬((l.length:Int)+1 - (i:Int)<0):=by omega
 have hGi:¬(G=i):=by omega
 have hGim:¬(G=i+1):=by omega
 have hci:¬(cap=i):=by omega
 clear hkk hik hold hR hW1 hW2 hcell hsplit hcpA hone hzl hG htl;go_enter Tryz.func97,Tryz.ntmps97
 go_wp2_with (first|(at_builtin;go_loud (refine Lib.wpList_append_run _ rfl _ _ _ _ rfl _ _ rfl rfl _ _ (hrz _) ?_))|simp only[hcp3])
 go_region_law_o (refine step_copy_runI rfl _ _ 52 52 rfl (.slice (some ⟨w.heap.size,(i+1)*11,none⟩) (l.length - i) (G - (i+1))) (.slice (some ⟨b,i*11,none⟩) (l.length - i) (cap - i)) (by simp[Act.eval,Act.put]) (by simp[Act.eval,Act.put]) (hcpB _ _ _ _ _ (by simp only[Nat.min_def];split<;>omega)) ?_)
 go_wp2;go_ret;exact⟨G,R,rfl,hGn,hGm,hRl,hRt,hN3,hbel3⟩
end Go.Proofs
