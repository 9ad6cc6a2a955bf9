/- Part 12: an evaluator, proved sound, and its use at this seat; no condition. -/
import Derived.Deep.Cut
import Derived.Deep.RegionHeld3
import Derived.WalkKit
import Derived.LoopTactic
import Derived.Test.YtpbnfcmlcmiieaaGreatDoorP6
import Derived.Test.YtpbnfcmlcmiieaaGreatDoorP9
import Derived.Test.YtpbnfcmlcmiieaaGreatDoorP11
set_option linter.unusedSimpArgs false
set_option linter.unusedVariables false
set_option linter.unusedSectionVars false
set_option linter.deprecated false
set_option maxRecDepth 100000
set_option maxHeartbeats 40000000
namespace Go.Proofs
open Go Go.Am Go.RowKit Go.Sy Go.Gm
end Go.Proofs
namespace Go.Proofs
open Go Go.Am Go.RowKit Go.Sy Go.Gm Go.Maps Go.Sort Go.Shelf
section
inductive Flat:SV->Prop
 |bool (b:Bool):Flat (.bool b)
 |int (k:IntKind) (n:Int):Flat (.int k n)
 |str (s:List UInt8):Flat (.str s)
 |wp (a:Addr):Flat (.wp a)
 |aD {X:Type} {L:List X} {enc:X->List SV} (h:∀(i:Nat) x (j:Nat) v,L[i]? =some x->(enc x)[j]? =some v->Flat v):Flat (.aD X L enc)
theorem mg (l:List aj):Flat (cq l):= .aD fun i x j v _ hv=>by
 have hj:j<3:=(Ac.1 hv).1;match j,hj with
 |0,_|1,_|2,_=>cases hv;exact .int _ _
theorem Gw (l:List aK):Flat (jt l):= .aD fun i x j v _ hv=>by
 have hj:j<19:=(Ac.1 hv).1;match j,hj with
 |0,_|1,_|2,_|3,_|4,_|5,_|6,_|15,_|16,_|17,_=>cases hv;exact .int _ _
 |7,_|8,_|9,_|10,_=>cases hv;exact .str _
 |11,_|12,_|13,_|14,_=>cases hv;exact .bool _
 |18,_=>cases hv;exact mg _
section
variable [Inhabited aE] {tab:aM} {w:World} {p:Nat->Prop} {g:Bool}
theorem FJ {n:Nat} (a:Option Addr) (c:Nat):cE n (.slice a 0 c)= .nils\/cE n (.slice a 0 c)= .raw (.slice a 0 c):=by
 unfold cE;split<;>simp_all
theorem yz {s:SV} (hf:Flat s):∀{v:Value},Rd w p g s v->aC (bP tab w).get s (cE w.heap.size v):=by
 induction hf with
 |bool b=>intro v h;cases h;exact .bool b
 |int k n=>intro v h;cases h;exact .int k n
 |str s=>intro v h;cases h;exact .str s
 |wp a=>intro v h;cases h;exact .wp a
 | @aD X L enc hfl ih=>
  intro v h
  cases h with
  |fp h0=>exact .bt h0 (.inl rfl)
  |bt h h0 a c=>
   rcases FJ (n:=w.heap.size) a c with e|e
   . rw[e];exact .bt h0 (.inl rfl)
   . rw[e];exact .bt h0 (.inr (.inr ⟨_,_,rfl⟩))
  |aD b off cap arr e fz sz u hp hb hs hl hn hc h1 h2=>
   exact xy hb hs (fun x hx=>by obtain⟨i,hi,rfl⟩:=B6 hx;exact hn i _ (Af hi)) hl rfl hc (fun i x j v hx hv=>⟨u i j,h1 i x j v hx hv,ih i x j v hx hv (h2 i x j v hx hv)⟩)
theorem Gv {s:SV} (hf:Flat s) {v:Value} (h:Rd w p g s v) (n:Nat):ep n v=cE n v:=by
 cases hf<;>cases h<;>rfl
theorem lx {s:SV} (hf:Flat s) {v:Value} (h:Rd w p g s v):aC (bP tab w).get s (ep w.heap.size v):=by
 rw[Gv hf h];exact yz hf h
theorem IQ {cs:List SV} (hf:∀c∈cs,Flat c) {v:Value} (h:Rd w p g (.agg cs) v):aC (bP tab w).get (.agg cs) (ep w.heap.size v):=by
 cases h with
 | @agg cs vs h1 h2=>
  show aC _ (.agg cs) (.agg (vs.toList.map (cE w.heap.size)))
  refine .agg (by simpa using h1) fun i c v hc hv=>?_
  rw[Au]at hv
  cases hi:vs.toList[i]? with
  |none=>rw[hi]at hv;cases hv
  |some x=>
   rw[hi]at hv
   cases hv;exact yz (hf c (Br hc)) (h2 i c x hc (by rw[<-BH];exact hi))
theorem yx {s:SV} {v:Value} (h:aC (bP tab w).get s (ep w.heap.size v)):Rd w (fun _=>True) true s v:=by
 have:=pq (n4 tab w (E:=⟨fun i=>i,fun _=>0⟩) (fun _ _=>rfl)) (fun _ _ h=>h) h;rwa [wa (fun _ _=>rfl)]at this
end
def qW (w:World) (l:List aK) (v:Value):Prop:=(l=[]/\ ∃a c,v= .slice a 0 c)\/ ∃b off cap arr e fz,v= .slice (some ⟨b,off,none⟩) l.length cap/\w.heap[b]? =some (.cells arr e fz)/\l.length<=cap/\off+l.length*19<=arr.size/\
 ∀i (h:i<l.length),∃u,(∀j,j<19->arr[off+i*19+j]? =(xJ l[i] u)[j]?)/\cc w l[i].over u
theorem Is [Inhabited aE] {w:World} {l:List aK} {v:Value} (h:qW w l v):Rd w (fun _=>True) true (jt l) v:=by
 unfold jt;rcases h with⟨rfl,a,c,rfl⟩|⟨b,off,cap,arr,e,fz,rfl,hb,hc,hl,hi⟩
 . exact .bt rfl rfl a c
 . refine .aD b off cap arr e fz 19 (fun i j=>(arr[off+i*19+j]?).getD (.bool false)) trivial hb (by decide) hl (fun _ _ _=>rfl) hc (fun i x j v hx hv=>?_) (fun i x j v hx hv=>?_)
   all_goals
     have hil:i<l.length:=(Ac.1 hx).1;have hxe:l[i]=x:=(Ac.1 hx).2;obtain⟨u,hcl,hd⟩:=hi i hil;rw[hxe]at hcl hd;have hj:j<19:=(Ac.1 hv).1;have hcl:=hcl j hj
   . rw[hcl,Af (show j<(xJ x u).length from hj)];rfl
   . show Rd w _ true v ((arr[off+i*19+j]?).getD _)
     rw[hcl];match j,hj with
     |0,_|1,_|2,_|3,_|4,_|5,_|6,_|15,_|16,_|17,_=>cases hv;exact .int _ _
     |7,_|8,_|9,_|10,_=>cases hv;exact .str _
     |11,_|12,_|13,_|14,_=>cases hv;exact .bool _
     |18,_=>cases hv;exact nZ hd
theorem kN.heap {w w':World} {n b bk ba bd bs bv:Nat} {G:fY} (h:kN w n b bk ba bd bs bv G) (hs:∀i,i<w.heap.size->w'.heap[i]? =w.heap[i]?):kN w' n b bk ba bd bs bv G where
 c0:=gy h.c0 (hs _ (mC h.c0))
 c1:=gy h.c1 (hs _ (mC h.c1))
 c2:=gy h.c2 (hs _ (mC h.c2))
 c3:=gy h.c3 (hs _ (mC h.c3))
 cv:=gy h.cv (hs _ (mC h.cv))
 oY:=h.oY.same (hs _ h.oY.lt)
 ma:=h.ma.same (hs _ h.ma.lt)
 md:=h.md.same (hs _ h.md.lt)
 mv:=h.mv.same (hs _ h.mv.lt)
 mi:=fun x hx=>(h.mi x hx).same (hs _ (h.mi x hx).lt)
 nd:=h.nd
 low:=h.low
 ev:=fun x hx=>(h.ev x hx).cells fun c arr e fz hc=>by rw[hs _ (Ad.1 hc).1];exact hc
abbrev lB (w:World):Inhabited aE:=⟨⟨False,w.heap⟩⟩
theorem GU (w:World): @dm (lB w) w:=by intro b _;rfl
theorem Ie (w:World):¬(@default aE (lB w)).dr:=fun h=>h
theorem FR {w:World} {n b bk ba bd bs bv:Nat} {G:fY} {m:bN} (h:kN w n b bk ba bd bs bv G) (g:kM G m) (ok:mc m) (hov:∀e∈m.kept,e.over.length<=100000): @dT (lB w) b m:=
 letI:Inhabited aE:=lB w
 ⟨ok,hov,fun w' hw=>⟨n,bk,ba,bd,bs,bv,G,h.heap fun i hi=>hw i hi,g⟩⟩
end
section
variable [Inhabited aE]
end
section
section
variable [Inhabited aE]
end
end
section
theorem JK {w:World} {n b bk ba bd bs bv:Nat} {G:fY} (h:kN w n b bk ba bd bs bv G) (hl:G.kept.length<=100000) (k:Nat) (hk:k<=1000000):Calls Tryz.prog 15 #[.pointer (some ⟨b,0,none⟩), .int .i64 k] w fun e w'=>e= .returned (.bool (decide ((k:Int)<=2048 - (G.kept.length:Int))))/\w'=w:=by
 obtain⟨es,clk,hb,hsz⟩:=h.oY.len;have c0:=h.c0;have hlen:(Builtin.len_ #[55] 3 #[.map (some bk)]).run Tryz.prog w= .ok (.int .i64 G.kept.length) w:=by
  rw[run_len_map w 55 3 bk es clk (by simp[Program.mapKeyOf,Program.mapElemOf,Tryz.underlying55]) hb,hsz];rfl
 have hwr:wrap64 (2048 - (G.kept.length:Int))=2048 - (G.kept.length:Int):=by
  exact IntWalk.wrap64_in _ (by omega)
 clear h hb;go_enter Tryz.func15,Tryz.ntmps15
 go_wp2;go_ret;exact⟨rfl,rfl⟩
variable [Inhabited aE]
def yq:aR:={Y:=Nat×bN×Nat,pre:=fun y=>dT y.1 y.2.1/\y.2.2<=1000000,args:=fun y=>[.wp ⟨y.1,0,none⟩,i64 y.2.2],res:=fun y=> .bool (decide (y.2.1.kept.length+y.2.2<=2048))}
theorem H9 (hdr:¬(default:aE).dr):CO jY yq:=oP cB.ok (by
 rintro⟨b,m,k⟩ ⟨hpre,hk⟩ w args hold ⟨h1,h2⟩;match args,h1 with
 |[v,u],_=>
 have e1:=Jv (h2 0 _ _ rfl rfl);have e2:=It (h2 1 _ _ rfl rfl);subst e1 e2;obtain⟨n,bk,ba,bd,bs,bv,G,hO,hG⟩:=hpre.at_ w hold;have hkl:=hpre.ok.kept;refine(JK hO (by rw[hG.len];omega) k hk).mono ?_;rintro e w' ⟨rfl,rfl⟩;refine⟨_,rfl, .inr ?_,Below.refl _ _,fun h=>(hdr h).elim⟩;rw[hG.len,show decide ((k:Int)<=2048 - (m.kept.length:Int))=decide (m.kept.length+k<=2048)from by congr 1;apply propext;omega];exact .bool _)
end
section
section
variable [Inhabited aE]
end
theorem cell_of {w:World} {b o:Nat} {arr:Array Value} {ty:TypeId} {fz:Nat×Nat} (h:w.heap[b]? =some (.cells arr ty fz)):w.cell? ⟨b,o,none⟩=arr[o]? :=by simp[World.cell?,h]
theorem uJ:mc dF:=⟨by decide,fun x hx=>(by cases hx),by decide,by decide⟩
end
def chunk (n:Nat) (s:List aj):List (List aj):=match n with
 |0=>[]
 |n+1=>if s=[]then[]else s.take 64::chunk n (s.drop 64)
def gS (v:Value):List Value:=[.int .i64 2, .string ⟨#[]⟩, .string ⟨#[]⟩, .string ⟨#[]⟩, .string ⟨#[]⟩, .bool false, .bool false, .bool false, .bool false, .int .i64 0, .int .i64 0, .int .i64 0,v]
def ij (L:List (List aj×Value)):List Value:=L.flatMap fun x=>gS x.2
theorem FA (L:List (List aj×Value)) (x:List aj×Value):ij (L++[x])=ij L++gS x.2:=by
 unfold ij;rw[List.flatMap_append,List.flatMap_cons,List.flatMap_nil,Da]
theorem vt:∀(n m:Nat) (s:List aj),s.length<=n->s.length<=m->chunk n s=chunk m s
 |0,m,s,h,_=>by
  have:s=[]:=Bk.1 (EA.1 h);subst this
  cases m<;>rfl
 |n+1,0,s,_,h=>by
  have:s=[]:=Bk.1 (EA.1 h);subst this;rfl
 |n+1,m+1,s,h1,h2=>by
  unfold chunk;split
  . rfl
  . rename_i hne;have:0<s.length:=BR.2 hne;rw[vt n m (s.drop 64) (by simp;omega) (by simp;omega)]
theorem ES {s:List aj} {k Q:Nat} (hk:k<s.length) (hQ:Q=min (s.length - k) 64):chunk (s.length - k) (s.drop k)=(s.drop k).take 64::chunk (s.length - (k+Q)) (s.drop (k+Q)):=by
 obtain⟨n,hn⟩:∃n,s.length - k=n+1:=⟨s.length - k - 1,by omega⟩;have hne:s.drop k≠[]:=fun e=>by have:=AN List.length e;simp at this;omega
 have hd:s.drop (k+64)=s.drop (k+Q):=by
  by_cases h:s.length - k<64
  . rw[Et (by omega),Et (by omega)]
  . congr 1;omega
 rw[hn];show(if s.drop k=[]then[]else(s.drop k).take 64::chunk n ((s.drop k).drop 64))=_
 rw[Ae hne,Dt,hd];congr 1
 exact vt _ _ _ (by rw[Bt];omega) (by rw[Bt];omega)
theorem u7 {W8 w9:World} {m:Nat} {v v9:Value} (hg:W8.grownBy w9 v.ownBlock) (hat:v9.ownBlock=v.ownBlock\/v9.ownBlock=some W8.heap.size) {l:List aj} {x:Value} (h:dP W8 (fun b=>m<=b/\some b≠v.ownBlock) l x):
   dP w9 (fun b=>m<=b/\some b≠v9.ownBlock) l x:=h.bI fun b hp hb=>by
 refine⟨⟨hp.1,?_⟩,hg.block b hb hp.2⟩;rcases hat with h|h
 . rw[h];exact hp.2
 . rw[h];intro e;cases e;exact absurd hb (Nat.lt_irrefl _)
theorem JG:∃i0 z by0,Tryz.prog.info? 32=some i0/\i0.zero=some z/\i0.size=13/\i0.bytes=by0/\z.cells.size=13/\by0<=256:=by
 have h:(Tryz.prog.info? 32).map (fun i=>(i.zero.map (·.cells.size),i.size,decide (i.bytes<=256)))=some (some 13,13,true):=by kernel_rfl
 cases e:Tryz.prog.info? 32 with
 |none=>rw[e]at h;cases h
 |some i=>
  rw[e]at h;simp only[AS,Az,B9]at h;obtain⟨h1,h2,h3⟩:=h
  cases hz:i.zero with
  |none=>rw[hz]at h1;cases h1
  |some z=>rw[hz]at h1;exact⟨i,z,i.bytes,rfl,hz,h2,rfl,by simpa using h1,Bi h3⟩
theorem uv {w:World} {l:List aj} {v:Value} (h:cc w l v) (hl:l.length<=1000000):
  Calls Tryz.prog 6 #[v] w fun e w'=>∃v' L,e= .returned v'/\L.map (·.1)=chunk ((bA bl l).length) (bA bl l)/\(∀x∈L,dP w' (fun b=>w.heap.size<=b) x.1 x.2)/\w'.ownsRow w.heap.size 32 13 v' L.length (ij L)/\Below w.heap.size w w':=by
 letI:Inhabited aE:=⟨⟨True,#[]⟩⟩
 have hsort:=uu h hl;obtain⟨s,hs⟩:∃s,bA bl l=s:=⟨_,rfl⟩;rw[hs]at hsort⊢;have hsl:s.length<=1000000:=by have:=px (less:=bl) l [];rw[<-hs];unfold bA;simp at this;omega
 obtain⟨sa,sn,sc,rfl⟩:=h.one;go_enter Tryz.func6,Tryz.ntmps6
 go_wp2_with (go_at_call 13;refine hsort.mono ?_;rintro e w1 ⟨v1,rfl,hd1,hn1,hb1⟩)
 go_loopw [3,4] (fun v v4 wr=>∃(k:Nat) (L:List (List aj×Value)) (a4:Option Addr) (c4:Nat),k<=s.length/\L.length<=k/\v4= .slice a4 (s.length - k) c4/\(k<s.length->∃ob off cap arr ty fz,a4=some ⟨ob,off+k*3,none⟩/\c4=cap - k/\s.length<=cap/\w.heap.size<=ob/\w1.heap[ob]? =some (.cells arr ty fz)/\off+s.length*3<=arr.size/\
    ∀i (h:i<s.length),arr[off+i*3]? =some (.int .i64 s[i].dev)/\arr[off+i*3+1]? =some (.int .i64 s[i].inc)/\arr[off+i*3+2]? =some (.int .i64 s[i].seq))/\
    L.map (·.1)++chunk (s.length - k) (s.drop k)=chunk s.length s/\(∀x∈L,dP wr (fun b=>w.heap.size<=b/\some b≠v.ownBlock) x.1 x.2)/\wr.ownsRow w1.heap.size 32 13 v L.length (ij L)/\Below w1.heap.size w1 wr)
  (fun _ v4 _=>match v4 with| .slice _ n _=>n|_=>0)
 case atStart=>
  rcases hd1 with⟨rfl,a,c,rfl⟩|⟨ob,off,cap,arr,ty,fz,rfl,hob,hcap,hsz,hcells⟩
  . exact⟨0,[],a,c,Aj _,Aj _,rfl,fun h=>absurd h (Dn _),rfl,fun x hx=>absurd hx (by simp),World.ownsRow_nil _ _ _ _,Below.refl _ _⟩
  . refine⟨0,[],_,cap,Bl _,Aj _,rfl,fun h0=>⟨ob,off,cap,arr,ty,fz,by rw[DE,A9],rfl,hcap,?_,hob,hsz,hcells⟩,rfl,fun x hx=>absurd hx (by simp),World.ownsRow_nil _ _ _ _,Below.refl _ _⟩;rcases hn1 with rfl|⟨b',off',k',c',he,hb'⟩
    . exact absurd h0 (Nat.lt_irrefl _)
    . cases he;exact hb'
 case round=>
  obtain⟨k,L,a4,c4,hk,hLk,rfl,hval,hL,hLd,hrow,hbr⟩:=hrel;by_cases hlt:k<s.length
  . obtain⟨ob,off,cap,arr,ty,fz,rfl,rfl,hcap,hob,harr,hasz,hcells⟩:=hval hlt;obtain⟨i4,z4,by4,hi4,hz40,hz41,hz42,hz43,hz44⟩:=JG;obtain⟨Q,hQ⟩:∃Q,(min ((s.length - k:Nat):Int) 64).toNat=Q:=⟨_,rfl⟩;obtain⟨W,hW⟩:∃W,wr.alloc (.cells (gS (.slice (some ⟨ob,off+k*3,none⟩) Q Q)).toArray 32)=W:=⟨_,rfl⟩;have hbW:Below wr.heap.size wr W:=by rw[<-hW];exact(Below.refl _ _).alloc (Aj _) _
    have hnew:W.heap[wr.heap.size]? =some (.cells (gS (.slice (some ⟨ob,off+k*3,none⟩) Q Q)).toArray 32 (0,0)):=by rw[<-hW];exact World.alloc_heap_new _ _
    have hsW:W.heap.size=wr.heap.size+1:=by rw[<-hW];exact Array.size_push _
    have hrowW:W.ownsRow w1.heap.size 32 13 u3 L.length (ij L):=by rw[<-hW];exact hrow.alloc _
    have hnc:∀j u,(gS (.slice (some ⟨ob,off+k*3,none⟩) Q Q))[j]? =some u->W.cell? ((⟨wr.heap.size,0,none⟩:Addr).add j)=some u:=fun j u hj=>by
      rw[Addr.add_lit,A4,cell_of hnew,AE];exact hj
    have hone:∀u∈gS (.slice (some ⟨ob,off+k*3,none⟩) Q Q),u.oneCell'=true:=by simp[gS,Value.oneCell']
    have hLlen:L.length<=s.length:=AG hLk hk;have hmax:L.length+1<=maxLen:=by unfold maxLen;omega
    have hbyt:(L.length+1)*by4<=140737488355328:=AG (Nat.mul_le_mul (show L.length+1<=1000001 by omega) hz44) (by decide);have hbase:w1.heap.size<=W.heap.size:=AG hbr.size hbW.size;have hLd':=hLd;have hL':=hL;clear hL hLd hs hsort hval;go_wp2_with (at_builtin;go_loud (refine GR (W':=W) hW ?_;refine wpList_append_own_at _ rfl _ _ 23 rfl w1.heap.size 32 i4 _ 13 by4 Tryz.underlying23 hi4 hz40 hz41 hz42 hz43 (by decide) u3 L.length (ij L) rfl hrowW ⟨wr.heap.size,0,none⟩ 1 1 (gS (.slice (some ⟨ob,off+k*3,none⟩) Q Q)) rfl rfl hnc hone hmax hbyt hbase ?_;intro v9 w9 hrow9 hg9 hnil9 hat9))
    have hQ':Q=min (s.length - k) 64:=by omega
    have hob1:=(Ad.1 harr).1;have hnr:some ob≠u3.ownBlock:=fun e=>by have:=(hrow.lt ob e.symm).1;omega
    have hWb:∀b,b<wr.heap.size->W.heap[b]? =wr.heap[b]? :=fun b hb=>hbW.block b hb
    have hlen:((s.drop k).take 64).length=Q:=by simp;omega
    have hnewD:dP W (fun b=>w.heap.size<=b/\some b≠u3.ownBlock) ((s.drop k).take 64) (.slice (some ⟨ob,off+k*3,none⟩) Q Q):=by
      refine .inr ⟨ob,off+k*3,Q,arr,ty,fz,by rw[hlen],⟨hob,hnr⟩,?_,by rw[hlen];exact Aj _,by rw[hlen];omega,fun i hi=>?_⟩
      . rw[hWb ob (Bd hob1 hbr.size),hbr.block ob hob1];exact harr
      . have hi':k+i<s.length:=by rw[hlen]at hi;omega
        have hel:((s.drop k).take 64)[i]=s[k+i]:=by rw[List.getElem_take,List.getElem_drop]
        rw[hel,show off+k*3+i*3=off+(k+i)*3 by omega];exact hcells (k+i) hi'
    refine⟨⟨k+Q,L++[((s.drop k).take 64, .slice (some ⟨ob,off+k*3,none⟩) Q Q)],_,_,by omega,by simp;omega,by rw[Nat.sub_sub],fun hlt2=>⟨ob,off,cap,arr,ty,fz,?_,by omega,hcap,hob,harr,hasz,hcells⟩,?_,fun x hx=>?_,?_,?_⟩,?_⟩
    . rw[Ae (by omega),show off+k*3+Q*3=off+(k+Q)*3 by omega]
    . rw[<-hL',ES hlt hQ',Ba];simp
    . rcases BU.1 hx with hx|hx
      . exact u7 hg9 hat9 ((hLd' x hx).bI fun b hp hb=>⟨hp,hWb b hb⟩)
      . rw[DV.1 hx];exact u7 hg9 hat9 hnewD
    . rw[FA,BG];exact hrow9
    . exact(hbr.trans (hbW.mono hbr.size)).grown hg9 hbase (fun j e=>(hrow.lt j e).1)
    . show s.length - k - Q<s.length - k;omega
  . have hks:k=s.length:=by omega
    subst hks;go_wp2;go_ret;rw[Nat.sub_self]at hL;refine⟨_,L,rfl,by simpa [chunk]using hL,fun x hx=>(hLd x hx).bI fun b hp _=>⟨hp.1,rfl⟩,⟨hrow.1,?_⟩,hb1.trans (hbr.mono hb1.size)⟩;rcases hrow.2 with hn|⟨g,cap,cur,hv,hbg,rest⟩
    . exact .inl hn
    . exact .inr ⟨g,cap,cur,hv,AG hb1.size hbg,rest⟩
section
structure az where
 kind:Int
 item:ad
 over:List aj
def az.enc (x:az):List SV:=[.int .i64 x.kind, .str x.item.key.name, .str x.item.key.domain, .str x.item.key.path, .str x.item.ab.value, .bool x.item.ab.aY, .bool x.item.ab.bz, .bool x.item.ab.aZ, .bool x.item.ab.persistent,
 .int .i64 x.item.ab.bu, .int .i64 x.item.ab.aq, .int .i64 x.item.ab.access,cq x.over]
def fx (l:List az):SV:= .aD az l az.enc
def fj (c:List aj):az:=⟨2,Hb,c⟩
def gk (l:List aj):List az:=(chunk (bA bl l).length (bA bl l)).map fj
theorem F7 (L:List (List aj×Value)) (i:Nat) (h:i<L.length) (j:Nat) (hj:j<13):(ij L)[i*13+j]? =(gS L[i].2)[j]? :=by
 induction L generalizing i with
 |nil=>exact absurd h (Dn _)
 | cons x L ih=>
  have hr:ij (x::L)=gS x.2++ij L:=by unfold ij;rw[List.flatMap_cons]
  have hl:(gS x.2).length=13:=rfl;rw[hr]
  cases i with
  |zero=>rw[DE,A4,AI (by omega)];rfl
  |succ i=>
   rw[AQ (by omega),hl,show(i+1)*13+j - 13=i*13+j by omega];exact ih i (by simpa using h)
section
variable [Inhabited aE]
theorem JQ {w:World} {p:Nat->Prop} {n:Nat} {L:List (List aj×Value)} {v:Value} (hp:∀b,p b->n<=b) (hd:∀x∈L,dP w p x.1 x.2) (h:w.ownsRow n 32 13 v L.length (ij L)):Up w n (fx (L.map fun x=>fj x.1)) v:=by
 unfold fx;obtain⟨hlen,hr⟩:=h;rcases hr with⟨rfl,h0⟩|⟨g,cap,cur,rfl,hpp,hb,hc,hm,hsz,htk⟩
 . exact .fp (by simpa using h0)
 . rw[show L.length=(L.map fun x=>fj x.1).length by simp];have cell:∀i (hi:i<L.length) j,j<13->cur[i*13+j]? =(gS L[i].2)[j]? :=fun i hi j hj=>by
     rw[<-F7 L i hi j hj,<-htk,Bn,Ai (by omega),BH]
   refine .aD g 0 cap cur 32 (0,0) 13 (fun i j=>(cur[i*13+j]?).getD (.bool false)) hpp hb (by decide) (by simp;omega) (fun _ _ _=>rfl) (by simpa using hc) (fun i x j v hx hv=>?_) (fun i x j v hx hv=>?_) (fun i x j v hx hv=>?_)
   . have hj:j<13:=(Ac.1 hv).1;match j,hj with
     |0,_|1,_|2,_|3,_|4,_|5,_|6,_|7,_|8,_|9,_|10,_|11,_|12,_=>cases hv;rfl
   all_goals
     have hil:i<L.length:=by simpa using(Ac.1 hx).1
     have hxe:fj L[i].1=x:=by simpa using(Ac.1 hx).2
     have hdi:=hd _ (AX hil);have hj:j<13:=(Ac.1 hv).1;have hcl:=cell i hil j hj;subst hxe
   . rw[A4,hcl,Af (show j<(gS L[i].2).length from hj)];rfl
   . show Up w n v ((cur[i*13+j]?).getD _)
     rw[hcl];match j,hj with
     |0,_|9,_|10,_|11,_=>cases hv;exact .int _ _
     |1,_|2,_|3,_|4,_=>cases hv;exact .str _
     |5,_|6,_|7,_|8,_=>cases hv;exact .bool _
     |12,_=>cases hv;exact G2 hp hdi
def GV:aR:={Y:=List aj,pre:=fun y=>y.length<=1000000,args:=fun y=>[cq y],res:=fun y=>fx (gk y)}
theorem FY (hdr:¬(default:aE).dr):CO ud GV:=oP cB.ok (by
 rintro l hl w args hold ⟨h1,h2⟩;match args,h1 with
 |[v],_=>
 have e1:=sO (h2 0 _ _ rfl rfl);refine(uv e1 hl).mono ?_;rintro e w' ⟨v',L,rfl,hL,hd,hr,hb⟩;refine⟨_,rfl, .inr ?_,hb,fun h=>(hdr h).elim⟩;show Up w' w.heap.size (fx (gk l)) v'
 unfold gk;rw[<-hL,Bp];exact JQ (fun _ h=>h) hd hr)
def ju (l:List az):Prop:=l.length<=100000/\ ∀d∈l,d.over.length<=64
end
end
section
theorem wT:∀(n:Nat) (s:List aj),(chunk n s).length<=s.length
 |0,s=>Bl _
 |n+1,s=>by
  unfold chunk;split
  . exact Bl _
  . rename_i h;have h1:=wT n (s.drop 64);have h2:0<s.length:=BR.2 h;rw[Bt]at h1;rw[AR];omega
theorem u4:∀(n:Nat) (s:List aj),∀c∈chunk n s,c.length<=64
 |0,s,c,h=>by cases h
 |n+1,s,c,h=>by
  unfold chunk at h;split at h
  . cases h
  . rcases An.1 h with rfl|h
    . rw[BZ];omega
    . exact u4 n _ c h
def mT (m:bN) (l:List ad):List aj:=l.flatMap fun x=>J5 m x.key
theorem xB (l:List aj):(bA bl l).length<=l.length:=by
 letI:Inhabited aE:=⟨⟨True,#[]⟩⟩
 have:=px (less:=bl) l [];unfold bA;simpa using this
theorem CU (l:List aj):(gk l).length<=l.length:=by unfold gk;rw[BD];exact AG (wT _ _) (xB l)
theorem CT {l:List aj} (h:l.length<=100000):ju (gk l):=by
 refine⟨AG (CU l) h,fun d hd=>?_⟩;unfold gk at hd;obtain⟨c,hc,rfl⟩:=A1.1 hd;exact u4 _ _ c hc
section
variable [Inhabited aE]
end
end
section
section
variable [Inhabited aE]
end
end
section
theorem sk:∀(k n:Nat) (s:List aj),s.length<=k->64*n<s.length->(chunk k s)[n]? =some ((s.drop (64*n)).take 64)
 |0,n,s,h,h2=>by omega
 | k+1,n,s,h,h2=>by
  unfold chunk;rw[Ae (by intro e;rw[e]at h2;simp at h2)]
  cases n with
  |zero=>rfl
  |succ n=>
   rw[AJ,sk k n (s.drop 64) (by rw[Bt];omega) (by rw[Bt];omega),Dt];congr 3;omega
theorem mf:∀(k:Nat) (s:List aj),s.length<=k->(chunk k s).length=(s.length+63) / 64
 |0,s,h=>by
  have:s.length=0:=by omega
  rw[this];rfl
 |k+1,s,h=>by
  unfold chunk;split
  . rename_i e;rw[e];rfl
  . rename_i e;have:=BR.2 e;rw[AR,mf k (s.drop 64) (by rw[Bt];omega),Bt];omega
section
variable [Inhabited aE]
theorem mU (n:Nat) (h:n<=60000):(Nat.ble (n*128) 16777216&&Nat.ble n 16777216)=true:=by
 simp only[Ab,Be];omega
noncomputable def qZ (cJ:FuncId->Option aR) (iW:FuncId->Nat->Option bh):eZ:={tab:=jU,view:=fun t=>bif Nat.beq t oT then some ⟨az,az.enc⟩else yU t,cJ,iW}
def Fg:aR:={Y:=List aj,pre:=fun y=>y.length<=100000,args:=fun y=>[cq y],res:=fun y=>fx (gk y)}
def fL (l:List aj):List (List aj):=chunk (bA bl l).length (bA bl l)
def FI (l:List aj):bh:=let s:=bA bl l;{α:=Nat,ok:=fun n=>n=0\/64*n<s.length,μ:=fun n=>s.length - 64*n,bI:=[],bJ:=fun n=>[(3, .own 0),(4,cq (s.drop (64*n)))],cU:=fun n=>[(0, .arr az (((fL l).take n).map fj) az.enc oT)]}
theorem Fu:CO oG Fg:=cZ (cfg:=fun y=>qZ tR (dO oG 3 (FI y))) cB (fun _=>rfl) (fun _=>xa) (n:=600) (by
 intro (l:List aj) (hl:l.length<=100000);have hsl:=xB l;have hcl:(fL l).length=((bA bl l).length+63) / 64:=mf _ _ (Aj _)
 (conv=>whnf)
 refine⟨l,?_⟩
 repeat ((conv=>whnf);first|refine⟨rfl,?_⟩|refine⟨trivial,?_⟩)
 refine⟨by show l.length<=300000;omega,?_⟩
 (conv=>whnf)
 refine⟨⟨(0:Nat), .inl rfl,?_⟩,?_⟩
 . repeat' (first|exact trivial|exact rfl|((conv=>whnf);first|(apply cm<;>intro)|apply And.intro))
 intro (n:Nat) hn;have hn:n=0\/64*n<(bA bl l).length:=hn;have hdl:((bA bl l).drop (64*n)).length=(bA bl l).length - 64*n:=Bt
 (conv=>whnf)
 refine cm (fun h=>?_) fun h=>?_
 . have h:cu 64 (Int.ofNat ((bA bl l).drop (64*n)).length)=true:=h;rw[de,Ao]at h;have h:(64:Int)<(((bA bl l).drop (64*n)).length:Int):=h;rw[hdl]at h;have hn1:64*n<(bA bl l).length:=by omega
   have hat:=sk _ n _ (Aj _) hn1;have hnl:n<(fL l).length:=(Ac.1 hat).1;have hge:(fL l)[n]=((bA bl l).drop (64*n)).take 64:=(Ac.1 hat).2;have hf:((fL l).take (n+1)).map fj=((fL l).take n).map fj++[fj (((bA bl l).drop (64*n)).take 64)]:=by
     rw[AP hnl,Ba,hge];rfl
   have hz:(((fL l).take n).map fj).length+1<=50000:=by rw[BD,BZ];omega
   (conv=>whnf)
   refine⟨fun _=>rfl,?_⟩
   (conv=>whnf)
   refine aB.2 ⟨?_,?_⟩
   . simp only[Be];show 64<=_
     omega
   (conv=>whnf)
   refine⟨fj (((bA bl l).drop (64*n)).take 64),rfl,?_⟩
   (conv=>whnf)
   refine aB.2 ⟨mU _ (by rw[Ey];omega),?_⟩
   (conv=>whnf)
   refine⟨fun _=>rfl,?_⟩
   (conv=>whnf)
   refine aB.2 ⟨?_,?_⟩
   . simp only[Be];show 64<=_
     omega
   (conv=>whnf)
   refine⟨(n+1:Nat), .inr (by show 64*(n+1)<(bA bl l).length;omega),by show(bA bl l).length - 64*(n+1)<(bA bl l).length - 64*n;omega,?_⟩
   repeat' (first|exact trivial|exact rfl|((conv=>whnf);first|(apply cm<;>intro)|apply And.intro))
   . show SV.aD aj (((bA bl l).drop (64*n)).drop 64) aj.enc=SV.aD aj ((bA bl l).drop (64*(n+1))) aj.enc
     rw[Dt];congr 2
   all_goals ((conv=>whnf);rw[hf])
 . have h:cu 64 (Int.ofNat ((bA bl l).drop (64*n)).length)=false:=h;rw[de,As]at h;have h:¬(64:Int)<(((bA bl l).drop (64*n)).length:Int):=h;rw[hdl]at h
   (conv=>whnf)
   refine cm (fun h2=>?_) fun h2=>?_
   . have h2:cu 0 (Int.ofNat ((bA bl l).drop (64*n)).length)=true:=h2;rw[de,Ao]at h2;have h2:(0:Int)<(((bA bl l).drop (64*n)).length:Int):=h2;rw[hdl]at h2;have hn1:64*n<(bA bl l).length:=by omega
     have hat:=sk _ n _ (Aj _) hn1;have hnl:n<(fL l).length:=(Ac.1 hat).1;have hge:(fL l)[n]=((bA bl l).drop (64*n)).take 64:=(Ac.1 hat).2;have hr:((bA bl l).drop (64*n)).take 64=(bA bl l).drop (64*n):=A2 (by omega);have hf:gk l=((fL l).take n).map fj++[fj ((bA bl l).drop (64*n))]:=by
       have:(fL l).length<=n+1:=by omega
       rw[<-hr,<-hge,show[fj (fL l)[n]]=[(fL l)[n]].map fj from rfl,<-Ba,<-AP hnl,A2 this];rfl
     have hz:(((fL l).take n).map fj).length+1<=50000:=by rw[BD,BZ];omega
     (conv=>whnf)
     refine⟨fj ((bA bl l).drop (64*n)),rfl,?_⟩
     (conv=>whnf)
     refine aB.2 ⟨mU _ (by rw[Ey];omega),?_⟩
     (conv=>whnf)
     refine⟨?_,?_⟩
     . show SV.aD az (((fL l).take n).map fj++[fj ((bA bl l).drop (64*n))]) az.enc=fx (gk l)
       rw[hf];rfl
     repeat' (first|exact trivial|exact rfl|((conv=>whnf);first|(apply cm<;>intro)|apply And.intro))
   . have h2:cu 0 (Int.ofNat ((bA bl l).drop (64*n)).length)=false:=h2;rw[de,As]at h2;have h2:¬(0:Int)<(((bA bl l).drop (64*n)).length:Int):=h2;rw[hdl]at h2;have hf:((fL l).take n).map fj=gk l:=by rw[A2 (by omega)];rfl
     (conv=>whnf)
     refine⟨?_,?_⟩
     . show SV.aD az (((fL l).take n).map fj) az.enc=fx (gk l)
       rw[hf];rfl
     repeat' (first|exact trivial|exact rfl|((conv=>whnf);first|(apply cm<;>intro)|apply And.intro)))
end
end
section
variable [Inhabited aE]
structure okC (c:List aj):Prop where
 ne:c≠[]
 le:c.length<=64
 dot:∀d∈c,tD d=true
 own:∀d∈c,¬(d.dev=63/\d.inc=1048576)
 up:c.Pairwise fun x y=>bl x y=true
end
section
section
variable [Inhabited aE]
theorem Gx (m:bN):∀c∈m.enc,Flat c:=by
 intro c hc;unfold bN.enc at hc;simp only[An,DC,DY]at hc;rcases hc with rfl|rfl|rfl
 . exact mg _
 . exact Gw _
 . exact mg _
end
end
structure ButBox (b0:Nat) (w w':World):Prop where
 same:∀i,i≠b0->w'.heap[i]? =w.heap[i]?
 bare:∀arr e fz,w.heap[b0]? =some (.cells arr e fz)->∀(i:Nat) (k:IntKind) (z:Int),arr[i]? ≠some (Value.int k z)
section
section
variable [Inhabited aE]
end
end
end Go.Proofs
