/- Part 9: an evaluator, proved sound, and its use at this seat; no condition. -/
import Derived.IntWalk
import Derived.WalkKit
import Derived.Deep.RegionWith
import Derived.Maps.RangeWalk
import Derived.Shelf.SlIter.Collect
import Derived.OwnWalk
import Derived.Deep.LoopGhost
import Derived.Lib.Walk
import Derived.Lib.SliceRun
import Derived.Shelf.SlSortCmp.WholeK
import Derived.Test.YtpbnfcmlcmiieaaGreatDoorProg
import Derived.Deep.MidRow
import Derived.Deep.RegionHeld3
import Derived.Test.YtpbnfcmlcmiieaaGreatDoorP5
import Derived.Test.YtpbnfcmlcmiieaaGreatDoorP6
import Derived.Test.YtpbnfcmlcmiieaaGreatDoorP8
set_option linter.unusedSimpArgs false
set_option linter.unusedVariables false
set_option linter.unusedSectionVars false
set_option linter.deprecated false
set_option maxRecDepth 100000
set_option maxHeartbeats 4000000
namespace Go.Proofs
open Go Go.Am Go.RowKit Go.Sy Go.Gm
section
def me (w w':World):Prop:=∀(b:Nat) (arr:Array Value) (e:TypeId) (fz:Nat×Nat),w.heap[b]? =some (.cells arr e fz)->w'.heap[b]? =some (.cells arr e fz)
theorem Hx [Inhabited aE] {w w':World} {p:Nat->Prop} {g:Bool} (hc:me w w') {s:SV} {v:Value} (h:Rd w p g s v):Rd w' p g s v:=by
 induction h with
 |bool b=>exact .bool b
 |int k n=>exact .int k n
 |str s=>exact .str s
 |aA=>exact .aA
 |wp a=>exact .wp a
 |nils=>exact .nils
 |aQ=>exact .aQ
 |ah=>exact .ah
 |any v=>exact .any v
 |fn h v=>exact .fn h v
 |bB h v=>exact .bB h v
 |fp h0=>exact .fp h0
 |bt h h0 a c=>exact .bt h h0 a c
 |aD b off cap arr e fz sz u hp hb hs hl hn hcc h1 _ ih=>exact .aD b off cap arr e fz sz u hp (hc _ _ _ _ hb) hs hl hn hcc h1 ih
 |agg h1 _ ih=>exact .agg h1 ih
 |aO h1 _ ih=>exact .aO h1 ih
def cc (w:World) (l:List aj) (v:Value):Prop:=(l=[]/\ ∃a c,v= .slice a 0 c)\/ ∃b off cap arr e fz,v= .slice (some ⟨b,off,none⟩) l.length cap/\w.heap[b]? =some (.cells arr e fz)/\l.length<=cap/\off+l.length*3<=arr.size/\
 ∀i (h:i<l.length),arr[off+i*3]? =some (.int .i64 l[i].dev)/\arr[off+i*3+1]? =some (.int .i64 l[i].inc)/\arr[off+i*3+2]? =some (.int .i64 l[i].seq)
theorem p8 [Inhabited aE] {w:World} {p:Nat->Prop} {g:Bool} {k:IntKind} {n:Int} {v:Value} (h:Rd w p g (.int k n) v):v= .int k n:=by cases h;rfl
theorem sO [Inhabited aE] {w:World} {p:Nat->Prop} {g:Bool} {l:List aj} {v:Value} (h:Rd w p g (cq l) v):cc w l v:=by
 unfold cq at h
 cases h with
 |fp h0=>exact .inl ⟨Bk.1 h0,_,_,rfl⟩
 |bt h h0 a c=>exact .inl ⟨Bk.1 h0,_,_,rfl⟩
 |aD b off cap arr e fz sz u hp hb hs hl hn hc h1 h2=>
  by_cases h0:l=[]
  . subst h0;exact .inl ⟨rfl,_,_,rfl⟩
  . have hsz:sz=3:=by
     obtain⟨x,l',rfl⟩:=Ed h0;exact(hn 0 x rfl).symm
    subst hsz;refine .inr ⟨b,off,cap,arr,e,fz,rfl,hb,hc,hl,fun i hi=>?_⟩;have hx:l[i]? =some l[i]:=Af hi;have e0:=h1 i _ 0 _ hx rfl;have e1:=h1 i _ 1 _ hx rfl;have e2:=h1 i _ 2 _ hx rfl;rw[p8 (h2 i _ 0 _ hx rfl)]at e0;rw[p8 (h2 i _ 1 _ hx rfl)]at e1;rw[p8 (h2 i _ 2 _ hx rfl)]at e2;exact⟨e0,e1,e2⟩
theorem nZ [Inhabited aE] {w:World} {l:List aj} {v:Value} (h:cc w l v):Rd w (fun _=>True) true (cq l) v:=by
 unfold cq;rcases h with⟨rfl,a,c,rfl⟩|⟨b,off,cap,arr,e,fz,rfl,hb,hc,hl,hi⟩
 . exact .bt rfl rfl a c
 . refine .aD b off cap arr e fz 3 (fun i j=>(arr[off+i*3+j]?).getD (.bool false)) trivial hb (by decide) hl (fun _ _ _=>rfl) hc (fun i x j v hx hv=>?_) (fun i x j v hx hv=>?_)
   all_goals
    have hil:i<l.length:=(Ac.1 hx).1;have hxe:l[i]=x:=(Ac.1 hx).2;obtain⟨e0,e1,e2⟩:=hi i hil;rw[hxe]at e0 e1 e2;have hj:j<3:=(Ac.1 hv).1;match j,hj with
    |0,_=>cases hv;first|exact e0.trans (by rw[A9,e0];rfl)|(simp only[A9,e0,AA];exact .int _ _)
    |1,_=>cases hv;first|exact e1.trans (by rw[e1];rfl)|(simp only[e1,AA];exact .int _ _)
    |2,_=>cases hv;first|exact e2.trans (by rw[e2];rfl)|(simp only[e2,AA];exact .int _ _)
theorem cc.cells {w w':World} (hc:me w w') {l:List aj} {v:Value} (h:cc w l v):cc w' l v:=by
 rcases h with h|⟨b,off,cap,arr,e,fz,h1,h2,h3⟩
 . exact .inl h
 . exact .inr ⟨b,off,cap,arr,e,fz,h1,hc _ _ _ _ h2,h3⟩
abbrev kE (s:Bs):Value:= .string ⟨s.toArray⟩
def J8 (e:aK) (v:Value):Value:= .agg #[.int .i64 e.dot.dev, .int .i64 e.dot.inc, .int .i64 e.dot.seq, .int .i64 e.dG.wall, .int .i64 e.dG.count, .int .i64 e.dG.dev, .int .i64 e.kind,kE e.key.name,kE e.key.domain,kE e.key.path,
 kE e.ab.value, .bool e.ab.aY, .bool e.ab.bz, .bool e.ab.aZ, .bool e.ab.persistent, .int .i64 e.ab.bu, .int .i64 e.ab.aq, .int .i64 e.ab.access,v]
def oV (w:World) (u:Value) (e:aK):Prop:=∃v,u=J8 e v/\cc w e.over v
theorem oV.cells {w w':World} (hc:me w w') {u:Value} {e:aK} (h:oV w u e):oV w' u e:=by
 obtain⟨v,h1,h2⟩:=h;exact⟨v,h1,h2.cells hc⟩
def Jm (x:Value×aK):Value:=x.1
def J7 (x:Nat×DL):Value:= .map (some x.1)
structure kN (w:World) (n b bk ba bd bs bv:Nat) (G:fY):Prop where
 c0:w.cell? ⟨b,0,none⟩=some (.map (some bk))
 c1:w.cell? ⟨b,1,none⟩=some (.map (some ba))
 c2:w.cell? ⟨b,2,none⟩=some (.map (some bd))
 c3:w.cell? ⟨b,3,none⟩=some (.pointer (some ⟨bs,0,none⟩))
 cv:w.cell? ⟨bs,0,none⟩=some (.map (some bv))
 oY:bf w bk cD Jm G.kept
 ma:bf w ba rh J7 G.alive
 md:bf w bd cD eF G.dead
 mv:bf w bv rf eF G.vec
 mi:∀x∈G.alive,bf w x.2.1 cD eF x.2.2
 nd:(bk::ba::bd::bv::G.alive.map (·.2.1)).Nodup
 low:∀j∈b::bs::bk::ba::bd::bv::G.alive.map (·.2.1),n<=j
 ev:∀x∈G.kept,oV w x.2.1 x.2.2
def qg (w:World) (j:Nat):Prop:=∃es clk,w.heap[j]? =some (.map es clk)
section
variable {K V:Type} [DecidableEq K]
theorem _root_.Go.Gm.bf.isMap {w:World} {b:Nat} {enc:K->Value} {encV:V->Value} {L:List (K×V)} (h:bf w b enc encV L):qg w b:=by
 obtain⟨es,clk,h,_⟩:=h.at_;exact⟨es,clk,h⟩
theorem _root_.Go.Gm.bf.lt {w:World} {b:Nat} {enc:K->Value} {encV:V->Value} {L:List (K×V)} (h:bf w b enc encV L):b<w.heap.size:=by
 obtain⟨es,clk,h,_⟩:=h.at_;exact(Ad.1 h).1
end
theorem mC {w:World} {b o:Nat} {v:Value} (h:w.cell? ⟨b,o,none⟩=some v):b<w.heap.size:=by
 unfold World.cell? at h
 cases e:w.heap[b]? with
 |none=>simp[e]at h
 |some o=>exact(Ad.1 e).1
theorem gy {w w':World} {b o:Nat} {v:Value} (h:w.cell? ⟨b,o,none⟩=some v) (e:w'.heap[b]? =w.heap[b]?):w'.cell? ⟨b,o,none⟩=some v:=by
 unfold World.cell? at h⊢;rw[e];exact h
theorem qV.cells {S:Nat->Prop} {w w':World} (h:qV S w w') (hS:∀k,S k->qg w k):me w w':=by
 intro b arr e fz hb;rw[h.block b (Ad.1 hb).1 ?_]
 . exact hb
 . intro hs;obtain⟨es,clk,hm⟩:=hS b hs;rw[hb]at hm;cases hm
theorem kK {w w':World} (h:Below w.heap.size w w'):me w w':=fun b arr e fz hb=>by
 rw[h.block b (Ad.1 hb).1];exact hb
section
variable {w w':World} {n b bk ba bd bs bv:Nat} {G:fY}
theorem xz {j i:Nat} {o:Obj} (h:qg w j) (hne:i≠j):(World.bp w j o).heap[i]? =w.heap[i]? :=by
 obtain⟨es,clk,hm⟩:=h;rw[nM hm,Ae hne]
end
end
theorem Ki (w:World):Calls Tryz.prog 16 #[] w fun e w'=>e= .returned (.pointer (some ⟨w.heap.size+1,0,none⟩))/\w'=(w.alloc (.map #[] 0)).alloc (.cells #[.map (some w.heap.size)] 86):=by
 have hmm:= @run_makeMap Tryz.prog;go_enter Tryz.func16,Tryz.ntmps16
 go_wp2;go_ret;exact⟨by simp,rfl⟩
theorem ll (w:World) (o:Obj) (i:Nat):(w.alloc o).heap[i]? =if i=w.heap.size then some o else w.heap[i]? :=by
 show(w.heap.push o)[i]? =_
 rw[EG]
theorem nU (w:World) (arr:Array Value) (e:TypeId) (fz:Nat×Nat) (i o:Nat):(w.alloc (.cells arr e fz)).cell? ⟨i,o,none⟩=if i=w.heap.size then arr[o]? else w.cell? ⟨i,o,none⟩:=by
 unfold World.cell?
 simp only[ll];by_cases h:i=w.heap.size
 . simp[h]
 . simp[h]
theorem nC {K V:Type} [DecidableEq K] {w:World} {b:Nat} {enc:K->Value} {encV:V->Value} (h:w.heap[b]? =some (.map #[] 0)):bf w b enc encV ([]:List (K×V)):=
 ⟨⟨#[],0,h,by simp[fa],by simp,by simp⟩,by simp⟩
theorem Ke (w:World):Calls Tryz.prog 9 #[] w fun e w'=>∃b bk ba bd bs bv,e= .returned (.pointer (some ⟨b,0,none⟩))/\kN w' w.heap.size b bk ba bd bs bv ⟨[],[],[],[]⟩/\Below w.heap.size w w':=by
 have hmm:= @run_makeMap Tryz.prog;go_enter Tryz.func9,Tryz.ntmps9
 go_wp2_with (go_at_call 16;refine(Ki _).mono ?_;rintro e w1 ⟨rfl,rfl⟩)
 go_ret;refine⟨w.heap.size+5,w.heap.size,w.heap.size+1,w.heap.size+2,w.heap.size+4,w.heap.size+3,rfl,?_,?_⟩
 . refine⟨by simp[nU],by simp[nU],by simp[nU],by simp[nU],by simp[nU],nC (by simp only[ll,World.size_alloc];repeat (first|rfl|rw[Ae (by omega)]);try simp;try omega),nC (by simp only[ll,World.size_alloc];repeat (first|rfl|rw[Ae (by omega)]);try simp;try omega),nC (by simp only[ll,World.size_alloc];repeat (first|rfl|rw[Ae (by omega)]);try simp;try omega),nC (by simp only[ll,World.size_alloc];repeat (first|rfl|rw[Ae (by omega)]);try simp;try omega),fun x hx=>(by cases hx),by simp,by simp,fun x hx=>(by cases hx)⟩
 . refine Below.alloc (Below.alloc (Below.alloc (Below.alloc (Below.alloc (Below.alloc (Below.refl _ _) ?_ _) ?_ _) ?_ _) ?_ _) ?_ _) ?_ _
   all_goals (simp;try omega)
section
section
variable {K V:Type} [DecidableEq K]
end
section
variable {w w':World} {n b bk ba bd bs bv:Nat} {G:fY}
end
end
end Go.Proofs
namespace Go.Gm
open Go Go.RowKit Go.Maps Go.Proofs Go.ChangeMaps
section
variable {P:Program} {K V:Type} [DecidableEq K]
structure bR (w:World) (r b:Nat) (enc:K->Value) (encV:V->Value) (L ss left:List (K×V)):Prop where
 ex:∃es clk seen,w.heap[b]? =some (.map es clk)/\fa enc encV es.toList L/\(es.toList.map (·.born)).Pairwise (· < ·)/\(∀e∈es.toList,e.born<clk)/\w.heap[r]? =some (.mapIter (some b) clk seen clk)/\fa enc encV (leftOf es seen).toList left
 perm:(ss++left).Perm L
theorem zu:∀{l:List Nat},l.Pairwise (· < ·)->l.Nodup:=fun h=>h.imp fun h=>Nat.ne_of_lt h
theorem bf.range {w:World} {b:Nat} {enc:K->Value} {encV:V->Value} {L:List (K×V)} (h:bf w b enc encV L) {t T Te:TypeId} (ht:P.underlying t=some (.map T Te)):
  ∃w',(Instr.range t (.map (some b))).run P w= .ok (.pointer (some ⟨w.heap.size,0,none⟩)) w'/\bR w' w.heap.size b enc encV L [] L/\Below w.heap.size w w'/\w'.heap.size=w.heap.size+1:=by
 obtain⟨⟨es,clk,hb,hr,hs,hc⟩,_⟩:=h;have hlt:=(Ad.1 hb).1;refine⟨_,run_range_map w t T Te b es clk ht hb,⟨⟨es,clk,#[],(Below.heap_alloc w _ b hlt).trans hb,hr,hs,hc,by rw[ll,Ai rfl],?_⟩,by simp⟩,(Below.refl _ w).alloc (Aj _) _,by simp⟩;have:leftOf es #[]=es:=by simp[leftOf]
 rw[this];exact hr
theorem xS {enc:K->Value} {encV:V->Value}:∀{es:List MapEntry} {L:List (K×V)},fa enc encV es L->∀e∈es,∃M1 x M2 es1 es2,L=M1++x::M2/\es=es1++e::es2/\fa enc encV es1 M1/\fa enc encV es2 M2/\e.key=enc x.1/\e.val=encV x.2
 |[],_,_,e,h=>by cases h
 |a::es,[],h,_,_=>by simp[fa]at h
 |a::es,y::L,h,e,he=>by
  simp only[fa,Ay,Bb,B9]at h;rcases An.1 he with rfl|he
  . exact⟨[],y,L,[],es,rfl,rfl,rfl,h.2,h.1.1,h.1.2⟩
  . obtain⟨M1,x,M2,es1,es2,h1,h2,h3,h4,h5⟩:=xS (h.2:fa enc encV es L) e he;refine⟨y::M1,x,M2,a::es1,es2,by rw[h1];rfl,by rw[h2];rfl,?_,h4,h5⟩;simp only[fa,Ay,Bb,B9];exact⟨h.1,h3⟩
theorem bR.next {w:World} {r b:Nat} {enc:K->Value} {encV:V->Value} {L ss left:List (K×V)} (h:bR w r b enc encV L ss left) (ty:TypeId):
   (left=[]/\ss.Perm L/\(Instr.next (.pointer (some ⟨r,0,none⟩)) false ty).run P w= .ok (.tuple #[.bool false]) w)\/
   ∃ x left' w',(Instr.next (.pointer (some ⟨r,0,none⟩)) false ty).run P w= .ok (.tuple #[.bool true,enc x.1,encV x.2]) w'/\bR w' r b enc encV L (ss++[x]) left'/\left.length=left'.length+1/\qV (· =r) w w'/\w'.heap.size=w.heap.size/\
     (Instr.entry (.pointer (some ⟨r,0,none⟩))).run P w'= .ok (.tuple #[enc x.1,encV x.2]) w':=by
 obtain⟨⟨es,clk,seen,hb,hr,hs,hc,hi,hl⟩,hp⟩:=h;have hnd:=zu hs;rcases run_next_at (P:=P) w ty r b clk clk seen es clk hi hb hc (Aj _)with⟨h0,hrun⟩|⟨e,he,w1,hw1,hrun⟩
 . have:left=[]:=by
     have:=AN List.length hl;simp only[BD,Array.length_toList,h0]at this;exact Bk.1 this.symm
   subst this;exact .inl ⟨rfl,by simpa using hp,hrun⟩
 . obtain⟨M1,x,M2,es1,es2,h1,h2,h3,h4,h5,h6⟩:=xS hl e he;have hi1:w1.heap[r]? =some (.mapIter (some b) clk seen clk):=by rcases hw1 with rfl|rfl<;>exact hi
   have hb1:w1.heap[b]? =some (.map es clk):=by rcases hw1 with rfl|rfl<;>exact hb
   have hrlt:=(Ad.1 hi1).1;have hne:b≠r:=fun hh=>by rw[hh]at hb;rw[hb]at hi;cases hi
   have hget:∀k,(setBlock w1 r (.mapIter (some b) clk (seen.push e.born) clk)).heap[k]? =if k=r then some (.mapIter (some b) clk (seen.push e.born) clk)else w1.heap[k]? :=fun k=>by
     simp only[setBlock,Bq];by_cases hk:r=k
     . subst hk;simp[hrlt]
     . rw[Ae hk,Ae (En hk)]
   have hem:e∈es.toList:=by
     have:=he;unfold leftOf at this;simp only[B8,AL]at this;exact this.1
   refine .inr ⟨x,M1++M2,_,by rw[<-h5,<-h6];exact hrun,⟨⟨es,clk,seen.push e.born,by rw[hget,Ae hne];exact hb1,hr,hs,hc,by rw[hget,Ai rfl],?_⟩,?_⟩,by rw[h1];simp;omega,⟨?_,?_,?_,?_,fun k _ hk=>?_⟩,?_,by rw[<-h5,<-h6];exact run_entry_at _ r b clk seen es clk e (by rw[hget,Ai rfl]) (by rw[hget,Ae hne];exact hb1) hem hnd⟩
   . have hsub:((leftOf es seen).toList.map (·.born)).Nodup:=by
       unfold leftOf;rw[B8];exact hnd.sublist (List.filter_sublist.map _)
     have hcut:(leftOf es (seen.push e.born)).toList=(leftOf es seen).toList.filter fun y=> !(y.born==e.born):=by
       unfold leftOf;rw[B8,B8,List.filter_filter];congr 1
       funext y
       rw[Array.contains_push];by_cases hh:y.born=e.born
       . simp[hh]
       . have h2:(y.born==e.born)=false:=by simpa using hh
         have h3:(e.born==y.born)=false:=by simpa using fun e=>hh e.symm
         simp only[h2,h3]
         cases seen.contains y.born<;>rfl
     rw[hcut,h2];rw[h2,Ba,Ay,List.nodup_append]at hsub;obtain⟨n1,n2,n3⟩:=hsub;rw[List.nodup_cons]at n2;have f1:es1.filter (fun y=> !(y.born==e.born))=es1:=by
       rw[EE];intro y hy;have:=n3 y.born (A1.2 ⟨y,hy,rfl⟩) e.born Al;simpa using this
     have f2:es2.filter (fun y=> !(y.born==e.born))=es2:=by
       rw[EE];intro y hy;have:y.born≠e.born:=fun hh=>n2.1 (A1.2 ⟨y,hy,hh⟩)
       simpa using this
     rw[List.filter_append,B0,f1,f2];simp only[Dk,BQ,Ah,Ax];unfold fa at h3 h4⊢;rw[Ba,Ba,h3,h4]
   . rw[h1]at hp;refine List.Perm.trans ?_ hp;rw[BA];refine List.Perm.append_left ss ?_;simp only[DI];exact List.perm_middle.symm
   . rcases hw1 with rfl|rfl<;>rfl
   . rcases hw1 with rfl|rfl<;>rfl
   . rcases hw1 with rfl|rfl<;>rfl
   . rcases hw1 with rfl|rfl<;>simp[setBlock]
   . rw[hget,Ae hk];rcases hw1 with rfl|rfl<;>rfl
   . rcases hw1 with rfl|rfl<;>simp[setBlock]
section
variable (w:World) {ops:Array Oper} {rest:List Oper} {o:Oper} {a:Act} {Q:Exit->Act->World->Prop}
end
end
end Go.Gm
namespace Go.Proofs
open Go Go.Am Go.RowKit Go.Sy Go.Gm Go.Maps Go.Sort
section
section
variable {K V:Type} [DecidableEq K] {F:Fence} {n:Nat} {P:Program} (w:World) {ops:Array Oper} {rest:List Oper} {o:Oper} {a:Act} {Q:Exit->Act->World->Prop}
theorem zt (hg:o.guard=none) (m:Operand) (t:TypeId) (hop:o.op=Op.range t m) {T Te:TypeId} (ht:P.underlying t=some (.map T Te)) (b:Nat) {enc:K->Value} {encV:V->Value} {L:List (K×V)}
  (hm:a.eval m= .map (some b)) (h:bf w b enc encV L)
  (hK:∀w',bR w' w.heap.size b enc encV L [] L->w.grownBy w' none->w'.heap.size=w.heap.size+1->wpListIn F n P ops Q rest (a.put o.dst (.pointer (some ⟨w.heap.size,0,none⟩))) w'):wpListIn F n P ops Q (o::rest) a w:=by
 refine wpListIn_plain hg fun K' hK'=>?_
 obtain⟨w',hrun,r1,r2,r3⟩:=h.range (P:=P) ht;unfold Oper.wpIn;refine⟨by simp[Oper.about,hop],?_⟩;rw[Oper.semAt_plain F _ _ (by rw[hop];intro c hc';cases hc')];simp[execOp,hop,hm,hrun,Result.andThen];exact hK' _ _ (hK w' r1 ⟨r2.os,r2.tape,r2.output,r2.size,fun i hi _=>r2.block i hi⟩ r3)
theorem zA (hg:o.guard=none) (it:Operand) (hop:o.op=Op.next it false) (r b:Nat) {enc:K->Value} {encV:V->Value} {L ss left:List (K×V)}
   (hit:a.eval it= .pointer (some ⟨r,0,none⟩)) (h:bR w r b enc encV L ss left)
   (hDone:left=[]->ss.Perm L->wpListIn F n P ops Q rest (a.put o.dst (.tuple #[.bool false])) w)
   (hMore:∀x left' w',bR w' r b enc encV L (ss++[x]) left'->left.length=left'.length+1->w.grownBy w' (some r)->w'.heap.size=w.heap.size->(Instr.entry (.pointer (some ⟨r,0,none⟩))).run P w'= .ok (.tuple #[enc x.1,encV x.2]) w'->
    wpListIn F n P ops Q rest (a.put o.dst (.tuple #[.bool true,enc x.1,encV x.2])) w'):wpListIn F n P ops Q (o::rest) a w:=by
 refine wpListIn_plain hg fun K' hK'=>?_
 unfold Oper.wpIn;refine⟨by simp[Oper.about,hop],?_⟩;rw[Oper.semAt_plain F _ _ (by rw[hop];intro c hc';cases hc')];rcases h.next (P:=P) o.type with⟨h0,hl,hrun⟩|⟨x,left',w',hrun,h1,h2,h3,h4,h5⟩
 . simp[execOp,hop,hit,hrun,Result.andThen];exact hK' _ _ (hDone h0 hl)
 . simp[execOp,hop,hit,hrun,Result.andThen];exact hK' _ _ (hMore x left' w' h1 h2 ⟨h3.os,h3.tape,h3.output,h3.size,fun i hi hne=>h3.block i hi fun e=>hne (by rw[e])⟩ h4 h5)
end
theorem _root_.Go.Gm.bR.kJ {K V:Type} [DecidableEq K] {w w':World} {r b:Nat} {enc:K->Value} {encV:V->Value} {L ss left:List (K×V)} (h:bR w r b enc encV L ss left) (hk:KeepsWalks w w'):bR w' r b enc encV L ss left:=by
 obtain⟨⟨es,clk,seen,hb,hr,hs,hc,hi,hl⟩,hp⟩:=h;exact⟨⟨es,clk,seen,hk.same _ _ hb rfl,hr,hs,hc,hk.same _ _ hi rfl,hl⟩,hp⟩
theorem _root_.Go.Gm.bR.isWalk {K V:Type} [DecidableEq K] {w:World} {r b:Nat} {enc:K->Value} {encV:V->Value} {L ss left:List (K×V)} (h:bR w r b enc encV L ss left):∃o:Obj,w.heap[r]? =some o/\o.isWalk=true:=by
 obtain⟨⟨es,clk,seen,hb,hr,hs,hc,hi,hl⟩,hp⟩:=h;exact⟨_,hi,rfl⟩
theorem _root_.Go.Gm.bR.left_eq {K V:Type} [DecidableEq K] {w:World} {r b:Nat} {enc:K->Value} {encV:V->Value} {L ss left:List (K×V)} (h:bR w r b enc encV L ss left):w.rangeLeft b r=left.length:=by
 obtain⟨⟨es,clk,seen,hb,hr,hs,hc,hi,hl⟩,hp⟩:=h;have:=AN List.length hl;simp only[BD,Array.length_toList]at this;unfold World.rangeLeft;rw[hb,hi];exact this
theorem JI (l Bm b n:Nat) (hn:1<=n) (L:DL) (J:List aj->World->Prop)
  (hY:∀pre x W,J pre W->pre.length<L.length->YieldAt Fence.wide (n - 1) Tryz.prog l #[cD x] W fun e W'=>e= .returned (.bool true)/\J (pre++[x]) W'/\KeepsWalks W W')
  (W:World) (hJ:AbidesFrom W.heap.size J) (hm:W.cell? ⟨Bm,0,none⟩=some (.map (some b))) (hown:bf W b cD eF L) (h0:J [] W):
  CallsIn Fence.wide n Tryz.prog 52 #[.func (.yield l) #[] #[], .pointer (some ⟨Bm,0,none⟩)] W fun e W'=>(∃v,e= .returned v)/\ ∃ss:List aj,ss.Perm (L.map (·.1))/\J ss W':=by
 refine callsIn_of_wp Tryz.func52 rfl trivial ?_ rfl;simp only[Tryz.ntmps52,Bj,AR,Bf,Nat.reduceAdd,Nat.reduceSub,DO,DN,DZ,DR,BC,Bc];gi_wp2_with (first
  |(gi_at_range;refine zt _ rfl _ 57 rfl Tryz.underlying57 b rfl hown ?_;intro w0 hrg0 hg0 hs0)
  |gi_in)
 go_frame
 gi_loopw [3] (fun _ wr=>∃(ss left:DL),bR wr W.heap.size b cD eF L ss left/\ss.length+left.length=L.length/\J (ss.map (·.1)) wr/\W.heap.size<wr.heap.size)
  (fun _ wr=>wr.rangeLeft b W.heap.size)
 case atStart=>exact⟨[],L,hrg0,by simp,hJ [] W w0 none h0 hg0 (fun r e=>by cases e),by omega⟩
 case round=>
  obtain⟨ss,left,hrg,hcs,hJs,hbig⟩:=hrel;gi_wp2_with (first
    |(gi_at_next;refine zA _ rfl _ rfl W.heap.size b rfl hrg ?_ ?_)
    |gi_in)
  . intro hl0 hperm;gi_wp2
    go_end0
    exact⟨⟨_,rfl⟩,_,hperm.map _,hJs⟩
  . intro d nn left' w2 hrg2 hlt hg2 hs2 hen;have hJ2:J (ss.map (·.1)) w2:=hJ _ wr w2 (some W.heap.size) hJs hg2 (fun r e=>by cases e;exact⟨Aj _,hrg.isWalk⟩);have hba:w2.grownBy (w2.alloc (.cells #[.int .i64 d.dev, .int .i64 d.inc, .int .i64 d.seq] 77)) none:=World.grownBy_alloc w2 _ none;have hJ3:=hJ _ w2 _ none hJ2 hba (fun r e=>by cases e);have hrg3:=hrg2.kJ (KeepsWalks.alloc w2 (.cells #[.int .i64 d.dev, .int .i64 d.inc, .int .i64 d.seq] 77));obtain⟨fn,tmps,assign,body,hy,hR⟩:=hY (ss.map (·.1)) d _ hJ3 (by simp;omega);rw[show cD d= .agg #[.int .i64 d.dev, .int .i64 d.inc, .int .i64 d.seq]from rfl]at hen hy;clear hs2;gi_wp2
    refine hR.mono ?_;rintro e W3 ⟨rfl,hJ4,hk4⟩;gi_wp2
    have hrg4:=hrg3.kJ hk4;have hz4:=hk4.size;have hz2:=hg2.size;go_roundw
    case rel=>exact⟨ss++[(d,nn)],left',hrg4,by simp;omega,by simpa using hJ4,by simp at hz4;omega⟩
    case measure=>rw[hrg4.left_eq,hrg.left_eq];omega
theorem ub (n:Nat) (hn:1<=n) (Bm b:Nat) (L:DL) (w:World) (hBm:Bm<w.heap.size) (hm:w.cell? ⟨Bm,0,none⟩=some (.map (some b))) (hown:bf w b cD eF L):
  SeqGives Fence.wide n Tryz.prog 52 #[.pointer (some ⟨Bm,0,none⟩)] cD (fun ss=>ss.Perm (L.map (·.1))) L.length w:=fun l J W hW hJ hY h0=>
 JI l Bm b n hn L J hY W hJ ((hW.cell (p:=⟨Bm,0,none⟩) hBm).trans hm) (hown.same (hW.block b (Go.Gm.bf.lt hown))) h0
end
end Go.Proofs
namespace Go.Proofs
open Go Go.Am Go.RowKit Go.Sy Go.Gm
section
section
variable [Inhabited aE]
end
def fu:List aj->List Value
 |[]=>[]
 |d::l=> .int .i64 d.dev:: .int .i64 d.inc:: .int .i64 d.seq::fu l
theorem rA:∀(l:List aj) (i:Nat) (h:i<l.length),(fu l)[i*3]? =some (.int .i64 l[i].dev)/\(fu l)[i*3+1]? =some (.int .i64 l[i].inc)/\(fu l)[i*3+2]? =some (.int .i64 l[i].seq)
 |d::l,0,_=>⟨rfl,rfl,rfl⟩
 |d::l,i+1,h=>by
  have:=rA l i (by simpa using h);rw[show(i+1)*3=i*3+1+1+1 by omega];exact this
def fZ (n:Nat) (l:List aj) (v:Value):Prop:=l=[]\/ ∃b off k c,v= .slice (some ⟨b,off,none⟩) k c/\n<=b
theorem uE:(Tryz.prog.info? 77).map (fun i=>(i.zero,i.size,i.bytes))=some (some (.agg #[.int .i64 0, .int .i64 0, .int .i64 0]),3,24):=by kernel_rfl
end
end Go.Proofs
namespace Go.Proofs
open Go Go.Am Go.RowKit Go.Sy Go.Gm Go.Maps Go.Sort
def gq:Code->Option (Code×Code)
 | .rangeFunc _ _ a b=>some (a,b)
 | .seq a b=>match gq a with
  |some x=>some x
  |none=>gq b
 | .block _ c=>gq c
 | .scope c=>gq c
 | .loop c=>gq c
 |_=>none
noncomputable def uG:Code:=((Tryz.f84.body.bind gq).getD (.skip, .skip)).1
noncomputable def uH:Code:=((Tryz.f84.body.bind gq).getD (.skip, .skip)).2
noncomputable def apRec (fn:FuncId) (sv:Value) (Bs D:Nat) (st:LoopState) (gL:Option Code):Loop:=
 {state:=st,pending:=gL,fn,tmps:=#[.slice none 0 0,sv, .pointer (some ⟨Bs,0,none⟩),undef, .slice none 0 0,undef,sv,undef,undef,undef,undef,undef,undef],params:=#[7],assign:=uG,body:=uH,defers:=D}
structure mS (w0:World) (fn:FuncId) (sv:Value) (Bs l D:Nat) (ss:List aj) (W:World):Prop where
 box:∃v,W.heap[Bs]? =some (.cells #[v] 22 (0,0))/\W.ownsRow w0.heap.size 77 3 v ss.length (fu ss)
 L:W.heap[l]? =some (.loop (apRec fn sv Bs D .ready none))
 K:W.heap[D]? =some (.deferred (some []))
 below:Below w0.heap.size w0 W
theorem EL (w0:World) (fn:FuncId) (sv:Value) (Bs l D B:Nat) (hB:w0.heap.size<=B):AbidesFrom B (mS w0 fn sv Bs l D):=fun s W W' row h hg hrow=>by
 have hrow':∀r,row=some r->∃o:Obj,W.heap[r]? =some o/\o.isWalk=true:=fun r e=>(hrow r e).2
 obtain⟨v,hv,hr⟩:=h.box;exact⟨⟨v,(grownBy_keeps hg hrow' hv rfl).trans hv,ownsRow_abides_a hr hg hrow'⟩,(grownBy_keeps hg hrow' h.L rfl).trans h.L,(grownBy_keeps hg hrow' h.K rfl).trans h.K,h.below.grown hg h.below.size (fun k e=>AG hB (hrow k e).1)⟩
theorem zT (l:List aj) (x:aj):fu (l++[x])=fu l++[.int .i64 x.dev, .int .i64 x.inc, .int .i64 x.seq]:=by
 induction l with
 |nil=>rfl
 |cons d l ih=>simp only[Bc,fu,ih]
theorem JH:∃i0,Tryz.prog.info? 77=some i0/\i0.zero=some (.agg #[.int .i64 0, .int .i64 0, .int .i64 0])/\i0.size=3/\i0.bytes=24:=by
 have h:=uE
 cases e:Tryz.prog.info? 77 with
 |none=>rw[e]at h;cases h
 |some i=>rw[e]at h;simp only[AS,Az,B9]at h;exact⟨i,rfl,h.1,h.2.1,h.2.2⟩
theorem uo (m:Nat) (w0:World) (fn:FuncId) (sv:Value) (Bs l D:Nat) (hBl:Bs≠l) (hDl:D≠l) (hDB:D≠Bs) (h0B:w0.heap.size<=Bs) (h0l:w0.heap.size<=l)
  (N:Nat) (hN:N<=1000000) (ss:List aj) (x:aj) (W:World) (h:mS w0 fn sv Bs l D ss W) (hlen:ss.length<N):
  YieldAt Fence.wide m Tryz.prog l #[cD x] W fun e W'=>e= .returned (.bool true)/\mS w0 fn sv Bs l D (ss++[x]) W'/\KeepsWalks W W':=by
 obtain⟨i0,hi,hz0,hz1,hz2⟩:=JH;obtain⟨v,hv,hrow⟩:=h.box;refine⟨fn,#[.slice none 0 0,sv, .pointer (some ⟨Bs,0,none⟩),undef, .slice none 0 0,undef,sv,cD x,undef,undef,undef,undef,undef],uG,uH,by simpa [apRec]using run_yield (P:=Tryz.prog) (args:=#[cD x]) h.L rfl,roundIn_of_wpIn trivial ?_⟩;have hl:l<W.heap.size:=(Ad.1 h.L).1;have hne:∀cur:Array Value,Obj.cells #[v] 22 (0,0)≠ .cells cur 77 (0,0):=fun cur e=>by
  have:=(Obj.cells.inj e).2.1;exact absurd this (by decide)
 obtain⟨W1,hW1⟩:∃W1,W.alloc (.cells #[.int .i64 x.dev, .int .i64 x.inc, .int .i64 x.seq] 77)=W1:=⟨_,rfl⟩;have hs1:W1.heap.size=W.heap.size+1:=by rw[<-hW1];simp
 have hold1:∀k,k<W.heap.size->W1.heap[k]? =W.heap[k]? :=fun k hk=>by rw[<-hW1];exact Below.heap_alloc _ _ k hk
 have hBlt0:Bs<W.heap.size:=(Ad.1 hv).1;have hDlt0:D<W.heap.size:=(Ad.1 h.K).1;have hv1:W1.heap[Bs]? =some (.cells #[v] 22 (0,0)):=(hold1 Bs hBlt0).trans hv;have hL1:W1.heap[l]? =some (.loop (apRec fn sv Bs D .ready none)):=(hold1 l hl).trans h.L;have hK1:W1.heap[D]? =some (.deferred (some [])):=(hold1 D hDlt0).trans h.K;have hrow1:W1.ownsRow w0.heap.size 77 3 v ss.length (fu ss):=by rw[<-hW1];exact hrow.alloc _
 have hb1:Below w0.heap.size w0 W1:=by rw[<-hW1];exact h.below.alloc h.below.size _
 have hk1:KeepsWalks W W1:=by rw[<-hW1];exact KeepsWalks.alloc _ _
 have x0':W1.cell? ⟨W.heap.size,0,none⟩=some (.int .i64 x.dev):=by rw[<-hW1];simp
 have x1':W1.cell? ⟨W.heap.size,1,none⟩=some (.int .i64 x.inc):=by rw[<-hW1];simp
 have x2':W1.cell? ⟨W.heap.size,2,none⟩=some (.int .i64 x.seq):=by rw[<-hW1];simp
 have hbr:=run_beginRound (P:=Tryz.prog) hL1 rfl;obtain⟨W2,hW2⟩:∃W2,W1.putObj l (.loop {apRec fn sv Bs D .ready none with state:= .busy})=W2:=⟨_,rfl⟩;rw[hW2]at hbr;have hg2:W1.grownBy W2 (some l):=by rw[<-hW2];exact grownBy_putObj_a _ _ _
 have hk2:KeepsWalks W1 W2:=by rw[<-hW2];exact KeepsWalks.putObj _ hL1 rfl
 have hv2:W2.heap[Bs]? =some (.cells #[v] 22 (0,0)):=by rw[<-hW2];exact(World.putObj_heap_other hBl).trans hv1
 have hK2:W2.heap[D]? =some (.deferred (some [])):=by rw[<-hW2];exact(World.putObj_heap_other hDl).trans hK1
 have hL2:W2.heap[l]? =some (.loop {apRec fn sv Bs D .ready none with state:= .busy}):=by rw[<-hW2];exact World.putObj_heap_same (by omega)
 have hrow2:W2.ownsRow w0.heap.size 77 3 v ss.length (fu ss):=hrow1.kept hg2 (ownsRow_ne_a hrow1 hL1 (fun cur e=>by cases e));have hb2:Below w0.heap.size w0 W2:=hb1.grown hg2 hb1.size (fun k e=>by cases e;exact h0l);have hs2:W2.heap.size=W.heap.size+1:=by rw[<-hW2];simp[hs1]
 have hbx:W2.heap[W.heap.size]? =W1.heap[W.heap.size]? :=by rw[<-hW2];exact World.putObj_heap_other (by omega)
 have x0:=gy x0' hbx;have x1:=gy x1' hbx;have x2:=gy x2' hbx;obtain⟨hc2,hf2⟩:=cell_of_box_a hv2;have hBlt:Bs<W2.heap.size:=(Ad.1 hv2).1;have hl2:l<W2.heap.size:=(Ad.1 hL2).1;have hDlt:D<W2.heap.size:=(Ad.1 hK2).1;have ne_of:∀{j:Nat} {o:Obj},W2.heap[j]? =some o->(∀cur,o≠ .cells cur 77 (0,0))->some j≠v.ownBlock:=fun hj hno=>by
  rcases ownsRow_ne_a hrow2 hj hno with e|e
  . rw[e];simp
  . exact fun e'=>e e'.symm
 clear hW2;rw[show cD x= .agg #[.int .i64 x.dev, .int .i64 x.inc, .int .i64 x.seq]from rfl];conv=>arg 4;whnf
 gi_wp2_with gi_round_op_a
 conv=>arg 4;whnf
 obtain⟨W2b,hW2b⟩:∃W2b,W2.alloc (.cells #[.int .i64 x.dev, .int .i64 x.inc, .int .i64 x.seq] 77)=W2b:=⟨_,rfl⟩;have hrow2b:W2b.ownsRow w0.heap.size 77 3 v ss.length (fu ss):=by rw[<-hW2b];exact hrow2.alloc _
 have hs2b:W2b.heap.size=W2.heap.size+1:=by rw[<-hW2b];simp
 have hold2b:∀k,k<W2.heap.size->W2b.heap[k]? =W2.heap[k]? :=fun k hk=>by rw[<-hW2b];exact Below.heap_alloc _ _ k hk
 have y0:W2b.cell? ⟨W2.heap.size,0,none⟩=some (.int .i64 x.dev):=by rw[<-hW2b];simp
 have y1:W2b.cell? ⟨W2.heap.size,1,none⟩=some (.int .i64 x.inc):=by rw[<-hW2b];simp
 have y2:W2b.cell? ⟨W2.heap.size,2,none⟩=some (.int .i64 x.seq):=by rw[<-hW2b];simp
 rw[hs2]at y0 y1 y2;have hcells:∀j u,([Value.int .i64 x.dev, .int .i64 x.inc, .int .i64 x.seq]:List Value)[j]? =some u->W2b.cell? ((⟨W.heap.size+1,0,none⟩:Addr).add j)=some u:=fun j u hj=>by
  rw[Addr.add_lit];match j with
  |0=>cases hj;exact y0
  |1=>cases hj;exact y1
  |2=>cases hj;exact y2
  |_+3=>cases hj
 have hb2b:Below w0.heap.size w0 W2b:=by rw[<-hW2b];exact hb2.alloc hb2.size _
 have hz2b:w0.heap.size<=W2b.heap.size:=hb2b.size;gi_wp2_with (first
  |(gi_at_builtin;refine wpListIn_append_own _ rfl _ _ 22 rfl w0.heap.size 77 i0 _ 3 24 Tryz.underlying22 hi hz0 hz1 hz2 rfl (by decide) _ _ _ rfl hrow2b ⟨W.heap.size+1,0,none⟩ 1 1 [.int .i64 x.dev, .int .i64 x.inc, .int .i64 x.seq] rfl rfl hcells (by simp[Value.oneCell']) (by unfold maxLen;omega) (by omega) hz2b ?_;intro v' w3 hown' hg3 hnil3;have hg3':W2b.grownBy w3 v.ownBlock:=hg3;have hv3:w3.heap[Bs]? =some (.cells #[v] 22 (0,0)):=(hg3'.block Bs (by omega) (ne_of hv2 hne)).trans ((hold2b Bs hBlt).trans hv2);obtain⟨hc3,hf3⟩:=cell_of_box_a hv3;obtain⟨g',cap',cur',rfl,hbase',hgb',hr1,hr2,hr3,hr4⟩:∃g' cap' cur',v'= .slice (some ⟨g',0,none⟩) (ss.length+1) cap'/\w0.heap.size<=g'/\w3.heap[g']? =some (.cells cur' 77 (0,0))/\ss.length+1<=cap'/\cap'<=maxLen/\cur'.size=cap'*3/\cur'.toList.take ((ss.length+1)*3)=fu ss++[.int .i64 x.dev, .int .i64 x.inc, .int .i64 x.seq]:=hown'.2.resolve_left (fun hh=>absurd hh.2 (by omega));go_frame)
  |gi_round_op_a)
 have hL3:w3.heap[l]? =some (.loop {apRec fn sv Bs D .ready none with state:= .busy}):=(hg3'.block l (by omega) (ne_of hL2 (fun cur e=>by cases e))).trans ((hold2b l hl2).trans hL2);have hK3:w3.heap[D]? =some (.deferred (some [])):=(hg3'.block D (by omega) (ne_of hK2 (fun cur e=>by cases e))).trans ((hold2b D hDlt).trans hK2);obtain⟨w4,hw4⟩:∃w4,w3.setCell ⟨Bs,0,none⟩ (.slice (some ⟨g',0,none⟩) (ss.length+1) cap')=w4:=⟨_,rfl⟩;rw[hw4];have hg4:w3.grownBy w4 (some Bs):=by rw[<-hw4];exact grownBy_setCell0_a _ _ _
 have hv4:w4.heap[Bs]? =some (.cells #[.slice (some ⟨g',0,none⟩) (ss.length+1) cap'] 22 (0,0)):=by rw[<-hw4];exact heap_setCell_box_a _ hv3
 have hL4:w4.heap[l]? =some (.loop {apRec fn sv Bs D .ready none with state:= .busy}):=(hg4.block l (Ad.1 hL3).1 (fun e=>hBl (by cases e;rfl))).trans hL3;have hK4:w4.heap[D]? =some (.deferred (some [])):=(hg4.block D (Ad.1 hK3).1 (fun e=>hDB (by cases e;rfl))).trans hK3;have hrow4:=hown'.kept hg4 (ownsRow_ne_a hown' hv3 hne);have hl4:l<w4.heap.size:=(Ad.1 hL4).1;have hb3:Below w0.heap.size w0 w3:=hb2b.grown hg3' hz2b (fun k e=>(hrow2b.lt k e).1);have hb4:Below w0.heap.size w0 w4:=hb3.grown hg4 hb3.size (fun k e=>by cases e;exact h0B);have hk2b:KeepsWalks W2 W2b:=by rw[<-hW2b];exact KeepsWalks.alloc _ _
 have hk4:KeepsWalks W w4:=(((hk1.trans hk2).trans hk2b).trans (KeepsWalks.of_grownBy hg3' (ownsRow_not_walk_a hrow2b))).trans (by rw[<-hw4];exact KeepsWalks.setCell _ _ _);clear hw4;refine⟨_,_,run_endRound none hL4,rfl,⟨⟨_,(World.putObj_heap_other hBl).trans hv4,?_⟩,World.putObj_heap_same hl4,(World.putObj_heap_other hDl).trans hK4,hb4.grown (grownBy_putObj_a _ _ _) hb4.size (fun k e=>by cases e;exact h0l)⟩,hk4.trans (KeepsWalks.putObj _ hL4 rfl)⟩;have:=hrow4.kept (grownBy_putObj_a w4 l (.loop {{apRec fn sv Bs D .ready none with state:= .busy}with state:=if(none:Option Code).isNone then .ready else .done,pending:=none})) (ownsRow_ne_a hrow4 hL4 (fun cur e=>by cases e));rw[zT];simpa using this
theorem GO:∀args w,(callFunc 52 args).run Tryz.prog w= .ok (.enter 52 args) w:=enters_of Tryz.func52 (by kernel_rfl) rfl
theorem ug (n:Nat) (hn:2<=n) (lb:Array Value) (S:List aj->Prop) (N:Nat) (hN:N<=1000000) (w:World) (hseq:SeqGives Fence.wide (n - 1) Tryz.prog 52 lb cD S N w):
    CallsIn Fence.wide n Tryz.prog 84 #[.slice none 0 0, .func (.func 52) #[] lb] w fun e w'=>∃(v:Value) (ss:List aj),e= .returned v/\S ss/\w'.ownsRow w.heap.size 77 3 v ss.length (fu ss)/\Below w.heap.size w w':=by
  have h1:1<=n:=by omega
  refine callsIn_of_wp_marks Tryz.func84 rfl trivial ?_ rfl;simp only[Tryz.ntmps84,Bj,AR,Bf,Nat.reduceAdd,Nat.reduceSub,DO,DN,DZ,DR,BC,Bc];gi_wp2
  refine wpIn_rangeFunc ?_;intro fn hfn;obtain⟨W0,hW0⟩:∃W0,w.alloc (.cells #[.slice none 0 0] 22)=W0:=⟨_,rfl⟩;have hs0:W0.heap.size=w.heap.size+1:=by rw[<-hW0];simp
  have hv0:W0.heap[w.heap.size]? =some (.cells #[.slice none 0 0] 22 (0,0)):=by rw[<-hW0];exact World.alloc_heap_new w _
  have hb0:Below w.heap.size w W0:=by rw[<-hW0];exact(Below.refl _ w).alloc (Aj _) _
  rw[hW0];obtain⟨W1,hW1⟩:∃W1,(W0.alloc (.deferred (some []))).alloc (.loop (apRec fn (.func (.func 52) #[] lb) w.heap.size W0.heap.size .ready none))=W1:=⟨_,rfl⟩;have hold:∀k,k<W0.heap.size->W1.heap[k]? =W0.heap[k]? :=fun k hk=>by
    rw[<-hW1];exact(Below.heap_alloc _ _ k (by simp;omega)).trans (Below.heap_alloc _ _ k hk)
  have hb1:Below w.heap.size w W1:=by rw[<-hW1];exact(hb0.alloc hb0.size _).alloc (by have:=hb0.size;simp;omega) _
  have hs1:W1.heap.size=W0.heap.size+2:=by rw[<-hW1];simp
  have hM:mS w fn (.func (.func 52) #[] lb) w.heap.size (W0.heap.size+1) W0.heap.size [] W1:=
    ⟨⟨_,(hold w.heap.size (by omega)).trans hv0,⟨rfl, .inl ⟨rfl,rfl⟩⟩⟩,
     by rw[<-hW1];have:=World.alloc_heap_new (W0.alloc (.deferred (some []))) (.loop (apRec fn (.func (.func 52) #[] lb) w.heap.size W0.heap.size .ready none));rwa [World.size_alloc]at this,
     by rw[<-hW1];exact(Below.heap_alloc _ _ _ (by simp)).trans (World.alloc_heap_new W0 _),hb1⟩
  refine⟨W0.heap.size+1,[{target:= .collected W0.heap.size,args:=#[]}],W1,{target:= .fn (.func 52) lb,args:=#[.func (.yield (W0.heap.size+1)) #[] #[]]},W1,52,
    #[.func (.yield (W0.heap.size+1)) #[] #[]]++lb,W1,?_,?_,?_,?_,fun _=>h1,?_⟩
  . rw[<-hW1];exact run_enterLoop_outer _ _ _ _ _
  . simp[resolve,go_sem]
  . intro f' hf';simp[Target.leads]at hf';subst hf';trivial
  . simp[invoke,go_sem,GO]
  . refine(hseq (W0.heap.size+1) (mS w fn (.func (.func 52) #[] lb) w.heap.size (W0.heap.size+1) W0.heap.size) W1 hb1 (EL _ _ _ _ _ _ _ hb1.size)
      (fun pre x W hJ hl=>uo (n - 1 - 1) w fn _ w.heap.size (W0.heap.size+1) W0.heap.size (by omega) (by omega) (by omega) (Aj _) (by omega) N hN pre x W hJ hl) hM).mono ?_
    rintro e W2 ⟨⟨v0,rfl⟩,ss,hS,h2⟩;obtain⟨v,hv,hrow⟩:=h2.box;have hend:=run_endLoop (P:=Tryz.prog) h2.L (by simp[apRec]);obtain⟨W3,hW3⟩:∃W3,W2.putObj (W0.heap.size+1) (.loop {apRec fn (.func (.func 52) #[] lb) w.heap.size W0.heap.size .ready none with state:= .exhausted})=W3:=⟨_,rfl⟩;rw[hW3]at hend;have hne:∀cur:Array Value,Obj.cells #[v] 22 (0,0)≠ .cells cur 77 (0,0):=fun cur e=>by
      have:=(Obj.cells.inj e).2.1;exact absurd this (by decide)
    have hg3:W2.grownBy W3 (some (W0.heap.size+1)):=by rw[<-hW3];exact grownBy_putObj_a _ _ _
    have hv3:W3.heap[w.heap.size]? =some (.cells #[v] 22 (0,0)):=by rw[<-hW3];exact(World.putObj_heap_other (by omega)).trans hv
    have hK3:W3.heap[W0.heap.size]? =some (.deferred (some [])):=by rw[<-hW3];exact(World.putObj_heap_other (by omega)).trans h2.K
    have hrow3:=hrow.kept hg3 (ownsRow_ne_a hrow h2.L (fun cur e=>by cases e));have hb3:Below w.heap.size w W3:=h2.below.grown hg3 h2.below.size (fun k e=>by cases e;omega);obtain⟨hc3,hf3⟩:=cell_of_box_a hv3;clear hW3;refine⟨none,W3,hend,?_⟩;gi_wp2
    rw[<-hs0];refine⟨by simp, .inl ⟨_,_,rfl,run_takeDeferred hK3,?_⟩⟩;exact⟨_,results_tmp rfl _ _ _,v,ss,rfl,hS,hrow3.kept (grownBy_putObj_a _ _ _) (ownsRow_ne_a hrow3 hK3 (fun cur e=>by cases e)),hb3.grown (grownBy_putObj_a _ _ _) hb3.size (fun k e=>by cases e;omega)⟩
theorem ur (n:Nat) (hn:3<=n) (lb:Array Value) (S:List aj->Prop) (N:Nat) (hN:N<=1000000) (w:World) (hseq:SeqGives Fence.wide (n - 1 - 1) Tryz.prog 52 lb cD S N w):
  CallsIn Fence.wide n Tryz.prog 50 #[.func (.func 52) #[] lb] w fun e w'=>∃(v:Value) (ss:List aj),e= .returned v/\S ss/\w'.ownsRow w.heap.size 77 3 v ss.length (fu ss)/\Below w.heap.size w w':=by
 have h1:1<=n:=by omega
 refine callsIn_of_wp Tryz.func50 rfl trivial ?_ rfl;simp only[Tryz.ntmps50,Bj,AR,Bf,Nat.reduceAdd,Nat.reduceSub,DO,DN,DZ,DR,BC,Bc];have hf253:Fence.wide.fn 84:=trivial;have hs:=ug (n - 1) (by omega) lb S N hN w hseq;gi_wp2_with (gi_at_call 84;refine hs.mono ?_;rintro e w' ⟨v,ss,rfl,hS,hrow,hb⟩)
 go_ret;exact⟨v,ss,rfl,hS,hrow,hb⟩
end Go.Proofs
namespace Go.Proofs
open Go.Shelf
def lL:Go.Shelf.Ren:=⟨fun|6=>51|15=>86|14=>85|28=>121|29=>122|20=>113|21=>114|22=>115|23=>116|24=>117|25=>118|26=>119|27=>120|46=>162|47=>163|48=>164|49=>165|50=>166|57=>188|n=>n,fun|22=>22|24=>77|25=>82|3=>3|39=>156|0=>0|53=>186|55=>188|4=>4|46=>180|45=>179|50=>103|5=>5|9=>9|66=>217|70=>221|76=>235|77=>236|n=>n,fun|n=>n⟩
theorem uw:Go.Proofs.SlLaysF0.n6 Tryz.prog lL:={
 mixed:=by kernel_rfl
 f6:=⟨Tryz.f51.name,by decide,Tryz.func51.trans (AN some (by kernel_rfl))⟩
 f14:=⟨Tryz.f85.name,by decide,Tryz.func85.trans (AN some (by kernel_rfl))⟩
 f15:=Tryz.func86.trans (AN some (by kernel_rfl))
 f20:=⟨Tryz.f113.name,by decide,Tryz.func113.trans (AN some (by kernel_rfl))⟩
 f21:=⟨Tryz.f114.name,by decide,Tryz.func114.trans (AN some (by kernel_rfl))⟩
 f22:=⟨Tryz.f115.name,by decide,Tryz.func115.trans (AN some (by kernel_rfl))⟩
 f23:=⟨Tryz.f116.name,by decide,Tryz.func116.trans (AN some (by kernel_rfl))⟩
 f24:=⟨Tryz.f117.name,by decide,Tryz.func117.trans (AN some (by kernel_rfl))⟩
 f25:=⟨Tryz.f118.name,by decide,Tryz.func118.trans (AN some (by kernel_rfl))⟩
 f26:=⟨Tryz.f119.name,by decide,Tryz.func119.trans (AN some (by kernel_rfl))⟩
 f27:=⟨Tryz.f120.name,by decide,Tryz.func120.trans (AN some (by kernel_rfl))⟩
 f28:=Tryz.func121.trans (AN some (by kernel_rfl))
 f29:=Tryz.func122.trans (AN some (by kernel_rfl))
 f46:=⟨Tryz.f162.name,by decide,Tryz.func162.trans (AN some (by kernel_rfl))⟩
 f47:=Tryz.func163.trans (AN some (by kernel_rfl))
 f48:=Tryz.func164.trans (AN some (by kernel_rfl))
 f49:=⟨Tryz.f165.name,by decide,Tryz.func165.trans (AN some (by kernel_rfl))⟩
 f50:=⟨Tryz.f166.name,by decide,Tryz.func166.trans (AN some (by kernel_rfl))⟩
 f57:=⟨Tryz.f188.name,by decide,Tryz.func188.trans (AN some (by kernel_rfl))⟩
 t0:=Tryz.underlying0
 a0:=Tryz.isAgg0
 z0:=Tryz.sizeOf0
 v0:=Tryz.zeroValue0
 t3:=Tryz.underlying3
 a3:=Tryz.isAgg3
 z3:=Tryz.sizeOf3
 v3:=Tryz.zeroValue3
 t4:=Tryz.underlying4
 a4:=Tryz.isAgg4
 z4:=Tryz.sizeOf4
 v4:=Tryz.zeroValue4
 t5:=Tryz.underlying5
 a5:=Tryz.isAgg5
 z5:=Tryz.sizeOf5
 v5:=Tryz.zeroValue5
 t9:=Tryz.underlying9
 a9:=Tryz.isAgg9
 z9:=Tryz.sizeOf9
 v9:=Tryz.zeroValue9
 t22:=Tryz.underlying22
 a22:=Tryz.isAgg22
 z22:=Tryz.sizeOf22
 v22:=Tryz.zeroValue22
 t25:=Tryz.underlying82
 a25:=Tryz.isAgg82
 z25:=Tryz.sizeOf82
 v25:=Tryz.zeroValue82
 t39:=Tryz.underlying156
 a39:=Tryz.isAgg156
 z39:=Tryz.sizeOf156
 v39:=Tryz.zeroValue156
 t45:=Tryz.underlying179
 a45:=Tryz.isAgg179
 z45:=Tryz.sizeOf179
 v45:=Tryz.zeroValue179
 t46:=Tryz.underlying180
 a46:=Tryz.isAgg180
 z46:=Tryz.sizeOf180
 v46:=Tryz.zeroValue180
 t50:=Tryz.underlying103
 a50:=Tryz.isAgg103
 z50:=Tryz.sizeOf103
 v50:=Tryz.zeroValue103
 t53:=Tryz.underlying186
 a53:=Tryz.isAgg186
 z53:=Tryz.sizeOf186
 v53:=Tryz.zeroValue186
 t55:=Tryz.underlying188
 a55:=Tryz.isAgg188
 z55:=Tryz.sizeOf188
 v55:=Tryz.zeroValue188
 t66:=Tryz.underlying217
 a66:=Tryz.isAgg217
 z66:=Tryz.sizeOf217
 v66:=Tryz.zeroValue217
 t70:=Tryz.underlying221
 a70:=Tryz.isAgg221
 z70:=Tryz.sizeOf221
 v70:=Tryz.zeroValue221
 t76:=Tryz.underlying235
 a76:=Tryz.isAgg235
 z76:=Tryz.sizeOf235
 v76:=Tryz.zeroValue235
 t77:=Tryz.underlying236
 a77:=Tryz.isAgg236
 z77:=Tryz.sizeOf236
 v77:=Tryz.zeroValue236}
end Go.Proofs
namespace Go.Proofs
open Go Go.Am Go.RowKit Go.Sy Go.Gm Go.Maps Go.Sort Go.Shelf
section
theorem HP {w w':World} (h:Below w.heap.size w w') (hd:w.drawn<=w'.drawn):∃q os,w'=grow (w.drewN q) os:=by
 refine⟨w'.drawn - w.drawn,w'.heap.extract w.heap.size w'.heap.size,?_⟩;unfold grow World.drewN
 cases w' with
 | mk heap tape drawn os output=>
  obtain⟨h1,h2,h3,h4,h5⟩:=h;simp only at h1 h2 h3 h4 h5 hd⊢;subst h1;subst h2;subst h3;congr 1
  . apply By
    intro i;rw[Ez];split
    . rename_i hi;exact h5 i hi
    . rename_i hi;rw[Array.getElem?_extract];by_cases h6:i<heap.size
      . simp only[Nat.min_self];rw[Ai (by omega),show w.heap.size+(i - w.heap.size)=i by omega]
      . rw[Ae (by omega),Dh (by omega)]
  . omega
def fH (x:aj):List Value:=[.int .i64 x.dev, .int .i64 x.inc, .int .i64 x.seq]
section
variable [Inhabited aE]
theorem HD:CO lV qH:=cZ (C:=qH) (cfg:=fun y=>fk mK (dA y)) cB (fun _=>rfl) (fun _=>nP) (n:=400) (by
 rintro⟨x,y⟩ -
 (conv=>whnf)
 refine⟨(x,y),?_⟩
 repeat' (first|exact trivial|exact rfl|((conv=>whnf);first|(apply cm<;>intro)|apply And.intro)))
end
theorem IT:SWO (ltOf je) where
 irrefl x:=by
  have:= @ru ⟨⟨True,#[]⟩⟩ x;exact this
 trans x y z h1 h2:= @rJ ⟨⟨True,#[]⟩⟩ x y z h1 h2
 ntrans x y z h1 h2:=by
  letI:Inhabited aE:=⟨⟨True,#[]⟩⟩
  have h1:¬bl x y=true:=by rw[DD];exact h1
  have h2:¬bl y z=true:=by rw[DD];exact h2
  show bl x z=false
  rw[<-DD];rw[nz]at*;omega
theorem xA {Fz:Nat->Option AO} {n:Nat} (x:aj) [Inhabited aE]:aC Fz (.agg x.enc) (ep n (.agg (fH x).toArray)):=IJ [x.dev,x.inc,x.seq]
theorem uC (aG off size:Nat) (w:World):CmpLays Tryz.prog 29 #[] fH 3 je aG off size w:=by
 intro m os dk _ x y;letI:Inhabited aE:=⟨⟨True,#[]⟩⟩
 have h:=iQ cB.ok HD (fn:=Tryz.f29) (hfn:=by kernel_rfl) (hb:=rfl) (y:=(x,y)) trivial (args:=[.agg (fH x).toArray, .agg (fH y).toArray]) (w:=sortWorldK fH 3 w aG off m dk os) (PL.cons (xA x) (PL.cons (xA y) PL.nil)) (dm.l9 rfl _);refine Calls.mono h ?_;rintro e w' ⟨v,rfl,hv,hbel,hd⟩;have hv:v= .int .i64 (je x y):=p8 hv;exact⟨by rw[hv],HP hbel (hd trivial)⟩
theorem Kb:∀w,(isAgg (lL.t 24)).run Tryz.prog w= .ok true w:=fun w=>by kernel_rfl
theorem JF:∀w,(Go.sizeOf (lL.t 24)).run Tryz.prog w= .ok 3 w:=fun w=>by kernel_rfl
theorem re (x:aj):∀v∈fH x,v.oneCell'=true:=by
 intro v hv;simp only[fH,An,DC,DY]at hv;rcases hv with rfl|rfl|rfl<;>rfl
theorem Jd (aG off cap:Nat) (d:Array aj) (w:World) (hH:HoldsK fH 3 w aG off d) (hblk:aG<w.heap.size) (hsz:d.size<4611686018427387904):
  Calls Tryz.prog 51 #[.slice (some ⟨aG,off,none⟩) d.size cap, .func (.func 29) #[] #[]] w fun e w'=>e= .returned (.tuple #[])/\ ∃d' n os,PermIn 0 d.size d d'/\SortedIn (ltOf je) 0 d.size d'/\w'=sortWorldK fH 3 w aG off n d' os:=
 AnyQ.slices_SortFunc uw 3 Kb JF fH (fun _=>rfl) re je IT 29 #[] aG off cap d w (enters_of Tryz.func29 (by kernel_rfl) rfl) (uC aG off d.size w) hH hblk hsz
end
section
section
variable [Inhabited aE]
def yv (g:FuncId):aR:={Y:=Unit,pre:=fun _=>True,args:=fun _=>[.nils, .fn g [] []],res:=fun _=> .aO []}
theorem HC:CO tX (yv lV):=cZ (C:=yv lV) (cfg:=fun y=>fk mK (dA y)) cB (fun _=>rfl) (fun _=>nP) (n:=3000) (by
 rintro⟨⟩ -
 (conv=>whnf)
 trivial)
end
theorem Fi [Inhabited aE] {P:Program} {tab:aM} (ok:aV P tab) {f:FuncId} {C:aR} (hc:Go.Sy.bq P tab f C) {fn:Func} {body:Code} (hfn:tab.fns.get f=some fn) (hb:fn.body=some body) {y:C.Y} (hy:C.pre y) {args:List Value} {avs:List AV} (hconc:∀E,aJ E avs=args) {w:World}
  (hs:PL (bP tab w).get (C.args y) avs) (hw:dm w):Calls P f args.toArray w (fun e w'=>∃v,e= .returned v/\Rd w' (fun _=>True) true (C.res y) v/\Below w.heap.size w w'/\((default:aE).dr->w.drawn<=w'.drawn)):=by
 intro cs;have hP:=ok.fns f fn hfn;have hdom:∀i o,(bP tab w).get i=some o->i<(bP tab w).next:=fun i o hi=>(n4 tab w (E:=⟨fun i=>i,fun _=>0⟩) (fun _ _=>rfl)).cN i o hi
 let E:Env:=⟨fun i=>i,fun _=>0⟩
 let D:Nat->Prop:=fun i=>i<w.heap.size
 have hag:∀E',ag D E E'->∀i,i<w.heap.size->E'.aG i=i:=fun E' he i hi=>(he i hi).1
 have hR:Rel D E (KS.old w.heap.size) {fr:=ae.enter fn f body avs .normal,cs:=[],h:=bP tab w} cs (Frame.enter P f args.toArray .normal) cs w:=by
  refine⟨fun E' he=>⟨n4 tab w (hag E' he),?_,rfl⟩,fun i h=>h,ln _ _ _ _ _,fun f hf=>by cases hf⟩;rw[<-iB hP hb,hconc]
 obtain⟨v,h',⟨Fz',_,f2,hsim,_⟩,fr',w',v',E',D',s1,s2,s3,s4,s5,s6,s7,s8,s9,s10⟩:=hc fn body hfn hb y hy (bP tab w).get (bP tab w) _ (fun _ _ h=>h) hdom hs.1 hs.2 D E _ cs _ cs w hR hw.kj;obtain⟨g1,g2⟩:=s4 E' (ag.refl _ _);subst g2;exact⟨.returned (aa E' v),w',fr',⟨_,rfl,pq g1 f2 hsim,⟨s8.os,s8.tape,s8.output,s8.size,s8.block⟩,s8.drawn⟩,s1,s2,s3⟩
theorem IK [Inhabited aE] {w:World} {p:Nat->Prop} {g:Bool} {v:Value} (h:Rd w p g (.aO []) v):v= .tuple #[]:=by
 cases h with
 | @aO cs vs h1 h2=>
  obtain⟨l⟩:=vs;match l,h1 with
  |[],_=>rfl
theorem Jc (w:World):Calls Tryz.prog 51 #[.slice none 0 0, .func (.func 29) #[] #[]] w fun e w'=>e= .returned (.tuple #[])/\Below w.heap.size w w':=by
 letI:Inhabited aE:=⟨⟨True,#[]⟩⟩
 refine Calls.mono (Fi cB.ok HC (fn:=Tryz.f51) (hfn:=rfl) (hb:=rfl) (y:=()) trivial (args:=[.slice none 0 0, .func (.func 29) #[] #[]]) (avs:=[.nils, .fn (.func 29) [] []]) (fun E=>by simp[aa]) (w:=w) (PL.cons .nils (PL.cons (.fn (xs:=[]) (ys:=[]) (us:=[]) (vs:=[]) rfl rfl (fun i x u h=>(by simp at h)) (fun i x u h=>(by simp at h))) PL.nil)) (dm.l9 rfl _)) ?_;rintro e w' ⟨v,rfl,hv,hb,_⟩;exact⟨by rw[IK hv],hb⟩
end
end Go.Proofs
namespace Go.Gm
open Go Go.RowKit Go.Maps Go.Proofs Go.ChangeMaps
section
variable {P:Program} {K V:Type} [DecidableEq K]
theorem zJ {es:List MapEntry} (hs:(es.map (·.born)).Pairwise (· < ·)) {j:Nat} (hj:j<es.length) {n:Nat} (hn:es[j].born=n):es.findIdx? (fun e=>((e.born:Int)==(n:Int)))=some j:=by
 rw[DX];refine⟨hj,by simp[hn],fun i hi=>?_⟩;have hp:=B5.1 hs i j (by simp;omega) (by simpa using hj) hi;simp only[List.getElem_map]at hp;simp;omega
theorem uV {es:Array MapEntry} (hs:(es.toList.map (·.born)).Pairwise (· < ·)) {j:Nat} (hj:j<es.size) {n:Nat} (hn:es[j].born=n):es.findIdx? (fun e=>((e.born:Int)==(n:Int)))=some j:=by
 obtain⟨l⟩:=es;rw[List.findIdx?_toArray];exact zJ hs hj hn
theorem bf.entry {w:World} {b:Nat} {enc:K->Value} {encV:V->Value} {L:List (K×V)} (h:bf w b enc encV L) {T Te t:TypeId} (hK:KeyLaw P T enc) (ht:P.underlying t=some (.map T Te)) {z:V} (hz:∀w:World,(zeroValue Te).run P w= .ok (encV z) w) (k:K) (val:V):
  ∃ (v:Value) (n:Nat) (o o':Obj),(Instr.mapEntry t (.map (some b)) (enc k)).run P w= .ok (.tuple #[v,goInt n]) (World.bp w b o)/\(Instr.entryStore t (.map (some b)) (goInt n) (encV val)).run P (World.bp w b o)= .ok () (World.bp (World.bp w b o) b o')/\qg (World.bp w b o) b/\
    bf (World.bp (World.bp w b o) b o') b enc encV (fD L k val)/\(bf (World.bp w b o) b enc encV L\/k∉L.map (·.1)/\bf (World.bp w b o) b enc encV (L++[(k,z)])):=by
 obtain⟨⟨es,clk,hb,hr,hs,hc⟩,hnd⟩:=h;have hf:=lj hK k w es.toList L hr;have hgo:(getObj b).run P w= .ok (.map es clk) w:=by simp[getObj,Sem.run,hb]
 cases e:idxOf k encV L 0 with
 |none=>
  have hk:=fO.1 e;have h1:(Instr.mapEntry t (.map (some b)) (enc k)).run P w= .ok (.tuple #[encV z,goInt clk]) (World.bp w b (.map (es.push ⟨enc k,encV z,clk⟩) (clk+1))):=by
    unfold Instr.mapEntry;simp only[Sem.run_bind,run_underlying ht,Result.andThen_ok,hgo,hK.fl,hf,e,hz,pQ hb,Sem.run_pure]
  have hb1:(World.bp w b (.map (es.push ⟨enc k,encV z,clk⟩) (clk+1))).heap[b]? =some (.map (es.push ⟨enc k,encV z,clk⟩) (clk+1)):=by rw[nM hb,Ai rfl]
  have hgo1:(getObj b).run P (World.bp w b (.map (es.push ⟨enc k,encV z,clk⟩) (clk+1)))= .ok (.map (es.push ⟨enc k,encV z,clk⟩) (clk+1)) (World.bp w b (.map (es.push ⟨enc k,encV z,clk⟩) (clk+1))):=by simp[getObj,Sem.run,hb1]
  have hbig:(((es.push ⟨enc k,encV z,clk⟩).toList.map (·.born)).Pairwise (· < ·)):=by
    rw[Dz,Ba,EB];refine⟨hs,by simp,fun a ha c hc'=>?_⟩;obtain⟨x,hx,rfl⟩:=A1.1 ha;simp at hc';subst hc';exact hc x hx
  have hfi:(es.push ⟨enc k,encV z,clk⟩).findIdx? (fun e=>((e.born:Int)==(clk:Int)))=some es.size:=by
    exact uV hbig (j:=es.size) (by simp) (by simp)
  have h2:∀x:Value,(Instr.entryStore t (.map (some b)) (goInt clk) x).run P (World.bp w b (.map (es.push ⟨enc k,encV z,clk⟩) (clk+1)))= .ok () (World.bp (World.bp w b (.map (es.push ⟨enc k,encV z,clk⟩) (clk+1))) b (.map ((es.push ⟨enc k,encV z,clk⟩).modify es.size fun e=>{e with val:=x}) (clk+1))):=fun x=>by
    unfold Instr.entryStore;simp only[Sem.run_bind,hgo1,Result.andThen_ok,asInt,asIntOf,goInt,Sem.run_pure,hfi,pQ hb1]
  have hmod:((es.push ⟨enc k,encV z,clk⟩).modify es.size fun e=>{e with val:=encV val}).toList=es.toList++[⟨enc k,encV val,clk⟩]:=by
    rw[B7,Dz];apply Dg
    intro i;rw[DM];by_cases hi:es.size=i
    . subst hi;simp[<-Array.length_toList]
    . rcases Nat.lt_or_ge i es.size with h'|h'
      . simp[hi,AI,h']
      . obtain⟨m,hm⟩:∃m,i - es.size=m+1:=⟨i - es.size - 1,by omega⟩;simp[hi,AQ,h',hm]
  refine⟨_,clk,_,_,h1,h2 (encV val),⟨_,_,hb1⟩,⟨⟨_,_,by rw[nM hb1,Ai rfl],?_,?_,?_⟩,rX hnd k val⟩, .inr ⟨hk,⟨_,_,hb1,?_,hbig,?_⟩,?_⟩⟩
  . unfold fD fa;rw[Ae hk,hmod,Ba,Ba,hr];rfl
  . rw[hmod,Ba,EB];refine⟨hs,by simp,fun a ha c hc'=>?_⟩;obtain⟨x,hx,rfl⟩:=A1.1 ha;simp at hc';subst hc';exact hc x hx
  . intro x hx;rw[hmod,BU]at hx;rcases hx with hx|hx
    . have:=hc x hx;omega
    . simp at hx;subst hx;exact D4 _
  . unfold fa;rw[Dz,Ba,Ba,hr];rfl
  . intro x hx;rw[Dz,BU]at hx;rcases hx with hx|hx
    . have:=hc x hx;omega
    . simp at hx;subst hx;exact D4 _
  . have:=rX hnd k z;unfold fD at this;rwa [Ae hk]at this
 |some q=>
  obtain⟨j,u⟩:=q;obtain⟨n,hj,hn,g1,g2,_⟩:=xk e;simp only[A4]at hj;subst hj;have hlen:es.size=L.length:=by simpa using AN List.length hr
  have hn':j<es.size:=by omega
  have hkey:es[j].key=enc k:=by
    have:=AN (fun l=>(l[j]?).map Prod.fst) hr;simp[hn',hn]at this;rw[this,g1]
  have hks:(Instr.keyThatStays (((es[j]?).map fun x:MapEntry=>x.key).getD (enc k)) (enc k)).run P w= .ok (enc k) w:=by
    simp[hn',hkey,Instr.keyThatStays,hK.bits]
  have hsame:(es.modify j fun e=>{e with key:=enc k})=es:=by
    apply By
    intro i;rw[DJ];by_cases hi:j=i
    . subst hi;rw[Ai rfl,AU hn'];simp only[AS,<-hkey]
    . rw[Ae hi]
  have h1:(Instr.mapEntry t (.map (some b)) (enc k)).run P w= .ok (.tuple #[u,goInt es[j].born]) (World.bp w b (.map es clk)):=by
    unfold Instr.mapEntry;simp only[Sem.run_bind,run_underlying ht,Result.andThen_ok,hgo,hK.fl,hf,e,hks,hsame,pQ hb,Sem.run_pure];simp[hn']
  have hb1:(World.bp w b (.map es clk)).heap[b]? =some (.map es clk):=by rw[nM hb,Ai rfl]
  have hgo1:(getObj b).run P (World.bp w b (.map es clk))= .ok (.map es clk) (World.bp w b (.map es clk)):=by simp[getObj,Sem.run,hb1]
  have hfi:es.findIdx? (fun e=>((e.born:Int)==(es[j].born:Int)))=some j:=by
    exact uV hs (j:=j) hn' rfl
  have h2:∀x:Value,(Instr.entryStore t (.map (some b)) (goInt es[j].born) x).run P (World.bp w b (.map es clk))= .ok () (World.bp (World.bp w b (.map es clk)) b (.map (es.modify j fun e=>{e with val:=x}) clk)):=fun x=>by
    unfold Instr.entryStore;simp only[Sem.run_bind,hgo1,Result.andThen_ok,asInt,asIntOf,goInt,Sem.run_pure,hfi,pQ hb1]
  have hput:fD L k val=L.set j (k,val):=by
    have:=Ir hnd hn val;rw[g1]at this;exact this
  have hborn:(es.modify j fun e=>{e with val:=encV val}).toList.map (·.born)=es.toList.map (·.born):=by
    apply Dg
    intro i;rw[Au,Au,B7,DM];by_cases h:j=i
    . simp[h,BO]
    . simp[h]
  refine⟨_,es[j].born,_,_,h1,h2 (encV val),⟨_,_,hb1⟩,⟨⟨_,_,by rw[nM hb1,Ai rfl],?_,by rw[hborn];exact hs,fun x hx=>?_⟩,rX hnd k val⟩, .inl ⟨⟨_,_,hb1,hr,hs,hc⟩,hnd⟩⟩
  . rw[hput];unfold fa at hr⊢;apply Dg
    intro i;have hri:=AN (fun l=>l[i]?) hr;simp only[Au]at hri⊢;rw[B7,DM,List.getElem?_set];by_cases h:j=i
    . subst h;simp[hn,hn',hkey]
    . simp only[h,Ax];simpa using hri
  . have hm:x.born∈(es.modify j fun e=>{e with val:=encV val}).toList.map (·.born):=A1.2 ⟨x,hx,rfl⟩;rw[hborn]at hm;obtain⟨y,hy,he⟩:=A1.1 hm;rw[<-he];exact hc y hy
end
end Go.Gm
namespace Go.Proofs
open Go Go.Am Go.RowKit Go.Sy Go.Gm Go.Maps Go.Sort Go.Shelf
theorem pL (l:List aj) {j:Nat} (hj:j<l.length*3):(fu l)[j]? =some ((fH l.toArray[j / 3]!)[j % 3]!):=by
 have hi:j / 3<l.length:=by omega
 obtain⟨e0,e1,e2⟩:=rA l (j / 3) hi;have hg:l.toArray[j / 3]! =l[j / 3]:=by rw[El _ _ (by simpa using hi)];simp
 rw[hg];rcases(by omega:j=j / 3*3\/j=j / 3*3+1\/j=j / 3*3+2)with e|e|e
 . have hm:j % 3=0:=by omega
   rw[hm];conv=>lhs;rw[e]
   exact e0
 . have hm:j % 3=1:=by omega
   rw[hm];conv=>lhs;rw[e]
   exact e1
 . have hm:j % 3=2:=by omega
   rw[hm];conv=>lhs;rw[e]
   exact e2
theorem ye {w:World} {g:Nat} {cur:Array Value} {l:List aj} (hg:w.heap[g]? =some (.cells cur 77 (0,0))) (h4:cur.toList.take (l.length*3)=fu l):HoldsK fH 3 w g 0 l.toArray:=by
 intro j hj;have hj':j<l.length*3:=by simpa using hj
 have h2:=AN (fun l=>l[j]?) h4;simp only[Bn,Ai hj',BH]at h2;rw[pL l hj']at h2;constructor
 . unfold World.cell?
   simp only[hg,Db,Ah,Ax,A4];rw[h2,get_flatK fH 3 l.toArray j (by simpa using hj')];rfl
 . unfold World.frozen?
   simp[hg]
theorem EX {w:World} {g:Nat} {l:List aj} {c:Nat} (hc:l.length<=c) (h:HoldsK fH 3 w g 0 l.toArray):cc w l (.slice (some ⟨g,0,none⟩) l.length c):=by
 by_cases h0:l=[]
 . subst h0;exact .inl ⟨rfl,_,_,rfl⟩
 have hlen:0<l.length:=BR.2 h0;have hcell:∀j,j<l.length*3->w.cell? ⟨g,j,none⟩=(fu l)[j]? :=fun j hj=>by
   have:=(h j (by simpa using hj)).1;rw[A4]at this;rw[this,pL l hj,get_flatK fH 3 l.toArray j (by simpa using hj)];rfl
 have h1:=hcell 0 (by omega);have hb:∃arr e fz,w.heap[g]? =some (.cells arr e fz):=by
   rw[pL l (by omega)]at h1;unfold World.cell? at h1
   cases e:w.heap[g]? with
   |none=>simp[e]at h1
   |some o=>
    cases o with
    |cells arr t fz=>exact⟨arr,t,fz,rfl⟩
    |_=>simp[e]at h1
 obtain⟨arr,e,fz,hb⟩:=hb;have harr:∀j,j<l.length*3->arr[j]? =(fu l)[j]? :=fun j hj=>by
   have:=hcell j hj;unfold World.cell? at this;simp only[hb,Db,Ah,Ax]at this;exact this
 refine .inr ⟨g,0,c,arr,e,fz,rfl,hb,hc,?_,fun i hi=>?_⟩
 . have:=harr (l.length*3 - 1) (by omega);rw[pL l (by omega)]at this;have:=(Ad.1 this).1;omega
 . obtain⟨e0,e1,e2⟩:=rA l i hi;rw[A4];exact⟨(harr _ (by omega)).trans e0,(harr _ (by omega)).trans e1,(harr _ (by omega)).trans e2⟩
theorem FE {l:List aj} (hn:l.Nodup) {d':Array aj} (hp:PermIn 0 l.toArray.size l.toArray d') (hs:SortedIn (ltOf je) 0 l.toArray.size d'):d'.toList=bA bl l/\d'.size=l.length:=by
 letI:Inhabited aE:=⟨⟨True,#[]⟩⟩
 obtain⟨h1,_,h3⟩:=hp;have hsz:d'.size=l.length:=by simpa using h1
 have hperm:d'.toList.Perm l:=by
   rw[show d'.extract 0 l.toArray.size=d' by rw[<-h1];simp]at h3;simpa using h3
 have hnd:d'.toList.Nodup:=hperm.nodup_iff.2 hn;refine⟨sN ?_ fun x=>hperm.mem_iff,hsz⟩;rw[B5];intro i j hi hj hij;simp only[Array.length_toList]at hi hj;have:=hs i j (Bl _) hij (by simp;omega);rw[El d' j hj,El d' i hi]at this;have hlt:bl d'[j] d'[i]=false:=this;have hne:d'[i]≠d'[j]:=by
   have:=B5.1 hnd i j (by simpa using hi) (by simpa using hj) hij;simpa using this
 simp only[Array.getElem_toList];rcases u6 d'[i] d'[j]with h|h|h
 . exact h
 . exact absurd h hne
 . rw[hlt]at h;cases h
theorem Cj (w:World) (g off n:Nat) (d:Array aj) (os:Array Obj) {B:Nat} (hg:B<=g) (hB:B<=w.heap.size):Below B w (sortWorldK fH 3 w g off n d os):=by
 refine⟨rfl,rfl,rfl,size_sortWorldK_c fH 3 w g off n d os,fun k hk=>?_⟩;unfold sortWorldK grow putRowK putRow mapBlock Sort.ahead;simp only;rw[Array.getElem?_append_left (by simp;omega)];rw[DJ];rw[Ae (by omega)]
theorem um {w:World} {base:Nat} {v:Value} {l:List aj} (hn:l.Nodup) (h:w.ownsRow base 77 3 v l.length (fu l)) (hl:l.length<=1000000) (hbase:base<=w.heap.size):
   Calls Tryz.prog 51 #[v, .func (.func 29) #[] #[]] w fun e w'=>e= .returned (.tuple #[])/\cc w' (bA bl l) v/\fZ base (bA bl l) v/\Below base w w':=by
 rcases h.2 with⟨rfl,h0⟩|⟨g,cap,cur,rfl,hbg,hg,h1,h2,h3,h4⟩
 . have hl0:l=[]:=Bk.1 h0;subst hl0;refine(Jc w).mono ?_;rintro e w' ⟨rfl,hb⟩;exact⟨rfl, .inl ⟨rfl,_,_,rfl⟩, .inl rfl,hb.mono hbase⟩
 . have hgl:=(Ad.1 hg).1;have hs:=Jd g 0 cap l.toArray w (ye hg h4) hgl (by simp;omega);rw[show l.toArray.size=l.length by simp]at hs;refine hs.mono ?_;rintro e w' ⟨rfl,d',n,os,hp,hso,rfl⟩;obtain⟨hd,hsz⟩:=FE hn (d':=d') (by simpa using hp) (by simpa using hso);have hH:=holdsK_sortWorldK_c fH 3 w g 0 l.toArray d' n os (ye hg h4) hgl (by simp[hsz]);have hlen:(bA bl l).length=l.length:=by rw[<-hd];simpa using hsz
   refine⟨rfl,?_, .inr ⟨g,0,_,_,rfl,hbg⟩,Cj w g 0 n d' os hbg hbase⟩;rw[<-hlen];refine EX (by omega) ?_;rw[<-hd];simpa using hH
end Go.Proofs
namespace Go.Proofs
open Go Go.Am Go.RowKit Go.Sy Go.Gm
section
section
variable {K V:Type} [DecidableEq K]
end
end
def xJ (e:aK) (v:Value):List Value:=[.int .i64 e.dot.dev, .int .i64 e.dot.inc, .int .i64 e.dot.seq, .int .i64 e.dG.wall, .int .i64 e.dG.count, .int .i64 e.dG.dev, .int .i64 e.kind,kE e.key.name,kE e.key.domain,kE e.key.path,
 kE e.ab.value, .bool e.ab.aY, .bool e.ab.bz, .bool e.ab.aZ, .bool e.ab.persistent, .int .i64 e.ab.bu, .int .i64 e.ab.aq, .int .i64 e.ab.access,v]
theorem cc.one {w:World} {l:List aj} {v:Value} (h:cc w l v):∃a n c,v= .slice a n c:=by
 rcases h with⟨_,a,c,rfl⟩|⟨_,_,_,_,_,_,rfl,_⟩<;>exact⟨_,_,_,rfl⟩
end Go.Proofs
namespace Go.Proofs
open Go Go.Am Go.RowKit Go.Sy Go.Gm Go.Maps Go.Sort Go.Shelf
theorem fZ.mono {n m:Nat} {l:List aj} {v:Value} (h:fZ n l v) (hm:m<=n):fZ m l v:=by
 rcases h with h|⟨b,off,k,c,h,hb⟩
 . exact .inl h
 . exact .inr ⟨b,off,k,c,h,AG hm hb⟩
theorem JJ (b:Nat) (w:World):Calls Tryz.prog 28 #[.map (some b)] w fun e w'=>e= .returned (.func (.func 52) #[] #[.pointer (some ⟨w.heap.size,0,none⟩)])/\w'=w.alloc (.cells #[.map (some b)] 57):=by
 go_enter Tryz.func28,Tryz.ntmps28
 go_wp2;go_ret;exact⟨rfl,rfl⟩
theorem uy {w:World} {Bm b:Nat} {L:DL} (hm:w.cell? ⟨Bm,0,none⟩=some (.map (some b))) (hown:bf w b cD eF L) (hl:L.length<=1000000):
  Calls Tryz.prog 27 #[.func (.func 52) #[] #[.pointer (some ⟨Bm,0,none⟩)], .func (.func 29) #[] #[]] w fun e w'=>∃v,e= .returned v/\cc w' (bA bl (L.map (·.1))) v/\fZ w.heap.size (bA bl (L.map (·.1))) v/\Below w.heap.size w w':=by
 letI:Inhabited aE:=⟨⟨True,#[]⟩⟩
 have hcol:=callsIn_wide.1 (ur 3 (Aj _) _ _ L.length hl w (ub 1 (Aj _) Bm b L w (mC hm) hm hown));go_enter Tryz.func27,Tryz.ntmps27
 go_wp2_with (first
  |(go_at_call 50;refine hcol.mono ?_;rintro e w1 ⟨v,ss,rfl,hS,hrow,hb1⟩;have hnd:ss.Nodup:=hS.nodup_iff.2 hown.nd;have hsl:ss.length<=1000000:=hS.length_eq.trans (BD _)▸hl;have hsort:=um hnd hrow hsl hb1.size)
  |(go_at_call 51;refine hsort.mono ?_;rintro e w2 ⟨rfl,hd,hn,hb2⟩))
 go_ret;have heq:bA bl ss=bA bl (L.map (·.1)):=sN (rG ss) fun x=>by rw[rV];exact hS.mem_iff
 rw[heq]at hd hn;exact⟨v,rfl,hd,hn,hb1.trans hb2⟩
theorem l3 {w:World} {bd:Nat} {L:DL} (hm:bf w bd cD eF L) (d:aj):(Instr.lookup 57 (.map (some bd)) (cD d) false).run Tryz.prog w= .ok (.int .i64 ((bc L d).getD 0)) w:=by
 rw[hm.lookup oR Tryz.underlying57 (yT w) d false]
 cases bc L d<;>rfl
theorem Fe {K V:Type} [DecidableEq K] [Inhabited V] {L:List (K×V)} {k:K} (hk:k∉L.map (·.1)) (z:V):bc (L++[(k,z)]) k=some z:=by
 have:=sH L k k z;unfold fD at this;rw[Ae hk,Ai rfl]at this;exact this
theorem Hw {K V:Type} [DecidableEq K] {L:List (K×V)} {k:K} {v:V} (x:K):x∈(fD L k v).map (·.1)↔x=k\/x∈L.map (·.1):=by
 have h:=sH L k x v;by_cases e:x=k
 . rw[Ai e]at h;refine⟨fun _=> .inl e,fun _=>?_⟩;by_cases hm:x∈(fD L k v).map (·.1)
   . exact hm
   . rw[ct.2 hm]at h;cases h
 . rw[Ae e]at h;constructor
   . intro hm;refine .inr ?_;by_cases hn:x∈L.map (·.1)
     . exact hn
     . rw[ct.2 hn]at h;exact absurd hm (ct.1 h)
   . rintro(hm|hm)
     . exact absurd hm e
     . by_cases hn:x∈(fD L k v).map (·.1)
       . exact hn
       . rw[ct.2 hn]at h;exact absurd hm (ct.1 h.symm)
theorem Hi {l:List aj} {k:Nat} (hlt:k<l.length) {M:DL} {v:Int} (h:∀d,d∈M.map (·.1)↔d∈l.take k):∀d,d∈(fD M l[k] v).map (·.1)↔d∈l.take (k+1):=fun d=>by
 rw[Hw,h,List.take_succ,Af hlt,BU];simp only[Option.toList_some,DV];exact or_comm
theorem HQ {M:DL} {d:aj} {v:Int} {k:Nat} (h:M.length<=k):(fD M d v).length<=k+1:=by
 unfold fD;split
 . rw[BD];omega
 . simp;omega
theorem Ih {M:DL} {k:Nat} (h:∀d,0<=(bc M d).getD 0/\(bc M d).getD 0<=(k:Int)) {e:aj}:∀d,0<=(bc (fD M e ((bc M e).getD 0+1)) d).getD 0/\(bc (fD M e ((bc M e).getD 0+1)) d).getD 0<=((k+1:Nat):Int):=fun d=>by
 rw[sH];have h1:=h e;have h2:=h d;split
 . simp only[AA];omega
 . omega
theorem uu {w:World} {l:List aj} {v:Value} (h:cc w l v) (hl:l.length<=1000000):
  Calls Tryz.prog 13 #[v] w fun e w'=>∃v',e= .returned v'/\cc w' (bA bl l) v'/\fZ w.heap.size (bA bl l) v'/\Below w.heap.size w w':=by
 letI:Inhabited aE:=⟨⟨True,#[]⟩⟩
 obtain⟨sa,sn,sc,rfl⟩:=h.one;have hsn:sn=l.length:=by
  rcases h with⟨h0,a,c,hh⟩|⟨_,_,_,_,_,_,hh,_⟩
  . cases hh;rw[h0];rfl
  . cases hh;rfl
 subst hsn;have hmm:= @run_makeMap Tryz.prog;go_enter Tryz.func13,Tryz.ntmps13
 go_wp2;go_loopw [9] (fun i wr=>∃(k:Nat) (M:DL),k<=l.length/\i= .int .i64 k/\bf wr w.heap.size cD eF M/\(∀d,d∈M.map (·.1)↔d∈l.take k)/\M.length<=k/\(∀d,0<=(bc M d).getD 0/\(bc M d).getD 0<=k)/\Below w.heap.size w wr)
  (fun i _=>l.length - (intOf i).toNat)
 case atStart=>exact⟨0,[],Bl _,rfl,nC (by rw[ll,Ai rfl]),by simp,Bl _,fun d=>by simp[mo],(Below.refl _ _).alloc (Aj _) _⟩
 case round=>
  obtain⟨k,M,hk,rfl,hM,hmem,hml,hcnt,hbr⟩:=hrel;by_cases hlt:k<l.length
  . rcases h with⟨h0,_⟩|⟨ob,off,cap,arr,ty,fz,hh,hob,hcap,hlen,hcells⟩
    . rw[h0]at hlt;exact absurd hlt (Dn _)
    . simp only[Value.slice.injEq]at hh;obtain⟨rfl, -,rfl⟩:=hh;obtain⟨x0,x1,x2⟩:=hcells k hlt;have hobr:=(hbr.block ob (Ad.1 hob).1).trans hob;have cell:∀{j:Nat} {u:Value},arr[j]? =some u->wr.cell? ⟨ob,j,none⟩=some u:=fun hx=>by
       unfold World.cell?;simp only[hobr,Db,Ah,Ax];exact hx
      have c0:=cell x0;have c1:=cell x1;have c2:=cell x2;obtain⟨W,hW⟩:∃W,wr.alloc (.cells #[.int .i64 l[k].dev, .int .i64 l[k].inc, .int .i64 l[k].seq] 77)=W:=⟨_,rfl⟩;have hbW:Below wr.heap.size wr W:=by rw[<-hW];exact(Below.refl _ _).alloc (Aj _) _
      have d0:W.cell? ⟨wr.heap.size,0,none⟩=some (.int .i64 l[k].dev):=by rw[<-hW];simp
      have d1:W.cell? ⟨wr.heap.size,1,none⟩=some (.int .i64 l[k].inc):=by rw[<-hW];simp
      have d2:W.cell? ⟨wr.heap.size,2,none⟩=some (.int .i64 l[k].seq):=by rw[<-hW];simp
      have hMW:bf W.drew w.heap.size cD eF M:=hM.same (hbW.drew.block _ (Go.Gm.bf.lt hM));have hlk:=l3 hMW l[k];have hz0:=(hcnt l[k]).1;have hz1:=(hcnt l[k]).2;have hwr:IntKind.i64.wrap ((bc M l[k]).getD 0+1)=(bc M l[k]).getD 0+1:=IntWalk.i64_in _ (by omega);have hwr':wrap64 ((bc M l[k]).getD 0+1)=(bc M l[k]).getD 0+1:=IntWalk.wrap64_in _ (by omega);obtain⟨ev,en,o1,o2,he1,he2,hmb,hM2,hM1⟩:=hMW.entry oR Tryz.underlying57 (z:=0) (fun w=>yT w) l[k] ((bc M l[k]).getD 0+1);have hlk1:(Instr.lookup 57 (.map (some w.heap.size)) (cD l[k]) false).run Tryz.prog (World.bp W.drew w.heap.size o1)= .ok (.int .i64 ((bc M l[k]).getD 0)) (World.bp W.drew w.heap.size o1):=by
       rcases hM1 with hM1|⟨hk1,hM1⟩
       . exact l3 hM1 l[k]
       . rw[l3 hM1 l[k],Fe hk1,ct.2 hk1];rfl
      have hs1:∀j,j≠w.heap.size->(World.bp W.drew w.heap.size o1).heap[j]? =W.heap[j]? :=fun j hj=>xz hMW.isMap hj
      have hs2:∀j,j≠w.heap.size->(World.bp (World.bp W.drew w.heap.size o1) w.heap.size o2).heap[j]? =W.heap[j]? :=fun j hj=>(xz hmb hj).trans (hs1 j hj)
      have hne:wr.heap.size≠w.heap.size:=Nat.ne_of_gt (Go.Gm.bf.lt hM);have hB2:Below w.heap.size w (World.bp (World.bp W.drew w.heap.size o1) w.heap.size o2):=⟨hbW.os.trans hbr.os,hbW.tape.trans hbr.tape,hbW.output.trans hbr.output,by have h1:=hbW.size;have h2:=hbr.size;simp[World.bp];omega,fun j hj=>((hs2 j (Nat.ne_of_lt hj)).trans (hbW.block j (Bd hj hbr.size))).trans (hbr.block j hj)⟩;obtain⟨W1,hW1⟩:∃W1,World.bp W.drew w.heap.size o1=W1:=⟨_,rfl⟩;rw[hW1]at he1 he2 hmb hM2 hlk1 hs1 hs2 hB2;obtain⟨W2,hW2⟩:∃W2,World.bp W1 w.heap.size o2=W2:=⟨_,rfl⟩;rw[hW2]at he2 hM2 hs2 hB2;have p0:W2.cell? ⟨wr.heap.size,0,none⟩=some (.int .i64 l[k].dev):=gy d0 (hs2 _ hne);have p1:W2.cell? ⟨wr.heap.size,1,none⟩=some (.int .i64 l[k].inc):=gy d1 (hs2 _ hne);have p2:W2.cell? ⟨wr.heap.size,2,none⟩=some (.int .i64 l[k].seq):=gy d2 (hs2 _ hne);have q0:W1.cell? ⟨wr.heap.size,0,none⟩=some (.int .i64 l[k].dev):=gy d0 (hs1 _ hne);have q1:W1.cell? ⟨wr.heap.size,1,none⟩=some (.int .i64 l[k].inc):=gy d1 (hs1 _ hne);have q2:W1.cell? ⟨wr.heap.size,2,none⟩=some (.int .i64 l[k].seq):=gy d2 (hs1 _ hne);clear hM1 hmb hMW hs1 hs2;rw[show cD l[k]= .agg #[.int .i64 l[k].dev, .int .i64 l[k].inc, .int .i64 l[k].seq]from rfl]at hlk hlk1 he1;rw[show eF ((bc M l[k]).getD 0+1)= .int .i64 ((bc M l[k]).getD 0+1)from rfl]at he2;unfold goInt at he1 he2;go_wp2;go_region_held3 (fun w'=>w'.cell? ⟨wr.heap.size,0,none⟩=some (.int .i64 l[k].dev)/\w'.cell? ⟨wr.heap.size,1,none⟩=some (.int .i64 l[k].inc)/\w'.cell? ⟨wr.heap.size,2,none⟩=some (.int .i64 l[k].seq)) (simp[*]) (fail)
      all_goals go_wp2
      all_goals (
       go_roundw
       case rel=>exact⟨k+1,_,hlt,by go_num,hM2,Hi hlt hmem,HQ hml,Ih hcnt,hB2⟩
       case measure=>simp[intOf];omega)
  . have hkl:k=l.length:=by omega
    subst hkl;rw[D5]at hmem;have hmk:=JJ w.heap.size wr;go_wp2_with (first
      |(go_at_call 28;refine hmk.mono ?_;rintro e w1 ⟨rfl,rfl⟩;have hsf:=uy (w:=wr.alloc (.cells #[.map (some w.heap.size)] 57)) (Bm:=wr.heap.size) (by simp) (hM.same (Below.heap_alloc _ _ _ (Go.Gm.bf.lt hM))) (AG hml hl))
      |(go_at_call 27;refine hsf.mono ?_;rintro e w2 ⟨v',rfl,hd,hn,hb2⟩))
    go_ret;have heq:bA bl (M.map (·.1))=bA bl l:=sN (rG _) fun x=>by rw[rV];exact hmem x
    rw[heq]at hd hn;have hs1:=hbr.size;exact⟨v',rfl,hd,fZ.mono hn (by simp;omega),hbr.trans (((Below.refl _ _).alloc hs1 _).trans (hb2.mono (by simp;omega)))⟩
end Go.Proofs
