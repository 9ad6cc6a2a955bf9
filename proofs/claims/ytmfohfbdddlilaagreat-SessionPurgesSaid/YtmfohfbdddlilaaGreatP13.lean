/- Part 13: an evaluator, proved sound, and its use at this seat; no condition. -/
import Derived.Shelf.SlSortCmp.WholeK
import Derived.Test.YtmfohfbdddlilaaGreatProg
import Derived.Test.YtmfohfbdddlilaaGreatP12
set_option linter.unusedSimpArgs false
set_option linter.unusedVariables false
set_option linter.unusedSectionVars false
set_option linter.deprecated false
set_option maxRecDepth 100000
set_option maxHeartbeats 4000000
namespace Go.Proofs
open Go Go.Am Go.RowKit Go.Sy Go.Gm Go.Maps Go.Sort
theorem Vf:∀args w,(callFunc 231 args).run Tryz.prog w= .ok (.enter 231 args) w:=enters_of Tryz.func231 (by kernel_rfl) rfl
theorem O8 (n:Nat) (hn:2<=n) (lb:Array Value) (S:List aj->Prop) (N:Nat) (hN:N<=1000000) (w:World) (hseq:SeqGives Fence.wide (n - 1) Tryz.prog 231 lb bQ S N w):
    CallsIn Fence.wide n Tryz.prog 253 #[.slice none 0 0, .func (.func 231) #[] lb] w fun e w'=>∃(v:Value) (ss:List aj),e= .returned v/\S ss/\w'.ownsRow w.heap.size 35 3 v ss.length (fO ss)/\Below w.heap.size w w':=by
  have h1:1<=n:=by omega
  refine callsIn_of_wp_marks Tryz.func253 rfl trivial ?_ rfl;simp only[Tryz.ntmps253,BC,AA,AK,Nat.reduceAdd,Nat.reduceSub,DI,DH,DR,DK,BR,By];gi_wp2
  refine wpIn_rangeFunc ?_;intro fn hfn;obtain⟨W0,hW0⟩:∃W0,w.alloc (.cells #[.slice none 0 0] 40)=W0:=⟨_,rfl⟩;have hs0:W0.heap.size=w.heap.size+1:=by rw[<-hW0];simp
  have hv0:W0.heap[w.heap.size]? =some (.cells #[.slice none 0 0] 40 (0,0)):=by rw[<-hW0];exact World.alloc_heap_new w _
  have hb0:Below w.heap.size w W0:=by rw[<-hW0];exact(Below.refl _ w).alloc (Ai _) _
  rw[hW0];obtain⟨W1,hW1⟩:∃W1,(W0.alloc (.deferred (some []))).alloc (.loop (mh fn (.func (.func 231) #[] lb) w.heap.size W0.heap.size .ready none))=W1:=⟨_,rfl⟩;have hold:∀k,k<W0.heap.size->W1.heap[k]? =W0.heap[k]? :=fun k hk=>by
    rw[<-hW1];exact(Below.heap_alloc _ _ k (by simp;omega)).trans (Below.heap_alloc _ _ k hk)
  have hb1:Below w.heap.size w W1:=by rw[<-hW1];exact(hb0.alloc hb0.size _).alloc (by have:=hb0.size;simp;omega) _
  have hs1:W1.heap.size=W0.heap.size+2:=by rw[<-hW1];simp
  have hM:tD w fn (.func (.func 231) #[] lb) w.heap.size (W0.heap.size+1) W0.heap.size [] W1:=
    ⟨⟨_,(hold w.heap.size (by omega)).trans hv0,⟨rfl, .inl ⟨rfl,rfl⟩⟩⟩,
     by rw[<-hW1];have:=World.alloc_heap_new (W0.alloc (.deferred (some []))) (.loop (mh fn (.func (.func 231) #[] lb) w.heap.size W0.heap.size .ready none));rwa [World.size_alloc]at this,
     by rw[<-hW1];exact(Below.heap_alloc _ _ _ (by simp)).trans (World.alloc_heap_new W0 _),hb1⟩
  refine⟨W0.heap.size+1,[{target:= .collected W0.heap.size,args:=#[]}],W1,{target:= .fn (.func 231) lb,args:=#[.func (.yield (W0.heap.size+1)) #[] #[]]},W1,231,
    #[.func (.yield (W0.heap.size+1)) #[] #[]]++lb,W1,?_,?_,?_,?_,fun _=>h1,?_⟩
  . rw[<-hW1];exact run_enterLoop_outer _ _ _ _ _
  . simp[resolve,go_sem]
  . intro f' hf';simp[Target.leads]at hf';subst hf';trivial
  . simp[invoke,go_sem,Vf]
  . refine(hseq (W0.heap.size+1) (tD w fn (.func (.func 231) #[] lb) w.heap.size (W0.heap.size+1) W0.heap.size) W1 hb1 (Th _ _ _ _ _ _ _ hb1.size)
      (fun pre x W hJ hl=>OO (n - 1 - 1) w fn _ w.heap.size (W0.heap.size+1) W0.heap.size (by omega) (by omega) (by omega) (Ai _) (by omega) N hN pre x W hJ hl) hM).mono ?_
    rintro e W2 ⟨⟨v0,rfl⟩,ss,hS,h2⟩;obtain⟨v,hv,hrow⟩:=h2.box;have hend:=run_endLoop (P:=Tryz.prog) h2.L (by simp[mh]);obtain⟨W3,hW3⟩:∃W3,W2.putObj (W0.heap.size+1) (.loop {mh fn (.func (.func 231) #[] lb) w.heap.size W0.heap.size .ready none with state:= .exhausted})=W3:=⟨_,rfl⟩;rw[hW3]at hend;have hne:∀cur:Array Value,Obj.cells #[v] 40 (0,0)≠ .cells cur 35 (0,0):=fun cur e=>by
      have:=(Obj.cells.inj e).2.1;exact absurd this (by decide)
    have hg3:W2.grownBy W3 (some (W0.heap.size+1)):=by rw[<-hW3];exact grownBy_putObj_a _ _ _
    have hv3:W3.heap[w.heap.size]? =some (.cells #[v] 40 (0,0)):=by rw[<-hW3];exact(World.putObj_heap_other (by omega)).trans hv
    have hK3:W3.heap[W0.heap.size]? =some (.deferred (some [])):=by rw[<-hW3];exact(World.putObj_heap_other (by omega)).trans h2.K
    have hrow3:=hrow.kept hg3 (ownsRow_ne_a hrow h2.L (fun cur e=>by cases e));have hb3:Below w.heap.size w W3:=h2.below.grown hg3 h2.below.size (fun k e=>by cases e;omega);obtain⟨hc3,hf3⟩:=cell_of_box_a hv3;clear hW3;refine⟨none,W3,hend,?_⟩;gi_wp2
    rw[<-hs0];refine⟨by simp, .inl ⟨_,_,rfl,run_takeDeferred hK3,?_⟩⟩;exact⟨_,results_tmp rfl _ _ _,v,ss,rfl,hS,hrow3.kept (grownBy_putObj_a _ _ _) (ownsRow_ne_a hrow3 hK3 (fun cur e=>by cases e)),hb3.grown (grownBy_putObj_a _ _ _) hb3.size (fun k e=>by cases e;omega)⟩
theorem OS (n:Nat) (hn:3<=n) (lb:Array Value) (S:List aj->Prop) (N:Nat) (hN:N<=1000000) (w:World) (hseq:SeqGives Fence.wide (n - 1 - 1) Tryz.prog 231 lb bQ S N w):
  CallsIn Fence.wide n Tryz.prog 229 #[.func (.func 231) #[] lb] w fun e w'=>∃(v:Value) (ss:List aj),e= .returned v/\S ss/\w'.ownsRow w.heap.size 35 3 v ss.length (fO ss)/\Below w.heap.size w w':=by
 have h1:1<=n:=by omega
 refine callsIn_of_wp Tryz.func229 rfl trivial ?_ rfl;simp only[Tryz.ntmps229,BC,AA,AK,Nat.reduceAdd,Nat.reduceSub,DI,DH,DR,DK,BR,By];have hf253:Fence.wide.fn 253:=trivial;have hs:=O8 (n - 1) (by omega) lb S N hN w hseq;gi_wp2_with (gi_at_call 253;refine hs.mono ?_;rintro e w' ⟨v,ss,rfl,hS,hrow,hb⟩)
 go_ret;exact⟨v,ss,rfl,hS,hrow,hb⟩
end Go.Proofs
namespace Go.Proofs
open Go.Shelf
def rr:Go.Shelf.Ren:=⟨fun|6=>230|15=>159|14=>254|28=>193|29=>194|20=>259|21=>260|22=>261|23=>262|24=>263|25=>264|26=>265|27=>266|46=>267|47=>233|48=>234|49=>268|50=>269|57=>270|n=>n,fun|22=>40|24=>35|25=>197|3=>3|39=>187|0=>0|53=>215|55=>217|4=>4|46=>209|45=>208|50=>153|5=>5|9=>9|66=>235|70=>239|76=>251|77=>252|n=>n,fun|n=>n⟩
theorem Qj:Go.Proofs.SlLaysF0.n6 Tryz.prog rr:={
 mixed:=by kernel_rfl
 f6:=⟨Tryz.f230.name,by decide,Tryz.func230.trans (Ap some (by kernel_rfl))⟩
 f14:=⟨Tryz.f254.name,by decide,Tryz.func254.trans (Ap some (by kernel_rfl))⟩
 f15:=Tryz.func159.trans (Ap some (by kernel_rfl))
 f20:=⟨Tryz.f259.name,by decide,Tryz.func259.trans (Ap some (by kernel_rfl))⟩
 f21:=⟨Tryz.f260.name,by decide,Tryz.func260.trans (Ap some (by kernel_rfl))⟩
 f22:=⟨Tryz.f261.name,by decide,Tryz.func261.trans (Ap some (by kernel_rfl))⟩
 f23:=⟨Tryz.f262.name,by decide,Tryz.func262.trans (Ap some (by kernel_rfl))⟩
 f24:=⟨Tryz.f263.name,by decide,Tryz.func263.trans (Ap some (by kernel_rfl))⟩
 f25:=⟨Tryz.f264.name,by decide,Tryz.func264.trans (Ap some (by kernel_rfl))⟩
 f26:=⟨Tryz.f265.name,by decide,Tryz.func265.trans (Ap some (by kernel_rfl))⟩
 f27:=⟨Tryz.f266.name,by decide,Tryz.func266.trans (Ap some (by kernel_rfl))⟩
 f28:=Tryz.func193.trans (Ap some (by kernel_rfl))
 f29:=Tryz.func194.trans (Ap some (by kernel_rfl))
 f46:=⟨Tryz.f267.name,by decide,Tryz.func267.trans (Ap some (by kernel_rfl))⟩
 f47:=Tryz.func233.trans (Ap some (by kernel_rfl))
 f48:=Tryz.func234.trans (Ap some (by kernel_rfl))
 f49:=⟨Tryz.f268.name,by decide,Tryz.func268.trans (Ap some (by kernel_rfl))⟩
 f50:=⟨Tryz.f269.name,by decide,Tryz.func269.trans (Ap some (by kernel_rfl))⟩
 f57:=⟨Tryz.f270.name,by decide,Tryz.func270.trans (Ap some (by kernel_rfl))⟩
 t0:=Tryz.underlying0
 a0:=Tryz.isAgg0
 z0:=Tryz.sizeOf0
 v0:=Tryz.zeroValue0
 t3:=Tryz.underlying3
 a3:=Tryz.isAgg3
 z3:=Tryz.sizeOf3
 v3:=Tryz.zeroValue3
 t4:=Tryz.underlying4
 a4:=Tryz.isAgg4
 z4:=Tryz.sizeOf4
 v4:=Tryz.zeroValue4
 t5:=Tryz.underlying5
 a5:=Tryz.isAgg5
 z5:=Tryz.sizeOf5
 v5:=Tryz.zeroValue5
 t9:=Tryz.underlying9
 a9:=Tryz.isAgg9
 z9:=Tryz.sizeOf9
 v9:=Tryz.zeroValue9
 t22:=Tryz.underlying40
 a22:=Tryz.isAgg40
 z22:=Tryz.sizeOf40
 v22:=Tryz.zeroValue40
 t25:=Tryz.underlying197
 a25:=Tryz.isAgg197
 z25:=Tryz.sizeOf197
 v25:=Tryz.zeroValue197
 t39:=Tryz.underlying187
 a39:=Tryz.isAgg187
 z39:=Tryz.sizeOf187
 v39:=Tryz.zeroValue187
 t45:=Tryz.underlying208
 a45:=Tryz.isAgg208
 z45:=Tryz.sizeOf208
 v45:=Tryz.zeroValue208
 t46:=Tryz.underlying209
 a46:=Tryz.isAgg209
 z46:=Tryz.sizeOf209
 v46:=Tryz.zeroValue209
 t50:=Tryz.underlying153
 a50:=Tryz.isAgg153
 z50:=Tryz.sizeOf153
 v50:=Tryz.zeroValue153
 t53:=Tryz.underlying215
 a53:=Tryz.isAgg215
 z53:=Tryz.sizeOf215
 v53:=Tryz.zeroValue215
 t55:=Tryz.underlying217
 a55:=Tryz.isAgg217
 z55:=Tryz.sizeOf217
 v55:=Tryz.zeroValue217
 t66:=Tryz.underlying235
 a66:=Tryz.isAgg235
 z66:=Tryz.sizeOf235
 v66:=Tryz.zeroValue235
 t70:=Tryz.underlying239
 a70:=Tryz.isAgg239
 z70:=Tryz.sizeOf239
 v70:=Tryz.zeroValue239
 t76:=Tryz.underlying251
 a76:=Tryz.isAgg251
 z76:=Tryz.sizeOf251
 v76:=Tryz.zeroValue251
 t77:=Tryz.underlying252
 a77:=Tryz.isAgg252
 z77:=Tryz.sizeOf252
 v77:=Tryz.zeroValue252}
def rp:Go.Shelf.Ren:=⟨fun|6=>122|15=>159|14=>158|28=>193|29=>194|20=>185|21=>186|22=>187|23=>188|24=>189|25=>190|26=>191|27=>192|46=>232|47=>233|48=>234|49=>235|50=>236|57=>255|n=>n,fun|22=>160|24=>24|25=>162|3=>3|39=>187|0=>0|53=>215|55=>217|4=>4|46=>209|45=>208|50=>153|5=>5|9=>9|66=>235|70=>239|76=>251|77=>252|n=>n,fun|n=>n⟩
theorem Qh:Go.Proofs.SlLaysF0.n6 Tryz.prog rp:={
 mixed:=by kernel_rfl
 f6:=⟨Tryz.f122.name,by decide,Tryz.func122.trans (Ap some (by kernel_rfl))⟩
 f14:=⟨Tryz.f158.name,by decide,Tryz.func158.trans (Ap some (by kernel_rfl))⟩
 f15:=Tryz.func159.trans (Ap some (by kernel_rfl))
 f20:=⟨Tryz.f185.name,by decide,Tryz.func185.trans (Ap some (by kernel_rfl))⟩
 f21:=⟨Tryz.f186.name,by decide,Tryz.func186.trans (Ap some (by kernel_rfl))⟩
 f22:=⟨Tryz.f187.name,by decide,Tryz.func187.trans (Ap some (by kernel_rfl))⟩
 f23:=⟨Tryz.f188.name,by decide,Tryz.func188.trans (Ap some (by kernel_rfl))⟩
 f24:=⟨Tryz.f189.name,by decide,Tryz.func189.trans (Ap some (by kernel_rfl))⟩
 f25:=⟨Tryz.f190.name,by decide,Tryz.func190.trans (Ap some (by kernel_rfl))⟩
 f26:=⟨Tryz.f191.name,by decide,Tryz.func191.trans (Ap some (by kernel_rfl))⟩
 f27:=⟨Tryz.f192.name,by decide,Tryz.func192.trans (Ap some (by kernel_rfl))⟩
 f28:=Tryz.func193.trans (Ap some (by kernel_rfl))
 f29:=Tryz.func194.trans (Ap some (by kernel_rfl))
 f46:=⟨Tryz.f232.name,by decide,Tryz.func232.trans (Ap some (by kernel_rfl))⟩
 f47:=Tryz.func233.trans (Ap some (by kernel_rfl))
 f48:=Tryz.func234.trans (Ap some (by kernel_rfl))
 f49:=⟨Tryz.f235.name,by decide,Tryz.func235.trans (Ap some (by kernel_rfl))⟩
 f50:=⟨Tryz.f236.name,by decide,Tryz.func236.trans (Ap some (by kernel_rfl))⟩
 f57:=⟨Tryz.f255.name,by decide,Tryz.func255.trans (Ap some (by kernel_rfl))⟩
 t0:=Tryz.underlying0
 a0:=Tryz.isAgg0
 z0:=Tryz.sizeOf0
 v0:=Tryz.zeroValue0
 t3:=Tryz.underlying3
 a3:=Tryz.isAgg3
 z3:=Tryz.sizeOf3
 v3:=Tryz.zeroValue3
 t4:=Tryz.underlying4
 a4:=Tryz.isAgg4
 z4:=Tryz.sizeOf4
 v4:=Tryz.zeroValue4
 t5:=Tryz.underlying5
 a5:=Tryz.isAgg5
 z5:=Tryz.sizeOf5
 v5:=Tryz.zeroValue5
 t9:=Tryz.underlying9
 a9:=Tryz.isAgg9
 z9:=Tryz.sizeOf9
 v9:=Tryz.zeroValue9
 t22:=Tryz.underlying160
 a22:=Tryz.isAgg160
 z22:=Tryz.sizeOf160
 v22:=Tryz.zeroValue160
 t25:=Tryz.underlying162
 a25:=Tryz.isAgg162
 z25:=Tryz.sizeOf162
 v25:=Tryz.zeroValue162
 t39:=Tryz.underlying187
 a39:=Tryz.isAgg187
 z39:=Tryz.sizeOf187
 v39:=Tryz.zeroValue187
 t45:=Tryz.underlying208
 a45:=Tryz.isAgg208
 z45:=Tryz.sizeOf208
 v45:=Tryz.zeroValue208
 t46:=Tryz.underlying209
 a46:=Tryz.isAgg209
 z46:=Tryz.sizeOf209
 v46:=Tryz.zeroValue209
 t50:=Tryz.underlying153
 a50:=Tryz.isAgg153
 z50:=Tryz.sizeOf153
 v50:=Tryz.zeroValue153
 t53:=Tryz.underlying215
 a53:=Tryz.isAgg215
 z53:=Tryz.sizeOf215
 v53:=Tryz.zeroValue215
 t55:=Tryz.underlying217
 a55:=Tryz.isAgg217
 z55:=Tryz.sizeOf217
 v55:=Tryz.zeroValue217
 t66:=Tryz.underlying235
 a66:=Tryz.isAgg235
 z66:=Tryz.sizeOf235
 v66:=Tryz.zeroValue235
 t70:=Tryz.underlying239
 a70:=Tryz.isAgg239
 z70:=Tryz.sizeOf239
 v70:=Tryz.zeroValue239
 t76:=Tryz.underlying251
 a76:=Tryz.isAgg251
 z76:=Tryz.sizeOf251
 v76:=Tryz.zeroValue251
 t77:=Tryz.underlying252
 a77:=Tryz.isAgg252
 z77:=Tryz.sizeOf252
 v77:=Tryz.zeroValue252}
end Go.Proofs
namespace Go.Proofs
open Go Go.Am Go.RowKit Go.Sy Go.Gm Go.Maps Go.Sort Go.Shelf
section
theorem Mu {w w':World} (h:Below w.heap.size w w') (hd:w.drawn<=w'.drawn):∃q os,w'=grow (w.drewN q) os:=by
 refine⟨w'.drawn - w.drawn,w'.heap.extract w.heap.size w'.heap.size,?_⟩;unfold grow World.drewN
 cases w' with
 | mk heap tape drawn os output=>
  obtain⟨h1,h2,h3,h4,h5⟩:=h;simp only at h1 h2 h3 h4 h5 hd⊢;subst h1;subst h2;subst h3;congr 1
  . apply Db
    intro i;rw[EB];split
    . rename_i hi;exact h5 i hi
    . rename_i hi;rw[Fv];by_cases h6:i<heap.size
      . simp only[Nat.min_self];rw[if_pos (by omega),show w.heap.size+(i - w.heap.size)=i by omega]
      . rw[if_neg (by omega),DA (by omega)]
  . omega
def jX (x:aj):List Value:=[.int .i64 x.dev, .int .i64 x.inc, .int .i64 x.seq]
def jM (x:aA):List Value:=[.string ⟨x.name.toArray⟩, .string ⟨x.domain.toArray⟩, .string ⟨x.path.toArray⟩]
def nY (x y:aA):Int:=if fy x y then -1 else 1
section
variable [Inhabited aL]
theorem X3:CO GO yG:=bZ (C:=yG) (cfg:=fun y=>cz pQ (cW y)) bC (fun _=>rfl) (fun _=>qp) (n:=400) (by
 rintro⟨x,y⟩ -
 (conv=>whnf)
 refine⟨(x,y),?_⟩
 repeat' (first|exact trivial|exact rfl|((conv=>whnf);first|(apply aK<;>intro)|apply And.intro)))
def Mh:aN:={Y:=aA×aA,pre:=fun _=>True,args:=fun y=>[.agg y.1.enc, .agg y.2.enc],res:=fun y=>i64 (nY y.1 y.2)}
theorem ZB:CO rh Mh:=bZ (C:=Mh) (cfg:=fun y=>cz pQ (cW y)) bC (fun _=>rfl) (fun _=>qp) (n:=400) (by
 rintro⟨x,y⟩ -
 (conv=>whnf)
 refine⟨(x,y),?_⟩
 repeat ((conv=>whnf);first|refine⟨rfl,?_⟩|refine⟨trivial,?_⟩)
 repeat' (first|exact trivial|exact rfl|((conv=>whnf);first|(apply aK<;>intro)|apply And.intro))
 all_goals (simp_all[nY]))
end
theorem Yi:SWO (ltOf og) where
 irrefl x:=by
  have:= @tU ⟨⟨True,#[]⟩⟩ x;exact this
 trans x y z h1 h2:= @tX ⟨⟨True,#[]⟩⟩ x y z h1 h2
 ntrans x y z h1 h2:=by
  letI:Inhabited aL:=⟨⟨True,#[]⟩⟩
  have h1:¬bS x y=true:=by rw[EX];exact h1
  have h2:¬bS y z=true:=by rw[EX];exact h2
  show bS x z=false
  rw[<-EX];rw[ud]at*;omega
theorem xA (x y:aA):ltOf nY x y=fy x y:=by
 unfold ltOf nY
 cases fy x y<;>simp
theorem Yj:SWO (ltOf nY) where
 irrefl x:=by
  letI:Inhabited aL:=⟨⟨True,#[]⟩⟩
  rw[xA];exact mK x
 trans x y z h1 h2:=by
  letI:Inhabited aL:=⟨⟨True,#[]⟩⟩
  rw[xA]at*;exact pz x y z h1 h2
 ntrans x y z h1 h2:=by
  letI:Inhabited aL:=⟨⟨True,#[]⟩⟩
  rw[xA]at*;rcases ue x y with h|h|h
  . rw[h]at h1;cases h1
  . subst h;exact h2
  . rcases ue y z with k|k|k
    . rw[k]at h2;cases h2
    . subst k;exact h1
    . cases hz:fy x z with
      |false=>rfl
      |true=>
       have h3:=pz z y x k h;have h4:=pz x z x hz h3;rw[mK]at h4;cases h4
theorem Lf {Fz:Nat->Option AO} {n:Nat} (x:aj) [Inhabited aL]:aT Fz (.agg x.enc) (dB n (.agg (jX x).toArray)):=FW [x.dev,x.inc,x.seq]
theorem CJ {Fz:Nat->Option AO} {n:Nat} (k:aA) [Inhabited aL]:aT Fz (.agg k.enc) (dB n (.agg (jM k).toArray)):=by
 unfold dB;refine .agg rfl fun i c v hc hv=>?_
 have hj:i<3:=(Ab.1 hc).1;unfold aA.enc at hc;match i,hj with
 |0,_|1,_|2,_=>cases hc;cases hv;exact .str _
theorem Qu (bh off size:Nat) (w:World):CmpLays Tryz.prog 184 #[] jX 3 og bh off size w:=by
 intro m os dk _ x y;letI:Inhabited aL:=⟨⟨True,#[]⟩⟩
 have h:=lV bC.ok X3 (fn:=Tryz.f184) (hfn:=by kernel_rfl) (hb:=rfl) (y:=(x,y)) trivial (args:=[.agg (jX x).toArray, .agg (jX y).toArray]) (w:=sortWorldK jX 3 w bh off m dk os) (PL.cons (Lf x) (PL.cons (Lf y) PL.nil)) (dd.px rfl _);refine Calls.mono h ?_;rintro e w' ⟨v,rfl,hv,hbel,hd⟩;have hv:v= .int .i64 (og x y):=ik hv;exact⟨by rw[hv],Mu hbel (hd trivial)⟩
theorem Qs (bh off size:Nat) (w:World):CmpLays Tryz.prog 123 #[] jM 3 nY bh off size w:=by
 intro m os dk _ x y;letI:Inhabited aL:=⟨⟨True,#[]⟩⟩
 have h:=lV bC.ok ZB (fn:=Tryz.f123) (hfn:=by kernel_rfl) (hb:=rfl) (y:=(x,y)) trivial (args:=[.agg (jM x).toArray, .agg (jM y).toArray]) (w:=sortWorldK jM 3 w bh off m dk os) (PL.cons (CJ x) (PL.cons (CJ y) PL.nil)) (dd.px rfl _);refine Calls.mono h ?_;rintro e w' ⟨v,rfl,hv,hbel,hd⟩;have hv:v= .int .i64 (nY x y):=ik hv;exact⟨by rw[hv],Mu hbel (hd trivial)⟩
theorem PO:∀w,(isAgg (rr.t 24)).run Tryz.prog w= .ok true w:=fun w=>by kernel_rfl
theorem PY:∀w,(Go.sizeOf (rr.t 24)).run Tryz.prog w= .ok 3 w:=fun w=>by kernel_rfl
theorem QJ:∀w,(isAgg (rp.t 24)).run Tryz.prog w= .ok true w:=fun w=>by kernel_rfl
theorem P2:∀w,(Go.sizeOf (rp.t 24)).run Tryz.prog w= .ok 3 w:=fun w=>by kernel_rfl
theorem za (x:aj):∀v∈jX x,v.oneCell'=true:=by
 intro v hv;simp only[jX,Aj,BT,DB]at hv;rcases hv with rfl|rfl|rfl<;>rfl
theorem zf (x:aA):∀v∈jM x,v.oneCell'=true:=by
 intro v hv;simp only[jM,Aj,BT,DB]at hv;rcases hv with rfl|rfl|rfl<;>rfl
theorem P9 (bh off cap:Nat) (d:Array aj) (w:World) (hH:HoldsK jX 3 w bh off d) (hblk:bh<w.heap.size) (hsz:d.size<4611686018427387904):
  Calls Tryz.prog 230 #[.slice (some ⟨bh,off,none⟩) d.size cap, .func (.func 184) #[] #[]] w fun e w'=>e= .returned (.tuple #[])/\ ∃d' n os,PermIn 0 d.size d d'/\SortedIn (ltOf og) 0 d.size d'/\w'=sortWorldK jX 3 w bh off n d' os:=
 AnyQ.slices_SortFunc Qj 3 PO PY jX (fun _=>rfl) za og Yi 184 #[] bh off cap d w (enters_of Tryz.func184 (by kernel_rfl) rfl) (Qu bh off d.size w) hH hblk hsz
theorem Qa (bh off cap:Nat) (d:Array aA) (w:World) (hH:HoldsK jM 3 w bh off d) (hblk:bh<w.heap.size) (hsz:d.size<4611686018427387904):
  Calls Tryz.prog 122 #[.slice (some ⟨bh,off,none⟩) d.size cap, .func (.func 123) #[] #[]] w fun e w'=>e= .returned (.tuple #[])/\ ∃d' n os,PermIn 0 d.size d d'/\SortedIn (ltOf nY) 0 d.size d'/\w'=sortWorldK jM 3 w bh off n d' os:=
 AnyQ.slices_SortFunc Qh 3 QJ P2 jM (fun _=>rfl) zf nY Yj 123 #[] bh off cap d w (enters_of Tryz.func123 (by kernel_rfl) rfl) (Qs bh off d.size w) hH hblk hsz
end
section
section
variable [Inhabited aL]
def x7 (g:FuncId):aN:={Y:=Unit,pre:=fun _=>True,args:=fun _=>[.nils, .fn g [] []],res:=fun _=> .bG []}
theorem X2:CO O0 (x7 GO):=bZ (C:=x7 GO) (cfg:=fun y=>cz pQ (cW y)) bC (fun _=>rfl) (fun _=>qp) (n:=3000) (by
 rintro⟨⟩ -
 (conv=>whnf)
 trivial)
theorem Wd:CO O1 (x7 rh):=bZ (C:=x7 rh) (cfg:=fun y=>cz pQ (cW y)) bC (fun _=>rfl) (fun _=>qp) (n:=3000) (by
 rintro⟨⟩ -
 (conv=>whnf)
 trivial)
end
theorem JQ [Inhabited aL] {P:Program} {tab:bB} (ok:bU P tab) {f:FuncId} {C:aN} (hc:Go.Sy.cE P tab f C) {fn:Func} {body:Code} (hfn:tab.fns.get f=some fn) (hb:fn.body=some body) {y:C.Y} (hy:C.pre y) {args:List Value} {avs:List AV} (hconc:∀E,bA E avs=args) {w:World}
  (hs:PL (bT tab w).get (C.args y) avs) (hw:dd w):Calls P f args.toArray w (fun e w'=>∃v,e= .returned v/\Rd w' (fun _=>True) true (C.res y) v/\Below w.heap.size w w'/\((default:aL).dr->w.drawn<=w'.drawn)):=by
 intro cs;have hP:=ok.fns f fn hfn;have hdom:∀i o,(bT tab w).get i=some o->i<(bT tab w).next:=fun i o hi=>(oR tab w (E:=⟨fun i=>i,fun _=>0⟩) (fun _ _=>rfl)).eN i o hi
 let E:Env:=⟨fun i=>i,fun _=>0⟩
 let D:Nat->Prop:=fun i=>i<w.heap.size
 have hag:∀E',ax D E E'->∀i,i<w.heap.size->E'.bh i=i:=fun E' he i hi=>(he i hi).1
 have hR:Rel D E (KS.old w.heap.size) {fr:=ai.enter fn f body avs .normal,cs:=[],h:=bT tab w} cs (Frame.enter P f args.toArray .normal) cs w:=by
  refine⟨fun E' he=>⟨oR tab w (hag E' he),?_,rfl⟩,fun i h=>h,qq _ _ _ _ _,fun f hf=>by cases hf⟩;rw[<-mL hP hb,hconc]
 obtain⟨v,h',⟨Fz',_,f2,hsim,_⟩,fr',w',v',E',D',s1,s2,s3,s4,s5,s6,s7,s8,s9,s10⟩:=hc fn body hfn hb y hy (bT tab w).get (bT tab w) _ (fun _ _ h=>h) hdom hs.1 hs.2 D E _ cs _ cs w hR hw.kY;obtain⟨g1,g2⟩:=s4 E' (ax.refl _ _);subst g2;exact⟨.returned (af E' v),w',fr',⟨_,rfl,ur g1 f2 hsim,⟨s8.os,s8.tape,s8.output,s8.size,s8.block⟩,s8.drawn⟩,s1,s2,s3⟩
theorem MS [Inhabited aL] {w:World} {p:Nat->Prop} {g:Bool} {v:Value} (h:Rd w p g (.bG []) v):v= .tuple #[]:=by
 cases h with
 | @bG cs vs h1 h2=>
  obtain⟨l⟩:=vs;match l,h1 with
  |[],_=>rfl
theorem P8 (w:World):Calls Tryz.prog 230 #[.slice none 0 0, .func (.func 184) #[] #[]] w fun e w'=>e= .returned (.tuple #[])/\Below w.heap.size w w':=by
 letI:Inhabited aL:=⟨⟨True,#[]⟩⟩
 refine Calls.mono (JQ bC.ok X2 (fn:=Tryz.f230) (hfn:=rfl) (hb:=rfl) (y:=()) trivial (args:=[.slice none 0 0, .func (.func 184) #[] #[]]) (avs:=[.nils, .fn (.func 184) [] []]) (fun E=>by simp[af]) (w:=w) (PL.cons .nils (PL.cons (.fn (xs:=[]) (ys:=[]) (us:=[]) (vs:=[]) rfl rfl (fun i x u h=>(by simp at h)) (fun i x u h=>(by simp at h))) PL.nil)) (dd.px rfl _)) ?_;rintro e w' ⟨v,rfl,hv,hb,_⟩;exact⟨by rw[MS hv],hb⟩
theorem PR (w:World):Calls Tryz.prog 122 #[.slice none 0 0, .func (.func 123) #[] #[]] w fun e w'=>e= .returned (.tuple #[])/\Below w.heap.size w w':=by
 letI:Inhabited aL:=⟨⟨True,#[]⟩⟩
 refine Calls.mono (JQ bC.ok Wd (fn:=Tryz.f122) (hfn:=rfl) (hb:=rfl) (y:=()) trivial (args:=[.slice none 0 0, .func (.func 123) #[] #[]]) (avs:=[.nils, .fn (.func 123) [] []]) (fun E=>by simp[af]) (w:=w) (PL.cons .nils (PL.cons (.fn (xs:=[]) (ys:=[]) (us:=[]) (vs:=[]) rfl rfl (fun i x u h=>(by simp at h)) (fun i x u h=>(by simp at h))) PL.nil)) (dd.px rfl _)) ?_;rintro e w' ⟨v,rfl,hv,hb,_⟩;exact⟨by rw[MS hv],hb⟩
end
end Go.Proofs
