/- Part 11: an evaluator, proved sound, and its use at this seat; no condition. -/
import Derived.WalkKit
import Derived.Deep.RegionWith
import Derived.Test.YtmfohfbdddlilaaGreatP3
import Derived.Test.YtmfohfbdddlilaaGreatP5
import Derived.Test.YtmfohfbdddlilaaGreatP8
set_option linter.unusedSimpArgs false
set_option linter.unusedVariables false
set_option linter.unusedSectionVars false
set_option linter.deprecated false
set_option maxRecDepth 100000
set_option maxHeartbeats 4000000
namespace Go.Proofs
open Go Go.Am Go.RowKit Go.Sy Go.Gm
theorem vt (w:World):(zeroValue 3).run Tryz.prog w= .ok (cJ 0) w:=by kernel_rfl
theorem lY {w:World} {bs bv:Nat} {L:List ((Int×Int)×Int)} (hs:w.cell? ⟨bs,0,none⟩=some (.map (some bv))) (hm:aB w bv eS cJ L) (a i:Int):
  Calls Tryz.prog 67 #[.pointer (some ⟨bs,0,none⟩), .agg #[.int .i64 a, .int .i64 i]] w fun e w'=>e= .returned (.int .i64 ((aE L (a,i)).getD 0))/\Below w.heap.size w w':=by
 have hlk:∀w':World,w'.heap[bv]? =w.heap[bv]? ->(Instr.lookup 147 (.map (some bv)) (.agg #[.int .i64 a, .int .i64 i]) false).run Tryz.prog w'= .ok (.int .i64 ((aE L (a,i)).getD 0)) w':=fun w' h=>by
  have:=(hm.same h).lookup GM Tryz.underlying147 (vt w') (a,i) false;simp only[Ak,AB]at this;rw[show eS (a,i)= .agg #[.int .i64 a, .int .i64 i]from rfl]at this;rw[this]
  cases aE L (a,i)<;>rfl
 have hbv:bv<w.heap.size:=by
  obtain⟨es,clk,h,_⟩:=hm.at_;exact(Ae.1 h).1
 have hbs:bs<w.heap.size:=by
  unfold World.cell? at hs
  cases h:w.heap[bs]? with
  |none=>simp[h]at hs
  |some o=>exact(Ae.1 h).1
 go_enter Tryz.func67,Tryz.ntmps67
 go_wp2;have hl2:=hlk (w.alloc (.cells #[.int .i64 a, .int .i64 i] 33)).drew (Below.heap_alloc w _ bv hbv);have hs2:(w.alloc (.cells #[.int .i64 a, .int .i64 i] 33)).cell? ⟨bs,0,none⟩=some (.map (some bv)):=by
  rw[<-hs];exact((Below.refl w.heap.size w).alloc (Ai _) _).cell hbs
 clear hlk;go_region
 go_wp2;go_ret;exact⟨rfl,((Below.refl w.heap.size w).alloc (Ai _) _).drew⟩
theorem FW {Fz:Nat->Option AO} {n:Nat} (l:List Int):aT Fz (.agg (l.map i64)) (dB n (.agg (l.map fun z=>Value.int .i64 z).toArray)):=by
 unfold dB;refine .agg (by simp) fun i c v hc hv=>?_
 simp only[Az]at hc hv
 cases h:l[i]? with
 |none=>rw[h]at hc;cases hc
 |some z=>
  rw[h]at hc;simp[h]at hv
  cases hc;rw[<-hv];exact .int _ _
theorem vb {C:Inhabited aL->aN} {f:FuncId} {fn:Func} {body:Code} (hc:∀I:Inhabited aL, @Go.Sy.cE I Tryz.prog Tryz.tab f (C I)) (hfn:Tryz.tab.fns.get f=some fn) (hb:fn.body=some body) {args:List Value} {w:World} {b:Bool}
  (hy:∀I:Inhabited aL,∃y,(C I).pre y/\PL (bT Tryz.tab w).get ((C I).args y) (args.map (dB w.heap.size))/\(C I).res y= .bool b):Calls Tryz.prog f args.toArray w fun e w'=>e= .returned (.bool b)/\Below w.heap.size w w':=by
 letI:Inhabited aL:=⟨⟨True,#[]⟩⟩
 obtain⟨y,h1,h2,h3⟩:=hy inferInstance;refine Calls.mono (lV bC.ok (hc inferInstance) hfn hb h1 h2 (dd.px rfl _)) ?_;rintro e w' ⟨v,rfl,hv,hbel,_⟩;rw[h3]at hv
 cases hv;exact⟨rfl,hbel⟩
section
variable [Inhabited aL]
def YN (p:World->Prop):Prop:=∀w,dd w->p w
theorem GI {w:World} {p:Nat->Prop} {g:Bool} {a:Addr} {v:Value} (h:Rd w p g (.wp a) v):v= .pointer (some a):=by cases h;rfl
theorem Y4 {w:World} {p:Nat->Prop} {g:Bool} {n:Int} {v:Value} (h:Rd w p g (i64 n) v):v= .int .i64 n:=by cases h;rfl
end
def FK [Inhabited aL]:aN:={Y:=aj,pre:=fun _=>True,args:=fun d=>[.agg [i64 d.dev,i64 d.inc],i64 d.seq],res:=fun d=> .bool (fk d)}
theorem VJ [Inhabited aL]:CO O7 FK:=bZ (C:=FK) (cfg:=fun y=>cz yy (cW y)) bC (fun _=>rfl) (fun _=>CN) (n:=400) (by
 intro (d:aj) _
 (conv=>whnf)
 refine⟨d,?_⟩
 repeat ((conv=>whnf);first|refine⟨rfl,?_⟩|refine⟨trivial,?_⟩)
 repeat' (first|exact trivial|exact rfl|((conv=>whnf);first|(apply aK<;>intro)|apply And.intro)))
theorem PT (a i n:Int) (w:World):Calls Tryz.prog 147 #[.agg #[.int .i64 a, .int .i64 i], .int .i64 n] w fun e w'=>e= .returned (.bool (fk ⟨a,i,n⟩))/\Below w.heap.size w w':=
 vb (C:=fun I=> @FK I) (fun I=> @VJ I) (hfn:=rfl) (hb:=rfl) (args:=[.agg #[.int .i64 a, .int .i64 i], .int .i64 n]) (fun I=>⟨⟨a,i,n⟩,trivial,⟨rfl,fun j c v hc hv=>by
  match j with
  |0=>cases hc;cases hv;exact FW [a,i]
  |1=>cases hc;cases hv;exact .int _ _
  |_+2=>cases hc⟩,rfl⟩)
theorem P4 {w:World} {bv:Nat} {L:List ((Int×Int)×Int)} (hm:aB w bv eS cJ L) (a i:Int):∀w':World,w'.heap[bv]? =w.heap[bv]? ->(Instr.lookup 147 (.map (some bv)) (.agg #[.int .i64 a, .int .i64 i]) false).run Tryz.prog w'= .ok (.int .i64 ((aE L (a,i)).getD 0)) w':=fun w' h=>by
 have:=(hm.same h).lookup GM Tryz.underlying147 (vt w') (a,i) false;simp only[Ak,AB]at this;rw[show eS (a,i)= .agg #[.int .i64 a, .int .i64 i]from rfl]at this;rw[this]
 cases aE L (a,i)<;>rfl
structure eY (S:Nat->Prop) (w w':World):Prop where
 os:w'.os=w.os
 tape:w'.tape=w.tape
 output:w'.output=w.output
 size:w.heap.size<=w'.heap.size
 block:∀k,k<w.heap.size->¬S k->w'.heap[k]? =w.heap[k]?
theorem lW {S:Nat->Prop} {w w':World} (h:Below w.heap.size w w'):eY S w w':=⟨h.os,h.tape,h.output,h.size,fun k hk _=>h.block k hk⟩
theorem eY.trans {S:Nat->Prop} {a b c:World} (h:eY S a b) (k:eY S b c):eY S a c:=
 ⟨k.os.trans h.os,k.tape.trans h.tape,k.output.trans h.output,Aq h.size k.size,fun i hi hS=>(k.block i (AY hi h.size) hS).trans (h.block i hi hS)⟩
theorem eY.mono {S T:Nat->Prop} {w w':World} (h:eY S w w') (hST:∀k,k<w.heap.size->S k->T k):eY T w w':=⟨h.os,h.tape,h.output,h.size,fun k hk hT=>h.block k hk fun hS=>hT (hST k hk hS)⟩
theorem eY.bc {S:Nat->Prop} (w:World) {b:Nat} (o:Obj) (hb:S b):eY S w.drew (World.bc w.drew b o):=⟨rfl,rfl,rfl,by simp[World.bc],fun k _ hS=>by
 show(w.drew.heap.setIfInBounds b o)[k]? =_
 have hne:¬b=k:=by rintro rfl;exact hS hb
 rw[BL,if_neg hne]⟩
theorem eY.drew {S:Nat->Prop} {a w:World} (h:eY S a w):eY S a w.drew:=⟨h.os,h.tape,h.output,h.size,h.block⟩
theorem QF (b:Nat) (w:World):(binOp BinOp.eql 147 (.map (some b)) (.map none)).run Tryz.prog w= .ok (.bool false) w:=by kernel_rfl
theorem PS {w:World} {bs bv:Nat} {L:List ((Int×Int)×Int)} (hs:w.cell? ⟨bs,0,none⟩=some (.map (some bv))) (hm:aB w bv eS cJ L) (a i n:Int) (hne:bs≠bv) (hd:fk ⟨a,i,n⟩=true) (hlt:(aE L (a,i)).getD 0<n):
  Calls Tryz.prog 111 #[.pointer (some ⟨bs,0,none⟩), .agg #[.int .i64 a, .int .i64 i], .int .i64 n] w fun e w'=>e= .returned (.bool true)/\eY (· =bv) w w'/\aB w' bv eS cJ (cw L (a,i) n):=by
 have hlk:=P4 hm a i;have hc:=fun w=>PT a i n w
 rw[hd]at hc;have hbv:bv<w.heap.size:=by
  obtain⟨es,clk,h,_⟩:=hm.at_;exact(Ae.1 h).1
 have hbs:bs<w.heap.size:=by
  unfold World.cell? at hs
  cases h:w.heap[bs]? with
  |none=>simp[h]at hs
  |some o=>exact(Ae.1 h).1
 have hle:decide (n<=(aE L (a,i)).getD 0)=false:=Br (by omega);have hmn:=fun w=>QF bv w
 go_enter Tryz.func111,Tryz.ntmps111
 go_wp2_with fail
 have hq:Below w.heap.size w (w.alloc (.cells #[.int .i64 a, .int .i64 i] 33)).drew:=((Below.refl w.heap.size w).alloc (Ai _) _).drew;have hsz:(w.alloc (.cells #[.int .i64 a, .int .i64 i] 33)).drew.heap.size=w.heap.size+1:=by simp
 have hn0:(w.alloc (.cells #[.int .i64 a, .int .i64 i] 33)).drew.cell? ⟨w.heap.size,0,none⟩=some (.int .i64 a):=by simp
 have hn1:(w.alloc (.cells #[.int .i64 a, .int .i64 i] 33)).drew.cell? ⟨w.heap.size,1,none⟩=some (.int .i64 i):=by simp
 go_region_with (go_at_call 147;refine(hc _).mono ?_;rintro e w1 ⟨rfl,hb⟩;have hs1:w1.cell? ⟨bs,0,none⟩=some (.map (some bv)):=(hb.cell (by rw[hsz];show bs<_;omega)).trans ((hq.cell hbs).trans hs);have hl1:=hlk w1 ((hb.block bv (by rw[hsz];omega)).trans (hq.block bv hbv));have hb0:=(hb.cell (p:=⟨w.heap.size,0,none⟩) (by rw[hsz];show w.heap.size<_;omega)).trans hn0;have hb1:=(hb.cell (p:=⟨w.heap.size,1,none⟩) (by rw[hsz];show w.heap.size<_;omega)).trans hn1)
 all_goals (have hmw:aB w1.drew bv eS cJ L:=hm.same ((hb.block bv (by rw[hsz];omega)).trans (hq.block bv hbv)))
 all_goals (obtain⟨es,clk,hu,hmu⟩:=hmw.update GM Tryz.underlying147 (a,i) n)
 all_goals (rw[show eS (a,i)= .agg #[.int .i64 a, .int .i64 i]from rfl,show cJ n= .int .i64 n from rfl]at hu)
 all_goals (go_wp2_with fail)
 all_goals (go_region_with fail)
 all_goals (go_wp2)
 all_goals (go_ret)
 all_goals (exact⟨rfl,((lW hq).trans (lW hb).drew).trans (eY.bc _ _ rfl),hmu⟩)
end Go.Proofs
namespace Go.Proofs
open Go Go.Am Go.RowKit Go.Sy
def vv:Nat->Code->Code
 |0,c=>c
 |n+1, .seq _ b=>vv n b
 |_,c=>c
def yJ:aN:={Y:=Unit,pre:=fun _=>True,args:=fun _=>[],res:=fun _=> .bool true}
theorem zI {P:Program} {f:FuncId} {fn:Func} {l:List Item} {R:Ending->World->Prop} {a:Act} {w:World} {v:Value} (hr:(results fn a.tmps).run P w= .ok v w) (hd:a.defers=[]) (hR:R (.returned v) w):FT P f fn l R .ret a w:=⟨hd,v,hr,hR⟩
theorem fm.mono {P:Program} {f:FuncId} {l:List Item} {a:Act} {w:World} {R R':Ending->World->Prop} (h:fm P f l a w R) (hr:∀e w',R e w'->R' e w'):fm P f l a w R':=fun cs=>by
 obtain⟨e,w',fr,h1,h2⟩:=h cs;exact⟨e,w',fr,hr _ _ h1,h2⟩
theorem ZA [Inhabited aL] (hdr:¬(default:aL).dr) {f:FuncId} (ha:∀w,Calls Tryz.prog f #[] w fun e w'=>e= .returned (.bool true)/\Below w.heap.size w w'):CO f yJ:=kD bC.ok (by
 rintro y - w args hold ⟨h1,h2⟩;match args,h1 with
 |[],_=>
 refine(ha w).mono ?_;rintro e w' ⟨rfl,hb⟩;exact⟨_,rfl, .inr (.bool true),hb,fun h=>(hdr h).elim⟩)
end Go.Proofs
