/- Part 7: an evaluator, proved sound, and its use at this seat; no condition. -/
import Derived.WalkKit
import Derived.Laws.IdiomStrings
import Derived.Test.YtmfohfbdddlilaaGreatP3
import Derived.Test.YtmfohfbdddlilaaGreatP4
import Derived.Test.YtmfohfbdddlilaaGreatP6
set_option linter.unusedSimpArgs false
set_option linter.unusedVariables false
set_option linter.unusedSectionVars false
set_option linter.deprecated false
set_option maxRecDepth 100000
set_option maxHeartbeats 4000000
namespace Go.Proofs
open Go Go.Am Go.RowKit Go.Sy
section
variable [Inhabited aD]
structure ak where
 dev:Int
 inc:Int
 seq:Int
deriving DecidableEq,Inhabited
structure da where
 wall:Int
 count:Int
 dev:Int
deriving DecidableEq,Inhabited
def ak.enc (x:ak):List SV:=[.int .i64 x.dev, .int .i64 x.inc, .int .i64 x.seq]
def da.enc (x:da):List SV:=[.int .i64 x.wall, .int .i64 x.count, .int .i64 x.dev]
def x5 (d i:Int):Bool:=bZ 0 d&&bZ d 63&&bZ 1 i&&bZ i 1048576
def fN (x:ak):Bool:=x5 x.dev x.inc&&bZ 1 x.seq&&bZ x.seq 4294967296
def mG (a b c:Int):Bool:=bZ b a&&bZ a c
def ua (x:da):Bool:=mG x.wall 0 4398046511104&&mG x.count 0 65535&&mG x.dev 0 63
def kf (a b:Int):Int:=if a=0 then b else a
def uf (x y:ak):Int:=kf (eA x.dev y.dev) (eA x.inc y.inc)
def lT (x y:ak):Int:=kf (uf x y) (eA x.seq y.seq)
def cM (x y:ak):Bool:=decide (lT x y<0)
def xo (x y:da):Int:=kf (eA x.wall y.wall) (eA x.count y.count)
def mz (x y:da):Bool:=decide (kf (xo x y) (eA x.dev y.dev)<0)
def qm:aP:={Y:=Int×Int,pre:=fun _=>True,args:=fun y=>[.agg [i64 y.1,i64 y.2]],res:=fun y=> .bool (x5 y.1 y.2)}
def xI (p:ak->Bool):aP:={Y:=ak,pre:=fun _=>True,args:=fun y=>[.agg y.enc],res:=fun y=> .bool (p y)}
def FL (p:da->Bool):aP:={Y:=da,pre:=fun _=>True,args:=fun y=>[.agg y.enc],res:=fun y=> .bool (p y)}
def FN:aP:={Y:=Int×Int×Int,pre:=fun _=>True,args:=fun y=>[i64 y.1,i64 y.2.1,i64 y.2.2],res:=fun y=> .bool (mG y.1 y.2.1 y.2.2)}
def GC:aP:={Y:=ak×ak,pre:=fun _=>True,args:=fun y=>[.agg [i64 y.1.dev,i64 y.1.inc], .agg [i64 y.2.dev,i64 y.2.inc]],res:=fun y=>i64 (uf y.1 y.2)}
def uN:aP:={Y:=ak×ak,pre:=fun _=>True,args:=fun y=>[.agg y.1.enc, .agg y.2.enc],res:=fun y=>i64 (lT y.1 y.2)}
def GD:aP:={Y:=ak×ak,pre:=fun _=>True,args:=fun y=>[.agg y.1.enc, .agg y.2.enc],res:=fun y=> .bool (cM y.1 y.2)}
def Gg:aP:={Y:=da×da,pre:=fun _=>True,args:=fun y=>[.agg y.1.enc, .agg y.2.enc],res:=fun y=>i64 (xo y.1 y.2)}
def FM:aP:={Y:=da×da,pre:=fun _=>True,args:=fun y=>[.agg y.1.enc, .agg y.2.enc],res:=fun y=> .bool (mz y.1 y.2)}
noncomputable def p7 (f:FuncId):Option aP:=bif Nat.beq f Ha then some qm else bif Nat.beq f rO then some FN else xS f
noncomputable def uS (f:FuncId):Option aP:=bif Nat.beq f Hb then some (xI fN)else bif Nat.beq f rU then some (FL ua)else bif Nat.beq f rW then some GC else bif Nat.beq f rV then some Gg else p7 f
noncomputable def xQ (f:FuncId):Option aP:=bif Nat.beq f Hc then some uN else bif Nat.beq f rZ then some FM else uS f
noncomputable def p8 (f:FuncId):Option aP:=bif Nat.beq f Hg then some GD else xQ f
theorem vi (a:Int):cH a 64=bZ a 63:=by
 rw[dY,gT,Bh,Ah,Ah];omega
theorem Oa {a b:Int}:kf a b<0↔a<0\/(a=0/\b<0):=by
 unfold kf;by_cases h:a=0
 . simp[h]
 . simp[h]
theorem Mg {a b:Int}:kf a b=0↔a=0/\b=0:=by
 unfold kf;by_cases h:a=0<;>simp[h]
theorem sE (x y:ak):cM x y=true↔x.dev<y.dev\/(x.dev=y.dev/\(x.inc<y.inc\/(x.inc=y.inc/\x.seq<y.seq))):=by
 unfold cM lT uf;simp only[Ah,Oa,Mg,L2,KG];constructor
 . rintro((h|⟨h1,h2⟩)|⟨⟨h1,h2⟩,h3⟩)
   . exact .inl h
   . exact .inr ⟨h1, .inl h2⟩
   . exact .inr ⟨h1, .inr ⟨h2,h3⟩⟩
 . rintro(h|⟨h1,h2|⟨h2,h3⟩⟩)
   . exact .inl (.inl h)
   . exact .inl (.inr ⟨h1,h2⟩)
   . exact .inr ⟨⟨h1,h2⟩,h3⟩
theorem ak.ext' {x y:ak} (h1:x.dev=y.dev) (h2:x.inc=y.inc) (h3:x.seq=y.seq):x=y:=by cases x;cases y;simp_all
theorem sC (x:ak):cM x x=false:=by
 rw[AY,ne_eq,sE];omega
theorem sM {x y z:ak} (h1:cM x y=true) (h2:cM y z=true):cM x z=true:=by
 rw[sE]at*;omega
theorem vr (x y:ak):cM x y=true\/x=y\/cM y x=true:=by
 simp only[sE];by_cases h:x.dev=y.dev/\x.inc=y.inc/\x.seq=y.seq
 . exact .inr (.inl (ak.ext' h.1 h.2.1 h.2.2))
 . have:x.dev<y.dev\/y.dev<x.dev\/(x.dev=y.dev/\(x.inc<y.inc\/y.inc<x.inc\/(x.inc=y.inc/\(x.seq<y.seq\/y.seq<x.seq)))):=by omega
   omega
theorem NQ:CO Ha qm:=cZ (cfg:=fun y=>bU cQ (eD y)) ch (fun _=>rfl) (fun _=>wI) (n:=400) (by
 rintro⟨a,b⟩ -
 repeat' (first|exact trivial|exact rfl|((conv=>whnf);first|(apply bN<;>intro)|apply And.intro))
 all_goals (simp_all[x5,vi]))
theorem Mf:CO rO FN:=cZ (cfg:=fun y=>bU cQ (eD y)) ch (fun _=>rfl) (fun _=>wI) (n:=400) (by
 rintro⟨a,b⟩ -
 repeat' (first|exact trivial|exact rfl|((conv=>whnf);first|(apply bN<;>intro)|apply And.intro))
 all_goals (simp_all[mG]))
theorem qY:∀g C,p7 g=some C->CO g C:=cW NQ (cW Mf Cg)
theorem GK:CO Hb (xI fN):=cZ (cfg:=fun y=>bU p7 (eD y)) ch (fun _=>rfl) (fun _=>qY) (n:=400) (by
 rintro⟨a,b,c⟩ -
 (conv=>whnf)
 refine⟨(a,b),?_⟩
 repeat' (first|exact trivial|exact rfl|((conv=>whnf);first|(apply bN<;>intro)|apply And.intro))
 all_goals (simp_all[fN]))
theorem NU:CO rU (FL ua):=cZ (cfg:=fun y=>bU p7 (eD y)) ch (fun _=>rfl) (fun _=>qY) (n:=400) (by
 rintro⟨a,b,c⟩ -
 repeat' (first|exact trivial|exact rfl|((conv=>whnf);first|(apply bN<;>intro)|apply And.intro))
 all_goals (simp_all[ua,mG]))
theorem Oo:CO rW GC:=cZ (cfg:=fun y=>bU p7 (eD y)) ch (fun _=>rfl) (fun _=>qY) (n:=400) (by
 rintro⟨⟨a,b,c⟩,d,e,f⟩ -
 (conv=>whnf)
 refine⟨(a,d),?_⟩
 repeat ((conv=>whnf);first|refine⟨rfl,?_⟩|refine⟨trivial,?_⟩)
 (conv=>whnf)
 refine⟨(b,e),?_⟩
 repeat' (first|exact trivial|exact rfl|((conv=>whnf);first|(apply bN<;>intro)|apply And.intro))
 all_goals (simp_all[uf,kf]))
theorem NY:CO rV Gg:=cZ (cfg:=fun y=>bU p7 (eD y)) ch (fun _=>rfl) (fun _=>qY) (n:=400) (by
 rintro⟨⟨a,b,c⟩,d,e,f⟩ -
 (conv=>whnf)
 refine⟨(a,d),?_⟩
 repeat ((conv=>whnf);first|refine⟨rfl,?_⟩|refine⟨trivial,?_⟩)
 (conv=>whnf)
 refine⟨(b,e),?_⟩
 repeat' (first|exact trivial|exact rfl|((conv=>whnf);first|(apply bN<;>intro)|apply And.intro))
 all_goals (simp_all[xo,kf]))
theorem wG:∀g C,uS g=some C->CO g C:=cW GK (cW NU (cW Oo (cW NY qY)))
theorem N1:CO Hc uN:=cZ (cfg:=fun y=>bU uS (eD y)) ch (fun _=>rfl) (fun _=>wG) (n:=400) (by
 rintro⟨x,y⟩ -
 (conv=>whnf)
 refine⟨(x,y),?_⟩
 repeat ((conv=>whnf);first|refine⟨rfl,?_⟩|refine⟨trivial,?_⟩)
 (conv=>whnf)
 refine⟨(x.seq,y.seq),?_⟩
 repeat' (first|exact trivial|exact rfl|((conv=>whnf);first|(apply bN<;>intro)|apply And.intro))
 all_goals (simp_all[lT,kf]))
theorem Md:CO rZ FM:=cZ (cfg:=fun y=>bU uS (eD y)) ch (fun _=>rfl) (fun _=>wG) (n:=400) (by
 rintro⟨x,y⟩ -
 (conv=>whnf)
 refine⟨(x,y),?_⟩
 repeat ((conv=>whnf);first|refine⟨rfl,?_⟩|refine⟨trivial,?_⟩)
 (conv=>whnf)
 refine⟨(x.dev,y.dev),?_⟩
 repeat' (first|exact trivial|exact rfl|((conv=>whnf);first|(apply bN<;>intro)|apply And.intro))
 all_goals (simp_all[mz,kf,dY]))
theorem CF:∀g C,xQ g=some C->CO g C:=cW N1 (cW Md wG)
theorem Ow:CO Hg GD:=cZ (cfg:=fun y=>bU xQ (eD y)) ch (fun _=>rfl) (fun _=>CF) (n:=400) (by
 rintro⟨x,y⟩ -
 (conv=>whnf)
 refine⟨(x,y),?_⟩
 repeat' (first|exact trivial|exact rfl|((conv=>whnf);first|(apply bN<;>intro)|apply And.intro))
 all_goals (simp_all[cM,dY]))
theorem qZ:∀g C,p8 g=some C->CO g C:=cW Ow CF
end
section
variable [Inhabited aD]
theorem _root_.Go.Proofs.ak.ext_iff {x y:ak}:x=y↔x.dev=y.dev/\x.inc=y.inc/\x.seq=y.seq:=⟨fun h=>by subst h;exact⟨rfl,rfl,rfl⟩,fun h=>ak.ext' h.1 h.2.1 h.2.2⟩
structure af where
 dot:ak
 bw:da
 kind:Int
 key:ay
 ab:dP
 over:List ak
deriving DecidableEq,Inhabited
def fh (l:List ak):SV:= .aw ak l ak.enc
def af.enc (x:af):List SV:=[.int .i64 x.dot.dev, .int .i64 x.dot.inc, .int .i64 x.dot.seq, .int .i64 x.bw.wall, .int .i64 x.bw.count, .int .i64 x.bw.dev, .int .i64 x.kind, .str x.key.name, .str x.key.domain, .str x.key.path,
 .str x.ab.value, .bool x.ab.aH, .bool x.ab.aZ, .bool x.ab.aI, .bool x.ab.persistent, .int .i64 x.ab.aW, .int .i64 x.ab.aG, .int .i64 x.ab.access,fh x.over]
def af.item (x:af):aa:=⟨x.key,x.ab⟩
structure bh where
 ctx:List ak
 kept:List af
 dead:List ak
def fY (l:List af):SV:= .aw af l af.enc
def bh.enc (x:bh):List SV:=[fh x.ctx,fY x.kept,fh x.dead]
noncomputable def QN:TypeId->Option View:=fun t=>bif Nat.beq t Ty.string then some ⟨Bs,bD⟩else bif Nat.beq t ya then some ⟨aa,aa.enc⟩else bif Nat.beq t Ty.lH then some ⟨ak,ak.enc⟩else bif Nat.beq t QL then some ⟨ak,ak.enc⟩else bif Nat.beq t Hp then some ⟨af,af.enc⟩else none
noncomputable def eK (fS:FuncId->Option aP) (lI:FuncId->Nat->Option aS):gR:={tab:=oL,view:=QN,fS,lI}
section
variable {α:Type} [DecidableEq α] (less:α->α->Bool)
def eB (l:List α) (d:α):Nat:=(l.takeWhile fun x=>less x d).length
def fZ (l:List α) (d:α):List α:=if l[eB less l d]? =some d then l else l.take (eB less l d)++d::l.drop (eB less l d)
def eI (l:List α):List α:=l.foldl (fZ less) []
variable {less}
omit [DecidableEq α] in
theorem xf (L:List α) (d:α):eB less L d<=L.length:=(DJ _).length_le
theorem MF (L:List α) (d:α):(fZ less L d).length<=L.length+1:=by
 unfold fZ;have:=xf (less:=less) L d;split
 . omega
 . simp;omega
theorem vZ:∀(l a:List α),(l.foldl (fZ less) a).length<=a.length+l.length
 |[],a=>by simp
 |x::l,a=>by
  have h1:=vZ l (fZ less a x);have h2:=MF (less:=less) a x;simp only[BL,As];omega
end
noncomputable def rC (f:FuncId):Option aP:=p8 f
theorem tH:∀g C,rC g=some C->CO g C:=qZ
end
end Go.Proofs
namespace Go.Proofs
open Go Go.Am Go.RowKit Go.Sy Go.Gm
def dF (a:Int×Int):Value:= .agg #[.int .i64 a.1, .int .i64 a.2]
def bp (d:ak):Value:= .agg #[.int .i64 d.dev, .int .i64 d.inc, .int .i64 d.seq]
def ct (k:ay):Value:= .agg #[.string ⟨k.name.toArray⟩, .string ⟨k.domain.toArray⟩, .string ⟨k.path.toArray⟩]
def bQ (n:Int):Value:= .int .i64 n
theorem PQ (x y:Int×Int) (w:World):(Op.equal lG (dF x) (dF y)).run Tryz.prog w= .ok (decide (x=y)) w:=by
 letI:Inhabited aD:=⟨⟨True,#[]⟩⟩
 have h0:eqT Tryz.tab 8 lG (.agg [.int .i64 x.1, .int .i64 x.2]) (.agg [.int .i64 y.1, .int .i64 y.2])=(if(x.1==y.1)=true then(if(x.2==y.2)=true then .ok true else .ok false)else .ok false:R Bool):=by kernel_rfl
 have h:eqT Tryz.tab 8 lG (.agg [.int .i64 x.1, .int .i64 x.2]) (.agg [.int .i64 y.1, .int .i64 y.2])= .ok (decide (x=y)):=by
  rw[h0];by_cases e1:x.1=y.1<;>by_cases e2:x.2=y.2<;>simp[e1,e2,Prod.ext_iff]
 exact oo Tryz.iU (E:=⟨fun i=>i,fun _=>0⟩) 8 lG _ _ _ h 9992 w
theorem PR (x y:ak) (w:World):(Op.equal Ty.lH (bp x) (bp y)).run Tryz.prog w= .ok (decide (x=y)) w:=by
 letI:Inhabited aD:=⟨⟨True,#[]⟩⟩
 have h0:eqT Tryz.tab 8 Ty.lH (.agg [.int .i64 x.dev, .int .i64 x.inc, .int .i64 x.seq]) (.agg [.int .i64 y.dev, .int .i64 y.inc, .int .i64 y.seq])=(do if(<-(if(x.dev==y.dev)=true then(if(x.inc==y.inc)=true then .ok true else .ok false)else .ok false:R Bool))=true then(if(x.seq==y.seq)=true then .ok true else .ok false)else .ok false:R Bool):=by kernel_rfl
 have h:eqT Tryz.tab 8 Ty.lH (.agg [.int .i64 x.dev, .int .i64 x.inc, .int .i64 x.seq]) (.agg [.int .i64 y.dev, .int .i64 y.inc, .int .i64 y.seq])= .ok (decide (x=y)):=by
  rw[h0];by_cases e1:x.dev=y.dev<;>by_cases e2:x.inc=y.inc<;>by_cases e3:x.seq=y.seq
  all_goals first|(rw[Dl (ak.ext_iff.2 ⟨e1,e2,e3⟩)];simp only[e1,e2,e3,Ea,if_true];rfl)|(rw[B5 (fun h=>by rw[ak.ext_iff]at h;simp_all)];simp[e1,e2,e3];try rfl)
 exact oo Tryz.iU (E:=⟨fun i=>i,fun _=>0⟩) 8 Ty.lH _ _ _ h 9992 w
theorem MW (x y:ay):x=y↔x.name=y.name/\x.domain=y.domain/\x.path=y.path:=by
 cases x;cases y;simp
theorem QI (x y:ay) (w:World):(Op.equal rI (ct x) (ct y)).run Tryz.prog w= .ok (decide (x=y)) w:=by
 letI:Inhabited aD:=⟨⟨True,#[]⟩⟩
 have h0:eqT Tryz.tab 8 rI (.agg [.str x.name, .str x.domain, .str x.path]) (.agg [.str y.name, .str y.domain, .str y.path])=(if(x.name==y.name)=true then(if(x.domain==y.domain)=true then(if(x.path==y.path)=true then .ok true else .ok false)else .ok false)else .ok false:R Bool):=by kernel_rfl
 have h:eqT Tryz.tab 8 rI (.agg [.str x.name, .str x.domain, .str x.path]) (.agg [.str y.name, .str y.domain, .str y.path])= .ok (decide (x=y)):=by
  rw[h0];by_cases e1:x.name=y.name<;>by_cases e2:x.domain=y.domain<;>by_cases e3:x.path=y.path<;>simp[e1,e2,e3,MW]
 exact oo Tryz.iU (E:=⟨fun i=>i,fun _=>0⟩) 8 rI _ _ _ h 9992 w
theorem x9:KeyLaw Tryz.prog lG dF:=⟨fun b k w=>by kernel_rfl,PQ,fun k=>by simp[Instr.sameBits,dF],⟨_,Tryz.underlying33⟩⟩
theorem gp:KeyLaw Tryz.prog Ty.lH bp:=⟨fun b k w=>by kernel_rfl,PR,fun k=>by simp[Instr.sameBits,bp],⟨_,Tryz.underlying35⟩⟩
theorem wW (a:ByteArray):(a==a)=true:=by
 rw[beq_toListBytes];simp
theorem mX:KeyLaw Tryz.prog rI ct:=⟨fun b k w=>by kernel_rfl,QI,fun k=>by(simp[Instr.sameBits,ct];exact⟨wW _,wW _,wW _⟩),⟨_,Tryz.underlying24⟩⟩
theorem rH (w:World):(zeroValue 3).run Tryz.prog w= .ok (bQ 0) w:=by kernel_rfl
theorem ka {w:World} {bs bv:Nat} {L:List ((Int×Int)×Int)} (hs:w.cell? ⟨bs,0,none⟩=some (.map (some bv))) (hm:aj w bv dF bQ L) (a i:Int):
  Calls Tryz.prog 67 #[.pointer (some ⟨bs,0,none⟩), .agg #[.int .i64 a, .int .i64 i]] w fun e w'=>e= .returned (.int .i64 ((ar L (a,i)).getD 0))/\Below w.heap.size w w':=by
 have hlk:∀w':World,w'.heap[bv]? =w.heap[bv]? ->(Instr.lookup 147 (.map (some bv)) (.agg #[.int .i64 a, .int .i64 i]) false).run Tryz.prog w'= .ok (.int .i64 ((ar L (a,i)).getD 0)) w':=fun w' h=>by
  have:=(hm.same h).lookup x9 Tryz.underlying147 (rH w') (a,i) false;simp only[Ai,Az]at this;rw[show dF (a,i)= .agg #[.int .i64 a, .int .i64 i]from rfl]at this;rw[this]
  cases ar L (a,i)<;>rfl
 have hbv:bv<w.heap.size:=by
  obtain⟨es,clk,h,_⟩:=hm.at_;exact(Aa.1 h).1
 have hbs:bs<w.heap.size:=by
  unfold World.cell? at hs
  cases h:w.heap[bs]? with
  |none=>simp[h]at hs
  |some o=>exact(Aa.1 h).1
 go_enter Tryz.func67,Tryz.ntmps67
 go_wp2;have hl2:=hlk (w.alloc (.cells #[.int .i64 a, .int .i64 i] 33)).drew (Below.heap_alloc w _ bv hbv);have hs2:(w.alloc (.cells #[.int .i64 a, .int .i64 i] 33)).cell? ⟨bs,0,none⟩=some (.map (some bv)):=by
  rw[<-hs];exact((Below.refl w.heap.size w).alloc (Af _) _).cell hbs
 clear hlk;go_region
 go_wp2;go_ret;exact⟨rfl,((Below.refl w.heap.size w).alloc (Af _) _).drew⟩
end Go.Proofs
namespace Go.Proofs
open Go Go.Am Go.RowKit Go.Sy
section
variable [Inhabited aD]
def lU (d:ak) (l:List ak) (i:Nat) (h:i<l.length):Bool:=fN l[i]&&(decide (i=0)||cM (l[i - 1]'(by omega)) l[i])&& !(l[i].dev==d.dev&&l[i].inc==d.inc&&bZ d.seq l[i].seq)
def jY (d:ak) (l:List ak):Bool:=decide (l.length<=64)&&decide (∀i (h:i<l.length),lU d l i h=true)
def uu (e:af):Bool:=bZ (Int.ofNat e.over.length) 100&&bZ (Int.ofNat e.key.name.length) 2000&&bZ (Int.ofNat e.key.domain.length) 2000&&bZ (Int.ofNat e.key.path.length) 2000&&bZ (Int.ofNat e.ab.value.length) 2000
def iH (pre:af->Prop) (p:af->Bool):aP:={Y:=af,pre:=pre,args:=fun y=>[.agg y.enc],res:=fun y=> .bool (p y)}
noncomputable def GN (f:FuncId):Option aP:=rC f
theorem L4:∀g C,GN g=some C->CO g C:=tH
theorem Ll {d:ak} {l:List ak} {x:Nat} (hx:x<l.length) (h:lU d l x hx=false):jY d l=false:=by
 unfold jY;rw[Bool.and_eq_false_iff];right;refine B5 fun hall=>?_
 rw[hall x hx]at h;cases h
def GJ (d:ak) (l:List ak) (ks:List Nat) (s1 s2 s3:Nat):aS:={α:=Nat,ok:=fun i=>i<=l.length/\ ∀j (h:j<l.length),j<i->lU d l j h=true,μ:=fun i=>l.length - i,bG:=ks,bM:=fun i=>[(s1,fh l),(s2,i64 (Int.ofNat l.length)),(s3,i64 i)],cK:=fun _=>[]}
theorem N2:CO o9 (iH (fun _=>True) fun e=>jY e.dot e.over):=cZ (C:=iH (fun _=>True) fun e=>jY e.dot e.over) (cfg:=fun(y:af)=>eK GN (dX o9 4 (GJ y.dot y.over [1] 10 11 12))) ch (fun _=>rfl) (fun _=>L4) (n:=600) (by
 rintro⟨d,st,kd,ky,ck,l⟩ -
 (conv=>whnf)
 refine bN (fun h=>?_) fun h=>?_
 . have h:64<l.length:=by
     have h:cH 64 (Int.ofNat l.length)=true:=h;rw[dY,Ah,Ak]at h;omega
   (conv=>whnf)
   refine⟨by show false=jY d l;unfold jY;rw[B5 (by omega)];rfl,?_⟩
   repeat' (first|exact trivial|exact rfl|((conv=>whnf);first|(apply bN<;>intro)|apply And.intro))
 have h:l.length<=64:=by
   have h:cH 64 (Int.ofNat l.length)=false:=h;rw[dY,Ao,Ak]at h;omega
 (conv=>whnf)
 refine⟨⟨(0:Nat),⟨Bf _,fun _ _ h=>absurd h (Bw _)⟩,?_⟩,?_⟩
 . repeat' (first|exact trivial|exact rfl|((conv=>whnf);first|(apply bN<;>intro)|apply And.intro))
 intro (x:Nat) hx;obtain⟨hx,hn⟩:=hx;have hx:x<=l.length:=hx
 (conv=>whnf)
 refine bN (fun hlt=>?_) fun hge=>?_
 . have hlt':x<l.length:=eo hlt;have no:=Ll (d:=d) hlt';have yes:lU d l x hlt'=true->(GJ d l [1] 10 11 12).ok (x+1:Nat):=fun hy=>⟨hlt',fun j hj hjx=>by
     rcases EX j x with h1|h1
     . exact hn j hj h1
     . have e:j=x:=by omega
       subst e;exact hy⟩
   have mu:l.length - (x+1)<l.length - x:=by omega
   (conv=>whnf)
   refine aJ.2 ⟨_,eM hlt',?_⟩
   (conv=>whnf)
   refine⟨l[x],?_⟩
   repeat ((conv=>whnf);first|refine⟨rfl,?_⟩|refine⟨trivial,?_⟩)
   (conv=>whnf)
   refine bN (fun h1=>?_) fun h1=>?_
   . have h1:fN l[x]=false:=by
       have h1:(!fN l[x])=true:=h1;simpa using h1
     (conv=>whnf)
     refine⟨by show false=jY d l;rw[no (by simp only[lU,h1,BZ])],?_⟩
     repeat' (first|exact trivial|exact rfl|((conv=>whnf);first|(apply bN<;>intro)|apply And.intro))
   have h1:fN l[x]=true:=by
     have h1:(!fN l[x])=false:=h1;simpa using h1
   (conv=>whnf)
   refine au.2 ⟨fun h2=> ?ga,fun h2=> ?gb⟩
   case' ga=>
     have hx0:0<x:=by
       have h2:cH 0 (x:Int)=true:=h2;rw[dY,Ah]at h2;omega
     have hx1:x - 1<l.length:=by omega
     have hget:l[((x:Int) - 1).toNat]? =some l[x - 1]:=by
       rw[show((x:Int) - 1).toNat=x - 1 by omega,Ae hx1]
     (conv=>whnf)
     refine aq.2 ⟨by rw[nr];omega,?_⟩
     (conv=>whnf)
     refine aq.2 ⟨by rw[qa,Ah];omega,?_⟩
     (conv=>whnf)
     refine aJ.2 ⟨_,hget,?_⟩
     (conv=>whnf)
     refine⟨(l[x - 1],l[x]),?_⟩
     repeat ((conv=>whnf);first|refine⟨rfl,?_⟩|refine⟨trivial,?_⟩)
     (conv=>whnf)
     refine au.2 ⟨fun h3=> ?gc,fun h3=> ?gd⟩
     case gc=>
       have h3:cM l[x - 1] l[x]=false:=by
         have h3:(!cM l[x - 1] l[x])=true:=h3;simpa using h3
       (conv=>whnf)
       refine⟨by show false=jY d l;rw[no (by simp only[lU,h1,h3,B5 (show ¬x=0 by omega),Bool.or_false,Ek,BZ])],?_⟩
       repeat' (first|exact trivial|exact rfl|((conv=>whnf);first|(apply bN<;>intro)|apply And.intro))
     case' gd=>
       have h3:cM l[x - 1] l[x]=true:=by
         have h3:(!cM l[x - 1] l[x])=false:=h3;simpa using h3
       have hA:lU d l x hlt'= !(l[x].dev==d.dev&&l[x].inc==d.inc&&bZ d.seq l[x].seq):=by simp only[lU,h1,h3,Bool.or_true,DP,BH]
   case' gb=>
     have hx0:x=0:=by
       have h2:cH 0 (x:Int)=false:=h2;rw[dY,Ao]at h2;omega
     have hA:lU d l x hlt'= !(l[x].dev==d.dev&&l[x].inc==d.inc&&bZ d.seq l[x].seq):=by simp only[lU,h1,Dl hx0,E2,DP,BH]
   all_goals
     (conv=>whnf)
     refine bN (fun h4=>?_) fun h4=>?_
     . have h4:(l[x].dev==d.dev&&l[x].inc==d.inc)=true:=by simpa using h4
       (conv=>whnf)
       refine bN (fun h5=>?_) fun h5=>?_
       . have h5:bZ d.seq l[x].seq=true:=h5;rw[h4,h5]at hA
         (conv=>whnf)
         refine⟨by show false=jY d l;rw[no hA],?_⟩
         repeat' (first|exact trivial|exact rfl|((conv=>whnf);first|(apply bN<;>intro)|apply And.intro))
       . have h5:bZ d.seq l[x].seq=false:=h5;rw[h4,h5]at hA
         (conv=>whnf)
         refine aq.2 ⟨eG x (by omega),?_⟩
         (conv=>whnf)
         refine⟨(x+1:Nat),yes hA,mu,?_⟩
         repeat' (first|exact trivial|exact rfl|((conv=>whnf);first|(apply bN<;>intro)|apply And.intro))
     . have h4:(l[x].dev==d.dev&&l[x].inc==d.inc)=false:=by
         cases e:(l[x].dev==d.dev&&l[x].inc==d.inc)with
         |false=>rfl
         |true=>
          have e':(l[x].dev==d.dev&&(l[x].inc==d.inc&&true))=false:=h4;rw[DP,e]at e';cases e'
       rw[h4]at hA
       (conv=>whnf)
       refine aq.2 ⟨eG x (by omega),?_⟩
       (conv=>whnf)
       refine⟨(x+1:Nat),yes hA,mu,?_⟩
       repeat' (first|exact trivial|exact rfl|((conv=>whnf);first|(apply bN<;>intro)|apply And.intro))
 . have hge':l.length<=x:=kX hge
   (conv=>whnf)
   refine⟨?_,?_⟩
   . show true=jY d l
     unfold jY;rw[Dl h,Dl fun i hi=>hn i hi (AJ hi hge')];rfl
   . repeat' (first|exact trivial|exact rfl|((conv=>whnf);first|(apply bN<;>intro)|apply And.intro)))
end
section
variable [Inhabited aD]
def fy (b:UInt8):Bool:=(cH (nB b) 32&& !(nB b==9))||nB b==127
def lS (b:UInt8):Bool:=nB b==32||nB b==9
def kv (s:Bs):Bs:=s.dropWhile lS
def jZ (s:Bs):Bs:=(s.reverse.dropWhile lS).reverse
def lZ (s:Bs):Bs:=jZ (kv s)
def qn:aP:={Y:=Bs,pre:=fun y=>y.length<=1000000,args:=fun y=>[.str y],res:=fun y=> .bool (y.any fy)}
def u2 (y:Bs):aS:={α:=Nat,ok:=fun i=>i<=y.length/\(y.take i).any fy=false,μ:=fun i=>y.length - i,bG:=[],bM:=fun i=>[(0, .str y),(5,i64 (Int.ofNat y.length)),(6,i64 i)],cK:=fun _=>[]}
def Gc:aP:={Y:=UInt8,pre:=fun _=>True,args:=fun y=>[.int .u8 (nB y)],res:=fun y=> .bool (lS y)}
def GH:aP:={Y:=Bs,pre:=fun y=>y.length<=1000000,args:=fun y=>[.str y],res:=fun y=> .str (lZ y)}
def Nj (y:Bs):aS:={α:=Bs,ok:=fun x=>kv x=kv y/\x.length<=y.length,μ:=fun x=>x.length,bG:=[],bM:=fun x=>[(0, .str x)],cK:=fun _=>[]}
def Nk (y:Bs):aS:={α:=Bs,ok:=fun x=>jZ x=lZ y/\x.length<=y.length,μ:=fun x=>x.length,bG:=[],bM:=fun x=>[(0, .str x)],cK:=fun _=>[]}
noncomputable def xO (f:FuncId):Option aP:=bif Nat.beq f rT then some Gc else bif Nat.beq f oV then some qn else rC f
noncomputable def xP (f:FuncId):Option aP:=bif Nat.beq f mV then some GH else xO f
theorem LW {α:Type} {p:α->Bool} {l:List α} {x:Nat} (h:x<l.length):(l.take (x+1)).any p=((l.take x).any p||p l[x]):=by
 rw[AG h,List.any_append];simp
theorem LV {α:Type} {p:α->Bool} {l:List α} {x:Nat} (h:l.length<=x):(l.take x).any p=l.any p:=by rw[AP h]
theorem Nl {α:Type} {p:α->Bool} {l:List α} {x:Nat} (h:x<l.length) (hp:p l[x]=true):l.any p=true:=Ex.2 ⟨_,Bb h,hp⟩
theorem PD:CO oV qn:=cZ (cfg:=fun y=>eK rC (dX oV 2 (u2 y))) ch (fun _=>rfl) (fun _=>tH) (n:=600) (by
 intro (s:Bs) (hpre:s.length<=1000000)
 (conv=>whnf)
 refine⟨⟨(0:Nat),⟨Bf _,by simp⟩,?_⟩,?_⟩
 . repeat' (first|exact trivial|exact rfl|((conv=>whnf);first|(apply bN<;>intro)|apply And.intro))
 intro (x:Nat) hx;obtain⟨hx,hn⟩:=hx
 (conv=>whnf)
 refine bN (fun hlt=>?_) fun hge=>?_
 . have hlt':x<s.length:=eo hlt;have e:fy s[x]=((cH (nB s[x]) 32&& !(nB s[x]==9))||nB s[x]==127):=rfl;have yes:fy s[x]=true->s.any fy=true:=Nl hlt';have no:fy s[x]=false->(s.take (x+1)).any fy=false:=fun h=>by rw[LW hlt',hn,h];rfl
   repeat' (first|exact trivial|exact rfl|((conv=>whnf);refine aJ.2 ⟨_,eM (by assumption),?_⟩)|((conv=>whnf);refine aq.2 ⟨eG _ (by omega),?_⟩)|((conv=>whnf);refine aq.2 ⟨?_,?_⟩)|((conv=>whnf);first|(apply bN<;>intro)|apply And.intro))
   all_goals first
    |(refine(yes ?_).symm;clear yes no e hn;simp_all[fy,nB])
    |((conv=>whnf);refine⟨(x+1:Nat),⟨hlt',no (by clear yes no e hn;simp_all[fy,nB])⟩,by show s.length - (x+1)<s.length - x;omega,?_⟩;repeat' (first|exact trivial|exact rfl|((conv=>whnf);first|(apply bN<;>intro)|apply And.intro)))
 . have hge':s.length<=x:=kX hge;rw[LV hge']at hn
   (conv=>whnf)
   refine⟨hn.symm,?_⟩
   repeat' (first|exact trivial|exact rfl|((conv=>whnf);first|(apply bN<;>intro)|apply And.intro)))
theorem NR:CO rT Gc:=cZ (cfg:=fun y=>eK rC (eD y)) ch (fun _=>rfl) (fun _=>tH) (n:=400) (by
 intro (b:UInt8) _
 repeat' (first|exact trivial|exact rfl|((conv=>whnf);first|(apply bN<;>intro)|apply And.intro))
 all_goals (simp_all[lS]))
theorem CD:∀g C,xO g=some C->CO g C:=cW NR (cW PD tH)
theorem J9 {b:UInt8} {s:Bs} (h:lS b=true):kv (b::s)=kv s:=by unfold kv;rw[Db,if_pos h]
theorem Ka {b:UInt8} {s:Bs} (h:lS b=false):kv (b::s)=b::s:=by unfold kv;rw[Db,if_neg (by simp[h])]
theorem JJ {b:UInt8} {s:Bs} (h:lS b=true):jZ (s++[b])=jZ s:=by unfold jZ;rw[Fg,DA,Dn,Db,if_pos h]
theorem JK {b:UInt8} {s:Bs} (h:lS b=false):jZ (s++[b])=s++[b]:=by unfold jZ;rw[Fg,DA,Dn,Db,if_neg (by simp[h])];simp
theorem zp {s:Bs} (h:s≠[]):(lS (s.getLast h)=true->jZ s.dropLast=jZ s)/\(lS (s.getLast h)=false->jZ s=s):=by
 have e:=List.dropLast_concat_getLast h;constructor
 . intro hb;rw[<-e,JJ hb];simp
 . intro hb;rw[<-e,JK hb]
theorem OE:CO mV GH:=cZ (cfg:=fun y=>eK xO (xa mV 1 (Nj y) (dX mV 3 (Nk y)))) ch (fun _=>rfl) (fun _=>CD) (n:=600) (by
 intro (y:Bs) (hpre:y.length<=1000000)
 (conv=>whnf)
 refine⟨⟨y,⟨rfl,Af _⟩,?_⟩,?_⟩
 . repeat' (first|exact trivial|exact rfl|((conv=>whnf);first|(apply bN<;>intro)|apply And.intro))
 intro (x:Bs) hx;obtain⟨h1,h2⟩:=hx;have h2:x.length<=y.length:=h2
 (conv=>whnf)
 refine au.2 ⟨fun hne=> ?ne,fun he=> ?eq⟩
 case' eq=>
   have hL:kv x=x:=by
     have he:(!(x==[]))=false:=he;simp at he;subst he;rfl
 case' ne=>
   obtain⟨b,x',rfl⟩:∃b x',x=b::x':=by
     cases x with
     |nil=>cases hne
     |cons b x=>exact⟨b,x,rfl⟩
   (conv=>whnf)
   refine⟨b,?_⟩
   repeat ((conv=>whnf);first|refine⟨rfl,?_⟩|refine⟨trivial,?_⟩)
   (conv=>whnf)
   refine au.2 ⟨fun hb=> ?bt,fun hb=> ?bf⟩
   case' bf=>have hL:=Ka (s:=x') hb
   case bt=>
     (conv=>whnf)
     refine aq.2 ⟨rfl,?_⟩
     (conv=>whnf)
     refine⟨x',⟨by show kv x'=kv y;rw[<-h1,J9 hb],by show x'.length<=y.length;simp at h2;omega⟩,by show x'.length<(b::x').length;simp,?_⟩
     repeat' (first|exact trivial|exact rfl|((conv=>whnf);first|(apply bN<;>intro)|apply And.intro))
 all_goals
   rw[hL]at h1
   (conv=>whnf)
   refine⟨⟨_,⟨by show _=jZ (kv y);rw[<-h1],h2⟩,?_⟩,?_⟩
   . repeat' (first|exact trivial|exact rfl|((conv=>whnf);first|(apply bN<;>intro)|apply And.intro))
   clear h2;intro (z:Bs) hz;obtain⟨z1,z2⟩:=hz;have z2:z.length<=y.length:=z2;have z1:jZ z=lZ y:=z1
   (conv=>whnf)
   refine bN (fun hz0=>?_) fun hz0=>?_
   . have hz0:z≠[]:=by
       have hz0:(!(z==[]))=true:=hz0;simpa using hz0
     have hpos:=Dw.2 hz0;have hlast:z[(Int.ofNat z.length - 1).toNat]? =some (z.getLast hz0):=by
       rw[List.getLast_eq_getElem,show(Int.ofNat z.length - 1).toNat=z.length - 1 by simp only[Ak];omega,Ae (by omega)]
     have hdrop:z.take (Int.ofNat z.length - 1).toNat=z.dropLast:=by
       rw[show(Int.ofNat z.length - 1).toNat=z.length - 1 by simp only[Ak];omega,List.dropLast_eq_take]
     have hir:bY .i64 (Int.ofNat z.length - 1)=true:=by rw[nr];simp only[Ak];omega
     (conv=>whnf)
     refine aq.2 ⟨hir,?_⟩
     (conv=>whnf)
     refine aq.2 ⟨by rw[qa,Ah];simp only[Ak];omega,?_⟩
     (conv=>whnf)
     refine aJ.2 ⟨_,hlast,?_⟩
     (conv=>whnf)
     refine⟨z.getLast hz0,?_⟩
     repeat ((conv=>whnf);first|refine⟨rfl,?_⟩|refine⟨trivial,?_⟩)
     (conv=>whnf)
     refine bN (fun hb=>?_) fun hb=>?_
     . (conv=>whnf)
       refine aq.2 ⟨hir,?_⟩
       (conv=>whnf)
       refine aq.2 ⟨by rw[qa,Ah];simp only[Ak];omega,?_⟩
       (conv=>whnf)
       refine aq.2 ⟨by rw[AQ];simp only[Ak];omega,?_⟩
       (conv=>whnf)
       refine⟨z.take (Int.ofNat z.length - 1).toNat,⟨?_,?_⟩,?_,?_⟩
       . show jZ (z.take (Int.ofNat z.length - 1).toNat)=lZ y
         rw[hdrop,(zp hz0).1 hb];exact z1
       . show(z.take (Int.ofNat z.length - 1).toNat).length<=y.length
         rw[hdrop,Fb];omega
       . show(z.take (Int.ofNat z.length - 1).toNat).length<z.length
         rw[hdrop,Fb];omega
       . repeat' (first|exact trivial|exact rfl|((conv=>whnf);first|(apply bN<;>intro)|apply And.intro))
     . have:=(zp hz0).2 hb
       (conv=>whnf)
       refine⟨by rw[<-this];exact z1,?_⟩
       repeat' (first|exact trivial|exact rfl|((conv=>whnf);first|(apply bN<;>intro)|apply And.intro))
   . have hz0:z=[]:=by
       have hz0:(!(z==[]))=false:=hz0;simpa using hz0
     subst hz0
     (conv=>whnf)
     refine⟨z1,?_⟩
     repeat' (first|exact trivial|exact rfl|((conv=>whnf);first|(apply bN<;>intro)|apply And.intro)))
theorem CE:∀g C,xP g=some C->CO g C:=cW OE CD
end
section
variable [Inhabited aD]
def ib (s:Bs) (most:Int) (signs:Bs):Bool:=bZ (Int.ofNat s.length) most&& !s.any fy&&decide (lZ s=s)&&signs.all fun c=>(cf s (nB c)).isNone
def Gh:aP:={Y:=Bs×Int×Bs,pre:=fun y=>y.1.length<=1000000/\y.2.2.length<=100,args:=fun y=>[.str y.1,i64 y.2.1, .aw UInt8 y.2.2 bX],res:=fun y=> .bool (ib y.1 y.2.1 y.2.2)}
def NM (y:Bs×Int×Bs):aS:={α:=Nat,ok:=fun i=>i<=y.2.2.length/\(y.2.2.take i).all (fun c=>(cf y.1 (nB c)).isNone)=true,μ:=fun i=>y.2.2.length - i,bG:=[],bM:=fun i=>[(0, .str y.1),(26, .aw UInt8 y.2.2 bX),(27,i64 (Int.ofNat y.2.2.length)),(28,i64 i)],cK:=fun _=>[]}
theorem MZ {a b:Int} (h:cH a b=true):bZ b a=false:=by
 rw[dY,Ah]at h;rw[gT,Ao];omega
theorem M3 {a b:Int} (h:cH a b=false):bZ b a=true:=by
 rw[dY,Ao]at h;rw[gT,Ah];omega
theorem zE (s:Bs) (c:Int):(cN s c).2.2=(cf s c).isSome:=by
 unfold cN
 cases cf s c<;>rfl
theorem N3:CO oW Gh:=cZ (cfg:=fun y=>eK xP (dX oW 4 (NM y))) ch (fun _=>rfl) (fun _=>CE) (n:=600) (by
 rintro⟨s,m,g⟩ ⟨(hs:s.length<=1000000),(hg:g.length<=100)⟩;have yes:(ib s m g=false)-> .bool false=SV.bool (ib s m g):=fun h=>by rw[h]
 (conv=>whnf)
 refine bN (fun h=>?_) fun h=>?_
 . have h:bZ (Int.ofNat s.length) m=false:=MZ h;have:ib s m g=false:=by simp only[ib,h,BZ]
   (conv=>whnf)
   refine⟨this.symm,?_⟩
   repeat' (first|exact trivial|exact rfl|((conv=>whnf);first|(apply bN<;>intro)|apply And.intro))
 have h1:bZ (Int.ofNat s.length) m=true:=M3 h
 (conv=>whnf)
 refine⟨s,?_⟩
 repeat ((conv=>whnf);first|refine⟨rfl,?_⟩|refine⟨hs,?_⟩)
 (conv=>whnf)
 refine bN (fun h=>?_) fun h=>?_
 . have h:s.any fy=true:=h;have:ib s m g=false:=by simp only[ib,h,BX,Ek,BZ]
   (conv=>whnf)
   refine⟨this.symm,?_⟩
   repeat' (first|exact trivial|exact rfl|((conv=>whnf);first|(apply bN<;>intro)|apply And.intro))
 have h2:s.any fy=false:=h
 (conv=>whnf)
 refine⟨s,?_⟩
 repeat ((conv=>whnf);first|refine⟨rfl,?_⟩|refine⟨hs,?_⟩)
 (conv=>whnf)
 refine bN (fun h=>?_) fun h=>?_
 . have h:decide (lZ s=s)=false:=by
     have h:(!(lZ s==s))=true:=h;simpa using h
   have:ib s m g=false:=by simp only[ib,h,Ek,BZ]
   (conv=>whnf)
   refine⟨this.symm,?_⟩
   repeat' (first|exact trivial|exact rfl|((conv=>whnf);first|(apply bN<;>intro)|apply And.intro))
 have h3:decide (lZ s=s)=true:=by
   have h:(!(lZ s==s))=false:=h;simpa using h
 have hp:ib s m g=g.all fun c=>(cf s (nB c)).isNone:=by simp only[ib,h1,h2,h3,Ds,BH]
 (conv=>whnf)
 refine⟨⟨(0:Nat),⟨Bf _,by simp⟩,?_⟩,?_⟩
 . repeat' (first|exact trivial|exact rfl|((conv=>whnf);first|(apply bN<;>intro)|apply And.intro))
 intro (x:Nat) hx;obtain⟨hx,hn⟩:=hx;have hx:x<=g.length:=hx;have hn:(g.take x).all (fun c=>(cf s (nB c)).isNone)=true:=hn
 (conv=>whnf)
 refine bN (fun hlt=>?_) fun hge=>?_
 . have hlt':x<g.length:=eo hlt
   (conv=>whnf)
   refine aJ.2 ⟨_,eM hlt',?_⟩
   (conv=>whnf)
   refine⟨(s,nB g[x]),?_⟩
   repeat ((conv=>whnf);first|refine⟨rfl,?_⟩|refine⟨hs,?_⟩)
   (conv=>whnf)
   refine bN (fun h=>?_) fun h=>?_
   . have h:(cf s (nB g[x])).isSome=true:=by rw[<-zE];exact h
     have:ib s m g=false:=by
       rw[hp,List.all_eq_false];exact⟨g[x],Bb hlt',by simp[Option.isNone_iff_eq_none,EK.1 h]⟩
     (conv=>whnf)
     refine⟨this.symm,?_⟩
     repeat' (first|exact trivial|exact rfl|((conv=>whnf);first|(apply bN<;>intro)|apply And.intro))
   . have h:(cf s (nB g[x])).isSome=false:=by rw[<-zE];exact h
     (conv=>whnf)
     refine aq.2 ⟨eG x (by omega),?_⟩
     (conv=>whnf)
     refine⟨(x+1:Nat),⟨hlt',?_⟩,by show g.length - (x+1)<g.length - x;omega,?_⟩
     . show(g.take (x+1)).all (fun c=>(cf s (nB c)).isNone)=true
       rw[AG hlt',List.all_append,hn];simpa using h
     . repeat' (first|exact trivial|exact rfl|((conv=>whnf);first|(apply bN<;>intro)|apply And.intro))
 . have hge':g.length<=x:=kX hge;rw[AP hge']at hn
   (conv=>whnf)
   refine⟨by show true=ib s m g;rw[hp,hn],?_⟩
   repeat' (first|exact trivial|exact rfl|((conv=>whnf);first|(apply bN<;>intro)|apply And.intro)))
end
section
variable [Inhabited aD]
def gW (b:UInt8):UInt8:=if 65<=b.toNat/\b.toNat<=90 then b+32 else b
def dW (s:Bs):Bs:=s.map gW
def gI (w:World) (b:Nat) (l:Bs):Prop:=∃arr,w.heap[b]? =some (.cells arr 5 (arr.size,arr.size+1))/\l.length<=arr.size/\ ∀j (h:j<l.length),arr[j]? =some (.int .u8 l[j].toNat)
theorem gI.cell {w:World} {b:Nat} {l:Bs} (h:gI w b l) {j:Nat} (hj:j<l.length):w.cell? ⟨b,j,none⟩=some (.int .u8 l[j].toNat):=by
 obtain⟨arr,h1,_,h3⟩:=h;simp[World.cell?,h1,h3 j hj]
theorem gI.free {w:World} {b:Nat} {l:Bs} (h:gI w b l) {j:Nat} (hj:j<l.length):w.frozen? ⟨b,j,none⟩=false:=by
 obtain⟨arr,h1,h2,_⟩:=h;simp[World.frozen?,h1];omega
theorem gI.set {w:World} {b:Nat} {l:Bs} (h:gI w b l) (k:Nat) (c:UInt8):gI (w.setCell ⟨b,k,none⟩ (.int .u8 c.toNat)) b (l.set k c):=by
 obtain⟨arr,h1,h2,h3⟩:=h;have hlt:=(Aa.1 h1).1;refine⟨arr.setIfInBounds k (.int .u8 c.toNat),?_,by simpa using h2,fun j hj=>?_⟩
 . have h4:=(Aa.1 h1).2;simp only[World.setCell,DM,h1];simp
 . have hj':j<l.length:=by simpa using hj
   rw[Bx,List.getElem_set];by_cases e:k=j
   . subst e;simp;omega
   . simp only[e,Az];exact h3 j hj'
theorem PG (b:UInt8) (w:World):Calls Tryz.prog 220 #[.int .u8 b.toNat] w fun e w'=>e= .returned (.int .u8 (gW b).toNat)/\w'=w:=by
 have hb:=b.toNat_lt;by_cases h1:65<=b.toNat
 . by_cases h2:b.toNat<=90
   . go_enter Tryz.func220,Tryz.ntmps220
     go_wp2;go_ret;refine⟨?_,rfl⟩;unfold gW;rw[if_pos ⟨h1,h2⟩];have e:(b+32).toNat=b.toNat+32:=by
      rw[UInt8.toNat_add,show(32:UInt8).toNat=32 from rfl];omega
     rw[e];simp;omega
   . go_enter Tryz.func220,Tryz.ntmps220
     go_wp2;go_ret;refine⟨?_,rfl⟩;unfold gW;rw[if_neg (fun h=>h2 h.2)];rfl
 . go_enter Tryz.func220,Tryz.ntmps220
   go_wp2;go_ret;refine⟨?_,rfl⟩;unfold gW;rw[if_neg (fun h=>h1 h.1)];rfl
theorem Qt (s:Bs) (w:World) (hl:s.length<=1000000):Calls Tryz.prog 172 #[.string ⟨s.toArray⟩] w fun e w'=>e= .returned (.string ⟨(dW s).toArray⟩)/\Below w.heap.size w w'/\w.drawn<=w'.drawn:=by
 have hcv:= @run_bytes_of_string Tryz.prog;have hcb:= @run_convert_bytes_back Tryz.prog;go_enter Tryz.func172,Tryz.ntmps172
 go_wp2;have hrow0:∀c,gI (w.drew.alloc (.cells (bytesRow ⟨s.toArray⟩ c) 5 ((bytesRow ⟨s.toArray⟩ c).size,(bytesRow ⟨s.toArray⟩ c).size+1))) w.heap.size s:=fun c=>by
  refine⟨bytesRow ⟨s.toArray⟩ c,?_,?_,fun j hj=>?_⟩
  . show(w.heap.push _)[w.heap.size]? =_
    simp
  . simp[bytesRow]
  . rw[bytesRow_at _ _ _ (by simpa using hj)];simp
 go_loopw [9] (fun i wr=>∃k:Nat,k<=s.length/\i= .int .i64 k/\gI wr w.heap.size ((dW s).take k++s.drop k)/\Below w.heap.size w wr/\w.drawn<=wr.drawn) (fun i _=>s.length - (intOf i).toNat)
 case atStart=>exact⟨0,Bf _,rfl,hrow0 _,((Below.refl _ _).drew).alloc (Af _) _,E9 _⟩
 case round=>
  obtain⟨k,hk,rfl,hrow,hbel,hdr⟩:=hrel;by_cases hlt:k<s.length
  . have hlen:((dW s).take k++s.drop k).length=s.length:=by simp[dW];omega
    have hk2:k<((dW s).take k++s.drop k).length:=by omega
    have hc:=hrow.cell hk2;have hf:=hrow.free hk2;have hel:((dW s).take k++s.drop k)[k]=s[k]:=by
     rw[List.getElem_append_right (by simp[dW];omega)];simp[dW,DU (Nat.le_of_lt hlt)]
    rw[hel]at hc;have hcall:=PG s[k] wr;go_wp2_with (go_at_call 220;refine hcall.mono ?_;rintro e w1 ⟨rfl,rfl⟩)
    have hset:((dW s).take k++s.drop k).set k (gW s[k])=(dW s).take (k+1)++s.drop (k+1):=by
     have hz:k - ((dW s).take k).length=0:=by simp[dW];omega
     rw[List.set_append_right _ _ (by simp[dW];omega),hz,Dv hlt,AG (by simpa [dW]using hlt),List.set_cons_zero];simp[dW]
    refine⟨⟨k+1,hlt,by go_num,?_,hbel.setCell (Af _) _,hdr⟩,by simp[intOf];omega⟩;rw[<-hset];exact hrow.set k _
  . have hkl:k=s.length:=by omega
    subst hkl;have hrow':gI wr w.heap.size (dW s):=by
     rw[List.drop_length,Br,AP (by simp[dW])]at hrow;exact hrow
    have hback:∀c,(convert 199 9 (.slice (some ⟨w.heap.size,0,none⟩) s.length c)).run Tryz.prog wr= .ok (.string ⟨(dW s).toArray⟩) wr:=fun c=>by
     have:=hcb wr 199 9 5 ⟨w.heap.size,0,none⟩ c (dW s) Tryz.underlying199 Tryz.underlying5 Tryz.underlying9 (fun j hj=>by
      have:=hrow'.cell hj;unfold Addr.add;split
      . rename_i h0;subst h0;exact this
      . simpa using this)
     simpa [dW]using this
    clear hcb hcv hrow0;go_wp2;go_ret;exact⟨rfl,hbel,hdr⟩
theorem N0:CO rS {Y:=Bs,pre:=fun y=>y.length<=1000000,args:=fun y=>[.str y],res:=fun y=> .str (dW y)}:=j8 ch.ok (by
 rintro s hs w args - ⟨h1,h2⟩;match args,h1 with
 |[v],_=>
 have hv:v= .string ⟨s.toArray⟩:=by
  have:=h2 0 _ _ rfl rfl
  cases this;rfl
 subst hv;refine(Qt s w hs).mono ?_;rintro e w' ⟨rfl,hb,hd⟩;exact⟨_,rfl, .inr (.str _),hb,fun _=>hd⟩)
end
end Go.Proofs
