/- Part 19: an evaluator, proved sound, and its use at this seat; no condition. -/
import Derived.Deep.MidRow
import Derived.Laws.AppendOwn
import Derived.Maps.Own
import Derived.Maps.OwnOps
import Derived.Sort.KeysCollected
import Derived.Sort.EncStr
import Derived.Shelf.SlSortCmp.WholeK
import Derived.Shelf.SlIter.Nil
import Derived.Shelf.SortM.Plain
import Derived.Shelf.SortM.SortNone
import Derived.Shelf.SlicesE.Clone
import Derived.Test.YtmfohfbdddlilaaGreatProg
import Derived.WalkKit
import Derived.Test.YtmfohfbdddlilaaGreatP3
import Derived.Test.YtmfohfbdddlilaaGreatP5
set_option linter.unusedSimpArgs false
set_option linter.unusedVariables false
set_option linter.unusedSectionVars false
set_option linter.deprecated false
set_option maxRecDepth 100000
set_option maxHeartbeats 1000000
namespace Go.Proofs
open Go Go.Am Go.RowKit Go.Sy
section
abbrev dY (s:Bs):Value:= .string ⟨s.toArray⟩
def fA (x:aa):List Value:=[dY x.key.name,dY x.key.domain,dY x.key.path,dY x.ab.value, .bool x.ab.aG, .bool x.ab.aV, .bool x.ab.aH, .bool x.ab.persistent, .int .i64 x.ab.aQ, .int .i64 x.ab.aq, .int .i64 x.ab.access]
theorem Un (x:aa):(fA x).length=11:=rfl
def rowAt (w:World) (b off:Nat) (l:List aa):Prop:=∀(i:Nat) x (j:Nat) v,l[i]? =some x->(fA x)[j]? =some v->w.cell? ⟨b,off+i*11+j,none⟩=some v
theorem rowAt.range {w:World} {b off:Nat} {l:List aa} (h:rowAt w b off l) {i:Nat} {x:aa} (hx:l[i]? =some x):w.rangeAt b (off+i*11) (fA x):=fun j v hv=>h i x j v hx hv
theorem rowAt.below {w w':World} {b off:Nat} {l:List aa} (h:rowAt w b off l) {B:Nat} (hb:Below B w w') (hlt:b<B):rowAt w' b off l:=fun i x j v hx hv=>by
 have h1:=h i x j v hx hv;unfold World.cell? at h1⊢;rw[hb.block b hlt];exact h1
theorem Y8 {w:World} {p:Nat->Prop} {a:Bool} {s:Bs} {v:Value} (h:Rd w p a (.str s) v):v=dY s:=by cases h;rfl
theorem Yb {w:World} {p:Nat->Prop} {a:Bool} {b:Bool} {v:Value} (h:Rd w p a (.bool b) v):v= .bool b:=by cases h;rfl
theorem Gf {w:World} {p:Nat->Prop} {a:Bool} {k:IntKind} {n:Int} {v:Value} (h:Rd w p a (.int k n) v):v= .int k n:=by cases h;rfl
theorem MR {w:World} {p:Nat->Prop} {a:Bool} {x:aa} {j:Nat} {s:SV} {v u:Value} (hs:x.enc[j]? =some s) (hv:(fA x)[j]? =some v) (h:Rd w p a s u):u=v:=by
 unfold aa.enc at hs;unfold fA at hv;have hj:j<11:=(Ab.1 hv).1;match j,hj with
 |0,_|1,_|2,_|3,_=>cases hs;cases hv;exact Y8 h
 |4,_|5,_|6,_|7,_=>cases hs;cases hv;exact Yb h
 |8,_|9,_|10,_=>cases hs;cases hv;exact Gf h
theorem MF {x:aa} {j:Nat} (h:j<11):∃s,x.enc[j]? =some s:=⟨_,Af (by exact h)⟩
theorem LC {w:World} {p:Nat->Prop} {l:List aa} {v:Value} (h:Rd w p true (ec l) v):
  (l=[]/\ ∃a c,v= .slice a 0 c)\/ ∃b off cap,v= .slice (some ⟨b,off,none⟩) l.length cap/\b<w.heap.size/\rowAt w b off l/\l.length<=cap/\ ∃arr e fz,w.heap[b]? =some (.cells arr e fz)/\off+l.length*11<=arr.size:=by
 unfold ec at h
 cases h with
 |fN h0=>exact .inl ⟨AN.1 h0,none,0,rfl⟩
 |bX _ h0 a c=>exact .inl ⟨AN.1 h0,a,c,rfl⟩
 |ar b off cap arr e fz sz u hp hb hs hl hn hc h1 h2=>
  refine .inr ⟨b,off,cap,rfl,(Ae.1 hb).1,fun i x j v hx hv=>?_,hc,arr,e,fz,hb,?_⟩;rotate_left
  . cases hL:l with
    |nil=>simp;omega
    |cons x l'=>
     have:sz=11:=(hn 0 x (by rw[hL];rfl)).symm;rw[<-hL];rw[<-this];exact hl
  have hj:j<11:=(Ab.1 hv).1;obtain⟨s,hs'⟩:=MF (x:=x) hj;have hsz:sz=11:=(hn i x hx).symm;subst hsz;have e1:=h1 i x j s hx hs';have e2:=MR hs' hv (h2 i x j s hx hs');unfold World.cell?
  simp only[hb,Bc,Ak,AB];rw[e1,e2]
theorem MN {w:World} {base:Nat} {e:TypeId} {v:Value} {l:List Bs} (h:w.ownsRow base e 1 v l.length (l.map dY)):Up w base (strs l) v:=by
 obtain⟨h1,⟨rfl,h0⟩|⟨g,cap,cur,rfl,hb,hg,hn,_,hcs,htk⟩⟩:=h
 . exact .fN h0
 . have hl:l.length<=cur.size:=by omega
   refine .ar g 0 cap cur e (0,0) 1 (fun i _=>dY (l[i]?.getD [])) hb hg (by omega) (by omega) (fun _ _ _=>rfl) hn (fun i x j s _ hs=>?_) (fun i x j s hx hs=>?_) (fun i x j s hx hs=>?_)
   . cases j with
     |zero=>cases hs;rfl
     |succ j=>cases hs
   . cases j with
     |zero=>
      have h2:=Ap (fun l=>l[i]?) htk;have hi:=(Ab.1 hx).1;simp only[FB,Bd,if_pos hi,Az,hx,A8]at h2;rw[show 0+i*1+0=i by omega,<-A6,h2,hx];rfl
     |succ j=>cases hs
   . cases j with
     |zero=>cases hs;rw[hx];exact .str _
     |succ j=>cases hs
theorem Xa {w:World} {n b off cap:Nat} {arr:Array Value} {e:TypeId} {fz:Nat×Nat} {l:List aa} (hp:n<=b) (hb:w.heap[b]? =some (.cells arr e fz)) (hc:l.length<=cap) (hl:off+l.length*11<=arr.size)
   (h:∀(i:Nat) x (j:Nat) v,l[i]? =some x->(fA x)[j]? =some v->arr[off+i*11+j]? =some v):Up w n (ec l) (.slice (some ⟨b,off,none⟩) l.length cap):=by
 refine .ar b off cap arr e fz 11 (fun i j=>((l[i]?.map fA).getD [])[j]?.getD (.bool false)) hp hb (by omega) hl (fun _ _ _=>rfl) hc (fun i x j s hx hs=>?_) (fun i x j s hx hs=>?_) (fun i x j s hx hs=>?_)
 . have hj:j<11:=(Ab.1 hs).1;unfold aa.enc at hs;match j,hj with
   |0,_|1,_|2,_|3,_|4,_|5,_|6,_|7,_|8,_|9,_|10,_=>cases hs;rfl
 . have hj:j<11:=(Ab.1 hs).1;have hv:(fA x)[j]? =some ((fA x)[j]'hj):=Af hj;rw[h i x j _ hx hv,hx];simp[hv]
 . have hj:j<11:=(Ab.1 hs).1;rw[hx];unfold aa.enc at hs;match j,hj with
   |0,_|1,_|2,_|3,_=>cases hs;exact .str _
   |4,_|5,_|6,_|7,_=>cases hs;exact .bool _
   |8,_|9,_|10,_=>cases hs;exact .int _ _
variable [Inhabited aL]
theorem UL {tab:bB} {w:World} {b off cap:Nat} {l:List aa} (hc:l.length<=cap) (hb:∃arr e fz,w.heap[b]? =some (.cells arr e fz)/\off+l.length*11<=arr.size) (h:rowAt w b off l):
  aT (bT tab w).get (ec l) (cQ w.heap.size (.slice (some ⟨b,off,none⟩) l.length cap)):=by
 obtain⟨arr,e,fz,hb,hl⟩:=hb;refine xa hb (sz:=11) (by omega) (fun _ _=>rfl) hl rfl hc fun i x j s hx hs=>?_
 have hj:j<11:=(Ab.1 hs).1;have hv:(fA x)[j]? =some ((fA x)[j]'hj):=Af hj;have h1:=h i x j _ hx hv;unfold World.cell? at h1;simp only[hb,Bc,Ak,AB]at h1;refine⟨_,h1,?_⟩;unfold aa.enc at hs;match j,hj with
 |0,_|1,_|2,_|3,_=>cases hs;exact .str _
 |4,_|5,_|6,_|7,_=>cases hs;exact .bool _
 |8,_|9,_|10,_=>cases hs;exact .int _ _
end
section
variable [Inhabited aL]
theorem M4:∀a b:Bs,lt a b=decide (a<b)
 |[],[]=>by decide
 |[],b::l=>by simp[lt,Op.bytesLess]
 |a::l,[]=>by simp[lt,Op.bytesLess]
 |a::l,b::m=>by
  have:=M4 l m;rw[A2];simp only[lt,Op.bytesLess,BF,Ad,Aa,BP,List.cons_lt_cons_iff]at this⊢;rw[this];simp
def SK {H:Type} (D:DataW H) (L:List Bs):Prop:=∃es,D= .map es/\(∀p∈es,∃x,p.1= .string x)/\(es.map fun p=>strOf p.1).Nodup/\ ∀x,x∈es.map (fun p=>strOf p.1)↔x∈L
theorem kp {H:Type} {x p:Lit×DataW H}:∀{es:List (Lit×DataW H)},p∈DataW.insert x es↔p=x\/p∈es
 |[]=>by simp[DataW.insert]
 |y::r=>by
  unfold DataW.insert;split
  . simp
  . rw[Aj,kp (es:=r),Aj];constructor
    . rintro(h|h|h)
      . exact .inr (.inl h)
      . exact .inl h
      . exact .inr (.inr h)
    . rintro(h|h|h)
      . exact .inr (.inl h)
      . exact .inl h
      . exact .inr (.inr h)
theorem iy {H:Type} {x:Lit×DataW H}:∀{es:List (Lit×DataW H)},(DataW.insert x es).Perm (x::es)
 |[]=>List.Perm.refl _
 |y::r=>by
  unfold DataW.insert;split
  . exact List.Perm.refl _
  . exact((iy (es:=r)).cons y).trans (List.Perm.swap x y r)
theorem SK.start {H:Type}:SK (.map []:DataW H) []:=⟨[],rfl,by simp,by simp,by simp⟩
theorem SK.put {H:Type} {D:DataW H} {L:List Bs} (h:SK D L) (k:Bs) (d:DataW H) {L':List Bs} (hL:∀x,x∈L'↔x=k\/x∈L):SK (D.put (.string k) d) L':=by
 obtain⟨es,rfl,h1,h2,h3⟩:=h;refine⟨_,rfl,fun p hp=>?_,?_,fun x=>?_⟩
 . rcases kp.1 hp with rfl|hp
   . exact⟨k,rfl⟩
   . exact h1 p (Ar.1 hp).1
 . have hp:=(iy (x:=(.string k,d)) (es:=es.filter fun p=> !p.1.sameKey (.string k))).map (fun p:Lit×DataW H=>strOf p.1);rw[hp.nodup_iff,AR,BW];refine⟨fun hm=>?_,Em (List.filter_sublist.map _) h2⟩;obtain⟨p,hp,he⟩:=Au.1 hm;obtain⟨hp1,hp2⟩:=Ar.1 hp;obtain⟨y,hy⟩:=h1 p hp1;rw[hy]at hp2 he;have he:y=k:=he;subst he;simp[Lit.sameKey]at hp2
 . rw[hL,<-h3,(iy.map (fun p:Lit×DataW H=>strOf p.1)).mem_iff,AR,Aj];constructor
   . rintro(h|h)
     . exact .inl h
     . obtain⟨p,hp,he⟩:=Au.1 h;exact .inr (Au.2 ⟨p,(Ar.1 hp).1,he⟩)
   . rintro(h|h)
     . exact .inl h
     . by_cases e:x=k
       . exact .inl e
       . obtain⟨p,hp,he⟩:=Au.1 h;refine .inr (Au.2 ⟨p,Ar.2 ⟨hp,?_⟩,he⟩);obtain⟨y,hy⟩:=h1 p hp;rw[hy]at he⊢;have he:y=x:=he;subst he;simp[Lit.sameKey,e]
theorem SK.keys {H:Type} {D:DataW H} {L:List Bs} (h:SK D L):(strKeys D).Nodup/\ ∀x,x∈strKeys D↔x∈L:=by
 obtain⟨es,rfl,_,h2,h3⟩:=h;exact⟨h2,h3⟩
theorem RH {L:List Bs} {d:Bs} (h:L.Pairwise (fun a b=>lt a b=true)):(fT L d).Pairwise (fun a b=>lt a b=true):=by
 unfold fT;split
 . exact h
 . rename_i hne;have hd:∀x∈L.drop (ef L d),lt d x=true:=by
     intro x hx;have hlt:ef L d<L.length:=by
       apply Bk;intro hn;rw[DX (by omega)]at hx
       cases hx
     have h0:lt L[ef L d] d=false:=yU (p:=fun x=>lt x d) (l:=L) hlt;have h1:lt d L[ef L d]=true:=by
       rcases yd L[ef L d] d with h|h|h
       . rw[h0]at h;cases h
       . exact absurd (by rw[Af hlt,h]) hne
       . exact h
     rw[Ds hlt]at hx;rcases Aj.1 hx with rfl|hx
     . exact h1
     . have h2:(L.drop (ef L d)).Pairwise (fun a b=>lt a b=true):=h.sublist (ET _ _);rw[Ds hlt]at h2;exact lt_trans _ _ _ h1 ((BH.1 h2).1 x hx)
   have ht:∀x∈L.take (ef L d),lt x d=true:=by
     intro x hx;obtain⟨j,hj,rfl⟩:=Bn hx;have hj2:j<ef L d:=by simp at hj;omega
     obtain⟨g1,g2⟩:=yg (p:=fun x=>lt x d) (l:=L) (j:=j) hj2;simpa using g2
   rw[D7];refine⟨h.sublist (List.take_sublist _ _),BH.2 ⟨hd,h.sublist (ET _ _)⟩,fun a ha b hb=>?_⟩;rcases Aj.1 hb with rfl|hb
   . exact ht a ha
   . exact lt_trans _ _ _ (ht a ha) (hd b hb)
theorem Im (l:List aa):(bj l).Pairwise (fun a b=>lt a b=true):=by
 have:∀(l:List aa) (a:List Bs),a.Pairwise (fun a b=>lt a b=true)->(l.foldl (fun a x=>fT a x.key.domain) a).Pairwise (fun a b=>lt a b=true):=by
  intro l;induction l with
  |nil=>intro a h;exact h
  |cons x l ih=>intro a h;exact ih _ (RH h)
 exact this l [] List.Pairwise.nil
theorem Iq {H:Type} {D:DataW H} {l:List aa} (h:SK D (l.map fun x=>x.key.domain)) {ss:List Bs} (hs:ss.Perm (strKeys D)):ss.mergeSort (fun x y=>decide (x<=y))=bj l:=by
 obtain⟨h1,h2⟩:=h.keys;have hdn:(bj l).Nodup:=by
  rw[DG];exact(Im l).imp fun hab e=>by rw[e,lt_irrefl]at hab;cases hab
 have hp:ss.Perm (bj l):=hs.trans ((List.perm_ext_iff_of_nodup h1 hdn).2 fun x=>by rw[h2,gB,Au]);rw[show(ss.mergeSort fun x y=>decide (x<=y))=(bj l).mergeSort leB from mergeSort_of_perm hp];apply List.mergeSort_of_pairwise;refine(Im l).imp fun hab=>?_
 rw[M4,Ad]at hab;simp only[leB,Ad];exact List.le_of_lt hab
end
end Go.Proofs
namespace Go.Proofs
open Go.Shelf
def rq:Go.Shelf.Ren:=⟨fun|6=>130|15=>159|14=>161|28=>193|29=>194|20=>195|21=>196|22=>197|23=>198|24=>199|25=>200|26=>201|27=>202|46=>237|47=>233|48=>234|49=>238|50=>239|57=>256|n=>n,fun|22=>52|24=>48|25=>164|3=>3|39=>187|0=>0|53=>215|55=>217|4=>4|46=>209|45=>208|50=>153|5=>5|9=>9|66=>235|70=>239|76=>251|77=>252|n=>n,fun|n=>n⟩
theorem Qi:Go.Proofs.SlLaysF0.n6 Tryz.prog rq:={
 mixed:=by kernel_rfl
 f6:=⟨Tryz.f130.name,by decide,Tryz.func130.trans (Ap some (by kernel_rfl))⟩
 f14:=⟨Tryz.f161.name,by decide,Tryz.func161.trans (Ap some (by kernel_rfl))⟩
 f15:=Tryz.func159.trans (Ap some (by kernel_rfl))
 f20:=⟨Tryz.f195.name,by decide,Tryz.func195.trans (Ap some (by kernel_rfl))⟩
 f21:=⟨Tryz.f196.name,by decide,Tryz.func196.trans (Ap some (by kernel_rfl))⟩
 f22:=⟨Tryz.f197.name,by decide,Tryz.func197.trans (Ap some (by kernel_rfl))⟩
 f23:=⟨Tryz.f198.name,by decide,Tryz.func198.trans (Ap some (by kernel_rfl))⟩
 f24:=⟨Tryz.f199.name,by decide,Tryz.func199.trans (Ap some (by kernel_rfl))⟩
 f25:=⟨Tryz.f200.name,by decide,Tryz.func200.trans (Ap some (by kernel_rfl))⟩
 f26:=⟨Tryz.f201.name,by decide,Tryz.func201.trans (Ap some (by kernel_rfl))⟩
 f27:=⟨Tryz.f202.name,by decide,Tryz.func202.trans (Ap some (by kernel_rfl))⟩
 f28:=Tryz.func193.trans (Ap some (by kernel_rfl))
 f29:=Tryz.func194.trans (Ap some (by kernel_rfl))
 f46:=⟨Tryz.f237.name,by decide,Tryz.func237.trans (Ap some (by kernel_rfl))⟩
 f47:=Tryz.func233.trans (Ap some (by kernel_rfl))
 f48:=Tryz.func234.trans (Ap some (by kernel_rfl))
 f49:=⟨Tryz.f238.name,by decide,Tryz.func238.trans (Ap some (by kernel_rfl))⟩
 f50:=⟨Tryz.f239.name,by decide,Tryz.func239.trans (Ap some (by kernel_rfl))⟩
 f57:=⟨Tryz.f256.name,by decide,Tryz.func256.trans (Ap some (by kernel_rfl))⟩
 t0:=Tryz.underlying0
 a0:=Tryz.isAgg0
 z0:=Tryz.sizeOf0
 v0:=Tryz.zeroValue0
 t3:=Tryz.underlying3
 a3:=Tryz.isAgg3
 z3:=Tryz.sizeOf3
 v3:=Tryz.zeroValue3
 t4:=Tryz.underlying4
 a4:=Tryz.isAgg4
 z4:=Tryz.sizeOf4
 v4:=Tryz.zeroValue4
 t5:=Tryz.underlying5
 a5:=Tryz.isAgg5
 z5:=Tryz.sizeOf5
 v5:=Tryz.zeroValue5
 t9:=Tryz.underlying9
 a9:=Tryz.isAgg9
 z9:=Tryz.sizeOf9
 v9:=Tryz.zeroValue9
 t22:=Tryz.underlying52
 a22:=Tryz.isAgg52
 z22:=Tryz.sizeOf52
 v22:=Tryz.zeroValue52
 t25:=Tryz.underlying164
 a25:=Tryz.isAgg164
 z25:=Tryz.sizeOf164
 v25:=Tryz.zeroValue164
 t39:=Tryz.underlying187
 a39:=Tryz.isAgg187
 z39:=Tryz.sizeOf187
 v39:=Tryz.zeroValue187
 t45:=Tryz.underlying208
 a45:=Tryz.isAgg208
 z45:=Tryz.sizeOf208
 v45:=Tryz.zeroValue208
 t46:=Tryz.underlying209
 a46:=Tryz.isAgg209
 z46:=Tryz.sizeOf209
 v46:=Tryz.zeroValue209
 t50:=Tryz.underlying153
 a50:=Tryz.isAgg153
 z50:=Tryz.sizeOf153
 v50:=Tryz.zeroValue153
 t53:=Tryz.underlying215
 a53:=Tryz.isAgg215
 z53:=Tryz.sizeOf215
 v53:=Tryz.zeroValue215
 t55:=Tryz.underlying217
 a55:=Tryz.isAgg217
 z55:=Tryz.sizeOf217
 v55:=Tryz.zeroValue217
 t66:=Tryz.underlying235
 a66:=Tryz.isAgg235
 z66:=Tryz.sizeOf235
 v66:=Tryz.zeroValue235
 t70:=Tryz.underlying239
 a70:=Tryz.isAgg239
 z70:=Tryz.sizeOf239
 v70:=Tryz.zeroValue239
 t76:=Tryz.underlying251
 a76:=Tryz.isAgg251
 z76:=Tryz.sizeOf251
 v76:=Tryz.zeroValue251
 t77:=Tryz.underlying252
 a77:=Tryz.isAgg252
 z77:=Tryz.sizeOf252
 v77:=Tryz.zeroValue252}
def O2:Go.Shelf.Ren:=⟨fun|41=>129|n=>n,fun|22=>52|23=>48|4=>4|n=>n,fun|n=>n⟩
theorem Pg:Go.Proofs.SlLaysE0.n41 Tryz.prog O2:={
 mixed:=by kernel_rfl
 f41:=⟨Tryz.f129.name,by decide,Tryz.func129.trans (Ap some (by kernel_rfl))⟩
 t4:=Tryz.underlying4
 a4:=Tryz.isAgg4
 z4:=Tryz.sizeOf4
 v4:=Tryz.zeroValue4
 t22:=Tryz.underlying52
 a22:=Tryz.isAgg52
 z22:=Tryz.sizeOf52
 v22:=Tryz.zeroValue52}
def vJ:Go.Shelf.Ren:=⟨fun|7=>101|10=>140|n=>n,fun|23=>135|26=>9|3=>3|28=>138|0=>0|27=>137|33=>167|4=>4|n=>n,fun|n=>n⟩
theorem Hj:Go.Proofs.SlLaysZ.n7 Tryz.prog vJ:={
 mixed:=by kernel_rfl
 f7:=⟨Tryz.f101.name,by decide,Tryz.func101.trans (Ap some (by kernel_rfl))⟩
 f10:=⟨Tryz.f140.name,by decide,Tryz.func140.trans (Ap some (by kernel_rfl))⟩
 t0:=Tryz.underlying0
 a0:=Tryz.isAgg0
 z0:=Tryz.sizeOf0
 v0:=Tryz.zeroValue0
 t4:=Tryz.underlying4
 a4:=Tryz.isAgg4
 z4:=Tryz.sizeOf4
 v4:=Tryz.zeroValue4
 t23:=Tryz.underlying135
 a23:=Tryz.isAgg135
 z23:=Tryz.sizeOf135
 v23:=Tryz.zeroValue135
 t26:=Tryz.underlying9
 a26:=Tryz.isAgg9
 z26:=Tryz.sizeOf9
 v26:=Tryz.zeroValue9
 t27:=Tryz.underlying137
 a27:=Tryz.isAgg137
 z27:=Tryz.sizeOf137
 v27:=Tryz.zeroValue137
 t28:=Tryz.underlying138
 a28:=Tryz.isAgg138
 z28:=Tryz.sizeOf138
 v28:=Tryz.zeroValue138
 t33:=Tryz.underlying167
 a33:=Tryz.isAgg167
 z33:=Tryz.sizeOf167
 v33:=Tryz.zeroValue167}
def vF:Go.Shelf.Ren:=⟨fun|6=>100|8=>138|9=>139|11=>169|13=>159|12=>170|23=>193|24=>194|14=>210|15=>211|16=>212|17=>213|18=>214|19=>215|20=>216|21=>217|22=>218|25=>245|26=>233|27=>234|28=>246|29=>247|30=>248|31=>257|n=>n,fun|26=>9|28=>138|24=>70|0=>0|3=>3|37=>187|48=>215|50=>217|4=>4|40=>209|39=>208|45=>153|5=>5|9=>9|51=>235|55=>239|57=>251|58=>252|33=>167|n=>n,fun|n=>n⟩
theorem Pb:Go.Proofs.SlLaysZ.n6 Tryz.prog vF:={
 mixed:=by kernel_rfl
 f6:=⟨Tryz.f100.name,by decide,Tryz.func100.trans (Ap some (by kernel_rfl))⟩
 f8:=⟨Tryz.f138.name,by decide,Tryz.func138.trans (Ap some (by kernel_rfl))⟩
 f11:=⟨Tryz.f169.name,by decide,Tryz.func169.trans (Ap some (by kernel_rfl))⟩
 t0:=Tryz.underlying0
 a0:=Tryz.isAgg0
 z0:=Tryz.sizeOf0
 v0:=Tryz.zeroValue0
 t24:=Tryz.underlying70
 a24:=Tryz.isAgg70
 z24:=Tryz.sizeOf70
 v24:=Tryz.zeroValue70
 t26:=Tryz.underlying9
 a26:=Tryz.isAgg9
 z26:=Tryz.sizeOf9
 v26:=Tryz.zeroValue9
 t28:=Tryz.underlying138
 a28:=Tryz.isAgg138
 z28:=Tryz.sizeOf138
 v28:=Tryz.zeroValue138
 i26:=by kernel_rfl}
def O5:Go.Shelf.Ren:=⟨fun|6=>139|8=>159|9=>170|19=>193|20=>194|21=>210|22=>211|23=>212|24=>213|25=>214|26=>215|27=>216|28=>217|29=>218|36=>245|31=>233|32=>234|37=>246|38=>247|39=>248|41=>257|n=>n,fun|27=>70|29=>9|3=>3|32=>187|26=>70|0=>0|44=>215|46=>217|4=>4|36=>209|35=>208|41=>153|5=>5|9=>9|53=>235|57=>239|63=>251|64=>252|n=>n,fun|n=>n⟩
theorem Hk:Go.Proofs.SlLaysM.n6 Tryz.prog O5:={
 mixed:=by kernel_rfl
 f6:=⟨Tryz.f139.name,by decide,Tryz.func139.trans (Ap some (by kernel_rfl))⟩
 f8:=Tryz.func159.trans (Ap some (by kernel_rfl))
 f9:=⟨Tryz.f170.name,by decide,Tryz.func170.trans (Ap some (by kernel_rfl))⟩
 f19:=Tryz.func193.trans (Ap some (by kernel_rfl))
 f20:=Tryz.func194.trans (Ap some (by kernel_rfl))
 f21:=⟨Tryz.f210.name,by decide,Tryz.func210.trans (Ap some (by kernel_rfl))⟩
 f22:=⟨Tryz.f211.name,by decide,Tryz.func211.trans (Ap some (by kernel_rfl))⟩
 f23:=⟨Tryz.f212.name,by decide,Tryz.func212.trans (Ap some (by kernel_rfl))⟩
 f24:=⟨Tryz.f213.name,by decide,Tryz.func213.trans (Ap some (by kernel_rfl))⟩
 f25:=⟨Tryz.f214.name,by decide,Tryz.func214.trans (Ap some (by kernel_rfl))⟩
 f26:=⟨Tryz.f215.name,by decide,Tryz.func215.trans (Ap some (by kernel_rfl))⟩
 f27:=⟨Tryz.f216.name,by decide,Tryz.func216.trans (Ap some (by kernel_rfl))⟩
 f28:=⟨Tryz.f217.name,by decide,Tryz.func217.trans (Ap some (by kernel_rfl))⟩
 f29:=⟨Tryz.f218.name,by decide,Tryz.func218.trans (Ap some (by kernel_rfl))⟩
 f31:=Tryz.func233.trans (Ap some (by kernel_rfl))
 f32:=Tryz.func234.trans (Ap some (by kernel_rfl))
 f36:=⟨Tryz.f245.name,by decide,Tryz.func245.trans (Ap some (by kernel_rfl))⟩
 f37:=⟨Tryz.f246.name,by decide,Tryz.func246.trans (Ap some (by kernel_rfl))⟩
 f38:=⟨Tryz.f247.name,by decide,Tryz.func247.trans (Ap some (by kernel_rfl))⟩
 f39:=⟨Tryz.f248.name,by decide,Tryz.func248.trans (Ap some (by kernel_rfl))⟩
 f41:=⟨Tryz.f257.name,by decide,Tryz.func257.trans (Ap some (by kernel_rfl))⟩
 t0:=Tryz.underlying0
 a0:=Tryz.isAgg0
 z0:=Tryz.sizeOf0
 v0:=Tryz.zeroValue0
 t3:=Tryz.underlying3
 a3:=Tryz.isAgg3
 z3:=Tryz.sizeOf3
 v3:=Tryz.zeroValue3
 t4:=Tryz.underlying4
 a4:=Tryz.isAgg4
 z4:=Tryz.sizeOf4
 v4:=Tryz.zeroValue4
 t5:=Tryz.underlying5
 a5:=Tryz.isAgg5
 z5:=Tryz.sizeOf5
 v5:=Tryz.zeroValue5
 t9:=Tryz.underlying9
 a9:=Tryz.isAgg9
 z9:=Tryz.sizeOf9
 v9:=Tryz.zeroValue9
 t26:=Tryz.underlying70
 a26:=Tryz.isAgg70
 z26:=Tryz.sizeOf70
 v26:=Tryz.zeroValue70
 t27:=Tryz.underlying70
 a27:=Tryz.isAgg70
 z27:=Tryz.sizeOf70
 v27:=Tryz.zeroValue70
 t29:=Tryz.underlying9
 a29:=Tryz.isAgg9
 z29:=Tryz.sizeOf9
 v29:=Tryz.zeroValue9
 t32:=Tryz.underlying187
 a32:=Tryz.isAgg187
 z32:=Tryz.sizeOf187
 v32:=Tryz.zeroValue187
 t35:=Tryz.underlying208
 a35:=Tryz.isAgg208
 z35:=Tryz.sizeOf208
 v35:=Tryz.zeroValue208
 t36:=Tryz.underlying209
 a36:=Tryz.isAgg209
 z36:=Tryz.sizeOf209
 v36:=Tryz.zeroValue209
 t41:=Tryz.underlying153
 a41:=Tryz.isAgg153
 z41:=Tryz.sizeOf153
 v41:=Tryz.zeroValue153
 t44:=Tryz.underlying215
 a44:=Tryz.isAgg215
 z44:=Tryz.sizeOf215
 v44:=Tryz.zeroValue215
 t46:=Tryz.underlying217
 a46:=Tryz.isAgg217
 z46:=Tryz.sizeOf217
 v46:=Tryz.zeroValue217
 t53:=Tryz.underlying235
 a53:=Tryz.isAgg235
 z53:=Tryz.sizeOf235
 v53:=Tryz.zeroValue235
 t57:=Tryz.underlying239
 a57:=Tryz.isAgg239
 z57:=Tryz.sizeOf239
 v57:=Tryz.zeroValue239
 t63:=Tryz.underlying251
 a63:=Tryz.isAgg251
 z63:=Tryz.sizeOf251
 v63:=Tryz.zeroValue251
 t64:=Tryz.underlying252
 a64:=Tryz.isAgg252
 z64:=Tryz.sizeOf252
 v64:=Tryz.zeroValue252}
end Go.Proofs
namespace Go.Proofs
open Go.RowKit Go.Maps Go.Sort Go.Shelf
-- maps.Keys[map[string]int,string,int] (function 101; its iterator 140) · slices.Sorted[string] (100) · slices.Sort[[]string,string] (139) · the map's type 135, the keys' 9
theorem Pm (m:Nat):AnyZ.SortsIn Tryz.prog vF Fence.wide m:=
  ⟨fun bh off cap ss W hH hblk hsz=>callsIn_wide.2 (AnyM.slices_Sort_string Hk bh off cap ss W hH hblk hsz),
   fun p cap W=>callsIn_wide.2 (AnyM.slices_Sort_string_none Hk p cap W)⟩
theorem rl (mb:Option Nat) (W:World):CallsIn Fence.wide 5 Tryz.prog 101 #[.map mb] W fun e w'=>e= .returned (.func (.func 140) #[] #[.pointer (some ⟨W.heap.size,0,none⟩)])/\w'=W.alloc (.cells #[.map mb] 135):=
 AnyZ.keys_in Hj Fence.wide 5 trivial rfl mb W
set_option maxHeartbeats 1000000 in
theorem re {H:Type} (b nn:Nat) (D0:DataW H) (R:Value->Option (DataW H×List MemPlace)) (w:World) (hown:w.ownsMap Tryz.prog 9 R b nn D0) (hmax:Maps.size D0<=maxLen) (hbytes:Maps.size D0*16<=140737488355328):
  CallsIn Fence.wide 5 Tryz.prog 100 #[.func (.func 140) #[] #[.pointer (some ⟨w.heap.size,0,none⟩)]] (w.alloc (.cells #[.map (some b)] 135)) fun e w'=>∃(v:Value) (ss:List (List UInt8)),e= .returned v/\ss.Perm (strKeys D0)/\
   w'.ownsRow (w.alloc (.cells #[.map (some b)] 135)).heap.size 9 1 v ss.length ((ss.mergeSort (fun x y=>decide (x<=y))).map encStr)/\(v= .slice none 0 0↔ss=[])/\Below (w.alloc (.cells #[.map (some b)] 135)).heap.size (w.alloc (.cells #[.map (some b)] 135)) w':=by
 have hbl:=hown.lt;have hseq:SeqGives Fence.wide 2 Tryz.prog 140 #[.pointer (some ⟨w.heap.size,0,none⟩)] encStr (fun ss=>ss.Perm (strKeys D0)) (Maps.size D0) (w.alloc (.cells #[.map (some b)] 135)):=
  AnyZ.keys_gives (ρ:=vJ) {Hj with} Fence.wide _ trivial rfl (by omega) w.heap.size b nn D0 _ (by simp) (by simp) (by
   obtain⟨es,clock,hb,Ft,hs,hD⟩:=hown;exact⟨es,clock,(Below.heap_alloc _ _ b hbl).trans hb,Ft,hs,hD⟩)
 exact AnyZ.sorted_in Pb Fence.wide 5 trivial trivial trivial trivial rfl (by omega) (Pm _) (enters_of Tryz.func139 (by kernel_rfl) rfl) 140 #[.pointer (some ⟨w.heap.size,0,none⟩)] trivial (enters_of Tryz.func140 (by kernel_rfl) rfl) _ _ hmax hbytes _ hseq
-- THE CALLER's WALK over 'slices.Sorted(maps.Keys(m))' (inside '(callsIn_wide (n := 6)).1'; 'have hfK : Fence.wide.fn 101 := trivial', 'have hfS : Fence.wide.fn 100 := trivial' ahead): THE TWO ARMS TO PASTE:
--   gi_wp2_with (first
--     | (gi_at_call 101; refine (rl _ _).mono ?_; rintro e w' ⟨rfl, rfl⟩)
--     | (gi_at_call 100; refine (re b nn D0 R w hown hmax hbytes).mono ?_; rintro e w' ⟨v, ss, rfl, hS, hrow, hnil, hb⟩))
-- maps.Keys[map[biscotti/api.mA]int,biscotti/api.mA,int]: its keys are of no string's kind: not laid by this program
end Go.Proofs
namespace Go.Proofs
open Go Go.Am Go.RowKit Go.Sy Go.Maps Go.Sort Go.Shelf Go.WideMaps
section
variable [Inhabited aL]
theorem H8:Keyed Tryz.prog 9:=string_keyed Tryz.underlying9
theorem Qd (w:World):(zeroValue 3).run Tryz.prog w= .ok (.int .i64 0) w:=by kernel_rfl
theorem Xl {s:Bs} (h:s.length<=maxLen):keyOf Tryz.prog 9 (dY s)=some (.string s):=by
 have:=keyOf_string_mk (s:=⟨s.toArray⟩) Tryz.underlying9 (by simpa [ByteArray.size]using h);simpa using this
theorem rowAt.cells {w:World} {b off:Nat} {l:List aa} (h:rowAt w b off l) {i:Nat} {x:aa} (hx:l[i]? =some x):
  w.cell? ⟨b,off+i*11,none⟩=some (dY x.key.name)/\w.cell? ⟨b,off+i*11+1,none⟩=some (dY x.key.domain)/\w.cell? ⟨b,off+i*11+2,none⟩=some (dY x.key.path)/\
  w.cell? ⟨b,off+i*11+3,none⟩=some (dY x.ab.value)/\w.cell? ⟨b,off+i*11+4,none⟩=some (.bool x.ab.aG)/\w.cell? ⟨b,off+i*11+5,none⟩=some (.bool x.ab.aV)/\
  w.cell? ⟨b,off+i*11+6,none⟩=some (.bool x.ab.aH)/\w.cell? ⟨b,off+i*11+7,none⟩=some (.bool x.ab.persistent)/\w.cell? ⟨b,off+i*11+8,none⟩=some (.int .i64 x.ab.aQ)/\
  w.cell? ⟨b,off+i*11+9,none⟩=some (.int .i64 x.ab.aq)/\w.cell? ⟨b,off+i*11+10,none⟩=some (.int .i64 x.ab.access):=
 ⟨h i x 0 _ hx rfl,h i x 1 _ hx rfl,h i x 2 _ hx rfl,h i x 3 _ hx rfl,h i x 4 _ hx rfl,h i x 5 _ hx rfl,h i x 6 _ hx rfl,h i x 7 _ hx rfl,h i x 8 _ hx rfl,h i x 9 _ hx rfl,h i x 10 _ hx rfl⟩
theorem PQ {b off cap:Nat} {l:List aa} {w:World} (hlen:l.length<=10000) (hb:b<w.heap.size) (hrow:rowAt w b off l) (hsz:∀x∈l,x.key.domain.length<=maxLen):
  Calls Tryz.prog 54 #[.slice (some ⟨b,off,none⟩) l.length cap] w fun e w'=>∃v,e= .returned v/\w'.ownsRow w.heap.size 9 1 v (bj l).length ((bj l).map dY)/\Below w.heap.size w w':=by
 have hmm:= @run_makeMap Tryz.prog;go_enter Tryz.func54,Tryz.ntmps54
 go_wp2;go_loopw [9] (fun i wr=>∃(k:Nat) (D:DataW Unit),k<=l.length/\i= .int .i64 k/\wr.ownsMap Tryz.prog 9 (plainElem Tryz.prog 3) w.heap.size k D/\SK D ((l.take k).map fun x=>x.key.domain)/\Below w.heap.size w wr)
  (fun i _=>l.length - (intOf i).toNat)
 case atStart=>exact⟨0, .map [],Aw _,rfl,World.ownsMap_made _ _ _ _,SK.start,(Below.refl _ _).alloc (Ai _) _⟩
 case round=>
  obtain⟨k,D,hk,rfl,hown,hsk,hnx⟩:=hrel;by_cases hlt:k<l.length
  . obtain⟨x,hx⟩:∃x,l[k]? =some x:=⟨_,Af hlt⟩;obtain⟨c0,c1,c2,c3,c4,c5,c6,c7,c8,c9,c10⟩:=(hrow.below hnx hb).cells hx;have hxm:x∈l:=BD hx;have hkey:keyOf Tryz.prog 9 (dY x.key.domain)=some (.string x.key.domain):=Xl (hsz x hxm);have hbel:∀o,Below w.heap.size w (wr.alloc o):=fun o=>hnx.alloc hnx.size o
    go_wp2_with (first
      |(at_lookup;refine wpList_lookup_own_int _ rfl _ _ 135 rfl 9 3 .i64 H8 Tryz.underlying135 Tryz.underlying3 (Qd _) w.heap.size k _ rfl (hown.alloc _) _ _ rfl hkey ?_;intro c hat hwc)
      |(at_mapUpdate;refine wpList_mapUpdate_own _ rfl _ _ _ 135 rfl 9 3 H8 Tryz.underlying135 _ w.heap.size k _ rfl (hown.alloc _) (by unfold maxLen;omega) _ _ _ rfl rfl hkey _ [] (plainElem_int Tryz.underlying3 (wrap64_wf _)) ?_;intro w1 hown1 hgrow1)
      |go_in)
    have R1:=hsk.put (x.key.domain) (.lit (.int .i64 (wrap64 (c+1)))) (L':=(l.take (k+1)).map fun x=>x.key.domain) (fun d=>by
      rw[List.take_add_one,hx];simp;exact or_comm)
    have R2:=(hbel _).grown hgrow1 (hbel _).size (fun j hj=>by cases hj;exact Ai _);clear hown hsk c0 c1 c2 c3 c4 c5 c6 c7 c8 c9 c10 hbel hgrow1;go_roundw
    case rel=>exact⟨k+1,_,by omega,by go_num,hown1,R1,R2⟩
    case measure=>simp[intOf];omega
  . have hkl:k=l.length:=by omega
    subst hkl;rw[Bp]at hsk;have hks:=hsk.keys;have hsize:Maps.size D<=l.length:=hown.size_le;have hkeys:=fun W=>callsIn_wide.1 (rl (some w.heap.size) W)
    have hsort:=callsIn_wide.1 (re w.heap.size l.length D (plainElem Tryz.prog 3) wr hown (by unfold maxLen;omega) (by omega));go_wp2_with (first
      |(go_at_call 101;refine(hkeys _).mono ?_;rintro e w1 ⟨rfl,rfl⟩)
      |(go_at_call 100;refine hsort.mono ?_;rintro e w2 ⟨v,ss,rfl,hS,hrowS,hnil,hbelS⟩))
    go_ret;have hd:=Iq hsk hS;refine⟨_,rfl,?_,?_⟩
    . rw[hd]at hrowS;have hl:ss.length=(bj l).length:=by rw[<-hd];simp
      have he:(encStr:Bs->Value)=dY:=by funext s;simp[encStr]
      rw[hl,he]at hrowS;exact ownsRow_base_a hrowS (by have:=hnx.size;simp;omega)
    . exact(hnx.alloc hnx.size _).trans (hbelS.mono (by have:=hnx.size;simp;omega))
theorem PZ (a:Option Addr) (c:Nat) (w:World):Calls Tryz.prog 54 #[.slice a 0 c] w fun e w'=>∃v,e= .returned v/\w'.ownsRow w.heap.size 9 1 v 0 []/\Below w.heap.size w w':=by
 have hmm:= @run_makeMap Tryz.prog;obtain⟨D,hown0,hsk⟩:∃D:DataW Unit,(w.alloc (.map #[] 0)).ownsMap Tryz.prog 9 (plainElem Tryz.prog 3) w.heap.size 0 D/\SK D []:=⟨.map [],World.ownsMap_made _ _ _ _,SK.start⟩;have hbel0:Below w.heap.size w (w.alloc (.map #[] 0)):=(Below.refl _ _).alloc (Ai _) _;go_enter Tryz.func54,Tryz.ntmps54
 go_wp2;refine wp_loop_rounds 1 ?_;rw[rounds_succ];generalize w.alloc (.map #[] 0)=wr at*
 have hsize:Maps.size D<=0:=hown0.size_le;have hkeys:=fun W=>callsIn_wide.1 (rl (some w.heap.size) W)
 have hsort:=callsIn_wide.1 (re w.heap.size 0 D (plainElem Tryz.prog 3) wr hown0 (by unfold maxLen;omega) (by omega));go_wp2_with (first
  |(go_at_call 101;refine(hkeys _).mono ?_;rintro e w1 ⟨rfl,rfl⟩)
  |(go_at_call 100;refine hsort.mono ?_;rintro e w2 ⟨v,ss,rfl,hS,hrowS,hnil,hbelS⟩))
 go_ret;have hd:=Iq (l:=[]) hsk hS;have hl:ss.length=0:=by
  have:=Ap List.length hd;simpa [bj]using this
 rw[hd,hl]at hrowS;exact⟨_,rfl,ownsRow_base_a hrowS (by have:=hbel0.size;simp;omega),(hbel0.alloc hbel0.size _).trans (hbelS.mono (by have:=hbel0.size;simp;omega))⟩
theorem SE (hdr:¬(default:aL).dr):CO Hx Nc:=kD bC.ok (by
 rintro l ⟨hl,hsh⟩ w args - hargs;obtain⟨h1,h2⟩:=hargs;match args,h1 with
 |[v],_=>
 rcases LC (h2 0 _ _ rfl rfl)with⟨rfl,a,c,rfl⟩|⟨b,off,cap,rfl,hb,hrow,_⟩
 . exact(PZ a c w).mono fun e w' ⟨v,he,hr,hbel⟩=>⟨v,he, .inr (MN hr),hbel,fun h=>(hdr h).elim⟩
 . exact(PQ hl hb hrow fun x hx=>by have:=hsh x hx;unfold maxLen;omega).mono fun e w' ⟨v,he,hr,hbel⟩=>⟨v,he, .inr (MN hr),hbel,fun h=>(hdr h).elim⟩)
end
end Go.Proofs
