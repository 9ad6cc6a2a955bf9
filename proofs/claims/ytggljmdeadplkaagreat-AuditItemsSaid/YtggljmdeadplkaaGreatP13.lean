/- Part 13: an evaluator, proved sound, and its use at this seat; no condition. -/
import Derived.WalkKit
import Derived.LoopTactic
import Derived.Deep.RegionHeld3
import Derived.Maps.OwnSet
import Derived.Maps.Views
import Derived.Test.YtggljmdeadplkaaGreatP6
import Derived.Test.YtggljmdeadplkaaGreatP7
import Derived.Test.YtggljmdeadplkaaGreatP8
import Derived.Test.YtggljmdeadplkaaGreatP9
import Derived.Test.YtggljmdeadplkaaGreatP12
set_option linter.unusedSimpArgs false
set_option linter.unusedVariables false
set_option linter.unusedSectionVars false
set_option linter.deprecated false
set_option maxRecDepth 100000
set_option maxHeartbeats 40000000
namespace Go.Proofs
open Go Go.Am Go.RowKit Go.Sy
section
variable [Inhabited aL]
end
end Go.Proofs
namespace Go.Proofs
open Go Go.Am Go.RowKit Go.Sy Go.Gm Go.Maps Go.Sort Go.Shelf
section
variable [Inhabited aL]
structure lW (b:Nat) (m:cY):Prop where
 ok:Fk m
 over:∀e∈m.kept,e.over.length<=100000
 at_:Lr fun w=>∃n bk ba bd bs bv G,EM w n b bk ba bd bs bv G/\sV G m
end
section
variable [Inhabited aL]
end
section
variable [Inhabited aL]
end
section
variable [Inhabited aL]
abbrev Mp:=Option (Nat×cY)
def Mp.arg:Mp->SV|none=> .aF|some y=> .wp ⟨y.1,0,none⟩
def Mp.m:Mp->cY|none=>⟨[],[],[]⟩|some y=>y.2
def Mp.at:Mp->Prop|none=>True|some y=>lW y.1 y.2
noncomputable def Mp.fH (c:FuncId->Option aH):Mp->FuncId->Option aH|none=>bI|some _=>c
noncomputable def Mp.lk (a:Nat×cY->FuncId->Nat->Option aE):Mp->FuncId->Nat->Option aE|none=>fun _ _=>none|some y=>a y
end
section
inductive Flat:SV->Prop
 |bool (b:Bool):Flat (.bool b)
 |int (k:IntKind) (n:Int):Flat (.int k n)
 |str (s:List UInt8):Flat (.str s)
 |wp (a:Addr):Flat (.wp a)
 |ax {X:Type} {L:List X} {enc:X->List SV} (h:∀(i:Nat) x (j:Nat) v,L[i]? =some x->(enc x)[j]? =some v->Flat v):Flat (.ax X L enc)
section
variable [Inhabited aL] {tab:bc} {w:World} {p:Nat->Prop} {g:Bool}
theorem GY {n:Nat} (a:Option Addr) (c:Nat):cT n (.slice a 0 c)= .nils\/cT n (.slice a 0 c)= .raw (.slice a 0 c):=by
 unfold cT;split<;>simp_all
theorem L2 {s:SV} (hf:Flat s):∀{v:Value},Rd w p g s v->aG (cJ tab w).get s (cT w.heap.size v):=by
 induction hf with
 |bool b=>intro v h;cases h;exact .bool b
 |int k n=>intro v h;cases h;exact .int k n
 |str s=>intro v h;cases h;exact .str s
 |wp a=>intro v h;cases h;exact .wp a
 | @ax X L enc hfl ih=>
  intro v h
  cases h with
  |gB h0=>exact .bR h0 (.inl rfl)
  |bR h h0 a c=>
   rcases GY (n:=w.heap.size) a c with e|e
   . rw[e];exact .bR h0 (.inl rfl)
   . rw[e];exact .bR h0 (.inr (.inr ⟨_,_,rfl⟩))
  |ax b off cap arr e fz sz u hp hb hs hl hn hc h1 h2=>
   exact zG hb hs (fun x hx=>by obtain⟨i,hi,rfl⟩:=By hx;exact hn i _ (Af hi)) hl rfl hc (fun i x j v hx hv=>⟨u i j,h1 i x j v hx hv,ih i x j v hx hv (h2 i x j v hx hv)⟩)
theorem zY {cs:List SV} (hf:∀c∈cs,Flat c) {v:Value} (h:Rd w p g (.agg cs) v):aG (cJ tab w).get (.agg cs) (ee w.heap.size v):=by
 cases h with
 | @agg cs vs h1 h2=>
  show aG _ (.agg cs) (.agg (vs.toList.map (cT w.heap.size)))
  refine .agg (by simpa using h1) fun i c v hc hv=>?_
  rw[AF]at hv
  cases hi:vs.toList[i]? with
  |none=>rw[hi]at hv;cases hv
  |some x=>
   rw[hi]at hv
   cases hv;exact L2 (hf c (Bv hc)) (h2 i c x hc (by rw[<-Dp];exact hi))
end
def kh (w:World) (l:List aR) (v:Value):Prop:=(l=[]/\ ∃a c,v= .slice a 0 c)\/ ∃b off cap arr e fz,v= .slice (some ⟨b,off,none⟩) l.length cap/\w.heap[b]? =some (.cells arr e fz)/\l.length<=cap/\off+l.length*19<=arr.size/\
 ∀i (h:i<l.length),∃u,(∀j,j<19->arr[off+i*19+j]? =(JL l[i] u)[j]?)/\eM w l[i].over u
theorem kh.cells {w w':World} (hc:kG w w') {l:List aR} {v:Value} (h:kh w l v):kh w' l v:=by
 rcases h with h|⟨b,off,cap,arr,e,fz,h1,h2,h3,h5,h4⟩
 . exact .inl h
 . exact .inr ⟨b,off,cap,arr,e,fz,h1,hc _ _ _ _ h2,h3,h5,fun i hi=>by obtain⟨u,k1,k2⟩:=h4 i hi;exact⟨u,k1,k2.cells hc⟩⟩
end
section
variable [Inhabited aL]
end
section
section
variable [Inhabited aL]
end
end
section
variable [Inhabited aL]
end
section
section
variable [Inhabited aL]
end
theorem cell_of {w:World} {b o:Nat} {arr:Array Value} {ty:TypeId} {fz:Nat×Nat} (h:w.heap[b]? =some (.cells arr ty fz)):w.cell? ⟨b,o,none⟩=arr[o]? :=by simp[World.cell?,h]
end
def chunk (n:Nat) (s:List bp):List (List bp):=match n with
 |0=>[]
 |n+1=>if s=[]then[]else s.take 64::chunk n (s.drop 64)
def JT (v:Value):List Value:=[.int .i64 2, .string ⟨#[]⟩, .string ⟨#[]⟩, .string ⟨#[]⟩, .string ⟨#[]⟩, .bool false, .bool false, .bool false, .bool false, .int .i64 0, .int .i64 0, .int .i64 0,v]
section
structure e8 where
 kind:Int
 item:aa
 over:List bp
def e8.enc (x:e8):List SV:=[.int .i64 x.kind, .str x.item.key.name, .str x.item.key.domain, .str x.item.key.path, .str x.item.ab.value, .bool x.item.ab.ay, .bool x.item.ab.aT, .bool x.item.ab.aD, .bool x.item.ab.persistent,
 .int .i64 x.item.ab.aM, .int .i64 x.item.ab.aq, .int .i64 x.item.ab.access,iM x.over]
def Nr (c:List bp):e8:=⟨2,J0,c⟩
def Jc (l:List bp):List e8:=(chunk (EG og l).length (EG og l)).map Nr
section
variable [Inhabited aL]
end
end
section
def oS (m:cY) (l:List aa):List bp:=l.flatMap fun x=>LK m x.key
section
variable [Inhabited aL]
end
end
section
variable [Inhabited aL]
structure okC (c:List bp):Prop where
 ne:c≠[]
 le:c.length<=64
 dot:∀d∈c,oC d=true
 own:∀d∈c,¬(d.dev=63/\d.inc=1048576)
 up:c.Pairwise fun x y=>og x y=true
end
section
abbrev wO (c:aw) (m:cY) (now:Int):List aa×Int:=ES (c,vP m,now)
def LY (c:aw) (m:cY) (now:Int):List e8:=Jc (oS m (wO c m now).1)
section
variable [Inhabited aL]
structure purgeOk (c:aw) (m:cY) (now:Int):Prop where
 rules:mz c
 nE:(vP m).length<=10000
 short:L1 (vP m)
 iM:(oS m (wO c m now).1).length<=10000
 one:m.kept.length<=2000
 room:m.kept.length+(LY c m now).length<=2048
end
end
section
variable [Inhabited aL]
end
section
def lU (w:World) (u:Value) (m:cY):Prop:=∃vc vk vd,u= .agg #[vc,vk,vd]/\eM w m.ctx vc/\kh w m.kept vk/\eM w m.dead vd
theorem lU.cells {w w':World} (hc:kG w w') {u:Value} {m:cY} (h:lU w u m):lU w' u m:=by
 obtain⟨vc,vk,vd,h1,h2,h3,h4⟩:=h;exact⟨vc,vk,vd,h1,h2.cells hc,h3.cells hc,h4.cells hc⟩
section
variable [Inhabited aL]
end
end
structure ButBox (b0:Nat) (w w':World):Prop where
 same:∀i,i≠b0->w'.heap[i]? =w.heap[i]?
 bare:∀arr e fz,w.heap[b0]? =some (.cells arr e fz)->∀(i:Nat) (k:IntKind) (z:Int),arr[i]? ≠some (Value.int k z)
def lV (w:World) (cs:List (List bp)) (v:Value):Prop:=(cs=[]/\ ∃a c,v= .slice a 0 c)\/ ∃b off cap arr e fz,v= .slice (some ⟨b,off,none⟩) cs.length cap/\w.heap[b]? =some (.cells arr e fz)/\cs.length<=cap/\off+cs.length*13<=arr.size/\
 ∀i (h:i<cs.length),∃u,(∀j,j<13->arr[off+i*13+j]? =(JT u)[j]?)/\eM w cs[i] u
theorem lV.cells {w w':World} (hc:kG w w') {l:List (List bp)} {v:Value} (h:lV w l v):lV w' l v:=by
 rcases h with h|⟨b,off,cap,arr,e,fz,h1,h2,h3,h5,h4⟩
 . exact .inl h
 . exact .inr ⟨b,off,cap,arr,e,fz,h1,hc _ _ _ _ h2,h3,h5,fun i hi=>by obtain⟨u,k1,k2⟩:=h4 i hi;exact⟨u,k1,k2.cells hc⟩⟩
section
section
variable [Inhabited aL]
end
end
section
section
variable [Inhabited aL]
end
def ec (w:World) (c:aw) (rv:Value):Prop:=Rd w (fun _=>True) true (.ax Bs c.rules cI) rv
abbrev jZ (c:aw) (rv:Value):Value:= .agg #[.int .i64 c.bW, .int .i64 c.domain, .int .i64 c.total,rv]
theorem ec.cells {w w':World} {c:aw} {rv:Value} (h:ec w c rv) (hc:kG w w'):ec w' c rv:= @Ja ⟨⟨True,#[]⟩⟩ _ _ _ _ hc _ _ h
theorem zI {w:World} {c:aw} {rv:Value} (h:ec w c rv):Rd w (fun _=>True) true (.agg c.enc) (jZ c rv):=by
 refine .agg rfl fun i s v hs hv=>?_
 have hi:i<4:=(Ao.1 hs).1;unfold aw.enc at hs;match i,hi with
 |0,_|1,_|2,_=>cases hs;cases hv;exact .int _ _
 |3,_=>cases hs;cases hv;exact h
theorem GI (l:List Bs):Flat (.ax Bs l cI):= .ax fun i x j v _ hv=>by
 cases j with
 |zero=>cases hv;exact .str _
 |succ j=>cases hv
theorem yh (c:aw):∀s∈c.enc,Flat s:=by
 intro s hs;simp only[aw.enc,As,BV,De]at hs;rcases hs with rfl|rfl|rfl|rfl
 . exact .int _ _
 . exact .int _ _
 . exact .int _ _
 . exact GI _
section
variable [Inhabited aL]
end
end
section
theorem tC {w:World} {b o:Nat} {x:aa} (h:∀j v,(ka x)[j]? =some v->w.cell? ⟨b,o+j,none⟩=some v):w.cell? ⟨b,o,none⟩=some (bC x.key.name)/\w.cell? ⟨b,o+1,none⟩=some (bC x.key.domain)/\w.cell? ⟨b,o+2,none⟩=some (bC x.key.path)/\w.cell? ⟨b,o+3,none⟩=some (bC x.ab.value)/\w.cell? ⟨b,o+4,none⟩=some (.bool x.ab.ay)/\w.cell? ⟨b,o+5,none⟩=some (.bool x.ab.aT)/\w.cell? ⟨b,o+6,none⟩=some (.bool x.ab.aD)/\w.cell? ⟨b,o+7,none⟩=some (.bool x.ab.persistent)/\w.cell? ⟨b,o+8,none⟩=some (.int .i64 x.ab.aM)/\w.cell? ⟨b,o+9,none⟩=some (.int .i64 x.ab.aq)/\w.cell? ⟨b,o+10,none⟩=some (.int .i64 x.ab.access):=
 ⟨h 0 _ rfl,h 1 _ rfl,h 2 _ rfl,h 3 _ rfl,h 4 _ rfl,h 5 _ rfl,h 6 _ rfl,h 7 _ rfl,h 8 _ rfl,h 9 _ rfl,h 10 _ rfl⟩
theorem MA {w:World} {c:aw} {rv:Value} (hr:ec w c rv) (ok:mz c):Calls Tryz.prog 19 #[jZ c rv] w fun e w'=>e= .returned (.int .i64 (dG c))/\Below w.heap.size w w':=by
 letI:Inhabited aL:=⟨⟨False,#[]⟩⟩
 refine Calls.mono (lg bD.ok zB (fn:=Tryz.f19) (hfn:=by kernel_rfl) (hb:=rfl) (y:=c) ok (args:=[jZ c rv]) (w:=w) (PL.cons (zY (yh c) (zI hr)) PL.nil) (dX.pj rfl _)) ?_;rintro e w' ⟨v,rfl,hv,hb,_⟩;exact⟨by rw[nX hv],hb⟩
theorem MK {a b:bh} (w:World):Calls Tryz.prog 20 #[.agg #[bC a.name,bC a.domain,bC a.path], .agg #[bC b.name,bC b.domain,bC b.path]] w fun e w'=>e= .returned (.bool (bL a b))/\Below w.heap.size w w':=
 LH (C:=fun _=>mE) (hfn:=rfl) (hb:=rfl) (args:=[.agg #[bC a.name,bC a.domain,bC a.path], .agg #[bC b.name,bC b.domain,bC b.path]]) (fun I=> @CS I) (fun I=>⟨(a,b),trivial,PL.cons (Cu a) (PL.cons (Cu b) PL.nil),rfl⟩)
theorem MJ {w:World} {c:aw} {rv:Value} {x:aa} {now:Int} (hr:ec w c rv) (ok:gk c.rules) (hx:mA x):Calls Tryz.prog 21 #[jZ c rv, .agg (ka x).toArray, .int .i64 now] w fun e w'=>e= .returned (.int .i64 (dA c x now))/\Below w.heap.size w w':=by
 letI:Inhabited aL:=⟨⟨False,#[]⟩⟩
 refine Calls.mono (lg bD.ok KQ (fn:=Tryz.f21) (hfn:=by kernel_rfl) (hb:=rfl) (y:=(c,x,now)) ⟨ok,hx⟩ (args:=[jZ c rv, .agg (ka x).toArray, .int .i64 now]) (w:=w) (PL.cons (zY (yh c) (zI hr)) (PL.cons (Kl x) (PL.cons (.int _ _) PL.nil))) (dX.pj rfl _)) ?_;rintro e w' ⟨v,rfl,hv,hb,_⟩;exact⟨by rw[nX hv],hb⟩
theorem yB {w w':World} {b n:Nat} {D:DataW Unit} (h:w.ownsMap Tryz.prog 9 (plainElem Tryz.prog 3) b n D) (hb:w'.heap[b]? =w.heap[b]?):w'.ownsMap Tryz.prog 9 (plainElem Tryz.prog 3) b n D:=by
 obtain⟨es,clock,hm,Ft,hs,hD⟩:=h;exact⟨es,clock,hb.trans hm,Ft,hs,hD⟩
theorem vm {a b:Int} (h:(DataW.lit (.int .i64 a):DataW Unit)= .lit (.int .i64 b)):a=b:=by cases h;rfl
def gz (D:DataW Unit) (l:List aa):Prop:=∀d:Bs,D.atKey (.string d) (.lit (.int .i64 0))= .lit (.int .i64 ((fc l d).length:Nat))
theorem gz.start:gz (.map []) []:=fun _=>rfl
theorem gz.put {D:DataW Unit} {l:List aa} (h:gz D l) (hm:IsMap D) (x:aa):gz (D.put (.string x.key.domain) (.lit (.int .i64 (((fc l x.key.domain).length+1:Nat):Int)))) (l++[x]):=fun d=>by
 have e:fc (l++[x]) d=fc l d++if x.key.domain=d then[x]else[]:=by
   unfold fc;rw[Dw];by_cases hd:x.key.domain=d<;>simp[hd]
 by_cases hd:x.key.domain=d
 . subst hd;rw[atKey_put_same (k:= .string x.key.domain) hm trivial,e,Ai rfl,AR];rfl
 . rw[atKey_put_other (fun e=>hd (by cases e;rfl)),h d,e,Ah hd,A9]
theorem iB {w w':World} (hb:Below w.heap.size w.drew w') {b o:Nat} {v:Value} (h:w.cell? ⟨b,o,none⟩=some v):w'.cell? ⟨b,o,none⟩=some v:=by
 have hlt:b<w.heap.size:=block_lt_of_cell h;rw[World.cell?_of_block (w:=w) (hb.block b hlt)];exact h
def kQ (c:aw) (l:List aa):Bool:=l.any fun x=>decide (c.domain<((fc l x.key.domain).length:Int))
theorem yQ (l:List aa) (x:aa) (d:Bs):fc (l++[x]) d=fc l d++if x.key.domain=d then[x]else[]:=by
 unfold fc;rw[Dw];by_cases hd:x.key.domain=d<;>simp[hd]
theorem xZ (c:aw) (l:List aa) (x:aa):kQ c (l++[x])=(kQ c l||decide (c.domain<(((fc l x.key.domain).length+1:Nat):Int))):=by
 unfold kQ;rw[Aw,A4,Bz,Bz];simp only[Ac,yQ,AR];constructor
 . rintro⟨y,hy,h⟩;by_cases e:x.key.domain=y.key.domain
   . right;rw[Ai e,<-e]at h;simpa using h
   . rw[Ah e]at h;rcases AU.1 hy with hy|hy
     . exact .inl ⟨y,hy,by simpa using h⟩
     . rw[AQ.1 hy]at e;exact absurd rfl e
 . rintro(⟨y,hy,h⟩|h)
   . exact⟨y,BZ _ hy,by omega⟩
   . exact⟨x,BT _ Aj,by rw[Ai rfl];simpa using h⟩
theorem Ii {c:aw} {l:List aa} (h:1<=c.total):l.any (gn c l)=(decide (c.total<(l.length:Int))||kQ c l):=by
 unfold kQ;rw[Aw,A4,Bz,Bz];simp only[gn,A4,Ac];constructor
 . rintro⟨x,hx,h1|h1⟩
   . exact .inl h1
   . exact .inr ⟨x,hx,h1⟩
 . rintro(h1|⟨x,hx,h1⟩)
   . cases l with
     |nil=>simp at h1;omega
     |cons x l=>exact⟨x,Aj, .inl h1⟩
   . exact⟨x,hx, .inr h1⟩
abbrev ET (x:aa):Value:= .agg #[bC x.key.name,bC x.key.domain,bC x.key.path,bC x.ab.value, .bool x.ab.ay, .bool x.ab.aT, .bool x.ab.aD, .bool x.ab.persistent, .int .i64 x.ab.aM, .int .i64 x.ab.aq, .int .i64 x.ab.access]
theorem MD {w:World} {c:aw} {rv:Value} {l:List aa} {a:Option Addr} {cap:Nat} {now:Int} (hr:ec w c rv) (hI:l=[]\/ ∃b off,a=some ⟨b,off,none⟩/\b<w.heap.size/\rowAt w b off l) (ok:pk (c,l,now)):
   Calls Tryz.prog 8 #[jZ c rv, .slice a l.length cap, .int .i64 now] w fun e w'=>e= .returned (.int .i64 (ep c l now))/\Below w.heap.size w w':=by
 obtain⟨ok1,ok2,ok3⟩:=ok;have ok1:mz c:=ok1;have ok2:l.length<=1000:=ok2;have ok3:∀x∈l,mA x:=ok3;obtain⟨W,hW⟩:∃W,w.alloc (.cells #[.int .i64 c.bW, .int .i64 c.domain, .int .i64 c.total,rv] 24)=W:=⟨_,rfl⟩;have hbW:Below w.heap.size w W:=by rw[<-hW];exact(Below.refl _ _).alloc (An _) _
 have hsW:W.heap.size=w.heap.size+1:=by rw[<-hW];simp
 have hWn:W.heap[w.heap.size]? =some (.cells #[.int .i64 c.bW, .int .i64 c.domain, .int .i64 c.total,rv] 24 (0,0)):=by rw[<-hW];exact World.alloc_heap_new _ _
 have hbox:∀{w':World},Below W.heap.size W w'->w'.cell? ⟨w.heap.size,0,none⟩=some (.int .i64 c.bW)/\w'.cell? ⟨w.heap.size,1,none⟩=some (.int .i64 c.domain)/\w'.cell? ⟨w.heap.size,2,none⟩=some (.int .i64 c.total)/\w'.cell? ⟨w.heap.size,3,none⟩=some rv:=fun hb=>by
   have h:=(hb.block _ (by omega)).trans hWn;exact⟨cell_of (o:=0) h,cell_of (o:=1) h,cell_of (o:=2) h,cell_of (o:=3) h⟩
 obtain⟨d0,d1,d2,d3⟩:=hbox (Below.refl _ W);have hck:=MA (hr.cells (nh hbW)) ok1;by_cases h0:¬dG c=0
 . go_enter Tryz.func8,Tryz.ntmps8
   go_wp2_with (go_at_call 19;refine hck.mono ?_;rintro e w1 ⟨rfl,hb1⟩)
   go_ret;refine⟨?_,hbW.trans (hb1.mono (by omega))⟩;unfold ep;rw[Ai h0];rfl
 have h0:dG c=0:=Decidable.not_not.1 h0;rw[h0]at hck;go_enter Tryz.func8,Tryz.ntmps8
 go_wp2_with (go_at_call 19;refine hck.mono ?_;rintro e w1 ⟨rfl,hb1⟩)
 letI:Inhabited aL:=⟨⟨False,#[]⟩⟩
 go_loopw [8] (fun i wr=>∃k:Nat,1<=k/\(k<=l.length\/k=1)/\i= .int .i64 k/\(∀(j:Nat) (h:j+1<l.length),j+1<k->bL (l[j]'(by omega)).key l[j+1].key=true)/\Below W.heap.size W wr) (fun i _=>l.length - (intOf i).toNat)
 case atStart=>exact⟨1,An _, .inr rfl,rfl,fun j _ h=>by omega,hb1⟩
 case round=>
   obtain⟨k,k1,k2,rfl,hris,hbw⟩:=hrel;by_cases hlt:k<l.length
   . obtain⟨b,off,rfl,hbl,hrow⟩:=hI.resolve_left (fun e=>by rw[e]at hlt;exact absurd hlt (Nat.not_lt_zero _));have hrr:rowAt wr b off l:=(hrow.below hbW hbl).below hbw (by omega);obtain⟨p,hp⟩:∃p,p+1=k:=⟨k - 1,by omega⟩;have hpl:p<l.length:=by omega
     obtain⟨x0,x1,x2, -⟩:=hrr.cells (Af hpl);obtain⟨y0,y1,y2, -⟩:=hrr.cells (Af hlt);have hless:=MK (a:=l[p].key) (b:=l[k].key) wr.drew;have e1:(k:Int) - 1=(p:Int):=by omega
     have e2:IntKind.wrap .i64 (p:Int)=(p:Int):=uq _ (by omega);have e3:wrap64 (p:Int)=(p:Int):=IntWalk.wrap64_in _ (by omega);have h1:(0:Int)<=(p:Int):=by omega
     have h2:(p:Int)<(l.length:Int):=by omega
     have h3:(0:Int)<=(k:Int):=by omega
     have h4:(k:Int)<(l.length:Int):=by omega
     generalize hkx:l[p].key=kx at*
     generalize hky:l[k].key=ky at*
     cases hd:bL kx ky with
     |false=>
      rw[hd]at hless;go_wp2;go_region_held3 (fun w'=>w'.cell? ⟨b,off+p*11,none⟩=some (bC kx.name)/\w'.cell? ⟨b,off+p*11+1,none⟩=some (bC kx.domain)/\w'.cell? ⟨b,off+p*11+2,none⟩=some (bC kx.path)/\w'.cell? ⟨b,off+k*11,none⟩=some (bC ky.name)/\w'.cell? ⟨b,off+k*11+1,none⟩=some (bC ky.domain)/\w'.cell? ⟨b,off+k*11+2,none⟩=some (bC ky.path)) (simp[*]) (first|(go_at_call 20;refine hless.mono ?_;rintro e w3 ⟨rfl,hb3⟩;have z0:=iB hb3 x0;have z1:=iB hb3 x1;have z2:=iB hb3 x2;have q0:=iB hb3 y0;have q1:=iB hb3 y1;have q2:=iB hb3 y2))
      go_wp2;go_ret;refine⟨?_,hbW.trans (((hbw.drew).trans (hb3.mono hbw.size)).mono (by omega))⟩;have hnr:fC l=false:=by
        rw[Ap];intro e;subst hp;have:=(ml l).1 e p hlt;rw[hkx,hky,hd]at this;cases this
      unfold ep;rw[Ah (by simp[h0]),Ai hnr];rfl
     |true=>
      rw[hd]at hless;go_wp2;go_region_held3 (fun w'=>w'.cell? ⟨b,off+p*11,none⟩=some (bC kx.name)/\w'.cell? ⟨b,off+p*11+1,none⟩=some (bC kx.domain)/\w'.cell? ⟨b,off+p*11+2,none⟩=some (bC kx.path)/\w'.cell? ⟨b,off+k*11,none⟩=some (bC ky.name)/\w'.cell? ⟨b,off+k*11+1,none⟩=some (bC ky.domain)/\w'.cell? ⟨b,off+k*11+2,none⟩=some (bC ky.path)) (simp[*]) (first|(go_at_call 20;refine hless.mono ?_;rintro e w3 ⟨rfl,hb3⟩;have z0:=iB hb3 x0;have z1:=iB hb3 x1;have z2:=iB hb3 x2;have q0:=iB hb3 y0;have q1:=iB hb3 y1;have q2:=iB hb3 y2))
      go_wp2;go_roundw
      case rel=>exact⟨k+1,by omega, .inl hlt,by go_num,fun j hj hjk=>by
        by_cases e:j+1<k
        . exact hris j hj e
        . have:j=p:=by omega
          subst this;subst hp;rw[hkx,hky];exact hd,(hbw.drew).trans (hb3.mono hbw.size)⟩
      case measure=>simp[intOf];omega
   . have hrl:fC l=true:=(ml l).2 fun j hj=>hris j hj (by omega)
     have hR:=xm h0 ok1.2;obtain⟨d0,d1,d2,d3⟩:=hbox hbw;obtain⟨w2,hw2⟩:∃w2,w2=wr:=⟨_,rfl⟩;subst hw2;have hge:¬(k:Int)<(l.length:Int):=by omega
     have hmm:= @run_makeMap Tryz.prog;have hbm:=hbw.alloc hbw.size (.map #[] 0);obtain⟨g0,g1,g2,g3⟩:=hbox hbm;go_wp2;go_loopw [10,46] (fun f i wr=>∃(q:Nat) (D:DataW Unit),q<=l.length/\i= .int .i64 q/\f= .bool (decide (c.total<(l.length:Int))||kQ c (l.take q))/\wr.ownsMap Tryz.prog 9 (plainElem Tryz.prog 3) w2.heap.size q D/\gz D (l.take q)/\(∀x∈l.take q,dA c x now=0)/\Below W.heap.size W wr/\w2.heap.size<wr.heap.size)
      (fun _ i _=>l.length - (intOf i).toNat)
     case atStart=>exact⟨0, .map [],A7 _,rfl,by simp[kQ],World.ownsMap_made _ _ _ _,gz.start,by simp,hbm,by simp⟩
     case round=>
      obtain⟨q,D,hq,rfl,rfl,hown,hcnt,hit,hbv,hlv⟩:=hrel;by_cases hlq:q<l.length
      . obtain⟨b,off,rfl,hbl,hrow⟩:=hI.resolve_left (fun e=>by rw[e]at hlq;exact absurd hlq (Nat.not_lt_zero _));have hrv:rowAt wr b off l:=(hrow.below hbW hbl).below hbv (by omega);obtain⟨x,hx⟩:∃x,l[q]=x:=⟨_,rfl⟩;have hxq:l[q]? =some x:=by rw[Af hlq,hx]
        have hxm:x∈l:=by rw[<-hx];exact Av hlq
        have hxs:=ok3 x hxm;obtain⟨c0,c1,c2,c3,c4,c5,c6,c7,c8,c9,c10⟩:=hrv.cells hxq;obtain⟨X,hX⟩:∃X,wr.alloc (.cells #[bC x.key.name,bC x.key.domain,bC x.key.path,bC x.ab.value, .bool x.ab.ay, .bool x.ab.aT, .bool x.ab.aD, .bool x.ab.persistent, .int .i64 x.ab.aM, .int .i64 x.ab.aq, .int .i64 x.ab.access] 51)=X:=⟨_,rfl⟩;have hbX:Below wr.heap.size wr X:=by rw[<-hX];exact(Below.refl _ _).alloc (An _) _
        have hsX:X.heap.size=wr.heap.size+1:=by rw[<-hX];simp
        have hXn:X.heap[wr.heap.size]? =some (.cells (ka x).toArray 51 (0,0)):=by rw[<-hX];exact World.alloc_heap_new _ _
        have hbWX:Below W.heap.size W X:=hbv.trans (hbX.mono hbv.size);obtain⟨g0,g1,g2,g3⟩:=hbox hbWX;obtain⟨z0,z1,z2,z3,z4,z5,z6,z7,z8,z9,z10⟩:=tC (w:=X) (b:=wr.heap.size) (o:=0) (x:=x) (fun j v hv=>by
          rw[Bk,cell_of hXn,AB];exact hv)
        simp only[Bk]at z1 z2 z3 z4 z5 z6 z7 z8 z9 z10;have hitem:Calls Tryz.prog 21 #[jZ c rv,ET x, .int .i64 now] X _:=MJ ((hr.cells (nh hbW)).cells (nh hbWX)) hR hxs;have hq0:(0:Int)<=(q:Int):=by omega
        have hq1:(q:Int)<(l.length:Int):=by omega
        by_cases hi0:¬dA c x now=0
        . have hA:ep c l now=dA c x now:=by
           have h5:=ue hlq hit (by rw[hx];exact hi0);rw[hx]at h5;unfold ep;rw[Ah (by simp[h0]),Ah (by simp[hrl]),Ai (by rw[h5];exact hi0),h5]
          go_wp2_with (go_at_call 21;refine hitem.mono ?_;rintro e w3 ⟨rfl,hb3⟩)
          go_ret;refine⟨?_,hbW.trans ((hbWX.trans (hb3.mono hbWX.size)).mono (by omega))⟩
          first|rfl|(rw[hA];rfl)
        have hi0:dA c x now=0:=Decidable.not_not.1 hi0;rw[hi0]at hitem;have hkey:keyOf Tryz.prog 9 (bC x.key.domain)=some (.string x.key.domain):=Kz (by have:=hxs.2.1;unfold maxLen;omega);have hmap:=hown.lt;have hw2s:W.heap.size<=w2.heap.size:=hbw.size;have hbX2:=hbX.block _ hmap;clear hrow hrv;generalize hf:(decide (c.total<(l.length:Int))||kQ c (l.take q))=f
        cases f with
        | true=>
          go_wp2_with (first
           |(go_at_call 21;refine hitem.mono ?_;rintro e w3 ⟨rfl,hb3⟩;have y1:=nR z1 (hb3.block _ (by omega));obtain⟨-,p1, -, -⟩:=hbox (hbWX.trans (hb3.mono hbWX.size));have hown3:=yB hown ((hb3.block _ (by omega)).trans hbX2))
           |(at_lookup;refine wpList_lookup_own_int _ rfl _ _ 60 rfl 9 3 .i64 jI Tryz.underlying60 Tryz.underlying3 (wD _) w2.heap.size q _ rfl hown3 _ _ rfl hkey ?_;intro cc hat hwc)
           |(at_mapUpdate;refine wpList_mapUpdate_own _ rfl _ _ _ 60 rfl 9 3 jI Tryz.underlying60 _ w2.heap.size q _ rfl hown3 (by unfold maxLen;omega) _ _ _ rfl rfl hkey _ [] (plainElem_int Tryz.underlying3 (wrap64_wf _)) ?_;intro w4 hown4 hg4;have y4:=nR y1 (hg4.block _ (rI y1) (by intro e;have:=Bi e;omega));have p4:=nR p1 (hg4.block _ (rI p1) (by intro e;have:=Bi e;omega)))
           |go_in)
          have hcc:=vm (hat.symm.trans (hcnt x.key.domain));have hlen:(fc (l.take q) x.key.domain).length<=1000:=Bb (BU _ _) (by rw[DB];omega);have hw:wrap64 (cc+1)=(((fc (l.take q) x.key.domain).length+1:Nat):Int):=by rw[hcc,IntWalk.wrap64_in _ (by omega)];omega
          have htk:l.take (q+1)=l.take q++[x]:=by rw[Al hlq,hx]
          have hcn:=hcnt.put hown3.isMap x;rw[<-hw,<-htk]at hcn;have hms:=xZ c (l.take q) x;rw[<-htk]at hms;have hits:∀y∈l.take (q+1),dA c y now=0:=fun y hy=>by
           rw[htk]at hy;rcases AU.1 hy with hy|hy
           . exact hit y hy
           . rw[AQ.1 hy];exact hi0
          have hb4:RowKit.Below W.heap.size W w4:=(hbWX.trans (hb3.mono hbWX.size)).grown hg4 (hbWX.trans (hb3.mono hbWX.size)).size (fun j e=>by have:=Bi e;omega);have hl4:w2.heap.size<w4.heap.size:=A2 (by have:=hb3.size;omega) hg4.size;refine⟨⟨q+1,_,hlq,by go_num,?_,hown4,hcn,hits,hb4,hl4⟩,by simp[intOf];omega⟩;rw[hms,<-Bool.or_assoc,hf,BR]
        | false=>
          go_wp2_with (first
           |(go_at_call 21;refine hitem.mono ?_;rintro e w3 ⟨rfl,hb3⟩;have y1:=nR z1 (hb3.block _ (by omega));obtain⟨-,p1, -, -⟩:=hbox (hbWX.trans (hb3.mono hbWX.size));have hown3:=yB hown ((hb3.block _ (by omega)).trans hbX2))
           |(at_lookup;refine wpList_lookup_own_int _ rfl _ _ 60 rfl 9 3 .i64 jI Tryz.underlying60 Tryz.underlying3 (wD _) w2.heap.size q _ rfl hown3 _ _ rfl hkey ?_;intro cc hat hwc)
           |(at_mapUpdate;refine wpList_mapUpdate_own _ rfl _ _ _ 60 rfl 9 3 jI Tryz.underlying60 _ w2.heap.size q _ rfl hown3 (by unfold maxLen;omega) _ _ _ rfl rfl hkey _ [] (plainElem_int Tryz.underlying3 (wrap64_wf _)) ?_;intro w4 hown4 hg4;have y4:=nR y1 (hg4.block _ (rI y1) (by intro e;have:=Bi e;omega));have p4:=nR p1 (hg4.block _ (rI p1) (by intro e;have:=Bi e;omega));obtain⟨cc2,hrun2,hat2,hwc2⟩:=hown4.lookup_int jI Tryz.underlying60 Tryz.underlying3 (wD _) hkey)
           |go_in)
          have hcc:=vm (hat.symm.trans (hcnt x.key.domain));have hlen:(fc (l.take q) x.key.domain).length<=1000:=Bb (BU _ _) (by rw[DB];omega);have hw:wrap64 (cc+1)=(((fc (l.take q) x.key.domain).length+1:Nat):Int):=by rw[hcc,IntWalk.wrap64_in _ (by omega)];omega
          have htk:l.take (q+1)=l.take q++[x]:=by rw[Al hlq,hx]
          have hcn:=hcnt.put hown3.isMap x;rw[<-hw,<-htk]at hcn;have hms:=xZ c (l.take q) x;rw[<-htk]at hms;have hits:∀y∈l.take (q+1),dA c y now=0:=fun y hy=>by
           rw[htk]at hy;rcases AU.1 hy with hy|hy
           . exact hit y hy
           . rw[AQ.1 hy];exact hi0
          have hb4:RowKit.Below W.heap.size W w4:=(hbWX.trans (hb3.mono hbWX.size)).grown hg4 (hbWX.trans (hb3.mono hbWX.size)).size (fun j e=>by have:=Bi e;omega);have hl4:w2.heap.size<w4.heap.size:=A2 (by have:=hb3.size;omega) hg4.size;have hc2:cc2=(((fc (l.take q) x.key.domain).length+1:Nat):Int):=by
           have h5:=vm (hat2.symm.trans (hcn x.key.domain));rw[h5,htk,yQ,Ai rfl,AR];rfl
          refine⟨⟨q+1,_,hlq,by go_num,?_,hown4,hcn,hits,hb4,hl4⟩,by simp[intOf];omega⟩;rw[hms,<-Bool.or_assoc,hf,Dt,hc2]
      . have hql:q=l.length:=by omega
        subst hql;rw[Di]at hit;have hA:ep c l now=if l.any (gn c l)then 9 else 0:=by unfold ep;rw[Ah (by simp[h0]),Ah (by simp[hrl]),Ah (by simp[tU hit])]
        rw[Ii (G4 h0).2]at hA;have hg2:¬(l.length:Int)<(l.length:Int):=by omega
        generalize hf:(decide (c.total<(l.length:Int))||kQ c (l.take l.length))=f
        rw[Di]at hf;rw[hf]at hA
        cases f with
        | true=>
          go_wp2;go_ret;refine⟨?_,hbW.trans (hbv.mono (by omega))⟩
          first|rfl|(rw[hA];rfl)
        | false=>
          go_wp2;go_ret;refine⟨?_,hbW.trans (hbv.mono (by omega))⟩
          first|rfl|(rw[hA];rfl)
section
variable [Inhabited aL]
theorem GD {w:World} {p:Nat->Prop} {g:Bool} {c:aw} {v:Value} (h:Rd w p g (.agg c.enc) v):∃rv,v=jZ c rv/\Rd w p g (.ax Bs c.rules cI) rv:=by
 cases h with
 | @agg cs vs h1 h2=>
  obtain⟨l⟩:=vs;match l,h1 with
  |[x,y,z,r],_=>
   have e1:=nX (h2 0 _ _ rfl rfl);have e2:=nX (h2 1 _ _ rfl rfl);have e3:=nX (h2 2 _ _ rfl rfl);subst e1 e2 e3;exact⟨r,rfl,h2 3 _ _ rfl rfl⟩
def zQ:aH:={Y:=aw×List aa×Int,pre:=pk,args:=fun y=>[.agg y.1.enc,items y.2.1,i64 y.2.2],res:=fun y=>i64 (ep y.1 y.2.1 y.2.2)}
theorem IS (hdr:¬(default:aL).dr):CO kW zQ:=EB bD.ok (by
 rintro⟨c,l,now⟩ hp w args - hargs;obtain⟨h1,h2⟩:=hargs;match args,h1 with
 |[v0,v1,v2],_=>
 have e0:=h2 0 _ _ rfl rfl;have e1:=Jb (h2 1 _ _ rfl rfl);have e2:=nX (h2 2 _ _ rfl rfl);subst e2;obtain⟨rv,rfl,hr⟩:=GD e0;have fin:∀a cap,v1= .slice a l.length cap->(l=[]\/ ∃b off,a=some ⟨b,off,none⟩/\b<w.heap.size/\rowAt w b off l)->Calls Tryz.prog kW #[jZ c rv,v1, .int .i64 now] w fun e w'=>e= .returned (.int .i64 (ep c l now))/\Below w.heap.size w w':=fun a cap e h=>by
  subst e;exact MD hr h hp
 have hC:Calls Tryz.prog kW #[jZ c rv,v1, .int .i64 now] w fun e w'=>e= .returned (.int .i64 (ep c l now))/\Below w.heap.size w w':=by
  rcases e1 with⟨e,a,cap,hv⟩|⟨b,off,cap,hv,hb,hrow, -⟩
  . exact fin a cap (by rw[hv,show l=[]from e];rfl) (.inl e)
  . exact fin _ cap hv (.inr ⟨b,off,rfl,hb,hrow⟩)
 refine hC.mono ?_;rintro e w' ⟨rfl,hb⟩;exact⟨_,rfl, .inr (.int _ _),hb,fun h=>(hdr h).elim⟩)
end
end
end Go.Proofs
namespace Go.Proofs
open Go Go.Am Go.RowKit Go.Sy
section
variable [Inhabited aL]
theorem Jz {l:List aa} {x z:aa} (h:z∈eD l x):z=x\/z∈l:=by
 unfold eD at h;rcases AU.1 h with h|h
 . exact .inr (Bc.1 h).1
 . rcases As.1 h with h|h
   . exact .inl h
   . exact .inr (Bc.1 h).1
theorem Hb {l:List aa} {z:aa} (h:z∈fP l):z∈l:=by
 have :∀(l a:List aa),z∈l.foldl eD a->z∈a\/z∈l:=by
   intro l;induction l with
   |nil=>intro a h;exact .inl h
   |cons x l ih=>
    intro a h;rcases ih _ h with h|h
    . rcases Jz h with rfl|h
      . exact .inr Aj
      . exact .inl h
    . exact .inr (Au _ h)
 rcases this l [] h with h|h
 . cases h
 . exact h
def Ef:aH:={Y:=aw×List aa×Int,pre:=fun _=>True,args:=fun y=>[.agg y.1.enc,items y.2.1,i64 y.2.2],res:=fun _=> .bool true}
def jV (x:aa):Bool:=decide (x.key.name.length<=2000)&&decide (x.key.domain.length<=2000)&&decide (x.key.path.length<=2000)&&decide (x.ab.value.length<=2000)
def fS (c:aw) (l:List aa):Bool:=decide (l.length<=40)&&decide (c.rules.length<=20)&&c.rules.all (fun s=>decide (s.length<=300))&&l.all jV
def zR:aH:={Y:=aw×List aa,pre:=fun _=>True,args:=fun y=>[.agg y.1.enc,items y.2],res:=fun y=> .bool (fS y.1 y.2)}
def te (y:aw×List aa):aE:={α:=Nat,ok:=fun i=>y.2.length<=40/\y.1.rules.length<=20/\i<=y.1.rules.length/\ ∀s∈y.1.rules.take i,s.length<=300,μ:=fun i=>y.1.rules.length - i,bu:=[1,2,4],aV:=fun i=>[(5,i64 i)],bK:=fun _=>[]}
def tf (y:aw×List aa):aE:={α:=Nat,ok:=fun i=>y.2.length<=40/\y.1.rules.length<=20/\(∀s∈y.1.rules,s.length<=300)/\i<=y.2.length/\ ∀x∈y.2.take i,jV x=true,μ:=fun i=>y.2.length - i,bu:=[1,2,4],aV:=fun i=>[(6,i64 i)],bK:=fun _=>[]}
theorem IV:CO kY zR:=bO (cfg:=fun y=>eg bI (iI kY 4 (te y) (cq kY 9 (tf y)))) bD (fun _=>rfl) (fun _=>fb) (n:=900) (by
 rintro⟨c,l⟩ -
 (conv=>whnf)
 refine aP (fun h=>?_) fun h=>?_
 . have h:bj 40 (Int.ofNat l.length)=true:=h;rw[bF,Ac,Aa]at h
   (conv=>whnf)
   refine⟨?_,trivial⟩;show false=fS c l
   unfold fS;rw[Bh (by omega)];rfl
 have h:bj 40 (Int.ofNat l.length)=false:=h;rw[bF,Ae,Aa]at h;have hl:l.length<=40:=by omega
 (conv=>whnf)
 refine aP (fun h2=>?_) fun h2=>?_
 . have h2:bj 20 (Int.ofNat c.rules.length)=true:=h2;rw[bF,Ac,Aa]at h2
   (conv=>whnf)
   refine⟨?_,trivial⟩;show false=fS c l
   unfold fS;rw[Bh (p:=c.rules.length<=20) (by omega)];simp
 have h2:bj 20 (Int.ofNat c.rules.length)=false:=h2;rw[bF,Ae,Aa]at h2;have hr:c.rules.length<=20:=by omega
 (conv=>whnf)
 refine⟨⟨(0:Nat),⟨hl,hr,A7 _,by simp⟩,?_⟩,?_⟩
 . repeat' (first|exact trivial|exact rfl|((conv=>whnf);first|(apply aP<;>intro)|apply And.intro))
 intro (i:Nat) hi;have i1:i<=c.rules.length:=hi.2.2.1;have i2:∀s∈c.rules.take i,s.length<=300:=hi.2.2.2
 (conv=>whnf)
 refine aP (fun hlt=>?_) fun hge=>?_
 . have hlt':i<c.rules.length:=cp hlt;have mu:c.rules.length - (i+1)<c.rules.length - i:=by omega
   (conv=>whnf)
   refine au.2 ⟨_,dH hlt',?_⟩
   (conv=>whnf)
   refine aP (fun h3=>?_) fun h3=>?_
   . have h3:bj 300 (Int.ofNat c.rules[i].length)=true:=h3;rw[bF,Ac,Aa]at h3
     (conv=>whnf)
     refine⟨?_,trivial⟩;show false=fS c l
     symm;rw[Ap];intro e;unfold fS at e;simp only[Ad,Aq,Ac]at e;have:=e.1.2 _ (Av hlt');omega
   . have h3:bj 300 (Int.ofNat c.rules[i].length)=false:=h3;rw[bF,Ae,Aa]at h3
     (conv=>whnf)
     refine ag.2 ⟨cB i (by omega),?_⟩
     (conv=>whnf)
     refine⟨(i+1:Nat),⟨hl,hr,hlt',fun s hs=>by
       rw[Al hlt']at hs;rcases AU.1 hs with hs|hs
       . exact i2 s hs
       . rw[AQ.1 hs];omega⟩,mu,?_⟩
     repeat' (first|exact trivial|exact rfl|((conv=>whnf);first|(apply aP<;>intro)|apply And.intro))
 . have hge':=ff hge;have hil:c.rules.take i=c.rules:=Ax (by have hge':¬(i:Int)<(c.rules.length:Int):=hge';omega);rw[hil]at i2
   (conv=>whnf)
   refine⟨⟨(0:Nat),⟨hl,hr,i2,A7 _,by simp⟩,?_⟩,?_⟩
   . repeat' (first|exact trivial|exact rfl|((conv=>whnf);first|(apply aP<;>intro)|apply And.intro))
   intro (j:Nat) hj;have j1:j<=l.length:=hj.2.2.2.1;have j2:∀x∈l.take j,jV x=true:=hj.2.2.2.2
   (conv=>whnf)
   refine aP (fun hlt=>?_) fun hge=>?_
   . have hlt':j<l.length:=cp hlt;have mu:l.length - (j+1)<l.length - j:=by omega
     have hno:jV l[j]=false->fS c l=false:=fun e=>by
       rw[Ap];intro h4;unfold fS at h4;simp only[Ad,Aq]at h4;rw[h4.2 _ (Av hlt')]at e;cases e
     (conv=>whnf)
     refine au.2 ⟨_,dH hlt',?_⟩
     (conv=>whnf)
     refine aP (fun k0=>?_) fun k0=>?_
     . have k0:bj 2000 (Int.ofNat l[j].key.name.length)=true:=k0;rw[bF,Ac,Aa]at k0
       (conv=>whnf)
       refine⟨?_,trivial⟩;show false=fS c l
       exact(hno (by unfold jV;rw[Bh (p:=l[j].key.name.length<=2000) (by omega)];simp)).symm
     have k0:bj 2000 (Int.ofNat l[j].key.name.length)=false:=k0;rw[bF,Ae,Aa]at k0
     (conv=>whnf)
     refine au.2 ⟨_,dH hlt',?_⟩
     (conv=>whnf)
     refine aP (fun k1=>?_) fun k1=>?_
     . have k1:bj 2000 (Int.ofNat l[j].key.domain.length)=true:=k1;rw[bF,Ac,Aa]at k1
       (conv=>whnf)
       refine⟨?_,trivial⟩;show false=fS c l
       exact(hno (by unfold jV;rw[Bh (p:=l[j].key.domain.length<=2000) (by omega)];simp)).symm
     have k1:bj 2000 (Int.ofNat l[j].key.domain.length)=false:=k1;rw[bF,Ae,Aa]at k1
     (conv=>whnf)
     refine au.2 ⟨_,dH hlt',?_⟩
     (conv=>whnf)
     refine aP (fun k2=>?_) fun k2=>?_
     . have k2:bj 2000 (Int.ofNat l[j].key.path.length)=true:=k2;rw[bF,Ac,Aa]at k2
       (conv=>whnf)
       refine⟨?_,trivial⟩;show false=fS c l
       exact(hno (by unfold jV;rw[Bh (p:=l[j].key.path.length<=2000) (by omega)];simp)).symm
     have k2:bj 2000 (Int.ofNat l[j].key.path.length)=false:=k2;rw[bF,Ae,Aa]at k2
     (conv=>whnf)
     refine au.2 ⟨_,dH hlt',?_⟩
     (conv=>whnf)
     refine aP (fun k3=>?_) fun k3=>?_
     . have k3:bj 2000 (Int.ofNat l[j].ab.value.length)=true:=k3;rw[bF,Ac,Aa]at k3
       (conv=>whnf)
       refine⟨?_,trivial⟩;show false=fS c l
       exact(hno (by unfold jV;rw[Bh (p:=l[j].ab.value.length<=2000) (by omega)];simp)).symm
     have k3:bj 2000 (Int.ofNat l[j].ab.value.length)=false:=k3;rw[bF,Ae,Aa]at k3
     (conv=>whnf)
     refine ag.2 ⟨cB j (by omega),?_⟩
     (conv=>whnf)
     refine⟨(j+1:Nat),⟨hl,hr,i2,hlt',fun x hx=>by
       rw[Al hlt']at hx;rcases AU.1 hx with hx|hx
       . exact j2 x hx
       . rw[AQ.1 hx];unfold jV;rw[Bo (p:=l[j].key.name.length<=2000) (by omega),Bo (p:=l[j].key.domain.length<=2000) (by omega),Bo (p:=l[j].key.path.length<=2000) (by omega),Bo (p:=l[j].ab.value.length<=2000) (by omega)];rfl⟩,mu,?_⟩
     repeat' (first|exact trivial|exact rfl|((conv=>whnf);first|(apply aP<;>intro)|apply And.intro))
   . have hge':=ff hge;have hjl:l.take j=l:=Ax (by have hge':¬(j:Int)<(l.length:Int):=hge';omega);rw[hjl]at j2
     (conv=>whnf)
     refine⟨?_,trivial⟩;show true=fS c l
     unfold fS;rw[Bo hl,Bo hr,Ba,Ba,Aq.2 (fun s hs=>Bo (i2 s hs)),Ba,Aq.2 j2])
theorem Ju {c:aw} {l:List aa} (h:fS c l=true) (now:Int):pk (c,l,now)/\pk (c,fP l,now)/\l.length<=1000:=by
 unfold fS at h;simp only[Ad,Aq,Ac]at h;obtain⟨⟨⟨h1,h2⟩,h3⟩,h4⟩:=h;have hs:∀x∈l,mA x:=fun x hx=>by
  have h5:=h4 x hx;unfold jV at h5;simp only[Ad,Ac]at h5;exact⟨h5.1.1.1,h5.1.1.2,h5.1.2,h5.2⟩
 have hr:mz c:=⟨by omega,fun s hs=>by have:=h3 s hs;omega⟩;have hb:(fP l).length<=l.length:=by have:=ua l [];unfold fP;simpa using this
 exact⟨⟨hr,by show l.length<=1000;omega,hs⟩,⟨hr,by show(fP l).length<=1000;omega,fun x hx=>hs x (Hb hx)⟩,by omega⟩
noncomputable def o5 (f:FuncId):Option aH:=bif Nat.beq f kW then some zQ else bif Nat.beq f kZ then some yY else bif Nat.beq f kY then some zR else bif Nat.beq f kX then some rW else sM f
theorem JR (hdr:¬(default:aL).dr):∀f C,o5 f=some C->CO f C:=bM (IS hdr) (bM HG (bM IV (bM HD uO)))
theorem Hj (hdr:¬(default:aL).dr):CO Ni Ef:=bO (cfg:=fun(_:aw×List aa×Int)=>eg o5 (fun _ _=>none)) bD (fun _=>rfl) (fun _=>JR hdr) (n:=900) (by
 rintro⟨c,l,now⟩ -
 (conv=>whnf)
 refine⟨(c,l),?_⟩
 repeat ((conv=>whnf);first|refine⟨rfl,?_⟩|refine⟨trivial,?_⟩)
 (conv=>whnf)
 refine aP (fun h=>?_) fun h=>?_
 . (conv=>whnf)
   refine⟨(),?_⟩
   repeat ((conv=>whnf);first|refine⟨rfl,?_⟩|refine⟨trivial,?_⟩)
   repeat' (first|exact trivial|exact rfl|((conv=>whnf);first|(apply aP<;>intro)|apply And.intro))
 have h:(!fS c l)=false:=h;have h:fS c l=true:=by simpa using h
 obtain⟨k1,k2,k3⟩:=Ju h now
 (conv=>whnf)
 refine⟨l,?_⟩
 repeat ((conv=>whnf);first|refine⟨rfl,?_⟩|refine⟨trivial,?_⟩)
 refine⟨k3,?_⟩
 (conv=>whnf)
 refine⟨(c,l,now),?_⟩
 repeat ((conv=>whnf);first|refine⟨rfl,?_⟩|refine⟨trivial,?_⟩)
 refine⟨k1,?_⟩
 (conv=>whnf)
 refine⟨(c,l,now),?_⟩
 repeat ((conv=>whnf);first|refine⟨rfl,?_⟩|refine⟨trivial,?_⟩)
 refine⟨k1,?_⟩
 (conv=>whnf)
 refine af.2 ⟨fun _=>?_,fun h5=>absurd (show(ep c l now==ep c l now)=false from h5) (by simp)⟩
 (conv=>whnf)
 refine⟨(c,fP l,now),?_⟩
 repeat ((conv=>whnf);first|refine⟨rfl,?_⟩|refine⟨trivial,?_⟩)
 refine⟨k2,?_⟩
 (conv=>whnf)
 refine⟨(c,fP l,now),?_⟩
 repeat ((conv=>whnf);first|refine⟨rfl,?_⟩|refine⟨trivial,?_⟩)
 refine⟨k2,?_⟩
 (conv=>whnf)
 refine af.2 ⟨fun _=>?_,fun h5=>absurd (show(ep c (fP l) now==ep c (fP l) now)=false from h5) (by simp)⟩
 (conv=>whnf)
 refine⟨(),?_⟩
 repeat ((conv=>whnf);first|refine⟨rfl,?_⟩|refine⟨trivial,?_⟩)
 repeat' (first|exact trivial|exact rfl|((conv=>whnf);first|(apply aP<;>intro)|apply And.intro)))
end
end Go.Proofs
