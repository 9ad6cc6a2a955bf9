/- Part 11: an evaluator, proved sound, and its use at this seat; no condition. -/
import Derived.WalkKit
import Derived.LoopTactic
import Derived.Deep.RegionHeld3
import Derived.Test.YtcnemjkdbaicnaaGreatP3
import Derived.Test.YtcnemjkdbaicnaaGreatP8
import Derived.Test.YtcnemjkdbaicnaaGreatP10
set_option linter.unusedSimpArgs false
set_option linter.unusedVariables false
set_option linter.unusedSectionVars false
set_option linter.deprecated false
set_option maxRecDepth 100000
set_option maxHeartbeats 40000000
namespace Go.Proofs
open Go Go.Am Go.RowKit Go.Sy
def rL:aL:={Y:=Unit,pre:=fun _=>True,args:=fun _=>[],res:=fun _=> .bool true}
theorem E0 {P:Program} {f:FuncId} {fn:Func} {l:List Item} {R:Ending->World->Prop} {a:Act} {w:World} {v:Value} (hr:(results fn a.tmps).run P w= .ok v w) (hd:a.defers=[]) (hR:R (.returned v) w):G5 P f fn l R .ret a w:=⟨hd,v,hr,hR⟩
theorem eF.mono {P:Program} {f:FuncId} {l:List Item} {a:Act} {w:World} {R R':Ending->World->Prop} (h:eF P f l a w R) (hr:∀e w',R e w'->R' e w'):eF P f l a w R':=fun cs=>by
 obtain⟨e,w',fr,h1,h2⟩:=h cs;grind
theorem Hp [Inhabited aK] (hdr:¬(default:aK).dr) {f:FuncId} (ha:∀w,Calls Tryz.prog f #[] w fun e w'=>e= .returned (.bool true)/\Below w.heap.size w w'):CO f rL:=jx bh.ok (by
 rintro y - w args hold ⟨h1,h2⟩;match args,h1 with
 |[],_=>
 refine(ha w).mono ?_;rintro e w' ⟨rfl,hb⟩;exact⟨_,rfl, .inr (.bool true),hb,fun h=>(hdr h).elim⟩)
end Go.Proofs
namespace Go.Proofs
open Go Go.Am Go.RowKit Go.Sy Go.Gm Go.Maps Go.Sort Go.Shelf
section
section
variable [Inhabited aK]
theorem Xk (m:aP):(gQ m).length<=m.kept.length:=by
 have h1:=yl m (cC m) [];have h2:(cC m).length<=m.kept.length:=AZ _ _;grind [gQ,cU]
theorem qvd (m:aP):(iH m).length<=m.kept.length:=by grind [iH,Xk]
end
end
theorem Gq [Inhabited aK] {l:List af} (h:(bT (Int.ofNat l.length) 30&&l.all jE)=true):l.length<=30/\rH l:=by
 rw[Ad,fg,Aa,AG]at h;have h1:(l.length:Int)<=30:=h.1;exact⟨by omega,by omega,h.2⟩
theorem Xq [Inhabited aK] {l:List af} {i:Nat} (h:i<l.length):foldM (l.take (i+1))=(ew (foldM (l.take i)) l[i]).1:=lp (fun m e=>(ew m e).1) oF h
theorem qya [Inhabited aK] {m:aP} {e x:af} (h:x∈(ew m e).1.kept):x∈m.kept\/x=e:=by
 grind [ew,gC]
theorem NP [Inhabited aK] (l:List af) {x:af} (h:x∈(foldM l).kept):x∈l:=by
 have key:∀(l:List af) (m:aP),x∈(l.foldl (fun m e=>(ew m e).1) m).kept->x∈m.kept\/x∈l:=by
   intro l;induction l with
   |nil=>grind
   |cons e l ih=>
    grind [qya]
 rcases key l oF h with h|h
 . cases h
 omega
theorem xp {w:World} {n b bk ba bd bs bv:Nat} {G:bH} {l:List af} (h:cW w n b bk ba bd bs bv G) (g:cV G (foldM l)) (hl:rH l): @cT (oH w) b (foldM l):=by
 letI:Inhabited aK:=oH w
 have hb:=qh hl.2 l.length (Ac _);rw[A6]at hb;exact Zf h g (hb.ok (by have:=hl.1;omega)) fun e he=>by
  have:=(xx (hl.2 e (NP l he))).2;omega
section
theorem UH {w:World} {n b bk ba bd bs bv:Nat} {G:bH} (h:cW w n b bk ba bd bs bv G) (hl:G.kept.length<=100000) (k:Nat) (hk:k<=1000000):Calls Tryz.prog 51 #[.pointer (some ⟨b,0,none⟩), .int .i64 k] w fun e w'=>e= .returned (.bool (decide ((k:Int)<=2048 - (G.kept.length:Int))))/\w'=w:=by
 obtain⟨es,clk,hb,hsz⟩:=h.iP.len;have c0:=h.c0;have hlen:(Builtin.len_ #[102] 3 #[.map (some bk)]).run Tryz.prog w= .ok (.int .i64 G.kept.length) w:=by
  rw[run_len_map w 102 3 bk es clk (by simp[Program.mapKeyOf,Program.mapElemOf,Tryz.underlying102]) hb,hsz];rfl
 have hwr:wrap64 (2048 - (G.kept.length:Int))=2048 - (G.kept.length:Int):=by
  grind [IntWalk.wrap64_in]
 clear h hb;go_enter Tryz.func51,Tryz.ntmps51
 go_wp2;go_ret;simp_all
variable [Inhabited aK]
def PX:aL:={Y:=Nat×aP×Nat,pre:=fun y=>cT y.1 y.2.1/\y.2.2<=1000000,args:=fun y=>[.wp ⟨y.1,0,none⟩,i64 y.2.2],res:=fun y=> .bool (decide (y.2.1.kept.length+y.2.2<=2048))}
theorem qyR (hdr:¬(default:aK).dr):CO JT PX:=jx bh.ok (by
 rintro⟨b,m,k⟩ ⟨hpre,hk⟩ w args hold ⟨h1,h2⟩;match args,h1 with
 |[v,u],_=>
 have e1:=IQ (h2 0 _ _ rfl rfl);have e2:=RF (h2 1 _ _ rfl rfl);subst e1 e2;obtain⟨n,bk,ba,bd,bs,bv,G,hO,hG⟩:=hpre.at_ w hold;have hkl:=hpre.ok.kept;refine(UH hO (by rw[hG.len];omega) k hk).mono ?_;rintro e w' ⟨rfl,rfl⟩;refine⟨_,rfl, .inr ?_,Below.refl _ _,fun h=>(hdr h).elim⟩;rw[hG.len,show decide ((k:Int)<=2048 - (m.kept.length:Int))=decide (m.kept.length+k<=2048)from by grind];exact .bool _)
end
section
section
variable [Inhabited aK]
end
theorem cell_of {w:World} {b o:Nat} {arr:Array Value} {ty:TypeId} {fz:Nat×Nat} (h:w.heap[b]? =some (.cells arr ty fz)):w.cell? ⟨b,o,none⟩=arr[o]? :=by grind [World.cell?]
end
def chunk (n:Nat) (s:List au):List (List au):=match n with
 |0=>[]
 |n+1=>if s=[]then[]else s.take 64::chunk n (s.drop 64)
def qxV (v:Value):List Value:=[.int .i64 2, .string ⟨#[]⟩, .string ⟨#[]⟩, .string ⟨#[]⟩, .string ⟨#[]⟩, .bool false, .bool false, .bool false, .bool false, .int .i64 0, .int .i64 0, .int .i64 0,v]
section
structure bD where
 kind:Int
 item:ab
 over:List au
def bD.enc (x:bD):List SV:=[.int .i64 x.kind, .str x.item.key.name, .str x.item.key.domain, .str x.item.key.path, .str x.item.aa.value, .bool x.item.aa.aD, .bool x.item.aa.aM, .bool x.item.aa.aF, .bool x.item.aa.persistent,
 .int .i64 x.item.aa.aR, .int .i64 x.item.aa.ai, .int .i64 x.item.aa.access,cK x.over]
def kf (l:List bD):SV:= .bn bD l bD.enc
def rmD (c:List au):bD:=⟨2,iR,c⟩
def ZW (l:List au):List bD:=(chunk (dL cA l).length (dL cA l)).map rmD
section
variable [Inhabited aK]
def qU (l:List bD):Prop:=l.length<=100000/\ ∀d∈l,d.over.length<=64
end
end
section
def ui (m:aP) (l:List ab):List au:=l.flatMap fun x=>l9 m x.key
section
variable [Inhabited aK]
end
end
section
variable [Inhabited aK]
structure okC (c:List au):Prop where
 ne:c≠[]
 le:c.length<=64
 dot:∀d∈c,fJ d=true
 own:∀d∈c,¬(d.dev=63/\d.inc=1048576)
 up:c.Pairwise fun x y=>cA x y=true
end
section
section
variable [Inhabited aK]
end
end
section
theorem vw:∀(k:Nat) (s:List au),s.length<=k->(chunk k s).length=(s.length+63) / 64
 |0,s,h=>by
  have:s.length=0:=by omega
  rw[this];rfl
 |k+1,s,h=>by
  unfold chunk;split
  . rename_i e;rw[e];rfl
  . rename_i e;have:=A4.2 e;rw[AW,vw k (s.drop 64) (by rw[Bt];omega),Bt];omega
section
variable [Inhabited aK]
end
end
section
def jo (w:World) (u:Value) (m:aP):Prop:=∃vc vk vd,u= .agg #[vc,vk,vd]/\cL w m.ctx vc/\eJ w m.kept vk/\cL w m.dead vd
theorem jo.cells {w w':World} (hc:kc w w') {u:Value} {m:aP} (h:jo w u m):jo w' u m:=by
 obtain⟨vc,vk,vd,h1,h2,h3,h4⟩:=h;exact⟨vc,vk,vd,h1,h2.cells hc,h3.cells hc,h4.cells hc⟩
section
variable [Inhabited aK]
theorem Ry {w:World} {p:Nat->Prop} {g:Bool} {m:aP} {u:Value} (h:Rd w p g (.agg m.enc) u):jo w u m:=by
 cases h with
 | @agg cs vs h1 h2=>
  obtain⟨l⟩:=vs;match l,h1 with
  |[x,y,z],_=>exact⟨x,y,z,rfl,Gw (h2 0 _ _ rfl rfl),Py (h2 1 _ _ rfl rfl),Gw (h2 2 _ _ rfl rfl)⟩
end
end
structure iL (b0:Nat) (w w':World):Prop where
 same:∀i,i≠b0->w'.heap[i]? =w.heap[i]?
 bare:∀arr e fz,w.heap[b0]? =some (.cells arr e fz)->∀(i:Nat) (k:IntKind) (z:Int),arr[i]? ≠some (Value.int k z)
theorem cL.box {w w':World} {b0:Nat} (hb:iL b0 w w') {l:List au} {v:Value} (h:cL w l v):cL w' l v:=by
 rcases h with h|⟨b,off,cap,arr,e,fz,rfl,h2,h3,h4,h5⟩
 . exact .inl h
 . by_cases h0:l=[]
   . subst h0;exact .inl ⟨rfl,_,_,rfl⟩
   . refine .inr ⟨b,off,cap,arr,e,fz,rfl,?_,h3,h4,h5⟩;rw[hb.same b fun eb=>?_]
     . exact h2
     . subst eb;exact hb.bare arr e fz h2 _ _ _ (h5 0 (A4.2 h0)).1
theorem eJ.box {w w':World} {b0:Nat} (hb:iL b0 w w') {l:List af} {v:Value} (h:eJ w l v):eJ w' l v:=by
 rcases h with h|⟨b,off,cap,arr,e,fz,rfl,h2,h3,h4,h5⟩
 . exact .inl h
 . by_cases h0:l=[]
   . subst h0;exact .inl ⟨rfl,_,_,rfl⟩
   . refine .inr ⟨b,off,cap,arr,e,fz,rfl,?_,h3,h4,fun i hi=>by obtain⟨u,k1,k2⟩:=h5 i hi;exact⟨u,k1,k2.box hb⟩⟩;rw[hb.same b fun eb=>?_]
     . exact h2
     . subst eb;obtain⟨u,k1,_⟩:=h5 0 (A4.2 h0);exact hb.bare arr e fz h2 _ _ _ (k1 0 (by omega))
theorem jo.box {w w':World} {b0:Nat} (hb:iL b0 w w') {u:Value} {m:aP} (h:jo w u m):jo w' u m:=by
 obtain⟨vc,vk,vd,h1,h2,h3,h4⟩:=h;exact⟨vc,vk,vd,h1,h2.box hb,h3.box hb,h4.box hb⟩
theorem cW.box {w w':World} {n b bk ba bd bs bv b0:Nat} {G:bH} (h:cW w n b bk ba bd bs bv G) (hb:iL b0 w w') (h0:b0<n):cW w' n b bk ba bd bs bv G:=by
 have hl:=h.low;simp only[Ap,AL]at hl;have ne:∀j,n<=j->w'.heap[j]? =w.heap[j]? :=fun j hj=>hb.same j (by omega)
 exact⟨eo h.c0 (ne _ (hl _ (.inl rfl))),eo h.c1 (ne _ (hl _ (.inl rfl))),eo h.c2 (ne _ (hl _ (.inl rfl))),eo h.c3 (ne _ (hl _ (.inl rfl))),eo h.cv (ne _ (hl _ (.inr (.inl rfl)))),
  h.iP.same (ne _ (hl _ (.inr (.inr (.inl rfl))))),h.ma.same (ne _ (hl _ (.inr (.inr (.inr (.inl rfl)))))),h.md.same (ne _ (hl _ (.inr (.inr (.inr (.inr (.inl rfl))))))),h.mv.same (ne _ (hl _ (.inr (.inr (.inr (.inr (.inr (.inl rfl)))))))),
  fun x hx=>(h.mi x hx).same (ne _ (hl _ (.inr (.inr (.inr (.inr (.inr (.inr ⟨x,hx,rfl⟩)))))))),h.nd,h.low,fun x hx=>by obtain⟨v,k1,k2⟩:=h.ev x hx;exact⟨v,k1,k2.box hb⟩⟩
theorem sL {w:World} {b o:Nat} {arr:Array Value} {ty:TypeId} {fz:Nat×Nat} (h:w.heap[b]? =some (.cells arr ty fz)) (v:Value):(w.setCell ⟨b,o,none⟩ v).heap[b]? =some (.cells (arr.setIfInBounds o v) ty fz):=by
 have h4:=(Ab.1 h).2;grind [World.setCell]
theorem Fo {w:World} {b o:Nat} {arr:Array Value} {ty:TypeId} (h:w.heap[b]? =some (.cells arr ty (0,0))):w.frozen? ⟨b,o,none⟩=false:=by grind [World.frozen?]
theorem Qf {w:World} {b:Nat} (h:w.heap[b]? =some (.cells #[.slice none 0 0, .slice none 0 0, .slice none 0 0] 36 (0,0))) (x y z:Value):∃W1 W2 W3,w.setCell ⟨b,0,none⟩ x=W1/\W1.setCell ⟨b,1,none⟩ y=W2/\W2.setCell ⟨b,2,none⟩ z=W3/\
   w.cell? ⟨b,0,none⟩=some (.slice none 0 0)/\w.frozen? ⟨b,0,none⟩=false/\W1.cell? ⟨b,1,none⟩=some (.slice none 0 0)/\W1.frozen? ⟨b,1,none⟩=false/\W2.cell? ⟨b,2,none⟩=some (.slice none 0 0)/\W2.frozen? ⟨b,2,none⟩=false/\
   W3.cell? ⟨b,0,none⟩=some x/\W3.cell? ⟨b,1,none⟩=some y/\W3.cell? ⟨b,2,none⟩=some z/\iL b w W3/\ ∀B,B<=b->Below B w W3:=by
 have h1:=sL (o:=0) h x;have h2:=sL (o:=1) h1 y;have h3:=sL (o:=2) h2 z;refine⟨_,_,_,rfl,rfl,rfl,cell_of h,Fo h,cell_of h1,Fo h1,cell_of h2,Fo h2,cell_of h3,cell_of h3,cell_of h3,⟨fun i hi=>?_,fun arr e fz ha i k q=>?_⟩,fun B hB=>?_⟩
 . rw[Below.heap_setCell _ _ _ _ hi,Below.heap_setCell _ _ _ _ hi,Below.heap_setCell _ _ _ _ hi]
 . rw[h]at ha;grind
 . exact(((Below.refl B w).setCell hB x).setCell hB y).setCell hB z
theorem Ss {w:World} {b:Nat} {x y z:Value} (h0:w.cell? ⟨b,0,none⟩=some x) (h1:w.cell? ⟨b,1,none⟩=some y) (h2:w.cell? ⟨b,2,none⟩=some z):(loadVar 36 ⟨b,0,none⟩).run Tryz.prog w= .ok (.agg #[x,y,z]) w:=by
 have h:w.rangeAt b 0 [x,y,z]:=fun j v hj=>by
  match j with
  |0=>grind
  |1=>grind
  |2=>grind
  |_+3=>cases hj
 exact run_loadVar_mid w b 0 36 [x,y,z] _ h Tryz.underlying36 rfl (by kernel_rfl)
theorem Vb {fn:Func} {s t:Tmp} {ty:TypeId} (h:fn.results=#[.tmp s, .cell t ty]) {tmps:Array Value} {w:World} {a:Addr} {v:Value} (hp:tmps.getD t undef= .pointer (some a)) (hl:(loadVar ty a).run Tryz.prog w= .ok v w):(results fn tmps).run Tryz.prog w= .ok (.tuple #[tmps.getD s undef,v]) w:=by
 have hp':tmps[t]?.getD undef= .pointer (some a):=by simp_all
 simp_all[results,asAddr]
theorem cW.mono {w:World} {n k b bk ba bd bs bv:Nat} {G:bH} (h:cW w n b bk ba bd bs bv G) (hk:k<=n):cW w k b bk ba bd bs bv G:={h with low:=fun j hj=>Av hk (h.low j hj)}
theorem Tryz.fold {l:List af} {v:Value} {w:World} (hv:eJ w l v) (hl:rH l):Calls Tryz.prog 27 #[v] w fun e w'=>∃u,e= .returned u/\jo w' u (foldM l)/\Below w.heap.size w w':=by
 letI:Inhabited aK:=⟨⟨True,#[]⟩⟩
 have h:=mo bh.ok Pa (fn:=Tryz.f27) (hfn:=by kernel_rfl) (hb:=rfl) (y:=l) hl (args:=[v]) (w:=w) (PL.cons (qzf (yC l) (zy hv)) PL.nil) (cX.o8 rfl _);refine Calls.mono h ?_;rintro e w' ⟨u,rfl,hu,hb,_⟩;exact⟨u,rfl,Ry hu,hb⟩
theorem C3 {l:List af} {v:Value} {w:World} (hv:eJ w l v) (hlt:rH l) (hl30:l.length<=30):
  Calls Tryz.prog 9 #[v] w fun e w'=>∃b bk ba bd bs bv G u,e= .returned (.tuple #[.pointer (some ⟨b,0,none⟩),u])/\cW w' w.heap.size b bk ba bd bs bv G/\cV G (foldM l)/\jo w' u (foldM l)/\Below w.heap.size w w':=by
 obtain⟨sa,sc,rfl⟩:=hv.one;obtain⟨W0,hW0⟩:∃W0,w.alloc (.cells #[.slice none 0 0, .slice none 0 0, .slice none 0 0] 36)=W0:=⟨_,rfl⟩;have hbW0:Below w.heap.size w W0:=by rw[<-hW0];exact(Below.refl _ _).alloc (Ac _) _
 have sW0:W0.heap.size=w.heap.size+1:=by rw[<-hW0];exact DG _
 have hbx:W0.heap[w.heap.size]? =some (.cells #[.slice none 0 0, .slice none 0 0, .slice none 0 0] 36 (0,0)):=by rw[<-hW0];grind [World.alloc_heap_new]
 have hv0:=hv.cells (dJ hbW0);have hnew:=Kn W0;go_enter Tryz.func9,Tryz.ntmps9
 go_wp2_with (go_at_call 26;refine hnew.mono ?_;rintro e w2 ⟨b,bk,ba,bd,bs,bv,rfl,hO,hb2⟩)
 have hv2:=hv0.cells (dJ hb2);go_loopw [5] (fun i wr=>∃(k:Nat) (G:bH),k<=l.length/\i= .int .i64 k/\eJ wr l (.slice sa l.length sc)/\cW wr W0.heap.size b bk ba bd bs bv G/\cV G (foldM (l.take k))/\Below W0.heap.size W0 wr)
  (fun i _=>l.length - (intOf i).toNat)
 case atStart=>exact⟨0,_,Ao _,rfl,hv2,hO,cV.start,hb2⟩
 case round=>
  obtain⟨k,G,hk,rfl,hvr,hOr,hgr,hbr⟩:=hrel;by_cases hlt2:k<l.length
  . obtain⟨bb,off,cap,arr,ty,fz,hsl,hbb,hcap,hsz,hcells⟩:=hvr.resolve_left (fun h=>by rw[h.1]at hlt2;grind);simp only[Value.slice.injEq]at hsl;obtain⟨rfl, -,rfl⟩:=hsl;obtain⟨u,hcu,hdu⟩:=hcells k hlt2;have hld:=S8 hbb hcu;have hlk:=hlt.2 l[k] (AF hlt2);obtain⟨hsm,hov⟩:= @xx ⟨⟨True,#[]⟩⟩ _ hlk;have hok:fQ (foldM (l.take k)):= @dV.ok ⟨⟨True,#[]⟩⟩ _ _ (@qh ⟨⟨True,#[]⟩⟩ l hlt.2 k hk) (by omega);have happ:=Tryz.apply hOr hgr hbr.size (e:=l[k]) (u:=iK l[k] u) ⟨u,rfl,hdu⟩ hsm (by omega) hok;obtain⟨SZ,mm,hSZ,hsz2,hm⟩:=vD;obtain⟨cs,hcs⟩:∃cs:Array Value,(db l[k] u).toArray=cs:=⟨_,rfl⟩;have hcz:cs.size=mm:=by rw[<-hcs];exact(show(19:Nat)=mm from Eq.symm hm)
    rw[show iK l[k] u= .agg cs from by rw[<-hcs];rfl]at happ;rw[hcs,<-(hm:mm=19)]at hld;clear hbx;go_wp2_with (go_at_call 23;refine happ.mono ?_;rintro e wn ⟨rfl,hbn,hcn,G',hO',hg'⟩)
    exact⟨⟨k+1,G',hlt2,by go_num,hvr.cells hcn,hO',by rw[@Xq ⟨⟨True,#[]⟩⟩ l k hlt2];omega,hbr.trans hbn⟩,by grind [intOf]⟩
  . have hkl:k=l.length:=by omega
    subst hkl;rw[A6]at hgr;have hfold:=Tryz.fold hvr hlt;have hbxr:=(hbr.block _ (Ab.1 hbx).1).trans hbx;go_wp2_with (go_at_call 27;refine hfold.mono ?_;rintro e w3 ⟨u,rfl,⟨vc,vk,vd,rfl,hm1,hm2,hm3⟩,hb3⟩;have hbx3:=(hb3.block _ (Ab.1 hbxr).1).trans hbxr;obtain⟨ca,na,pa,rfl⟩:=hm1.one;obtain⟨ck,pk,rfl⟩:=hm2.one;obtain⟨cd,nd,pd,rfl⟩:=hm3.one;obtain⟨W1,W2,W3,e1,e2,e3,c0,f0,c1,f1,c2,f2,g0,g1,g2,hbb,hbel⟩:=Qf hbx3 (.slice ca na pa) (.slice ck (foldM l).kept.length pk) (.slice cd nd pd);clear hbx3)
    refine bodyPost_ret (Vb rfl rfl (Ss g0 g1 g2)) rfl ?_;have hm:jo W3 (.agg #[.slice ca na pa, .slice ck (foldM l).kept.length pk, .slice cd nd pd]) (foldM l):=⟨_,_,_,rfl,hm1.box hbb,hm2.box hbb,hm3.box hbb⟩;have hO3:=(hOr.below hb3).box hbb (show w.heap.size<W0.heap.size by omega);refine⟨b,bk,ba,bd,bs,bv,G,_,rfl,hO3.mono (by omega),hgr,hm,?_⟩;have h1:=Av hbW0.size hbr.size;exact((hbW0.trans (hbr.mono hbW0.size)).trans (hb3.mono h1)).trans (hbel _ (Ac _))
def qK (w:World) (cs:List (List au)) (v:Value):Prop:=(cs=[]/\ ∃a c,v= .slice a 0 c)\/ ∃b off cap arr e fz,v= .slice (some ⟨b,off,none⟩) cs.length cap/\w.heap[b]? =some (.cells arr e fz)/\cs.length<=cap/\off+cs.length*13<=arr.size/\
 ∀i (h:i<cs.length),∃u,(∀j,j<13->arr[off+i*13+j]? =(qxV u)[j]?)/\cL w cs[i] u
theorem qK.cells {w w':World} (hc:kc w w') {l:List (List au)} {v:Value} (h:qK w l v):qK w' l v:=by
 rcases h with h|⟨b,off,cap,arr,e,fz,h1,h2,h3,h5,h4⟩
 . exact .inl h
 . exact .inr ⟨b,off,cap,arr,e,fz,h1,hc _ _ _ _ h2,h3,h5,fun i hi=>by obtain⟨u,k1,k2⟩:=h4 i hi;exact⟨u,k1,k2.cells hc⟩⟩
section
section
variable [Inhabited aK]
end
end
theorem FB [Inhabited aK] {w:World} {tmps:Array Value} {ts:Fr} {t b:Nat} {m:aP} {vc vk vd:Value} {fz:Nat×Nat} (h1:tmps[t]? =some (.pointer (some ⟨b,0,none⟩))) (hb:w.heap[b]? =some (.cells #[vc,vk,vd] 36 fz))
  (hc:cL w m.ctx vc) (hk:eJ w m.kept vk) (hd:cL w m.dead vd) (h:eu Tryz.tab w tmps ts):eu Tryz.tab w tmps ((t, .cz m.enc 0)::ts):=by
 have hlt:=(Ab.1 hb).1;refine h.put (av:= .ptr b 0) h1 (fun E hE=>by grind [ag]) ?_;have hg:(bY Tryz.tab w).get b=some (.cells [cJ w.heap.size vc,cJ w.heap.size vk,cJ w.heap.size vd] 36 ((Tryz.tab.siz.get 36).getD 1) false .ro):=by
  rw[tt];grind [jY]
 refine .cz b 0 _ 36 _ false .ro (fun j=>([cJ w.heap.size vc,cJ w.heap.size vk,cJ w.heap.size vd]:List AV)[j]?.getD .bq) hg (Ac 3) (fun j v hj=>?_) (fun j v hj=>?_)
 all_goals
  have hj3:j<3:=(Ae.1 hj).1;match j,hj3 with
  |0,_=>cases hj;first|rfl|exact rF (Fm _) (GX hc)
  |1,_=>cases hj;first|rfl|exact rF (yC _) (zy hk)
  |2,_=>cases hj;first|rfl|exact rF (Fm _) (GX hd)
end Go.Proofs
