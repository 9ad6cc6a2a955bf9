/- Part 6: an evaluator, proved sound, and its use at this seat; no condition. -/
import Derived.WalkKit
import Derived.Laws.IdiomStrings
import Derived.Test.YtmfohfbdddlilaaGreatP3
import Derived.Test.YtmfohfbdddlilaaGreatP5
set_option linter.unusedSimpArgs false
set_option linter.unusedVariables false
set_option linter.unusedSectionVars false
set_option linter.deprecated false
set_option maxRecDepth 100000
set_option maxHeartbeats 4000000
namespace Go.Proofs
open Go Go.Am Go.RowKit Go.Sy
section
variable [Inhabited aL]
def eE (b:UInt8):Bool:=(bI (nB b) 32&& !(nB b==9))||nB b==127
def js (b:UInt8):Bool:=nB b==32||nB b==9
def jt (s:Bs):Bs:=s.dropWhile js
def jV (s:Bs):Bs:=(s.reverse.dropWhile js).reverse
def kK (s:Bs):Bs:=jV (jt s)
def oE:aN:={Y:=Bs,pre:=fun y=>y.length<=1000000,args:=fun y=>[.str y],res:=fun y=> .bool (y.any eE)}
def yZ (y:Bs):aI:={α:=Nat,ok:=fun i=>i<=y.length/\(y.take i).any eE=false,μ:=fun i=>y.length - i,aX:=[],aS:=fun i=>[(0, .str y),(5,i64 (Int.ofNat y.length)),(6,i64 i)],bw:=fun _=>[]}
def Po (y:Bs):aI:={α:=Nat,ok:=fun i=>i<=y.length,μ:=fun i=>y.length - i,aX:=[],aS:=fun i=>[(0, .str y),(3, .bool ((y.take i).any eE)),(4,i64 i)],bw:=fun _=>[]}
def Na:aN:={Y:=UInt8,pre:=fun _=>True,args:=fun y=>[.int .u8 (nB y)],res:=fun y=> .bool (js y)}
def yI:aN:={Y:=Bs,pre:=fun y=>y.length<=1000000,args:=fun y=>[.str y],res:=fun y=> .str (kK y)}
def YV (y:Bs):aI:={α:=Bs,ok:=fun x=>jt x=jt y/\x.length<=y.length,μ:=fun x=>x.length,aX:=[],aS:=fun x=>[(0, .str x)],bw:=fun _=>[]}
def YW (y:Bs):aI:={α:=Bs,ok:=fun x=>jV x=kK y/\x.length<=y.length,μ:=fun x=>x.length,aX:=[],aS:=fun x=>[(0, .str x)],bw:=fun _=>[]}
def Mm (y:Bs):aI:={α:=Nat,ok:=fun i=>i<=y.length/\jt (y.drop i)=jt y,μ:=fun i=>y.length - i,aX:=[],aS:=fun i=>[(0, .str y),(3,i64 i),(4,i64 (Int.ofNat y.length))],bw:=fun _=>[]}
def L9 (y:Bs):aI:={α:=Nat×Nat,ok:=fun x=>x.1<=x.2/\x.2<=y.length/\jV ((y.drop x.1).take (x.2 - x.1))=kK y,μ:=fun x=>x.2,aX:=[],aS:=fun x=>[(0, .str y),(3,i64 x.1),(4,i64 x.2)],bw:=fun _=>[]}
noncomputable def yN (f:FuncId):Option aN:=bif Nat.beq f Hz then some Na else bif Nat.beq f ru then some oE else bif Nat.beq f ry then some oE else tx f
noncomputable def GD (f:FuncId):Option aN:=bif Nat.beq f pn then some yI else bif Nat.beq f po then some yI else yN f
theorem KY {α:Type} {p:α->Bool} {l:List α} {x:Nat} (h:x<l.length):(l.take (x+1)).any p=((l.take x).any p||p l[x]):=by
 rw[AF h,List.any_append];simp
theorem KX {α:Type} {p:α->Bool} {l:List α} {x:Nat} (h:l.length<=x):(l.take x).any p=l.any p:=by rw[Ay h]
theorem YX {α:Type} {p:α->Bool} {l:List α} {x:Nat} (h:x<l.length) (hp:p l[x]=true):l.any p=true:=D6.2 ⟨_,AJ h,hp⟩
theorem Py:CO ru oE:=bZ (cfg:=fun y=>cz tx (cD ru 2 (yZ y))) bC (fun _=>rfl) (fun _=>uy) (n:=600) (by
 intro (s:Bs) (hpre:s.length<=1000000)
 (conv=>whnf)
 refine⟨⟨(0:Nat),⟨Aw _,by simp⟩,?_⟩,?_⟩
 . repeat' (first|exact trivial|exact rfl|((conv=>whnf);first|(apply aK<;>intro)|apply And.intro))
 intro (x:Nat) hx;obtain⟨hx,hn⟩:=hx
 (conv=>whnf)
 refine aK (fun hlt=>?_) fun hge=>?_
 . have hlt':x<s.length:=cB hlt;have e:eE s[x]=((bI (nB s[x]) 32&& !(nB s[x]==9))||nB s[x]==127):=rfl;have yes:eE s[x]=true->s.any eE=true:=YX hlt';have no:eE s[x]=false->(s.take (x+1)).any eE=false:=fun h=>by rw[KY hlt',hn,h];rfl
   repeat' (first|exact trivial|exact rfl|((conv=>whnf);refine au.2 ⟨_,cO (by assumption),?_⟩)|((conv=>whnf);refine ag.2 ⟨cu _ (by omega),?_⟩)|((conv=>whnf);refine ag.2 ⟨?_,?_⟩)|((conv=>whnf);first|(apply aK<;>intro)|apply And.intro))
   all_goals first
    |(refine(yes ?_).symm;clear yes no e hn;simp_all[eE,nB])
    |((conv=>whnf);refine⟨(x+1:Nat),⟨hlt',no (by clear yes no e hn;simp_all[eE,nB])⟩,by show s.length - (x+1)<s.length - x;omega,?_⟩;repeat' (first|exact trivial|exact rfl|((conv=>whnf);first|(apply aK<;>intro)|apply And.intro)))
 . have hge':s.length<=x:=gr hge;rw[KX hge']at hn
   (conv=>whnf)
   refine⟨hn.symm,?_⟩
   repeat' (first|exact trivial|exact rfl|((conv=>whnf);first|(apply aK<;>intro)|apply And.intro)))
theorem ZU:CO ry oE:=bZ (cfg:=fun y=>cz tx (cD ry 3 (Po y))) bC (fun _=>rfl) (fun _=>uy) (n:=600) (by
 intro (s:Bs) (hpre:s.length<=1000000)
 (conv=>whnf)
 refine⟨⟨(0:Nat),Aw _,?_⟩,?_⟩
 . repeat' (first|exact trivial|exact rfl|((conv=>whnf);first|(apply aK<;>intro)|apply And.intro))
 intro (x:Nat) hx;have hx:x<=s.length:=hx
 (conv=>whnf)
 refine aK (fun hlt=>?_) fun hge=>?_
 . have hlt':x<s.length:=cB hlt;have fin:∀b:Bool,b=((s.take x).any eE||eE s[x])->b=(s.take (x+1)).any eE:=fun b h=>by rw[KY hlt',h]
   repeat' (first|exact trivial|exact rfl|((conv=>whnf);refine au.2 ⟨_,cO (by assumption),?_⟩)|((conv=>whnf);refine ag.2 ⟨cu _ (by omega),?_⟩)|((conv=>whnf);refine ag.2 ⟨?_,?_⟩)|((conv=>whnf);first|(apply aK<;>intro)|apply And.intro))
   all_goals ((conv=>whnf);refine⟨(x+1:Nat),hlt',by show s.length - (x+1)<s.length - x;omega,?_⟩;repeat' (first|exact trivial|exact rfl|((conv=>whnf);first|(apply aK<;>intro)|apply And.intro)))
   all_goals (refine fin _ ?_;clear fin;generalize (s.take x).any eE=P at*;simp_all[eE,nB])
 . have hge':s.length<=x:=gr hge
   (conv=>whnf)
   refine⟨KX hge',?_⟩
   repeat' (first|exact trivial|exact rfl|((conv=>whnf);first|(apply aK<;>intro)|apply And.intro)))
theorem Ys:CO Hz Na:=bZ (cfg:=fun y=>cz tx (cW y)) bC (fun _=>rfl) (fun _=>uy) (n:=400) (by
 intro (b:UInt8) _
 repeat' (first|exact trivial|exact rfl|((conv=>whnf);first|(apply aK<;>intro)|apply And.intro))
 all_goals (simp_all[js]))
theorem Cu:∀g C,yN g=some C->CO g C:=bR Ys (bR Py (bR ZU uy))
theorem JH {b:UInt8} {s:Bs} (h:js b=true):jt (b::s)=jt s:=by unfold jt;rw[DJ,if_pos h]
theorem JI {b:UInt8} {s:Bs} (h:js b=false):jt (b::s)=b::s:=by unfold jt;rw[DJ,if_neg (by simp[h])]
theorem Jj {b:UInt8} {s:Bs} (h:js b=true):jV (s++[b])=jV s:=by unfold jV;rw[FG,DQ,DC,DJ,if_pos h]
theorem Jk {b:UInt8} {s:Bs} (h:js b=false):jV (s++[b])=s++[b]:=by unfold jV;rw[FG,DQ,DC,DJ,if_neg (by simp[h])];simp
theorem Ji {s:Bs} (h:s≠[]):(js (s.getLast h)=true->jV s.dropLast=jV s)/\(js (s.getLast h)=false->jV s=s):=by
 have e:=List.dropLast_concat_getLast h;constructor
 . intro hb;rw[<-e,Jj hb];simp
 . intro hb;rw[<-e,Jk hb]
theorem Zz:CO pn yI:=bZ (cfg:=fun y=>cz yN (l4 pn 1 (YV y) (cD pn 3 (YW y)))) bC (fun _=>rfl) (fun _=>Cu) (n:=600) (by
 intro (y:Bs) (hpre:y.length<=1000000)
 (conv=>whnf)
 refine⟨⟨y,⟨rfl,Ai _⟩,?_⟩,?_⟩
 . repeat' (first|exact trivial|exact rfl|((conv=>whnf);first|(apply aK<;>intro)|apply And.intro))
 intro (x:Bs) hx;obtain⟨h1,h2⟩:=hx;have h2:x.length<=y.length:=h2
 (conv=>whnf)
 refine ah.2 ⟨fun hne=> ?ne,fun he=> ?eq⟩
 case' eq=>
   have hL:jt x=x:=by
     have he:(!(x==[]))=false:=he;simp at he;subst he;rfl
 case' ne=>
   obtain⟨b,x',rfl⟩:∃b x',x=b::x':=by
     cases x with
     |nil=>cases hne
     |cons b x=>exact⟨b,x,rfl⟩
   (conv=>whnf)
   refine⟨b,?_⟩
   repeat ((conv=>whnf);first|refine⟨rfl,?_⟩|refine⟨trivial,?_⟩)
   (conv=>whnf)
   refine ah.2 ⟨fun hb=> ?bt,fun hb=> ?bf⟩
   case' bf=>have hL:=JI (s:=x') hb
   case bt=>
     (conv=>whnf)
     refine ag.2 ⟨rfl,?_⟩
     (conv=>whnf)
     refine⟨x',⟨by show jt x'=jt y;rw[<-h1,JH hb],by show x'.length<=y.length;simp at h2;omega⟩,by show x'.length<(b::x').length;simp,?_⟩
     repeat' (first|exact trivial|exact rfl|((conv=>whnf);first|(apply aK<;>intro)|apply And.intro))
 all_goals
   rw[hL]at h1
   (conv=>whnf)
   refine⟨⟨_,⟨by show _=jV (jt y);rw[<-h1],h2⟩,?_⟩,?_⟩
   . repeat' (first|exact trivial|exact rfl|((conv=>whnf);first|(apply aK<;>intro)|apply And.intro))
   clear h2;intro (z:Bs) hz;obtain⟨z1,z2⟩:=hz;have z2:z.length<=y.length:=z2;have z1:jV z=kK y:=z1
   (conv=>whnf)
   refine aK (fun hz0=>?_) fun hz0=>?_
   . have hz0:z≠[]:=by
       have hz0:(!(z==[]))=true:=hz0;simpa using hz0
     have hpos:=A4.2 hz0;have hlast:z[(Int.ofNat z.length - 1).toNat]? =some (z.getLast hz0):=by
       rw[List.getLast_eq_getElem,show(Int.ofNat z.length - 1).toNat=z.length - 1 by simp only[Ac];omega,Af (by omega)]
     have hdrop:z.take (Int.ofNat z.length - 1).toNat=z.dropLast:=by
       rw[show(Int.ofNat z.length - 1).toNat=z.length - 1 by simp only[Ac];omega,List.dropLast_eq_take]
     have hir:bq .i64 (Int.ofNat z.length - 1)=true:=by rw[iq];simp only[Ac];omega
     (conv=>whnf)
     refine ag.2 ⟨hir,?_⟩
     (conv=>whnf)
     refine ag.2 ⟨by rw[lO,Ad];simp only[Ac];omega,?_⟩
     (conv=>whnf)
     refine au.2 ⟨_,hlast,?_⟩
     (conv=>whnf)
     refine⟨z.getLast hz0,?_⟩
     repeat ((conv=>whnf);first|refine⟨rfl,?_⟩|refine⟨trivial,?_⟩)
     (conv=>whnf)
     refine aK (fun hb=>?_) fun hb=>?_
     . (conv=>whnf)
       refine ag.2 ⟨hir,?_⟩
       (conv=>whnf)
       refine ag.2 ⟨by rw[lO,Ad];simp only[Ac];omega,?_⟩
       (conv=>whnf)
       refine ag.2 ⟨by rw[AG];simp only[Ac];omega,?_⟩
       (conv=>whnf)
       refine⟨z.take (Int.ofNat z.length - 1).toNat,⟨?_,?_⟩,?_,?_⟩
       . show jV (z.take (Int.ofNat z.length - 1).toNat)=kK y
         rw[hdrop,(Ji hz0).1 hb];exact z1
       . show(z.take (Int.ofNat z.length - 1).toNat).length<=y.length
         rw[hdrop,FE];omega
       . show(z.take (Int.ofNat z.length - 1).toNat).length<z.length
         rw[hdrop,FE];omega
       . repeat' (first|exact trivial|exact rfl|((conv=>whnf);first|(apply aK<;>intro)|apply And.intro))
     . have:=(Ji hz0).2 hb
       (conv=>whnf)
       refine⟨by rw[<-this];exact z1,?_⟩
       repeat' (first|exact trivial|exact rfl|((conv=>whnf);first|(apply aK<;>intro)|apply And.intro))
   . have hz0:z=[]:=by
       have hz0:(!(z==[]))=false:=hz0;simpa using hz0
     subst hz0
     (conv=>whnf)
     refine⟨z1,?_⟩
     repeat' (first|exact trivial|exact rfl|((conv=>whnf);first|(apply aK<;>intro)|apply And.intro)))
theorem Iy {s:Bs} {x:Nat} (h:x<s.length):s.drop x=s[x]::s.drop (x+1):=Ds h
theorem WY {s:Bs} {a b:Nat} (h1:a<b) (h2:b<=s.length):(s.drop a).take (b - a)=(s.drop a).take (b - 1 - a)++[s[b - 1]'(by omega)]:=by
 have:b - a=b - 1 - a+1:=by omega
 rw[this,AF (by simp;omega)];congr 2
 simp only[Df];congr 1
 omega
theorem X7:CO po yI:=bZ (cfg:=fun y=>cz yN (l4 po 3 (Mm y) (cD po 5 (L9 y)))) bC (fun _=>rfl) (fun _=>Cu) (n:=600) (by
 intro (y:Bs) (hpre:y.length<=1000000)
 (conv=>whnf)
 refine⟨⟨(0:Nat),⟨Aw _,rfl⟩,?_⟩,?_⟩
 . repeat' (first|exact trivial|exact rfl|((conv=>whnf);first|(apply aK<;>intro)|apply And.intro))
 intro (x:Nat) hx;obtain⟨h1,h2⟩:=hx;have h1:x<=y.length:=h1;have h2:jt (y.drop x)=jt y:=h2;have step:∀hx:x<y.length,js y[x]=true->(Mm y).ok (x+1:Nat):=fun hx hb=>⟨hx,by rw[<-h2,Iy hx,JH hb]⟩
 have mu:∀hx:x<y.length,y.length - (x+1)<y.length - x:=fun hx=>by omega
 have stop:∀hx:x<y.length,js y[x]=false->y.drop x=jt y:=fun hx hb=>by
   rw[<-h2,Iy hx,JI hb]
 (conv=>whnf)
 refine ah.2 ⟨fun hlt=> ?wa,fun hge=> ?we⟩
 case' we=>
   have hL:y.drop x=jt y:=by
     have hge:y.length<=x:=gr hge;rw[<-h2,DX hge];rfl
 case' wa=>
   have hlt':x<y.length:=cB hlt
   (conv=>whnf)
   refine au.2 ⟨_,cO hlt',?_⟩
   (conv=>whnf)
   refine ah.2 ⟨fun hb=> ?wb,fun hb=> ?wc⟩
   case wb=>
     have hb:nB y[x]=32:=by
       have hb:(nB y[x]==32)=true:=hb;simpa using hb
     (conv=>whnf)
     refine ag.2 ⟨cu x (by omega),?_⟩
     (conv=>whnf)
     refine⟨(x+1:Nat),step hlt' (by simp[js,hb]),mu hlt',?_⟩
     repeat' (first|exact trivial|exact rfl|((conv=>whnf);first|(apply aK<;>intro)|apply And.intro))
   case' wc=>
     have hb:(nB y[x]==32)=false:=hb
     (conv=>whnf)
     refine au.2 ⟨_,cO hlt',?_⟩
     (conv=>whnf)
     refine ah.2 ⟨fun hc=> ?wd,fun hc=> ?wf⟩
     case wd=>
       have hc:(nB y[x]==9)=true:=hc
       (conv=>whnf)
       refine ag.2 ⟨cu x (by omega),?_⟩
       (conv=>whnf)
       refine⟨(x+1:Nat),step hlt' (by simp only[js,hb,hc,EV]),mu hlt',?_⟩
       repeat' (first|exact trivial|exact rfl|((conv=>whnf);first|(apply aK<;>intro)|apply And.intro))
     case' wf=>
       have hc:(nB y[x]==9)=false:=hc;have hL:y.drop x=jt y:=stop hlt' (by simp only[js,hb,hc,EK])
 all_goals
   clear step mu stop
   (conv=>whnf)
   refine⟨⟨((x,y.length):Nat×Nat),⟨h1,Ai _,by show jV ((y.drop x).take (y.length - x))=jV (jt y);rw[<-hL,Ay (by simp)]⟩,?_⟩,?_⟩
   . repeat' (first|exact trivial|exact rfl|((conv=>whnf);first|(apply aK<;>intro)|apply And.intro))
   rintro⟨a,b⟩ ⟨k1,k2,k3⟩;have k1:a<=b:=k1;have k2:b<=y.length:=k2;have k3:jV ((y.drop a).take (b - a))=kK y:=k3
   (conv=>whnf)
   refine aK (fun hlt=>?_) fun hge=>?_
   . have hab:a<b:=by
       have hlt:bI (a:Int) (b:Int)=true:=hlt;rw[cr,Ad]at hlt;omega
     have hl:=WY hab k2;have hbl:b - 1<y.length:=by omega
     have hget:y[((b:Int) - 1).toNat]? =some y[b - 1]:=by
       rw[show((b:Int) - 1).toNat=b - 1 by omega,Af hbl]
     have hir:bq .i64 ((b:Int) - 1)=true:=by rw[iq];omega
     have hnn:nn ((b:Int) - 1)=true:=by rw[lO,Ad];omega
     have hb1:((b:Int) - 1)=((b - 1:Nat):Int):=by omega
     have step:js y[b - 1]=true->(L9 y).ok ((a,b - 1):Nat×Nat):=fun hb=>⟨by show a<=b - 1;omega,by show b - 1<=y.length;omega,by show jV ((y.drop a).take (b - 1 - a))=kK y;rw[<-k3,hl,Jj hb]⟩
     have stop:js y[b - 1]=false->(y.drop a).take (b - a)=kK y:=fun hb=>by rw[<-k3,hl,Jk hb]
     have mu:b - 1<b:=by omega
     repeat (first|((conv=>whnf);refine ag.2 ⟨hir,?_⟩)|((conv=>whnf);refine ag.2 ⟨hnn,?_⟩)|((conv=>whnf);refine au.2 ⟨_,hget,?_⟩))
     (conv=>whnf)
     refine aK (fun hb=>?_) fun hb=>?_
     . have hb:(nB y[b - 1]==32)=true:=hb
       repeat (first|((conv=>whnf);refine ag.2 ⟨hir,?_⟩))
       (conv=>whnf)
       refine⟨((a,b - 1):Nat×Nat),step (by simp only[js,hb,Eh]),mu,?_⟩
       repeat' (first|exact trivial|exact rfl|((conv=>whnf);first|(apply aK<;>intro)|apply And.intro))
       all_goals ((conv=>whnf);exact hb1)
     . have hb:(nB y[b - 1]==32)=false:=hb
       repeat (first|((conv=>whnf);refine ag.2 ⟨hir,?_⟩)|((conv=>whnf);refine ag.2 ⟨hnn,?_⟩)|((conv=>whnf);refine au.2 ⟨_,hget,?_⟩))
       (conv=>whnf)
       refine aK (fun hc=>?_) fun hc=>?_
       . have hc:(nB y[b - 1]==9)=true:=hc
         repeat (first|((conv=>whnf);refine ag.2 ⟨hir,?_⟩))
         (conv=>whnf)
         refine⟨((a,b - 1):Nat×Nat),step (by simp only[js,hb,hc,EV]),mu,?_⟩
         repeat' (first|exact trivial|exact rfl|((conv=>whnf);first|(apply aK<;>intro)|apply And.intro))
         all_goals ((conv=>whnf);exact hb1)
       . have hc:(nB y[b - 1]==9)=false:=hc;have:=stop (by simp only[js,hb,hc,EK])
         (conv=>whnf)
         refine ag.2 ⟨by show(Nat.ble a b&&Nat.ble b y.length)=true;rw[Aa,AG,AG];omega,?_⟩
         (conv=>whnf)
         refine⟨this,?_⟩
         repeat' (first|exact trivial|exact rfl|((conv=>whnf);first|(apply aK<;>intro)|apply And.intro))
   . have hab:a=b:=by
       have hge:bI (a:Int) (b:Int)=false:=hge;rw[cr,Ah]at hge;omega
     subst hab
     (conv=>whnf)
     refine ag.2 ⟨by show(Nat.ble a a&&Nat.ble a y.length)=true;rw[Aa,AG,AG];omega,?_⟩
     (conv=>whnf)
     refine⟨?_,?_⟩
     . show(y.drop a).take (a - a)=kK y
       rw[<-k3,Nat.sub_self,DP];rfl
     repeat' (first|exact trivial|exact rfl|((conv=>whnf);first|(apply aK<;>intro)|apply And.intro)))
theorem KP:∀g C,GD g=some C->CO g C:=bR Zz (bR X7 Cu)
end
section
variable [Inhabited aL]
def jJ (s:Bs) (most:Int) (signs:Bs):Bool:=bV (Int.ofNat s.length) most&& !s.any eE&&decide (kK s=s)&&signs.all fun c=>(cN s (nB c)).isNone
def Nh:aN:={Y:=Bs×Int×Bs,pre:=fun y=>y.1.length<=1000000/\y.2.2.length<=100,args:=fun y=>[.str y.1,i64 y.2.1, .ar UInt8 y.2.2 dh],res:=fun y=> .bool (jJ y.1 y.2.1 y.2.2)}
def YT (y:Bs×Int×Bs):aI:={α:=Nat,ok:=fun i=>i<=y.2.2.length/\(y.2.2.take i).all (fun c=>(cN y.1 (nB c)).isNone)=true,μ:=fun i=>y.2.2.length - i,aX:=[],aS:=fun i=>[(0, .str y.1),(26, .ar UInt8 y.2.2 dh),(27,i64 (Int.ofNat y.2.2.length)),(28,i64 i)],bw:=fun _=>[]}
theorem Xn {a b:Int} (h:bI a b=true):bV b a=false:=by
 rw[cr,Ad]at h;rw[fc,Ah];omega
theorem Xo {a b:Int} (h:bI a b=false):bV b a=true:=by
 rw[cr,Ah]at h;rw[fc,Ad];omega
theorem Kp (s:Bs) (c:Int):(dW s c).2.2=(cN s c).isSome:=by
 unfold dW
 cases cN s c<;>rfl
theorem YL:CO rA Nh:=bZ (cfg:=fun y=>cz GD (cD rA 4 (YT y))) bC (fun _=>rfl) (fun _=>KP) (n:=600) (by
 rintro⟨s,m,g⟩ ⟨(hs:s.length<=1000000),(hg:g.length<=100)⟩;have yes:(jJ s m g=false)-> .bool false=SV.bool (jJ s m g):=fun h=>by rw[h]
 (conv=>whnf)
 refine aK (fun h=>?_) fun h=>?_
 . have h:bV (Int.ofNat s.length) m=false:=Xn h;have:jJ s m g=false:=by simp only[jJ,h,Bb]
   (conv=>whnf)
   refine⟨this.symm,?_⟩
   repeat' (first|exact trivial|exact rfl|((conv=>whnf);first|(apply aK<;>intro)|apply And.intro))
 have h1:bV (Int.ofNat s.length) m=true:=Xo h
 (conv=>whnf)
 refine⟨s,?_⟩
 repeat ((conv=>whnf);first|refine⟨rfl,?_⟩|refine⟨hs,?_⟩)
 (conv=>whnf)
 refine aK (fun h=>?_) fun h=>?_
 . have h:s.any eE=true:=h;have:jJ s m g=false:=by simp only[jJ,h,BN,B9,Bb]
   (conv=>whnf)
   refine⟨this.symm,?_⟩
   repeat' (first|exact trivial|exact rfl|((conv=>whnf);first|(apply aK<;>intro)|apply And.intro))
 have h2:s.any eE=false:=h
 (conv=>whnf)
 refine⟨s,?_⟩
 repeat ((conv=>whnf);first|refine⟨rfl,?_⟩|refine⟨hs,?_⟩)
 (conv=>whnf)
 refine aK (fun h=>?_) fun h=>?_
 . have h:decide (kK s=s)=false:=by
     have h:(!(kK s==s))=true:=h;simpa using h
   have:jJ s m g=false:=by simp only[jJ,h,B9,Bb]
   (conv=>whnf)
   refine⟨this.symm,?_⟩
   repeat' (first|exact trivial|exact rfl|((conv=>whnf);first|(apply aK<;>intro)|apply And.intro))
 have h3:decide (kK s=s)=true:=by
   have h:(!(kK s==s))=false:=h;simpa using h
 have hp:jJ s m g=g.all fun c=>(cN s (nB c)).isNone:=by simp only[jJ,h1,h2,h3,De,Bj]
 (conv=>whnf)
 refine⟨⟨(0:Nat),⟨Aw _,by simp⟩,?_⟩,?_⟩
 . repeat' (first|exact trivial|exact rfl|((conv=>whnf);first|(apply aK<;>intro)|apply And.intro))
 intro (x:Nat) hx;obtain⟨hx,hn⟩:=hx;have hx:x<=g.length:=hx;have hn:(g.take x).all (fun c=>(cN s (nB c)).isNone)=true:=hn
 (conv=>whnf)
 refine aK (fun hlt=>?_) fun hge=>?_
 . have hlt':x<g.length:=cB hlt
   (conv=>whnf)
   refine au.2 ⟨_,cO hlt',?_⟩
   (conv=>whnf)
   refine⟨(s,nB g[x]),?_⟩
   repeat ((conv=>whnf);first|refine⟨rfl,?_⟩|refine⟨hs,?_⟩)
   (conv=>whnf)
   refine aK (fun h=>?_) fun h=>?_
   . have h:(cN s (nB g[x])).isSome=true:=by rw[<-Kp];exact h
     have:jJ s m g=false:=by
       rw[hp,List.all_eq_false];exact⟨g[x],AJ hlt',by simp[Option.isNone_iff_eq_none,Ep.1 h]⟩
     (conv=>whnf)
     refine⟨this.symm,?_⟩
     repeat' (first|exact trivial|exact rfl|((conv=>whnf);first|(apply aK<;>intro)|apply And.intro))
   . have h:(cN s (nB g[x])).isSome=false:=by rw[<-Kp];exact h
     (conv=>whnf)
     refine ag.2 ⟨cu x (by omega),?_⟩
     (conv=>whnf)
     refine⟨(x+1:Nat),⟨hlt',?_⟩,by show g.length - (x+1)<g.length - x;omega,?_⟩
     . show(g.take (x+1)).all (fun c=>(cN s (nB c)).isNone)=true
       rw[AF hlt',List.all_append,hn];simpa using h
     . repeat' (first|exact trivial|exact rfl|((conv=>whnf);first|(apply aK<;>intro)|apply And.intro))
 . have hge':g.length<=x:=gr hge;rw[Ay hge']at hn
   (conv=>whnf)
   refine⟨by show true=jJ s m g;rw[hp,hn],?_⟩
   repeat' (first|exact trivial|exact rfl|((conv=>whnf);first|(apply aK<;>intro)|apply And.intro)))
end
section
variable [Inhabited aL]
def jA (b:UInt8):UInt8:=if 65<=b.toNat/\b.toNat<=90 then b+32 else b
def fi (s:Bs):Bs:=s.map jA
def jc (w:World) (b:Nat) (l:Bs):Prop:=∃arr,w.heap[b]? =some (.cells arr 5 (arr.size,arr.size+1))/\l.length<=arr.size/\ ∀j (h:j<l.length),arr[j]? =some (.int .u8 l[j].toNat)
theorem jc.cell {w:World} {b:Nat} {l:Bs} (h:jc w b l) {j:Nat} (hj:j<l.length):w.cell? ⟨b,j,none⟩=some (.int .u8 l[j].toNat):=by
 obtain⟨arr,h1,_,h3⟩:=h;simp[World.cell?,h1,h3 j hj]
theorem jc.free {w:World} {b:Nat} {l:Bs} (h:jc w b l) {j:Nat} (hj:j<l.length):w.frozen? ⟨b,j,none⟩=false:=by
 obtain⟨arr,h1,h2,_⟩:=h;simp[World.frozen?,h1];omega
theorem jc.set {w:World} {b:Nat} {l:Bs} (h:jc w b l) (k:Nat) (c:UInt8):jc (w.setCell ⟨b,k,none⟩ (.int .u8 c.toNat)) b (l.set k c):=by
 obtain⟨arr,h1,h2,h3⟩:=h;have hlt:=(Ae.1 h1).1;refine⟨arr.setIfInBounds k (.int .u8 c.toNat),?_,by simpa using h2,fun j hj=>?_⟩
 . have h4:=(Ae.1 h1).2;simp only[World.setCell,Dr,h1];simp
 . have hj':j<l.length:=by simpa using hj
   rw[BL,List.getElem_set];by_cases e:k=j
   . subst e;simp;omega
   . simp only[e,AB];exact h3 j hj'
theorem QM (b:UInt8) (w:World):Calls Tryz.prog 220 #[.int .u8 b.toNat] w fun e w'=>e= .returned (.int .u8 (jA b).toNat)/\w'=w:=by
 have hb:=b.toNat_lt;by_cases h1:65<=b.toNat
 . by_cases h2:b.toNat<=90
   . go_enter Tryz.func220,Tryz.ntmps220
     go_wp2;go_ret;refine⟨?_,rfl⟩;unfold jA;rw[if_pos ⟨h1,h2⟩];have e:(b+32).toNat=b.toNat+32:=by
      rw[UInt8.toNat_add,show(32:UInt8).toNat=32 from rfl];omega
     rw[e];simp;omega
   . go_enter Tryz.func220,Tryz.ntmps220
     go_wp2;go_ret;refine⟨?_,rfl⟩;unfold jA;rw[if_neg (fun h=>h2 h.2)];rfl
 . go_enter Tryz.func220,Tryz.ntmps220
   go_wp2;go_ret;refine⟨?_,rfl⟩;unfold jA;rw[if_neg (fun h=>h1 h.1)];rfl
theorem QE (s:Bs) (w:World) (hl:s.length<=1000000):Calls Tryz.prog 172 #[.string ⟨s.toArray⟩] w fun e w'=>e= .returned (.string ⟨(fi s).toArray⟩)/\Below w.heap.size w w'/\w.drawn<=w'.drawn:=by
 have hcv:= @run_bytes_of_string Tryz.prog;have hcb:= @run_convert_bytes_back Tryz.prog;go_enter Tryz.func172,Tryz.ntmps172
 go_wp2;have hrow0:∀c,jc (w.drew.alloc (.cells (bytesRow ⟨s.toArray⟩ c) 5 ((bytesRow ⟨s.toArray⟩ c).size,(bytesRow ⟨s.toArray⟩ c).size+1))) w.heap.size s:=fun c=>by
  refine⟨bytesRow ⟨s.toArray⟩ c,?_,?_,fun j hj=>?_⟩
  . show(w.heap.push _)[w.heap.size]? =_
    simp
  . simp[bytesRow]
  . rw[bytesRow_at _ _ _ (by simpa using hj)];simp
 go_loopw [9] (fun i wr=>∃k:Nat,k<=s.length/\i= .int .i64 k/\jc wr w.heap.size ((fi s).take k++s.drop k)/\Below w.heap.size w wr/\w.drawn<=wr.drawn) (fun i _=>s.length - (intOf i).toNat)
 case atStart=>exact⟨0,Aw _,rfl,hrow0 _,((Below.refl _ _).drew).alloc (Ai _) _,FC _⟩
 case round=>
  obtain⟨k,hk,rfl,hrow,hbel,hdr⟩:=hrel;by_cases hlt:k<s.length
  . have hlen:((fi s).take k++s.drop k).length=s.length:=by simp[fi];omega
    have hk2:k<((fi s).take k++s.drop k).length:=by omega
    have hc:=hrow.cell hk2;have hf:=hrow.free hk2;have hel:((fi s).take k++s.drop k)[k]=s[k]:=by
     rw[List.getElem_append_right (by simp[fi];omega)];simp[fi,E3 (Nat.le_of_lt hlt)]
    rw[hel]at hc;have hcall:=QM s[k] wr;go_wp2_with (go_at_call 220;refine hcall.mono ?_;rintro e w1 ⟨rfl,rfl⟩)
    have hset:((fi s).take k++s.drop k).set k (jA s[k])=(fi s).take (k+1)++s.drop (k+1):=by
     have hz:k - ((fi s).take k).length=0:=by simp[fi];omega
     rw[List.set_append_right _ _ (by simp[fi];omega),hz,Ds hlt,AF (by simpa [fi]using hlt),List.set_cons_zero];simp[fi]
    refine⟨⟨k+1,hlt,by go_num,?_,hbel.setCell (Ai _) _,hdr⟩,by simp[intOf];omega⟩;rw[<-hset];exact hrow.set k _
  . have hkl:k=s.length:=by omega
    subst hkl;have hrow':jc wr w.heap.size (fi s):=by
     rw[List.drop_length,Bu,Ay (by simp[fi])]at hrow;exact hrow
    have hback:∀c,(convert 199 9 (.slice (some ⟨w.heap.size,0,none⟩) s.length c)).run Tryz.prog wr= .ok (.string ⟨(fi s).toArray⟩) wr:=fun c=>by
     have:=hcb wr 199 9 5 ⟨w.heap.size,0,none⟩ c (fi s) Tryz.underlying199 Tryz.underlying5 Tryz.underlying9 (fun j hj=>by
      have:=hrow'.cell hj;unfold Addr.add;split
      . rename_i h0;subst h0;exact this
      . simpa using this)
     simpa [fi]using this
    clear hcb hcv hrow0;go_wp2;go_ret;exact⟨rfl,hbel,hdr⟩
theorem YF:CO Hy {Y:=Bs,pre:=fun y=>y.length<=1000000,args:=fun y=>[.str y],res:=fun y=> .str (fi y)}:=kD bC.ok (by
 rintro s hs w args - ⟨h1,h2⟩;match args,h1 with
 |[v],_=>
 have hv:v= .string ⟨s.toArray⟩:=by
  have:=h2 0 _ _ rfl rfl
  cases this;rfl
 subst hv;refine(QE s w hs).mono ?_;rintro e w' ⟨rfl,hb,hd⟩;exact⟨_,rfl, .inr (.str _),hb,fun _=>hd⟩)
end
section
variable [Inhabited aL]
def YM:aN:={Y:=Bs,pre:=fun y=>y.length<=1000000,args:=fun y=>[.str y],res:=fun y=> .str (fi y)}
noncomputable def vq (f:FuncId):Option aN:=bif Nat.beq f Hy then some YM else bif Nat.beq f rA then some Nh else GD f
theorem xp:∀g C,vq g=some C->CO g C:=bR YF (bR YL KP)
def lI (s:Bs):Bs×Int:=if 256<s.length then([],3)else if eL (fi s)||il (fi s)then(fi s,0)else([],1)
def oe (s:Bs):Bool:=bV (Int.ofNat s.length) 256&&(eL s||il s)
def Nb:aN:={Y:=Bs,pre:=fun _=>True,args:=fun y=>[.str y],res:=fun y=> .bG [.str (lI y).1,i64 (lI y).2]}
def Me:aN:={Y:=Bs,pre:=fun _=>True,args:=fun y=>[.str y],res:=fun y=> .bool (oe y)}
def lL (s:Bs):Bool:= !s.any eE&&(cN s 59).isNone&&decide (kK s=s)
def Mj:aN:={Y:=Bs,pre:=fun y=>y.length<=1000000,args:=fun y=>[.str y],res:=fun y=> .bool (lL y)}
def xN (x:cU):Bool:=lM x.aQ (-1099511627776) 1099511627776&&lM x.aq 0 1099511627776&&lM x.access 0 1099511627776&&(x.persistent||x.aQ==1099511627776)
def sX (x:aa):Bool:= !(x.key.name==[])&&bV (Int.ofNat x.key.name.length) 256&&lL x.key.name&&(cN x.key.name 61).isNone&&bV (Int.ofNat x.ab.value.length) 1024&&lL x.ab.value&&oe x.key.domain&&decide (x.key.path.head? =some 47)&&bV (Int.ofNat x.key.path.length) 256&&xN x.ab
def xJ:aN:={Y:=aa,pre:=fun y=>y.key.name.length<=1000000/\y.ab.value.length<=1000000,args:=fun y=>[.agg y.enc],res:=fun y=> .bool (sX y)}
theorem Uh (s:Bs):(fi s).length=s.length:=by simp[fi]
theorem Yu:CO HP Nb:=bZ (cfg:=fun y=>cz vq (cW y)) bC (fun _=>rfl) (fun _=>xp) (n:=600) (by
 intro (s:Bs) _
 (conv=>whnf)
 refine aK (fun h=>?_) fun h=>?_
 . have h:256<s.length:=by
     have h:bI 256 (Int.ofNat s.length)=true:=h;rw[cr,Ad,Ac]at h;omega
   have e:lI s=([],3):=by unfold lI;rw[if_pos h]
   (conv=>whnf)
   refine⟨by rw[e],?_⟩
   (conv=>whnf)
   refine⟨by rw[e],?_⟩
   repeat' (first|exact trivial|exact rfl|((conv=>whnf);first|(apply aK<;>intro)|apply And.intro))
 have h:¬256<s.length:=by
   have h:bI 256 (Int.ofNat s.length)=false:=h;rw[cr,Ah,Ac]at h;omega
 have hl:=Uh s
 (conv=>whnf)
 refine⟨s,?_⟩
 repeat ((conv=>whnf);first|refine⟨rfl,?_⟩|refine⟨trivial,?_⟩)
 refine⟨by show s.length<=1000000;omega,?_⟩
 (conv=>whnf)
 refine⟨fi s,?_⟩
 repeat ((conv=>whnf);first|refine⟨rfl,?_⟩|refine⟨trivial,?_⟩)
 refine⟨by show(fi s).length<=100000;omega,?_⟩;have bad:(eL (fi s)||il (fi s))=false->lI s=([],1):=fun hn=>by unfold lI;rw[if_neg h,hn];rfl
 have good:(eL (fi s)||il (fi s))=true->lI s=(fi s,0):=fun hn=>by unfold lI;rw[if_neg h,hn];rfl
 (conv=>whnf)
 refine aK (fun hn=>?_) fun hn=>?_
 . have hn:eL (fi s)=false:=by simpa using hn
   rw[hn,Bool.false_or]at bad good
   (conv=>whnf)
   refine⟨fi s,?_⟩
   repeat ((conv=>whnf);first|refine⟨rfl,?_⟩|refine⟨trivial,?_⟩)
   refine⟨by show(fi s).length<=100000;omega,?_⟩
   (conv=>whnf)
   refine aK (fun ha=>?_) fun ha=>?_
   . have e:=bad (by simpa using ha)
     (conv=>whnf)
     refine⟨by rw[e],?_⟩
     (conv=>whnf)
     refine⟨by rw[e],?_⟩
     repeat' (first|exact trivial|exact rfl|((conv=>whnf);first|(apply aK<;>intro)|apply And.intro))
   . have e:=good (by simpa using ha)
     (conv=>whnf)
     refine⟨by rw[e],?_⟩
     (conv=>whnf)
     refine⟨by rw[e],?_⟩
     repeat' (first|exact trivial|exact rfl|((conv=>whnf);first|(apply aK<;>intro)|apply And.intro))
 . have hn:eL (fi s)=true:=by simpa using hn
   have e:=good (by rw[hn];rfl)
   (conv=>whnf)
   refine⟨by rw[e],?_⟩
   (conv=>whnf)
   refine⟨by rw[e],?_⟩
   repeat' (first|exact trivial|exact rfl|((conv=>whnf);first|(apply aK<;>intro)|apply And.intro)))
theorem VY:CO vG Me:=bZ (cfg:=fun y=>cz vq (cW y)) bC (fun _=>rfl) (fun _=>xp) (n:=600) (by
 intro (s:Bs) _
 (conv=>whnf)
 refine aK (fun h=>?_) fun h=>?_
 . have h:bV (Int.ofNat s.length) 256=true:=h;have hl:s.length<=100000:=by rw[fc,Ad,Ac]at h;omega
   (conv=>whnf)
   refine⟨s,?_⟩
   repeat ((conv=>whnf);first|refine⟨rfl,?_⟩|refine⟨trivial,?_⟩)
   refine⟨hl,?_⟩
   (conv=>whnf)
   refine aK (fun hn=>?_) fun hn=>?_
   . have hn:eL s=true:=hn
     (conv=>whnf)
     refine⟨by show true=oe s;simp only[oe,h,hn,Eh,EL],?_⟩
     repeat' (first|exact trivial|exact rfl|((conv=>whnf);first|(apply aK<;>intro)|apply And.intro))
   . have hn:eL s=false:=hn
     (conv=>whnf)
     refine⟨s,?_⟩
     repeat ((conv=>whnf);first|refine⟨rfl,?_⟩|refine⟨trivial,?_⟩)
     refine⟨hl,?_⟩
     (conv=>whnf)
     refine⟨by show il s=oe s;simp only[oe,h,hn,Bool.false_or,Bj],?_⟩
     repeat' (first|exact trivial|exact rfl|((conv=>whnf);first|(apply aK<;>intro)|apply And.intro))
 . have h:bV (Int.ofNat s.length) 256=false:=h
   (conv=>whnf)
   refine⟨by show false=oe s;simp only[oe,h,Bb],?_⟩
   repeat' (first|exact trivial|exact rfl|((conv=>whnf);first|(apply aK<;>intro)|apply And.intro)))
theorem V8:CO HG Mj:=bZ (cfg:=fun y=>cz vq (cW y)) bC (fun _=>rfl) (fun _=>xp) (n:=600) (by
 intro (s:Bs) (hs:s.length<=1000000)
 (conv=>whnf)
 refine⟨s,?_⟩
 repeat ((conv=>whnf);first|refine⟨rfl,?_⟩|refine⟨trivial,?_⟩)
 refine⟨hs,?_⟩
 (conv=>whnf)
 refine aK (fun h=>?_) fun h=>?_
 . have h:s.any eE=false:=by
     have h:(!s.any eE)=true:=h
     cases e:s.any eE with
     |false=>rfl
     |true=>rw[e]at h;cases h
   (conv=>whnf)
   refine⟨(s,59),?_⟩
   repeat ((conv=>whnf);first|refine⟨rfl,?_⟩|refine⟨trivial,?_⟩)
   refine⟨hs,?_⟩;have hf:bI (iG s 59) 0=(cN s 59).isNone:=by
     rcases Ck s 59 with⟨i,h1,h2,h3⟩|⟨h1,h2⟩
     . rw[h1,h2,cr,Br];rfl;omega
     . rw[h1,h2];rfl
   (conv=>whnf)
   refine aK (fun h2=>?_) fun h2=>?_
   . have h2:(cN s 59).isNone=true:=by rw[<-hf];exact h2
     (conv=>whnf)
     refine⟨s,?_⟩
     repeat ((conv=>whnf);first|refine⟨rfl,?_⟩|refine⟨trivial,?_⟩)
     refine⟨hs,?_⟩
     (conv=>whnf)
     refine⟨?_,?_⟩
     . show(kK s==s)=lL s
       simp only[lL,h,h2,De,Bj];rw[A2];simp
     . repeat' (first|exact trivial|exact rfl|((conv=>whnf);first|(apply aK<;>intro)|apply And.intro))
   . have h2:(cN s 59).isNone=false:=by rw[<-hf];exact h2
     (conv=>whnf)
     refine⟨by show false=lL s;simp only[lL,h2,B9,Bb],?_⟩
     repeat' (first|exact trivial|exact rfl|((conv=>whnf);first|(apply aK<;>intro)|apply And.intro))
 . have h:s.any eE=true:=by
     have h:(!s.any eE)=false:=h
     cases e:s.any eE with
     |true=>rfl
     |false=>rw[e]at h;cases h
   (conv=>whnf)
   refine⟨by show false=lL s;simp only[lL,h,BN,Bb],?_⟩
   repeat' (first|exact trivial|exact rfl|((conv=>whnf);first|(apply aK<;>intro)|apply And.intro)))
theorem wW {b:UInt8} {c:Int}:∀{s:Bs},b∈s->nB b=c\/ ∃p∈aW s c,b∈p
 | x :: s,h=>by
  simp only[aW];by_cases hx:nB x=c
  . rw[if_pos hx];rcases Aj.1 h with rfl|h
    . exact .inl hx
    . rcases wW (c:=c) h with h|⟨p,hp,hb⟩
      . exact .inl h
      . exact .inr ⟨p,Ao _ hp,hb⟩
  . rw[if_neg hx];have ih:b∈s->nB b=c\/ ∃p∈aW s c,b∈p:=fun h=>wW h
    cases e:aW s c with
    |nil=>exact absurd e (KE s c)
    | cons q t=>
      rw[e]at ih;rcases Aj.1 h with rfl|h
      . exact .inr ⟨b::q,An,An⟩
      . rcases ih h with h|⟨p,hp,hb⟩
        . exact .inl h
        . rcases Aj.1 hp with rfl|hp
          . exact .inr ⟨x::p,An,Ao _ hb⟩
          . exact .inr ⟨p,Ao _ hp,hb⟩
theorem Ww {b:UInt8} (h:nB b<65\/90<nB b):jA b=b:=by
 unfold jA;unfold nB at h;simp only[Ac]at h;rw[if_neg (by omega)]
theorem zN {s:Bs} (h:∀b∈s,nB b<65\/90<nB b):fi s=s:=by
 have e:s.map jA=s.map id:=Dn fun b hb=>Ww (h b hb)
 rw[FD]at e;exact e
theorem SA {s:Bs} (h:eL s=true):fi s=s:=by
 simp only[eL,Aa,AI]at h;refine zN fun b hb=>?_
 rcases wW (c:=46) hb with h1|⟨p,hp,hb⟩
 . omega
 . have h2:=h.2 p hp;simp only[fh,Aa,AI]at h2;have h3:=h2.1.1.2 b hb;simp only[ir,BF,Aa,Ad,BP]at h3;omega
theorem Tf {s:Bs} (h:il s=true):fi s=s:=by
 unfold il at h;rcases BF .. ▸h with h|h
 . simp only[fK,Aa,AI]at h;refine zN fun b hb=>?_
   rcases wW (c:=46) hb with h1|⟨p,hp,hb⟩
   . omega
   . have h2:=h.2 p hp;simp only[gT,Aa,Ad]at h2;have h3:=wM (s:=p) (by omega) b hb;simp only[dE,Aa,Ad]at h3;omega
 . simp only[fx,Aa,AI,Ad,BP]at h;obtain⟨⟨⟨⟨h1,h2⟩,h3⟩,h4⟩,h5⟩:=h
   cases s with
   |nil=>simp at h1
   | cons x s=>
     simp only[E4,AX]at h3;subst h3;rcases List.eq_nil_or_concat s with rfl|⟨t,z,rfl⟩
     . simp at h1
     . have hz:z=93:=by
         rw[show(91::t.concat z:Bs)=(91::t)++[z] by simp,List.getLast?_concat]at h4;simpa using h4
       subst hz;have e:((91::t.concat 93:Bs).drop 1).take ((91::t.concat 93:Bs).length - 2)=t:=by simp[FA]
       rw[e]at h5;refine zN fun b hb=>?_
       simp only[Aj,FA,A9,BT,DB]at hb;rcases hb with rfl|hb|rfl
       . right;decide
       . have h6:=h5 b hb;simp only[dm,BF,Aa,Ad,BP]at h6;omega
       . right;decide
theorem Tt (s:Bs):(decide ((lI s).2=0)&&decide ((lI s).1=s))=oe s:=by
 rw[A2];unfold lI oe;simp only[Aa,Ad,fc,Ac];by_cases h:256<s.length
 . rw[if_pos h];simp;omega
 . rw[if_neg h];constructor
   . intro hh;split at hh
     . rename_i hn;have e:fi s=s:=hh.2;rw[e]at hn;exact⟨by omega,hn⟩
     . simp at hh
   . rintro⟨_,hn⟩;have e:fi s=s:=by
       rcases BF .. ▸hn with hn|hn
       . exact SA hn
       . exact Tf hn
     rw[e,if_pos hn];exact⟨rfl,rfl⟩
noncomputable def yv (f:FuncId):Option aN:=bif Nat.beq f HP then some Nb else bif Nat.beq f vG then some Me else bif Nat.beq f HG then some Mj else vq f
theorem CK:∀g C,yv g=some C->CO g C:=bR Yu (bR VY (bR V8 xp))
def Gg (x:aa):Bool:= !(x.key.name==[])&&jJ x.key.name 256 [59,61]&&jJ x.ab.value 1024 [59]&&((lI x.key.domain).2==0)&&((lI x.key.domain).1==x.key.domain)&&decide (x.key.path.head? =some 47)&&bV (Int.ofNat x.key.path.length) 256&&xN x.ab
theorem UF (x:aa):Gg x=sX x:=by
 have h1:∀(s:Bs) (m:Int),jJ s m [59]=(bV (Int.ofNat s.length) m&&lL s):=fun s m=>by
  unfold jJ lL;rw[A2];simp[nB];grind
 have h2:jJ x.key.name 256 [59,61]=(bV (Int.ofNat x.key.name.length) 256&&lL x.key.name&&(cN x.key.name 61).isNone):=by
  unfold jJ lL;rw[A2];simp[nB];grind
 have h3:=Tt x.key.domain;unfold Gg sX;rw[h1,h2,<-h3];rw[A2];simp;grind
theorem NX (b:UInt8):b=47↔(b.toNat:Int)=47:=by
 constructor
 . rintro rfl;rfl
 . intro h;exact EA.1 (by rw[show(47:UInt8).toNat=47 from rfl];omega)
theorem Wa:CO Hv xJ:=bZ (cfg:=fun y=>cz yv (cW y)) bC (fun _=>rfl) (fun _=>CK) (n:=800) (by
 rintro⟨⟨n,d,p⟩,v,b1,b2,b3,b4,e,c,a⟩ ⟨(hn:n.length<=1000000),(hv:v.length<=1000000)⟩;rcases p with _|⟨p0,p⟩
 all_goals
  (conv=>whnf)
  refine⟨d,?_⟩
  repeat ((conv=>whnf);first|refine⟨rfl,?_⟩|refine⟨trivial,?_⟩)
  (conv=>whnf)
  refine⟨(e, -1099511627776,1099511627776),?_⟩
  repeat' (first|exact trivial|(with_reducible exact rfl)|((conv=>whnf);first|(apply aK<;>intro)|apply And.intro)|((conv=>whnf);refine⟨(c,0,1099511627776),?_⟩;(conv=>whnf);refine⟨rfl,?_⟩)|((conv=>whnf);refine⟨(a,0,1099511627776),?_⟩;(conv=>whnf);refine⟨rfl,?_⟩)|((conv=>whnf);refine⟨(n,256,[59,61]),?_⟩;(conv=>whnf);refine⟨rfl,?_⟩)|((conv=>whnf);refine⟨(v,1024,[59]),?_⟩;(conv=>whnf);refine⟨rfl,?_⟩))
 all_goals first|exact hn|exact hv|exact rfl|(show(2:Nat)<=100;decide)|(show(1:Nat)<=100;decide)|skip
 all_goals (rw[<-UF])
 all_goals (simp_all[Gg,xN,NX]))
end
section
variable [Inhabited aL]
theorem XE (s:Bs) (c:Int):bV 0 (iG s c)= !(cN s c).isNone:=by
 rcases Ck s c with⟨i,h1,h2,h3⟩|⟨h1,h2⟩
 . rw[h1,h2,fc,Bg (by omega)];rfl
 . rw[h1,h2];rfl
theorem Yo (a b:Int):bI a b= !bV b a:=by
 rw[cr,fc,A2,Ad,AQ,Ah];omega
theorem Wb:CO HF xJ:=bZ (cfg:=fun y=>cz yv (cW y)) bC (fun _=>rfl) (fun _=>CK) (n:=800) (by
 rintro⟨⟨n,d,p⟩,v,b1,b2,b3,b4,e,c,a⟩ ⟨(hn:n.length<=1000000),(hv:v.length<=1000000)⟩;rcases p with _|⟨p0,p⟩
 all_goals
  repeat' (first|exact trivial|(with_reducible exact rfl)|((conv=>whnf);first|(apply aK<;>intro)|apply And.intro)|((conv=>whnf);refine⟨n,?_⟩;(conv=>whnf);refine⟨rfl,?_⟩)|((conv=>whnf);refine⟨v,?_⟩;(conv=>whnf);refine⟨rfl,?_⟩)|((conv=>whnf);refine⟨d,?_⟩;(conv=>whnf);refine⟨rfl,?_⟩)|((conv=>whnf);refine⟨(n,61),?_⟩;(conv=>whnf);refine⟨rfl,?_⟩))
 all_goals first|exact hn|exact hv|exact rfl|skip
 all_goals (simp only[sX,xN,lM])
 all_goals (simp_all[Yo,XE,NX,Ep])
 all_goals trace_state)
end
end Go.Proofs
