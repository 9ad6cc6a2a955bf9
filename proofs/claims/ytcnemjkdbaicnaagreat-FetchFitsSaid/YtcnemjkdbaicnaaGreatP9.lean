/- Part 9: an evaluator, proved sound, and its use at this seat; no condition. -/
import Derived.LoopTactic
import Derived.Shelf.Strings.OnBuilder
import Derived.Shelf.Strings.IndexAnyAll
import Derived.Test.YtcnemjkdbaicnaaGreatProg
import Derived.Test.YtcnemjkdbaicnaaGreatP6
import Derived.Test.YtcnemjkdbaicnaaGreatP8
set_option linter.unusedSimpArgs false
set_option linter.unusedVariables false
set_option linter.unusedSectionVars false
set_option linter.deprecated false
set_option maxRecDepth 100000
set_option maxHeartbeats 40000000
namespace Go.Proofs
open Go Go.Shelf Go.RowKit Go.Lib Go.Sort Go.Sym
section
variable {P:Program} {α:Type} [Inhabited α] {k:Nat}
def Jt (P:Program) (enc:α->List Value) (k:Nat) (cf:α->α->Int) (g:Nat) (cb:Array Value) (aC off cap:Nat) (d0:Array α) (w0:World) (N:Nat):Prop:=
 ∀(a m b:Nat) (d:Array α) (w:World),b - a<N->d0.size=d.size->SWK enc k w0 aC off d w->a<m->m<b->b<=d.size->SortedIn (ltOf cf) a m d->SortedIn (ltOf cf) m b d->
  Calls P 195 #[.slice (some ⟨aC,off,none⟩) d0.size cap, .int .i64 a, .int .i64 m, .int .i64 b, .func (.func g) #[] cb] w fun e w'=>e= .returned (.tuple #[])/\ ∃d',SWK enc k w0 aC off d' w'/\d'.size=d.size/\PermIn a b d d'/\SortedIn (ltOf cf) a b d'
set_option maxHeartbeats 16000000 in
set_option maxRecDepth 1000000 in
theorem kC.IW (L:kC P k) (enc:α->List Value) (cf:α->α->Int) (hS:SWO (ltOf cf)) (g:Nat) (cb:Array Value) (aC off cap a m b:Nat) (d0 d:Array α) (w0 w:World)
  (eg:∀args w,(callFunc g args).run P w= .ok (.enter g args) w) (hcmp:CmpLays P g cb enc k cf aC off d0.size w0)
  (R:RowK enc k w0 aC off d0) (hs:d0.size=d.size) (S:SWK enc k w0 aC off d w) (ham:a+1<m) (hmb:m+1<b) (hb:b<=d.size) (hsz:d.size<4611686018427387904) (h1:SortedIn (ltOf cf) a m d) (h2:SortedIn (ltOf cf) m b d) (IH:Jt P enc k cf g cb aC off cap d0 w0 (b - a)):
  Calls P 195 #[.slice (some ⟨aC,off,none⟩) d.size cap, .int .i64 a, .int .i64 m, .int .i64 b, .func (.func g) #[] cb] w fun e w'=>e= .returned (.tuple #[])/\ ∃d',SWK enc k w0 aC off d' w'/\d'.size=d.size/\PermIn a b d d'/\SortedIn (ltOf cf) a b d':=by
 have mixed:=L.mixed;have t0:=L.t0;have a0:=L.a0;have z0:=L.z0;have v0:=L.v0;have t3:=L.t3;have a3:=L.a3;have z3:=L.z3;have v3:=L.v3;have t4:=L.t4;have a4:=L.a4;have z4:=L.z4;have v4:=L.v4;have t39:=L.t39;have a39:=L.a39;have z39:=L.z39;have v39:=L.v39;have t150:=L.t150;have gz:=L.gz;have gH:=L.gH;have gG:=L.gG;have t198:=L.t198;have a198:=L.a198;have z198:=L.z198;have v198:=L.v198;have aE:=L.aE;have zE:=L.zE;have FG:=L.f195;have e195:∀args w,(callFunc 195 args).run P w= .ok (.enter 195 args) w:=enters_of L.f195 (by kernel_rfl) rfl;have e230:∀args w,(callFunc 230 args).run P w= .ok (.enter 230 args) w:=enters_of L.f230 (by kernel_rfl) rfl;have HC:Aside _:=hcmp;have HS:RowKit.Hid _:=hS;have H1:RowKit.Hid _:=h1;have H2:RowKit.Hid _:=h2;have HI:Aside _:=IH;have HZ:RowKit.Hid _:=hs;have S0:Aside (SWK enc k w0 aC off d w):=S;clear S hcmp hS h1 h2 IH hs;have c0:((m:Int) - (a:Int)==1)=false:=by rw[Bp];omega
 have c1:((b:Int) - (m:Int)==1)=false:=by rw[Bp];omega
 obtain⟨cq,hmid⟩:∃x,x=(a+b) / 2:=⟨_,rfl⟩;have hzm:((a:Int)+(b:Int)) / 2=(cq:Int):=by omega
 have hm1:2*cq<=a+b:=by omega
 have hm2:a+b<=2*cq+1:=by omega
 clear hmid;obtain⟨s0,r0,hc⟩:∃s0 r0,(cq<m/\s0=cq+m - b/\r0=cq)\/(m<=cq/\s0=a/\r0=m):=by
  by_cases h:cq<m
  . exact⟨_,_, .inl ⟨h,rfl,rfl⟩⟩
  . exact⟨_,_, .inr ⟨by omega,rfl,rfl⟩⟩
 have f1:a<=s0:=by omega
 have f2:s0<=r0:=by omega
 have f3:r0<=m:=by omega
 have f4:r0<=cq:=by omega
 have f5:cq+m<=s0+b:=by omega
 have F6:RowKit.Hid (a<s0->cq+m=s0+b):=fun _=>by omega
 have F7:RowKit.Hid (r0<m->r0=cq):=fun _=>by omega
 have HE:RowKit.Hid _:=hc;clear hc;by_cases hgt:cq<m
 case' pos=>
  have hgtz:(m:Int)>(cq:Int):=by omega
  have hzs:(cq:Int)+(m:Int) - (b:Int)=(s0:Int):=by have:=HE.out;omega
  go_enter FG,Tryz.ntmps195
  go_wp2
 case' neg=>
  have hgtz:¬(m:Int)>(cq:Int):=by omega
  have hzs:(a:Int)=(s0:Int):=by have:=HE.out;omega
  have HZS:RowKit.Hid _:=hzs;clear hzs;go_enter FG,Tryz.ntmps195
  go_wp2
 all_goals (
  go_loopg [20,21] (r0 - s0) (fun kx s10 s11 wr=>∃(i j:Nat),s10= .int .i64 i/\s11= .int .i64 j/\s0<=i/\i<=j/\j<=r0/\j - i<=kx/\Aside (SWK enc k w0 aC off d wr)/\RowKit.Hid (s0<i->ltOf cf d[cq+m - i]! d[i - 1]! =false)/\RowKit.Hid (j<r0->ltOf cf d[cq+m - 1 - j]! d[j]! =true))
  case atStart=>exact⟨s0,r0,by have:=HE.out;first|(congr 1;omega)|congr 1,by have:=HE.out;first|(congr 1;omega)|congr 1,Ac _,f2,Ac _,Ac _,S0,fun h=>absurd h (DQ _),fun h=>absurd h (DQ _)⟩
  case round=>
    clear S0;obtain⟨i,j,rfl,rfl,hmi,hij,hjb,hkx,S1,HL,HR⟩:=hrel;by_cases hlt:i<j
    . have hltz:(i:Int)<(j:Int):=by omega
      obtain⟨h,hh⟩:∃h,h=(i+j) / 2:=⟨_,rfl⟩;have hz:((i:Int)+(j:Int)) / 2=(h:Int):=by omega
      have hih:i<=h:=by omega
      have hhj:h<j:=by omega
      obtain⟨q,hq⟩:∃q,q=cq+m - 1 - h:=⟨_,rfl⟩;have hq1:q+h+1=cq+m:=by omega
      have hqz:(cq:Int)+(m:Int) - 1 - (h:Int)=(q:Int):=by omega
      have hqb:q<b:=by omega
      have wq:IntKind.i64.wrap (q:Int)=(q:Int):=by rw[IntKind.wrap_i64];omega
      have pq:(0:Int)<=(q:Int):=by omega
      obtain⟨x38,hx38⟩:∃x,x=d[q]! :=⟨_,rfl⟩;obtain⟨y38,hy38⟩:∃x,x=d[h]! :=⟨_,rfl⟩;have l38a:=S1.out.ld R HZ.out.symm P q (by omega);have l38b:=S1.out.ld R HZ.out.symm P h (by omega);rw[<-hx38]at l38a;rw[<-hy38]at l38b;have hc38:=S1.out.cmp HC.out HZ.out.symm x38 y38;have bz1:(h:Int)<(d.size:Int):=by omega
      have bz2:(q:Int)<(d.size:Int):=by omega
      have HX:RowKit.Hid (x38=d[q]! /\y38=d[h]!):=⟨hx38,hy38⟩;clear hx38 hy38 hh hq;by_cases hv38:cf x38 y38<0
      . have hd38:decide (cf x38 y38<0)=true:=BU hv38;go_wp2_with fail
        go_quiet_grown (first|(go_at_fn g;refine Calls.grown_of (hc38 _ _)))
        have S2:Aside (SWK enc k w0 aC off d (grow (wr.drewN nq) osq)):=S1.out.grown nq osq;clear l38a l38b hc38 S1;generalize grow (wr.drewN nq) osq=w2 at S2⊢
        clear nq osq;go_wp2;go_roundg (h - i)
        case measure=>omega
        case rel=>exact⟨i,h,rfl,rfl,hmi,hih,by omega,Ac _,S2,HL.out,fun _=>by rw[show cq+m - 1 - h=q by omega,<-HX.out.1,<-HX.out.2];exact BU hv38⟩
      . have hd38:decide (cf x38 y38<0)=false:=AQ (by omega);go_wp2_with fail
        go_quiet_grown (first|(go_at_fn g;refine Calls.grown_of (hc38 _ _)))
        have S2:Aside (SWK enc k w0 aC off d (grow (wr.drewN nq) osq)):=S1.out.grown nq osq;clear l38a l38b hc38 S1;generalize grow (wr.drewN nq) osq=w2 at S2⊢
        clear nq osq;go_wp2;go_roundg (j - (h+1))
        case measure=>omega
        case rel=>exact⟨h+1,j,by simp,rfl,by omega,by omega,hjb,Ac _,S2,fun _=>by rw[DU,show cq+m - (h+1)=q by omega,<-HX.out.1,<-HX.out.2];exact AQ (by omega),HR.out⟩
    . have hltz:¬(i:Int)<(j:Int):=by omega
      have hi:j=i:=by omega
      subst hi;obtain⟨e,he⟩:∃e,e=cq+m - j:=⟨_,rfl⟩;have he1:e+j=cq+m:=by omega
      have hez:(cq:Int)+(m:Int) - (j:Int)=(e:Int):=by omega
      have hjm:j<=m:=by omega
      have hme:m<=e:=by omega
      have heb:e<=b:=by omega
      have hse:j+(e - m)=cq:=by omega
      have GL:RowKit.Hid (a<j->e<b->ltOf cf d[e]! d[j - 1]! =false):=fun x y=>by
        rw[he];exact HL.out (by have:=F6.out;omega)
      have GR:RowKit.Hid (j<m->m<e->ltOf cf d[e - 1]! d[j]! =true):=fun x y=>by
        rw[show e - 1=cq+m - 1 - j by omega];exact HR.out (by have:=F7.out;omega)
      clear he HL HR;by_cases q1:j<m/\m<e
      . by_cases q2:a<j/\j<cq
        . by_cases q3:cq<e/\e<b
          . first|(exfalso;have:=HE.out;omega)|(
           obtain⟨q1a,q1b⟩:=q1;have y1:(j:Int)<(m:Int):=by omega
           have y2:(m:Int)<(e:Int):=by omega
           obtain⟨q2a,q2b⟩:=q2;have x1:(a:Int)<(j:Int):=by omega
           have x2:(j:Int)<(cq:Int):=by omega
           obtain⟨q3a,q3b⟩:=q3;have v1:(cq:Int)<(e:Int):=by omega
           have v2:(e:Int)<(b:Int):=by omega
           have hrot:=L.rotate enc g cb aC off cap j m e d0 d w0 wr R HZ.out S1.out q1a q1b (by omega) hsz;clear S1;go_wp2_with (go_at_fn 230;refine hrot.mono ?_;clear hrot;rintro e1 w1 ⟨rfl,d1,Q2,hz1,r1,p1⟩)
           have S2:Aside (SWK enc k w0 aC off d1 w1):=Q2;have RR:RowKit.Hid _:=r1;have PP:RowKit.Hid _:=permIn_mono _ _ _ _ a b (by omega) heb hb p1;clear Q2 r1 p1;obtain⟨o1,o2,o3,o4⟩:=rG HS.out H1.out H2.out (by omega) hjm hme heb hse GL.out GR.out RR.out;have O1:RowKit.Hid _:=o1;have O2:RowKit.Hid _:=o2;have O3:RowKit.Hid _:=o3;have O4:RowKit.Hid _:=o4;clear o1 o2 o3 o4;have hm1:=HI.out a j cq d1 w1 (by omega) (by rw[hz1];exact HZ.out) S2.out q2a q2b (by omega) O1.out O2.out;rw[HZ.out]at hm1;clear S2;go_wp2_with (go_at_fn 195;refine hm1.mono ?_;clear hm1;rintro e2 w2 ⟨rfl,d2,Q3,hz2,p2,s2⟩)
           have S3:Aside (SWK enc k w0 aC off d2 w2):=Q3;have P2:RowKit.Hid _:=p2;have T2:RowKit.Hid _:=s2;clear Q3 p2 s2;have U3:RowKit.Hid _:=lJ P2.out (Ac _) O3.out;have U4:RowKit.Hid _:=lJ P2.out (show cq<=e by omega) O4.out;have hm3:=HI.out cq e b d2 w2 (by omega) (by rw[hz2,hz1];exact HZ.out) S3.out q3a q3b (by omega) U3.out U4.out;rw[HZ.out]at hm3;clear S3;go_wp2_with (go_at_fn 195;refine hm3.mono ?_;clear hm3;rintro e3 w3 ⟨rfl,d3,S4,hz3,p3,s3⟩)
           go_end0
           obtain⟨g1,g2⟩:=merged HS.out hb H1.out H2.out (by omega) hjm hme heb hse GL.out GR.out PP.out RR.out (by omega) (by omega) P2.out (fun _ _=>T2.out) p3 (fun _ _=>s3);exact⟨rfl,d3,S4,by omega,g1,g2⟩)
          . first|(exfalso;have:=HE.out;omega)|(
           obtain⟨q1a,q1b⟩:=q1;have y1:(j:Int)<(m:Int):=by omega
           have y2:(m:Int)<(e:Int):=by omega
           obtain⟨q2a,q2b⟩:=q2;have x1:(a:Int)<(j:Int):=by omega
           have x2:(j:Int)<(cq:Int):=by omega
           have v1:(decide ((cq:Int)<(e:Int))&&decide ((e:Int)<(b:Int)))=false:=by
            rw[Ar];intro hh;simp only[Ad,Aa]at hh;omega
           have hrot:=L.rotate enc g cb aC off cap j m e d0 d w0 wr R HZ.out S1.out q1a q1b (by omega) hsz;clear S1;go_wp2_with (go_at_fn 230;refine hrot.mono ?_;clear hrot;rintro e1 w1 ⟨rfl,d1,Q2,hz1,r1,p1⟩)
           have S2:Aside (SWK enc k w0 aC off d1 w1):=Q2;have RR:RowKit.Hid _:=r1;have PP:RowKit.Hid _:=permIn_mono _ _ _ _ a b (by omega) heb hb p1;clear Q2 r1 p1;obtain⟨o1,o2,o3,o4⟩:=rG HS.out H1.out H2.out (by omega) hjm hme heb hse GL.out GR.out RR.out;have O1:RowKit.Hid _:=o1;have O2:RowKit.Hid _:=o2;have O3:RowKit.Hid _:=o3;have O4:RowKit.Hid _:=o4;clear o1 o2 o3 o4;have hm1:=HI.out a j cq d1 w1 (by omega) (by rw[hz1];exact HZ.out) S2.out q2a q2b (by omega) O1.out O2.out;rw[HZ.out]at hm1;clear S2;go_wp2_with (go_at_fn 195;refine hm1.mono ?_;clear hm1;rintro e2 w2 ⟨rfl,d2,Q3,hz2,p2,s2⟩)
           have S3:Aside (SWK enc k w0 aC off d2 w2):=Q3;have P2:RowKit.Hid _:=p2;have T2:RowKit.Hid _:=s2;clear Q3 p2 s2;have U3:RowKit.Hid _:=lJ P2.out (Ac _) O3.out;have U4:RowKit.Hid _:=lJ P2.out (show cq<=e by omega) O4.out;go_wp2;go_end0
           obtain⟨g1,g2⟩:=merged HS.out hb H1.out H2.out (by omega) hjm hme heb hse GL.out GR.out PP.out RR.out (by omega) (by omega) P2.out (fun _ _=>T2.out) (permIn_refl _ _ _) (fun x y=>qi x y (by omega) (by omega) q3);exact⟨rfl,d2,S3.out,by omega,g1,g2⟩)
        . by_cases q3:cq<e/\e<b
          . first|(exfalso;have:=HE.out;omega)|(
           obtain⟨q1a,q1b⟩:=q1;have y1:(j:Int)<(m:Int):=by omega
           have y2:(m:Int)<(e:Int):=by omega
           have x1:(decide ((a:Int)<(j:Int))&&decide ((j:Int)<(cq:Int)))=false:=by
            rw[Ar];intro hh;simp only[Ad,Aa]at hh;omega
           obtain⟨q3a,q3b⟩:=q3;have v1:(cq:Int)<(e:Int):=by omega
           have v2:(e:Int)<(b:Int):=by omega
           have hrot:=L.rotate enc g cb aC off cap j m e d0 d w0 wr R HZ.out S1.out q1a q1b (by omega) hsz;clear S1;go_wp2_with (go_at_fn 230;refine hrot.mono ?_;clear hrot;rintro e1 w1 ⟨rfl,d1,Q2,hz1,r1,p1⟩)
           have S2:Aside (SWK enc k w0 aC off d1 w1):=Q2;have RR:RowKit.Hid _:=r1;have PP:RowKit.Hid _:=permIn_mono _ _ _ _ a b (by omega) heb hb p1;clear Q2 r1 p1;obtain⟨o1,o2,o3,o4⟩:=rG HS.out H1.out H2.out (by omega) hjm hme heb hse GL.out GR.out RR.out;have O1:RowKit.Hid _:=o1;have O2:RowKit.Hid _:=o2;have O3:RowKit.Hid _:=o3;have O4:RowKit.Hid _:=o4;clear o1 o2 o3 o4;obtain⟨d2,hd2⟩:∃d2,d2=d1:=⟨_,rfl⟩;have hz2:d2.size=d1.size:=by rw[hd2]
           have S3:Aside (SWK enc k w0 aC off d2 w1):=by rw[hd2];exact S2
           have P2:RowKit.Hid (PermIn a cq d1 d2):=by rw[hd2];exact permIn_refl _ _ _
           have T2:RowKit.Hid (SortedIn (ltOf cf) a cq d2):=by rw[hd2];exact qi O1.out O2.out (by omega) (by omega) q2
           obtain⟨w2,hw2⟩:∃w2,w2=w1:=⟨_,rfl⟩;rw[<-hw2]at S3⊢;clear S2 hd2 hw2;have U3:RowKit.Hid _:=lJ P2.out (Ac _) O3.out;have U4:RowKit.Hid _:=lJ P2.out (show cq<=e by omega) O4.out;have hm3:=HI.out cq e b d2 w2 (by omega) (by rw[hz2,hz1];exact HZ.out) S3.out q3a q3b (by omega) U3.out U4.out;rw[HZ.out]at hm3;clear S3;go_wp2_with (go_at_fn 195;refine hm3.mono ?_;clear hm3;rintro e3 w3 ⟨rfl,d3,S4,hz3,p3,s3⟩)
           go_end0
           obtain⟨g1,g2⟩:=merged HS.out hb H1.out H2.out (by omega) hjm hme heb hse GL.out GR.out PP.out RR.out (by omega) (by omega) P2.out (fun _ _=>T2.out) p3 (fun _ _=>s3);exact⟨rfl,d3,S4,by omega,g1,g2⟩)
          . first|(exfalso;have:=HE.out;omega)|(
           obtain⟨q1a,q1b⟩:=q1;have y1:(j:Int)<(m:Int):=by omega
           have y2:(m:Int)<(e:Int):=by omega
           have x1:(decide ((a:Int)<(j:Int))&&decide ((j:Int)<(cq:Int)))=false:=by
            rw[Ar];intro hh;simp only[Ad,Aa]at hh;omega
           have v1:(decide ((cq:Int)<(e:Int))&&decide ((e:Int)<(b:Int)))=false:=by
            rw[Ar];intro hh;simp only[Ad,Aa]at hh;omega
           have hrot:=L.rotate enc g cb aC off cap j m e d0 d w0 wr R HZ.out S1.out q1a q1b (by omega) hsz;clear S1;go_wp2_with (go_at_fn 230;refine hrot.mono ?_;clear hrot;rintro e1 w1 ⟨rfl,d1,Q2,hz1,r1,p1⟩)
           have S2:Aside (SWK enc k w0 aC off d1 w1):=Q2;have RR:RowKit.Hid _:=r1;have PP:RowKit.Hid _:=permIn_mono _ _ _ _ a b (by omega) heb hb p1;clear Q2 r1 p1;obtain⟨o1,o2,o3,o4⟩:=rG HS.out H1.out H2.out (by omega) hjm hme heb hse GL.out GR.out RR.out;have O1:RowKit.Hid _:=o1;have O2:RowKit.Hid _:=o2;have O3:RowKit.Hid _:=o3;have O4:RowKit.Hid _:=o4;clear o1 o2 o3 o4;obtain⟨d2,hd2⟩:∃d2,d2=d1:=⟨_,rfl⟩;have hz2:d2.size=d1.size:=by rw[hd2]
           have S3:Aside (SWK enc k w0 aC off d2 w1):=by rw[hd2];exact S2
           have P2:RowKit.Hid (PermIn a cq d1 d2):=by rw[hd2];exact permIn_refl _ _ _
           have T2:RowKit.Hid (SortedIn (ltOf cf) a cq d2):=by rw[hd2];exact qi O1.out O2.out (by omega) (by omega) q2
           obtain⟨w2,hw2⟩:∃w2,w2=w1:=⟨_,rfl⟩;rw[<-hw2]at S3⊢;clear S2 hd2 hw2;have U3:RowKit.Hid _:=lJ P2.out (Ac _) O3.out;have U4:RowKit.Hid _:=lJ P2.out (show cq<=e by omega) O4.out;go_wp2;go_end0
           obtain⟨g1,g2⟩:=merged HS.out hb H1.out H2.out (by omega) hjm hme heb hse GL.out GR.out PP.out RR.out (by omega) (by omega) P2.out (fun _ _=>T2.out) (permIn_refl _ _ _) (fun x y=>qi x y (by omega) (by omega) q3);exact⟨rfl,d2,S3.out,by omega,g1,g2⟩)
      . by_cases q2:a<j/\j<cq
        . by_cases q3:cq<e/\e<b
          . exfalso;have:=HE.out;omega
          . first|(exfalso;have:=HE.out;omega)|(
           have y1:(decide ((j:Int)<(m:Int))&&decide ((m:Int)<(e:Int)))=false:=by
            rw[Ar];intro hh;simp only[Ad,Aa]at hh;omega
           obtain⟨q2a,q2b⟩:=q2;have x1:(a:Int)<(j:Int):=by omega
           have x2:(j:Int)<(cq:Int):=by omega
           have v1:(decide ((cq:Int)<(e:Int))&&decide ((e:Int)<(b:Int)))=false:=by
            rw[Ar];intro hh;simp only[Ad,Aa]at hh;omega
           obtain⟨d1,hd1⟩:∃d1,d1=d:=⟨_,rfl⟩;have hz1:d1.size=d.size:=by rw[hd1]
           have S2:Aside (SWK enc k w0 aC off d1 wr):=by rw[hd1];exact S1
           have RR:RowKit.Hid (∀i,d1[i]! =gi (fun i=>d[i]!) j m e i):=fun i=>by rw[hd1,Gd _ hjm hme q1]
           have PP:RowKit.Hid (PermIn a b d d1):=by rw[hd1];exact permIn_refl _ _ _
           obtain⟨w1,hw1⟩:∃w1,w1=wr:=⟨_,rfl⟩;rw[<-hw1]at S2⊢;clear S1 hd1 hw1;obtain⟨o1,o2,o3,o4⟩:=rG HS.out H1.out H2.out (by omega) hjm hme heb hse GL.out GR.out RR.out;have O1:RowKit.Hid _:=o1;have O2:RowKit.Hid _:=o2;have O3:RowKit.Hid _:=o3;have O4:RowKit.Hid _:=o4;clear o1 o2 o3 o4;have hm1:=HI.out a j cq d1 w1 (by omega) (by rw[hz1];exact HZ.out) S2.out q2a q2b (by omega) O1.out O2.out;rw[HZ.out]at hm1;clear S2;go_wp2_with (go_at_fn 195;refine hm1.mono ?_;clear hm1;rintro e2 w2 ⟨rfl,d2,Q3,hz2,p2,s2⟩)
           have S3:Aside (SWK enc k w0 aC off d2 w2):=Q3;have P2:RowKit.Hid _:=p2;have T2:RowKit.Hid _:=s2;clear Q3 p2 s2;have U3:RowKit.Hid _:=lJ P2.out (Ac _) O3.out;have U4:RowKit.Hid _:=lJ P2.out (show cq<=e by omega) O4.out;go_wp2;go_end0
           obtain⟨g1,g2⟩:=merged HS.out hb H1.out H2.out (by omega) hjm hme heb hse GL.out GR.out PP.out RR.out (by omega) (by omega) P2.out (fun _ _=>T2.out) (permIn_refl _ _ _) (fun x y=>qi x y (by omega) (by omega) q3);exact⟨rfl,d2,S3.out,by omega,g1,g2⟩)
        . by_cases q3:cq<e/\e<b
          . first|(exfalso;have:=HE.out;omega)|(
           have y1:(decide ((j:Int)<(m:Int))&&decide ((m:Int)<(e:Int)))=false:=by
            rw[Ar];intro hh;simp only[Ad,Aa]at hh;omega
           have x1:(decide ((a:Int)<(j:Int))&&decide ((j:Int)<(cq:Int)))=false:=by
            rw[Ar];intro hh;simp only[Ad,Aa]at hh;omega
           obtain⟨q3a,q3b⟩:=q3;have v1:(cq:Int)<(e:Int):=by omega
           have v2:(e:Int)<(b:Int):=by omega
           obtain⟨d1,hd1⟩:∃d1,d1=d:=⟨_,rfl⟩;have hz1:d1.size=d.size:=by rw[hd1]
           have S2:Aside (SWK enc k w0 aC off d1 wr):=by rw[hd1];exact S1
           have RR:RowKit.Hid (∀i,d1[i]! =gi (fun i=>d[i]!) j m e i):=fun i=>by rw[hd1,Gd _ hjm hme q1]
           have PP:RowKit.Hid (PermIn a b d d1):=by rw[hd1];exact permIn_refl _ _ _
           obtain⟨w1,hw1⟩:∃w1,w1=wr:=⟨_,rfl⟩;rw[<-hw1]at S2⊢;clear S1 hd1 hw1;obtain⟨o1,o2,o3,o4⟩:=rG HS.out H1.out H2.out (by omega) hjm hme heb hse GL.out GR.out RR.out;have O1:RowKit.Hid _:=o1;have O2:RowKit.Hid _:=o2;have O3:RowKit.Hid _:=o3;have O4:RowKit.Hid _:=o4;clear o1 o2 o3 o4;obtain⟨d2,hd2⟩:∃d2,d2=d1:=⟨_,rfl⟩;have hz2:d2.size=d1.size:=by rw[hd2]
           have S3:Aside (SWK enc k w0 aC off d2 w1):=by rw[hd2];exact S2
           have P2:RowKit.Hid (PermIn a cq d1 d2):=by rw[hd2];exact permIn_refl _ _ _
           have T2:RowKit.Hid (SortedIn (ltOf cf) a cq d2):=by rw[hd2];exact qi O1.out O2.out (by omega) (by omega) q2
           obtain⟨w2,hw2⟩:∃w2,w2=w1:=⟨_,rfl⟩;rw[<-hw2]at S3⊢;clear S2 hd2 hw2;have U3:RowKit.Hid _:=lJ P2.out (Ac _) O3.out;have U4:RowKit.Hid _:=lJ P2.out (show cq<=e by omega) O4.out;have hm3:=HI.out cq e b d2 w2 (by omega) (by rw[hz2,hz1];exact HZ.out) S3.out q3a q3b (by omega) U3.out U4.out;rw[HZ.out]at hm3;clear S3;go_wp2_with (go_at_fn 195;refine hm3.mono ?_;clear hm3;rintro e3 w3 ⟨rfl,d3,S4,hz3,p3,s3⟩)
           go_end0
           obtain⟨g1,g2⟩:=merged HS.out hb H1.out H2.out (by omega) hjm hme heb hse GL.out GR.out PP.out RR.out (by omega) (by omega) P2.out (fun _ _=>T2.out) p3 (fun _ _=>s3);exact⟨rfl,d3,S4,by omega,g1,g2⟩)
          . first|(exfalso;have:=HE.out;omega)|(
           have y1:(decide ((j:Int)<(m:Int))&&decide ((m:Int)<(e:Int)))=false:=by
            rw[Ar];intro hh;simp only[Ad,Aa]at hh;omega
           have x1:(decide ((a:Int)<(j:Int))&&decide ((j:Int)<(cq:Int)))=false:=by
            rw[Ar];intro hh;simp only[Ad,Aa]at hh;omega
           have v1:(decide ((cq:Int)<(e:Int))&&decide ((e:Int)<(b:Int)))=false:=by
            rw[Ar];intro hh;simp only[Ad,Aa]at hh;omega
           obtain⟨d1,hd1⟩:∃d1,d1=d:=⟨_,rfl⟩;have hz1:d1.size=d.size:=by rw[hd1]
           have S2:Aside (SWK enc k w0 aC off d1 wr):=by rw[hd1];exact S1
           have RR:RowKit.Hid (∀i,d1[i]! =gi (fun i=>d[i]!) j m e i):=fun i=>by rw[hd1,Gd _ hjm hme q1]
           have PP:RowKit.Hid (PermIn a b d d1):=by rw[hd1];exact permIn_refl _ _ _
           obtain⟨w1,hw1⟩:∃w1,w1=wr:=⟨_,rfl⟩;rw[<-hw1]at S2⊢;clear S1 hd1 hw1;obtain⟨o1,o2,o3,o4⟩:=rG HS.out H1.out H2.out (by omega) hjm hme heb hse GL.out GR.out RR.out;have O1:RowKit.Hid _:=o1;have O2:RowKit.Hid _:=o2;have O3:RowKit.Hid _:=o3;have O4:RowKit.Hid _:=o4;clear o1 o2 o3 o4;obtain⟨d2,hd2⟩:∃d2,d2=d1:=⟨_,rfl⟩;have hz2:d2.size=d1.size:=by rw[hd2]
           have S3:Aside (SWK enc k w0 aC off d2 w1):=by rw[hd2];exact S2
           have P2:RowKit.Hid (PermIn a cq d1 d2):=by rw[hd2];exact permIn_refl _ _ _
           have T2:RowKit.Hid (SortedIn (ltOf cf) a cq d2):=by rw[hd2];exact qi O1.out O2.out (by omega) (by omega) q2
           obtain⟨w2,hw2⟩:∃w2,w2=w1:=⟨_,rfl⟩;rw[<-hw2]at S3⊢;clear S2 hd2 hw2;have U3:RowKit.Hid _:=lJ P2.out (Ac _) O3.out;have U4:RowKit.Hid _:=lJ P2.out (show cq<=e by omega) O4.out;go_wp2;go_end0
           obtain⟨g1,g2⟩:=merged HS.out hb H1.out H2.out (by omega) hjm hme heb hse GL.out GR.out PP.out RR.out (by omega) (by omega) P2.out (fun _ _=>T2.out) (permIn_refl _ _ _) (fun x y=>qi x y (by omega) (by omega) q3);exact⟨rfl,d2,S3.out,by omega,g1,g2⟩))
end
section
variable {P:Program} {α:Type} [Inhabited α] {k:Nat}
theorem kC.sym (L:kC P k) (enc:α->List Value) (cf:α->α->Int) (hS:SWO (ltOf cf)) (g:Nat) (cb:Array Value) (aC off cap:Nat) (d0:Array α) (w0:World)
  (eg:∀args w,(callFunc g args).run P w= .ok (.enter g args) w) (hcmp:CmpLays P g cb enc k cf aC off d0.size w0) (R:RowK enc k w0 aC off d0) (hsz:d0.size<4611686018427387904) (N:Nat):Jt P enc k cf g cb aC off cap d0 w0 N:=by
 induction N with
 |zero=>intro a m b d w h;omega
 |succ N ih=>
  intro a m b d w h hs S ham hmb hb h1 h2;rw[hs];by_cases q1:m=a+1
  . exact L.IU enc cf hS g cb aC off cap a m b d0 d w0 w eg hcmp R hs S q1 hmb hb (by omega) h2
  by_cases q2:b=m+1
  . exact L.IV enc cf hS g cb aC off cap a m b d0 d w0 w eg hcmp R hs S (by omega) q2 hb (by omega) h1
  exact L.IW enc cf hS g cb aC off cap a m b d0 d w0 w eg hcmp R hs S (by omega) (by omega) hb (by omega) h1 h2 fun a' m' b' d' w' h'=>ih a' m' b' d' w' (by omega)
set_option maxHeartbeats 8000000 in
set_option maxRecDepth 1000000 in
theorem kC.rT (L:kC P k) (enc:α->List Value) (cf:α->α->Int) (hS:SWO (ltOf cf)) (g:Nat) (cb:Array Value) (aC off cap:Nat) (d0 d:Array α) (w0 w:World)
  (eg:∀args w,(callFunc g args).run P w= .ok (.enter g args) w) (hcmp:CmpLays P g cb enc k cf aC off d0.size w0) (R:RowK enc k w0 aC off d0) (hs:d0.size=d.size) (S:SWK enc k w0 aC off d w) (hn:d.size<40)
  (e194:∀args w,(callFunc 194 args).run P w= .ok (.enter 194 args) w)
  (hins:∀(dk:Array α) (W:World) (a b:Nat),dk.size=d.size->SWK enc k w0 aC off dk W->a<=b->b<=d.size->Calls P 194 #[.slice (some ⟨aC,off,none⟩) d.size cap, .int .i64 a, .int .i64 b, .func (.func g) #[] cb] W fun e w'=>e= .returned (.tuple #[])/\ ∃d',SWK enc k w0 aC off d' w'/\d'.size=d.size/\PermIn a b dk d'/\SortedIn (ltOf cf) a b d'):
  Calls P 150 #[.slice (some ⟨aC,off,none⟩) d.size cap, .int .i64 (d.size:Nat), .func (.func g) #[] cb] w fun e w'=>e= .returned (.tuple #[])/\ ∃d',SWK enc k w0 aC off d' w'/\d'.size=d.size/\PermIn 0 d.size d d'/\SortedIn (ltOf cf) 0 d.size d':=by
 have mixed:=L.mixed;have t0:=L.t0;have a0:=L.a0;have z0:=L.z0;have v0:=L.v0;have t3:=L.t3;have a3:=L.a3;have z3:=L.z3;have v3:=L.v3;have t4:=L.t4;have a4:=L.a4;have z4:=L.z4;have v4:=L.v4;have t39:=L.t39;have a39:=L.a39;have z39:=L.z39;have v39:=L.v39;have t150:=L.t150;have gz:=L.gz;have gH:=L.gH;have gG:=L.gG;have FG:=L.f150;have e195:∀args w,(callFunc 195 args).run P w= .ok (.enter 195 args) w:=enters_of L.f195 (by kernel_rfl) rfl;have HM:Aside _:=L.sym enc cf hS g cb aC off cap d0 w0 eg hcmp R (by omega) 100;have HI:Aside _:=hins;have HZ:RowKit.Hid _:=hs;have S0:Aside (SWK enc k w0 aC off d w):=S;clear S hins hs hS hcmp eg R;obtain⟨n,hnn⟩:∃n,n=d.size:=⟨_,rfl⟩;rw[<-hnn]at hn⊢;have HN:RowKit.Hid _:=hnn;clear hnn;go_enter FG,Tryz.ntmps150
 go_wp2;go_loopg [7,8] 2 (fun kx s7 s8 wr=>∃(q:Nat) (dk:Array α),s7= .int .i64 q/\s8= .int .i64 ((q:Int)+20)/\(q=0\/q=20)/\q<=n/\(q=0->kx=2)/\1<=kx/\RowKit.Hid (dk.size=d.size)/\Aside (SWK enc k w0 aC off dk wr)/\RowKit.Hid (PermIn 0 n d dk)/\RowKit.Hid (SortedIn (ltOf cf) 0 q dk))
 case atStart=>exact⟨0,d,rfl,rfl, .inl rfl,Ao _,fun _=>rfl,by omega,rfl,S0,permIn_refl _ _ _,fun i j h1 h2 h3=>absurd h3 (A9 _)⟩
 case round=>
  clear S0;obtain⟨q,dk,rfl,rfl,hq,hqn,hk2,hk1,hds,S1,HP,HT⟩:=hrel;have e20:((q+20:Nat):Int)=(q:Int)+20:=by omega
  have HK:RowKit.Hid _:=hk2;have HQ:RowKit.Hid _:=hq;clear hk2 hq;by_cases hlt:q+20<=n
  . have hltz:(q:Int)+20<=(n:Int):=by omega
    have hcall:=HI.out dk wr q (q+20) hds.out S1.out (by omega) (by rw[<-HN.out];omega);rw[<-HN.out,e20]at hcall;clear S1;go_wp2_with (go_at_fn 194;refine hcall.mono ?_;clear hcall;rintro e1 w1 ⟨rfl,d1,S2,hz,p1,s1⟩)
    have hq0:q=0:=by have:=HQ.out;omega
    go_roundg 1
    case measure=>have:=HK.out hq0;omega
    case rel=>exact⟨20,d1,by rw[hq0];rfl,by rw[hq0];rfl, .inr rfl,by omega,fun h=>absurd h (by omega),Ac _,hz.trans HN.out,S2,permIn_trans _ _ _ _ _ HP.out (permIn_mono _ _ _ _ 0 n (Ao _) hlt (by rw[hds.out,HN.out];omega) p1),by grind⟩
  . have hltz:¬(q:Int)+20<=(n:Int):=by omega
    have hcall:=HI.out dk wr q n hds.out S1.out hqn (by rw[<-HN.out];omega);rw[<-HN.out]at hcall;clear S1;go_wp2_with (go_at_fn 194;refine hcall.mono ?_;clear hcall;rintro e1 w1 ⟨rfl,d1,Q2,hz,p1,s1⟩)
    have S2:Aside (SWK enc k w0 aC off d1 w1):=Q2;have P1:RowKit.Hid (PermIn 0 n d d1):=permIn_trans _ _ _ _ _ HP.out (permIn_mono _ _ _ _ 0 n (Ao _) (Ac _) (by rw[hds.out,HN.out];omega) p1);have T0:RowKit.Hid (SortedIn (ltOf cf) 0 q d1):=fun i j h1 h2 h3=>by
     rw[p1.2.1 i (.inl (by omega)),p1.2.1 j (.inl (by omega))];exact HT.out i j h1 h2 h3
    have T1:RowKit.Hid (SortedIn (ltOf cf) q n d1):=s1;have Z1:RowKit.Hid (d1.size=d.size):=hz.trans HN.out;clear Q2 p1 s1 hz;go_loopg [6,7,8,9] 2 (fun kx s6 s7 s8 s9 wr=>∃(t:Nat) (dk:Array α),s6= .int .i64 t/\(t=20->kx=2)/\1<=kx/\((t=20/\dk=d1)\/(n<=t/\SortedIn (ltOf cf) 0 n dk))/\RowKit.Hid (dk.size=d.size)/\Aside (SWK enc k w0 aC off dk wr)/\RowKit.Hid (PermIn 0 n d dk))
    case atStart=>grind
    case round=>
     clear S2;obtain⟨t,dk,rfl,hk2,hk1,ht,hds2,S1,HP2⟩:=hrel;have HK2:RowKit.Hid _:=hk2;have HT2:RowKit.Hid _:=ht;clear hk2 ht;by_cases hlt2:t<n
     . have hltz2:(t:Int)<(n:Int):=by omega
       obtain⟨ht,hd⟩:t=20/\dk=d1:=by
         rcases HT2.out with h|⟨h,_⟩
         all_goals omega
       subst ht;subst hd;have hq20:RowKit.Hid (q=20):=by have:=HQ.out;show q=20;omega
       have hcall:=HM.out 0 20 n dk wr (by omega) (by rw[hds2.out];exact HZ.out) S1.out (by omega) hlt2 (by rw[hds2.out,HN.out];omega) (by have:=T0.out;rwa [hq20.out]at this) (by have:=T1.out;rwa [hq20.out]at this);rw[HZ.out,<-HN.out]at hcall;go_wp2_with fail
       go_loopg [7,8] 1 (fun kx s7 s8 wr2=>s7= .int .i64 0/\s8= .int .i64 40/\wr2=wr)
       case atStart=>exact⟨rfl,rfl,rfl⟩
       case round=>
         obtain⟨rfl,rfl,rfl⟩:=hrel;have h40:¬(40:Int)<=(n:Int):=by omega
         clear S1;go_wp2_with (go_at_fn 195;refine hcall.mono ?_;clear hcall;rintro e1 w3 ⟨rfl,d3,S3,hz3,p3,s3⟩)
         go_roundg 1
         case measure=>have:=HK2.out (by first|trivial|rfl);omega
         case rel=>exact⟨40,d3,rfl,fun h=>absurd h (by omega),Ac _, .inr ⟨by omega,s3⟩,by grind,S3,permIn_trans _ _ _ _ _ HP2.out p3⟩
     . have hltz2:¬(t:Int)<(n:Int):=by omega
       go_wp2;go_end0
       refine⟨rfl,dk,S1.out,by rw[HN.out];exact hds2.out,HP2.out,?_⟩;rcases HT2.out with⟨h,rfl⟩|⟨_,h⟩
       . rcases HQ.out with hq|hq
         . have:=T1.out;rwa [hq]at this
         . have hnq:n=q:=by omega
           rw[hnq];exact T0.out
       omega
set_option maxHeartbeats 4000000 in
set_option maxRecDepth 1000000 in
theorem kC.ly (L:kC P k) (enc:α->List Value) (cf:α->α->Int) (hS:SWO (ltOf cf)) (g:Nat) (cb:Array Value) (aC off cap:Nat) (d:Array α) (w:World)
  (eg:∀args w,(callFunc g args).run P w= .ok (.enter g args) w) (hcmp:CmpLays P g cb enc k cf aC off d.size w) (R:RowK enc k w aC off d) (hn:d.size<40)
  (e194:∀args w,(callFunc 194 args).run P w= .ok (.enter 194 args) w)
  (hins:∀(dk:Array α) (W:World) (a b:Nat),dk.size=d.size->SWK enc k w aC off dk W->a<=b->b<=d.size->Calls P 194 #[.slice (some ⟨aC,off,none⟩) d.size cap, .int .i64 a, .int .i64 b, .func (.func g) #[] cb] W fun e w'=>e= .returned (.tuple #[])/\ ∃d',SWK enc k w aC off d' w'/\d'.size=d.size/\PermIn a b dk d'/\SortedIn (ltOf cf) a b d'):
  Calls P 104 #[.slice (some ⟨aC,off,none⟩) d.size cap, .func (.func g) #[] cb] w fun e w'=>e= .returned (.tuple #[])/\ ∃d',SWK enc k w aC off d' w'/\d'.size=d.size/\PermIn 0 d.size d d'/\SortedIn (ltOf cf) 0 d.size d':=by
 have mixed:=L.mixed;have t0:=L.t0;have a0:=L.a0;have z0:=L.z0;have v0:=L.v0;have t3:=L.t3;have a3:=L.a3;have z3:=L.z3;have v3:=L.v3;have t39:=L.t39;have a39:=L.a39;have z39:=L.z39;have v39:=L.v39;have t150:=L.t150;have gz:=L.gz;have gH:=L.gH;have gG:=L.gG;have FG:=L.f104;have e150:∀args w,(callFunc 150 args).run P w= .ok (.enter 150 args) w:=enters_of L.f150 (by kernel_rfl) rfl;have hcall:=L.rT enc cf hS g cb aC off cap d d w w eg hcmp R rfl (SWK.start R.hH) hn e194 hins;clear hins hcmp;go_enter FG,Tryz.ntmps104
 go_wp2_with (go_at_fn 150;refine hcall.mono ?_;clear hcall;rintro e1 w1 ⟨rfl,d1,S2,hz,p1,s1⟩)
 go_end0
 grind
end
end Go.Proofs
namespace Go.Proofs
open Go Go.Am Go.RowKit Go.Sy Go.Maps Go.Sort Go.Shelf
section
theorem w7:kC Tryz.prog 11:={
 mixed:=by kernel_rfl
 f251:=Tryz.func251,f230:=Tryz.func230,f195:=Tryz.func195,f150:=Tryz.func150,f104:=Tryz.func104
 t0:=Tryz.underlying0,a0:=Tryz.isAgg0,z0:=Tryz.sizeOf0,v0:=Tryz.zeroValue0
 t3:=Tryz.underlying3,a3:=Tryz.isAgg3,z3:=Tryz.sizeOf3,v3:=Tryz.zeroValue3
 t4:=Tryz.underlying4,a4:=Tryz.isAgg4,z4:=Tryz.sizeOf4,v4:=Tryz.zeroValue4
 t39:=Tryz.underlying39,a39:=Tryz.isAgg39,z39:=Tryz.sizeOf39,v39:=Tryz.zeroValue39
 t150:=Tryz.underlying150,gz:=Tryz.isAgg150,gH:=Tryz.sizeOf150,gG:=Tryz.zeroValue150
 t198:=Tryz.underlying198,a198:=Tryz.isAgg198,z198:=Tryz.sizeOf198,v198:=Tryz.zeroValue198
 aE:=fun w=>by simp_all
 zE:=fun w=>by simp_all}
theorem KK (aC off size:Nat) (w:World):CmpLays Tryz.prog 105 #[] eE 11 kh aC off size w:=by
 intro m os dk _ x y;letI:Inhabited aK:=⟨⟨True,#[]⟩⟩
 have h:=mo bh.ok Yk (fn:=Tryz.f105) (hfn:=by kernel_rfl) (hb:=rfl) (y:=(x,y)) trivial (args:=[.agg (eE x).toArray, .agg (eE y).toArray]) (w:=sortWorldK eE 11 w aC off m dk os) (PL.cons (yP x) (PL.cons (yP y) PL.nil)) (cX.o8 rfl _);refine Calls.mono h ?_;rintro e w' ⟨v,rfl,hv,hbel,hd⟩;have hv:v= .int .i64 (kh x y):=zz hv;exact⟨by rw[hv],Ni hbel (hd trivial)⟩
theorem Tf (aC off cap:Nat) (d:Array ab) (w:World) (hH:HoldsK eE 11 w aC off d) (hblk:aC<w.heap.size) (hn:d.size<40):
  Calls Tryz.prog 104 #[.slice (some ⟨aC,off,none⟩) d.size cap, .func (.func 105) #[] #[]] w fun e w'=>e= .returned (.tuple #[])/\ ∃d',SWK eE 11 w aC off d' w'/\d'.size=d.size/\PermIn 0 d.size d d'/\SortedIn (ltOf kh) 0 d.size d':=by
 have R:RowK eE 11 w aC off d:=⟨fun _=>rfl,yS,hH,hblk⟩;have eg:=enters_of Tryz.func105 (by kernel_rfl) rfl;refine w7.ly eE kh fq 105 #[] aC off cap d w eg (KK aC off d.size w) R hn (enters_of Tryz.func194 (by kernel_rfl) rfl) ?_;intro dk W a b hz S hab hb;have h:=AnyQ.insertionSortCmpFunc (P:=Tryz.prog) (ρ:=pQ) {KA with} 11 KL Kv eE (fun _=>rfl) yS kh 105 #[] aC off cap a b dk W eg (KK aC off dk.size W) (S.holds hblk hH hz) (S.lt hblk) hab (by omega) (by omega);rw[hz]at h;refine Calls.mono h ?_;rintro e w' ⟨rfl,n,os,rfl⟩;have hp:=insertionSort_holds (lt:=ltOf kh) fq dk a b hab (by omega);exact⟨rfl,_,S.on hblk n _ os hp.1.1,hp.1.1.trans hz,hp.1,hp.2⟩
theorem Uf (a:Option Addr) (c:Nat) (w:World):Calls Tryz.prog 194 #[.slice a 0 c, .int .i64 0, .int .i64 0, .func (.func 105) #[] #[]] w fun e w'=>e= .returned (.tuple #[])/\w'=w:=by
 go_enter Tryz.func194,Tryz.ntmps194
 go_wp2;refine wp_loop_rounds 1 ?_;rw[rounds_succ];go_wp2;go_end0
 grind
theorem Td (a:Option Addr) (c:Nat) (w:World):Calls Tryz.prog 150 #[.slice a 0 c, .int .i64 0, .func (.func 105) #[] #[]] w fun e w'=>e= .returned (.tuple #[])/\w'=w:=by
 have hins:=Uf a c w;go_enter Tryz.func150,Tryz.ntmps150
 go_wp2;refine wp_loop_rounds 1 ?_;rw[rounds_succ];go_wp2_with (go_at_call 194;refine hins.mono ?_;clear hins;rintro e1 w1 ⟨rfl,rfl⟩)
 refine wp_loop_rounds 1 ?_;rw[rounds_succ];go_wp2;go_end0
 grind
theorem SQ (a:Option Addr) (c:Nat) (w:World):Calls Tryz.prog 104 #[.slice a 0 c, .func (.func 105) #[] #[]] w fun e w'=>e= .returned (.tuple #[])/\w'=w:=by
 have hins:=Td a c w;go_enter Tryz.func104,Tryz.ntmps104
 go_wp2_with (go_at_call 150;refine hins.mono ?_;clear hins;rintro e1 w1 ⟨rfl,rfl⟩)
 go_end0
 grind
theorem Wo {w:World} {g:Nat} {d:Array ab} (h:HoldsK eE 11 w g 0 d) (hd:0<d.size):∃arr e fz,w.heap[g]? =some (.cells arr e fz)/\d.size*11<=arr.size/\
  ∀(i:Nat) x (j:Nat) v,d.toList[i]? =some x->(eE x)[j]? =some v->arr[0+i*11+j]? =some v:=by
 have hl:=(h.cell (i:=d.size - 1) (c:=10) (by omega) (by omega)).1;unfold World.cell? at hl
 cases hb:w.heap[g]? with
 |none=>grind
 | some o=>
  cases o with
  |cells arr e fz=>
   simp only[hb,DT,Ax,Bc]at hl;have:=(Ab.1 hl).1;refine⟨arr,e,fz,rfl,by omega,fun i x j v hx hv=>?_⟩;have hj:j<11:=(Ae.1 hv).1;obtain⟨hi,rfl⟩:=Ae.1 hx;have hi:i<d.size:=by omega
   have hc:=(h.cell hi hj).1;grind [World.cell?]
  |_=>simp only[hb]at hl;cases hl
theorem Tm (a:Option Addr) (c:Nat) (w:World):Calls Tryz.prog 103 #[.slice a 0 c] w fun e w'=>∃a' c',e= .returned (.slice a' 0 c')/\((a'=none/\c'=0)\/ ∃g arr e fz,a'=some ⟨g,0,none⟩/\w.heap.size<=g/\w'.heap[g]? =some (.cells arr e fz))/\Below w.heap.size w w':=by
 cases a with
 |none=>
  refine(AnyE.slices_Clone_nil JM 0 c w).mono ?_;grind [Below.refl]
 |some p=>
  have q40:∀(w:World) (a:Option Addr) (n c n' c':Nat),(binOp .eql 39 (.slice a n c) (.slice none n' c')).run Tryz.prog w= .ok (.bool a.isNone) w:=fun w a n c n' c'=>Lib.run_eql_slice_nil w _ _ a n c n' c' Tryz.underlying39
  obtain⟨i0,hi,hz0,hz1,hz2⟩:=info_parts KO;go_enter Tryz.func103,Tryz.ntmps103
  go_wp2_with (at_builtin;refine wpList_append_own _ rfl _ _ 39 rfl w.heap.size 61 i0 _ 11 96 Tryz.underlying39 hi hz0 hz1 hz2 rfl (by omega) _ _ _ rfl (World.ownsRow_made w #[] 0 (Ac _) (Ao _) (by simp)) p 0 c [] rfl ?qc1 ?qc2 ?qc3 ?qc4 ?qc5 ?qc6 ?_)
  case qc1=>rfl
  case qc2=>
    grind
  case qc3=>grind
  case qc4=>rw[AA];omega
  case qc5=>rw[AA];omega
  case qc6=>simp
  intro v' w1 hown hgrow hnil;go_wp2;go_ret;have hbel:Below w.heap.size w w1:=((Below.refl _ w).alloc (Ac _) _).grown hgrow (by simp) (by grind [Value.ownBlock]);obtain⟨_,⟨rfl,_⟩|⟨g,cap,cur,rfl,hg,hw,_⟩⟩:=hown
  . grind
  . exact⟨_,_,rfl, .inr ⟨g,cur,_,_,rfl,hg,hw⟩,hbel⟩
theorem Zb {l:List ab} {d':Array ab} (hk:KN l) (hp:PermIn 0 l.toArray.size l.toArray d') (hs:SortedIn (ltOf kh) 0 l.toArray.size d'):d'.toList=bS l:=by
 obtain⟨h1,_,h3⟩:=hp;have hsz:d'.size=l.length:=by omega
 have hperm:d'.toList.Perm l:=by
  rw[show d'.extract 0 l.toArray.size=d' by rw[<-h1];simp]at h3;grind
 have hpw:d'.toList.Pairwise (fun a b=>gu b a=false):=by
  rw[AJ];intro i j hi hj hij;simp only[Array.length_toList]at hi hj;have:=hs i j (Ao _) hij (by omega);rw[BJ d' j hj,BJ d' i hi]at this;simp only[EL];exact this
 have hp2:(bS l).Perm l:=by
  have:=Fh l [];rwa [Br]at this
 refine Go.Sym.iZ (lt:=ltOf kh) (hperm.trans hp2.symm) ?_ hpw (EO l [] List.Pairwise.nil);intro x hx y hy h1 h2;have hx:x∈l:=hperm.mem_iff.1 hx;have hy:y∈l:=hperm.mem_iff.1 hy;have hke:x.key=y.key:=Ms h1 h2;grind [KN.inj]
theorem Tryz.bS {l:List ab} {b off cap:Nat} {w:World} (hl:l.length<40) (h0:0<l.length) (hk:KN l) (h:rowAt w b off l):
  Calls Tryz.prog 63 #[.slice (some ⟨b,off,none⟩) l.length cap] w fun e w'=>∃u,e= .returned u/\Up w' w.heap.size (items (bS l)) u/\Below w.heap.size w w':=by
 letI:Inhabited aK:=⟨⟨True,#[]⟩⟩
 have hclone:=Ku (cap:=cap) (show l.length<=10000 by omega) h;go_enter Tryz.func63,Tryz.ntmps63
 go_wp2_with (go_at_call 103;refine hclone.mono ?_;clear hclone;rintro e w1 ⟨g,c,rfl,hg,hg1,hlc,hH,hbel1⟩)
 have hsort:=Tf g 0 c l.toArray w1 hH hg1 (by omega);rw[show l.toArray.size=l.length by simp]at hsort;go_wp2_with (go_at_call 104;refine hsort.mono ?_;clear hsort;rintro e w2 ⟨rfl,d',S2,hz,hp,hs⟩)
 go_ret;obtain⟨n,os,hw2⟩:=S2;have hbel2:Below w.heap.size w w2:=hbel1.trans (by rw[hw2];grind [Ly]);have hH2:HoldsK eE 11 w2 g 0 d':=by rw[hw2];grind [holdsK_sortWorldK_c]
 have hd:d'.toList=Go.Proofs.bS l:=Zb hk (by omega) (by omega);have hdl:d'.size=l.length:=by omega
 obtain⟨arr,e,fz,hb,hsz,hcell⟩:=Wo hH2 (by omega);have hlen:(Go.Proofs.bS l).length=l.length:=by rw[<-hd];omega
 have hup:=Gi (cap:=c) (l:=Go.Proofs.bS l) (off:=0) hg hb (by omega) (by rw[hlen];omega) (by rw[<-hd];omega);rw[hlen]at hup;simp_all
theorem Kg (a:Option Addr) (c:Nat) (w:World):
   Calls Tryz.prog 63 #[.slice a 0 c] w fun e w'=>∃u,e= .returned u/\Up w' w.heap.size (items []) u/\Below w.heap.size w w':=by
 have hclone:=Tm a c w;have hsort:=SQ;go_enter Tryz.func63,Tryz.ntmps63
 go_wp2_with (first|(go_at_call 103;refine hclone.mono ?_;clear hclone;rintro e w1 ⟨a',c',rfl,hu,hbel1⟩)|(go_at_call 104;refine(hsort _ _ _).mono ?_;clear hsort;rintro e w2 ⟨rfl,rfl⟩))
 go_ret;refine⟨_,rfl,?_,hbel1⟩;rcases hu with⟨rfl,rfl⟩|⟨g,arr,e,fz,rfl,hg,hw⟩
 . exact .fP rfl
 . exact Gi (l:=[]) hg hw (Ao _) (by simp) (fun i x j v h=>by grind)
section
variable [Inhabited aK]
def P3:aL:={Y:=List ab,pre:=fun y=>y.length<40/\KN y,args:=fun y=>[items y],res:=fun y=>items (bS y)}
theorem qyZ (hdr:¬(default:aK).dr):CO Kq P3:=jx bh.ok (by
 rintro l ⟨h1,h2⟩ w args - ⟨q1,q2⟩;match args,q1 with
 |[v],_=>
  rcases Gb (l:=l) (q2 0 _ _ rfl rfl)with⟨rfl,a,c,rfl⟩|⟨b,off,cap,rfl,hb,hrow,hcap,hcells⟩
  . refine(Kg a c w).mono ?_;rintro e w' ⟨u,rfl,hu,hb'⟩;exact⟨u,rfl, .inr hu,hb',fun h=>absurd h hdr⟩
  . by_cases h0:0<List.length l
    . refine(Tryz.bS (cap:=cap) h1 h0 h2 hrow).mono ?_;rintro e w' ⟨u,rfl,hu,hb'⟩;exact⟨u,rfl, .inr hu,hb',fun h=>absurd h hdr⟩
    . have hn:l=([]:List ab):=Ay (Nat.eq_zero_of_not_pos h0);subst hn;refine(Kg _ cap w).mono ?_;rintro e w' ⟨u,rfl,hu,hb'⟩;exact⟨u,rfl, .inr hu,hb',fun h=>absurd h hdr⟩)
end
end
end Go.Proofs
namespace Go.Proofs
open Go.Shelf
def JV:Go.Shelf.Ren:=⟨fun|156=>64|165=>107|166=>108|169=>109|240=>154|241=>155|276=>198|277=>199|n=>n,fun|31=>22|9=>9|3=>3|4=>4|0=>0|20=>20|72=>154|76=>158|70=>151|37=>152|75=>157|127=>186|164=>217|5=>5|80=>160|n=>n,fun|n=>n⟩
theorem Kz:Go.Proofs.Lays.n156 Tryz.prog JV:={
 mixed:=by kernel_rfl
 f156:=Tryz.func64.trans (Aj some (by kernel_rfl))
 f165:=Tryz.func107.trans (Aj some (by kernel_rfl))
 f166:=Tryz.func108.trans (Aj some (by kernel_rfl))
 f169:=Tryz.func109.trans (Aj some (by kernel_rfl))
 f240:=Tryz.func154.trans (Aj some (by kernel_rfl))
 f241:=Tryz.func155.trans (Aj some (by kernel_rfl))
 f276:=Tryz.func198.trans (Aj some (by kernel_rfl))
 f277:=Tryz.func199.trans (Aj some (by kernel_rfl))
 t0:=Tryz.underlying0
 a0:=Tryz.isAgg0
 z0:=Tryz.sizeOf0
 v0:=Tryz.zeroValue0
 t3:=Tryz.underlying3
 a3:=Tryz.isAgg3
 z3:=Tryz.sizeOf3
 v3:=Tryz.zeroValue3
 t4:=Tryz.underlying4
 a4:=Tryz.isAgg4
 z4:=Tryz.sizeOf4
 v4:=Tryz.zeroValue4
 t9:=Tryz.underlying9
 a9:=Tryz.isAgg9
 z9:=Tryz.sizeOf9
 v9:=Tryz.zeroValue9
 t20:=Tryz.underlying20
 a20:=Tryz.isAgg20
 z20:=Tryz.sizeOf20
 v20:=Tryz.zeroValue20
 t31:=Tryz.underlying22
 a31:=Tryz.isAgg22
 z31:=Tryz.sizeOf22
 v31:=Tryz.zeroValue22
 t37:=Tryz.underlying152
 a37:=Tryz.isAgg152
 z37:=Tryz.sizeOf152
 v37:=Tryz.zeroValue152
 t70:=Tryz.underlying151
 a70:=Tryz.isAgg151
 z70:=Tryz.sizeOf151
 v70:=Tryz.zeroValue151
 t72:=Tryz.underlying154
 a72:=Tryz.isAgg154
 z72:=Tryz.sizeOf154
 v72:=Tryz.zeroValue154
 t75:=Tryz.underlying157
 a75:=Tryz.isAgg157
 z75:=Tryz.sizeOf157
 v75:=Tryz.zeroValue157
 t76:=Tryz.underlying158
 a76:=Tryz.isAgg158
 z76:=Tryz.sizeOf158
 v76:=Tryz.zeroValue158
 t127:=Tryz.underlying186
 a127:=Tryz.isAgg186
 z127:=Tryz.sizeOf186
 v127:=Tryz.zeroValue186
 t164:=Tryz.underlying217
 a164:=Tryz.isAgg217
 z164:=Tryz.sizeOf217
 v164:=Tryz.zeroValue217}
theorem xa:Builder.Extra Tryz.prog JV:={
 sizeBuilder:=by kernel_rfl
 liesBuilder:=by kernel_rfl
 t5:=Tryz.underlying5
 a5:=Tryz.isAgg5
 z5:=Tryz.sizeOf5
 v5:=Tryz.zeroValue5
 infoByte:=by kernel_rfl
 cellsByte:=by kernel_rfl
 sizeByte:=by kernel_rfl
 neB5:=by decide}
open Go.RowKit in
theorem Tryz.strings_Join_none (a:Option Addr) (c:Nat) (sep:ByteArray) (w:World):
 Calls Tryz.prog 64 #[.slice a 0 c, .string sep] w fun e w'=>e= .returned (.string ⟨#[]⟩)/\w'=w:=Any.strings_Join_none Kz xa a c sep w
open Go.RowKit in
theorem Tryz.strings_Join (bk o c:Nat) (xs:List ByteArray) (sep:ByteArray) (w:World) (hcells:∀(j:Nat) x,xs[j]? =some x->w.cell? ⟨bk,o+j,none⟩=some (.string x)) (hbk:bk<w.heap.size) (hN:xs.length<=140737488355328) (hcap:xs.length<=c) (hlen:(Lib.join (xs.map (·.data.toList)) sep.data.toList).length<=140737488355328):
 Calls Tryz.prog 64 #[.slice (some ⟨bk,o,none⟩) xs.length c, .string sep] w fun e w'=>e= .returned (.string ⟨(Lib.join (xs.map (·.data.toList)) sep.data.toList).toArray⟩)/\Below w.heap.size w w':=Any.strings_Join Kz xa bk o c xs sep w hcells hbk hN hcap hlen
def Tz:Go.Shelf.Ren:=⟨fun|150=>98|153=>147|152=>189|226=>190|227=>191|228=>192|137=>226|119=>227|224=>228|225=>229|217=>250|266=>268|n=>n,fun|9=>9|4=>4|3=>3|5=>5|21=>21|117=>212|116=>211|0=>0|46=>198|124=>241|n=>n,fun|n=>n⟩
theorem S7:Go.Proofs.Lays.n150 Tryz.prog Tz:={
 mixed:=by kernel_rfl
 f119:=Tryz.func227.trans (Aj some (by kernel_rfl))
 f137:=Tryz.func226.trans (Aj some (by kernel_rfl))
 f150:=Tryz.func98.trans (Aj some (by kernel_rfl))
 f152:=Tryz.func189.trans (Aj some (by kernel_rfl))
 f153:=Tryz.func147.trans (Aj some (by kernel_rfl))
 f217:=Tryz.func250.trans (Aj some (by kernel_rfl))
 f224:=Tryz.func228.trans (Aj some (by kernel_rfl))
 f225:=Tryz.func229.trans (Aj some (by kernel_rfl))
 f226:=Tryz.func190.trans (Aj some (by kernel_rfl))
 f227:=Tryz.func191.trans (Aj some (by kernel_rfl))
 f228:=Tryz.func192.trans (Aj some (by kernel_rfl))
 f266:=Tryz.func268.trans (Aj some (by kernel_rfl))
 t0:=Tryz.underlying0
 a0:=Tryz.isAgg0
 z0:=Tryz.sizeOf0
 v0:=Tryz.zeroValue0
 t3:=Tryz.underlying3
 a3:=Tryz.isAgg3
 z3:=Tryz.sizeOf3
 v3:=Tryz.zeroValue3
 t4:=Tryz.underlying4
 a4:=Tryz.isAgg4
 z4:=Tryz.sizeOf4
 v4:=Tryz.zeroValue4
 t5:=Tryz.underlying5
 a5:=Tryz.isAgg5
 z5:=Tryz.sizeOf5
 v5:=Tryz.zeroValue5
 t9:=Tryz.underlying9
 a9:=Tryz.isAgg9
 z9:=Tryz.sizeOf9
 v9:=Tryz.zeroValue9
 t21:=Tryz.underlying21
 a21:=Tryz.isAgg21
 z21:=Tryz.sizeOf21
 v21:=Tryz.zeroValue21
 t46:=Tryz.underlying198
 a46:=Tryz.isAgg198
 z46:=Tryz.sizeOf198
 v46:=Tryz.zeroValue198
 t116:=Tryz.underlying211
 a116:=Tryz.isAgg211
 z116:=Tryz.sizeOf211
 t117:=Tryz.underlying212
 a117:=Tryz.isAgg212
 z117:=Tryz.sizeOf212
 v117:=Tryz.zeroValue212
 t124:=Tryz.underlying241
 a124:=Tryz.isAgg241
 z124:=Tryz.sizeOf241
 v124:=Tryz.zeroValue241}
open Go.RowKit Go.Lib in
theorem Tryz.strings_ContainsAny_laid (s chars:ByteArray) (w:World) (hs:s.size<4294967281) (hcs:chars.size<4294967281) (has:∀(j:Nat) b,s.data.toList[j]? =some b->b.toNat<128) (hac:∀(j:Nat) b,chars.data.toList[j]? =some b->b.toNat<128):
 Calls Tryz.prog 98 #[.string s, .string chars] w fun e w'=>e= .returned (.bool (Lib.containsAny s.data.toList chars.data.toList))/\Below w.heap.size w w':=Any.strings_ContainsAny_laid S7 (by kernel_rfl) s chars w hs hcs has hac
end Go.Proofs
namespace Go.Proofs
open Go Go.Am Go.RowKit Go.Sy
section
theorem My (c:Bs):∀l:Bs,(0<=Go.Lib.indexAny l c)↔∃b∈l,c.contains b=true
 |[]=>by simp[Go.Lib.indexAny]
 |b::l=>by
  have ih:=My c l;have hge:=Go.Lib.indexAny_ge c l;grind [Go.Lib.indexAny]
theorem X7 (s:Bs):Go.Lib.containsAny s [63,35]= !pz s:=by
 unfold Go.Lib.containsAny pz;rw[Az,Aa,My,A2,List.all_eq_false];constructor
 . rintro⟨b,hb,hc⟩;refine⟨b,hb,?_⟩;have:b=63\/b=35:=by grind
   rcases this with rfl|rfl<;>decide
 . rintro⟨b,hb,hc⟩;refine⟨b,hb,?_⟩;have hm:oM b=true:=by grind
   unfold oM at hm;rw[BX,Bv,Bv]at hm;rcases hm with h|h
   . rw[l4 (a:=b) (b:=63) (by rw[h];rfl)];decide
   . rw[l4 (a:=b) (b:=35) (by rw[h];rfl)];decide
theorem T6 (s:Bs) (w:World) (h1:s.length<=100000) (h2:ja s=true):
  Calls Tryz.prog 98 #[.string ⟨s.toArray⟩, .string ⟨([63,35]:Bs).toArray⟩] w fun e w'=>e= .returned (.bool (!pz s))/\Below w.heap.size w w':=by
 have hcall:=Tryz.strings_ContainsAny_laid ⟨s.toArray⟩ ⟨([63,35]:Bs).toArray⟩ w (by show s.toArray.size<4294967281;grind) (by decide) (fun j b hb=>by
  have hb:s[j]? =some b:=by omega
  have:=AG.1 h2 b (BA hb);grind [lR,nB]) (fun j b hb=>by
  have hb:([63,35]:Bs)[j]? =some b:=by omega
  have:=BA hb;rcases Ap.1 this with rfl|h
  all_goals simp_all)
 rw[show(⟨s.toArray⟩:ByteArray).data.toList=s from rfl,show(⟨([63,35]:Bs).toArray⟩:ByteArray).data.toList=[63,35]from rfl,X7]at hcall;omega
def pH (l:List Bs):Bs:=Go.Lib.join l [59,32]
theorem UB (l:List Bs) (b off cap:Nat) (w:World) (hb:b<w.heap.size) (hc:l.length<=cap) (h1:l.length<=100000) (h2:(pH l).length<=1000000) (hcell:∀(j:Nat) x,l[j]? =some x->w.cell? ⟨b,off+j,none⟩=some (.string ⟨x.toArray⟩)):
  Calls Tryz.prog 64 #[.slice (some ⟨b,off,none⟩) l.length cap, .string ⟨([59,32]:Bs).toArray⟩] w fun e w'=>e= .returned (.string ⟨(pH l).toArray⟩)/\Below w.heap.size w w':=by
 have hm:(l.map fun s=>(⟨s.toArray⟩:ByteArray)).map (·.data.toList)=l:=by
  rw[Dv];conv=>rhs;rw[<-EI l]
  grind [List.map_congr_left]
 have hcall:=Tryz.strings_Join b off cap (l.map fun s=>(⟨s.toArray⟩:ByteArray)) ⟨([59,32]:Bs).toArray⟩ w (fun j x hx=>by
   rw[AI]at hx;grind) hb (by rw[Ba];omega) (by rw[Ba];exact hc)
  (by rw[hm,show(⟨([59,32]:Bs).toArray⟩:ByteArray).data.toList=[59,32]from rfl];have h2:(Go.Lib.join l [59,32]).length<=1000000:=h2;omega)
 rw[hm,Ba,show(⟨([59,32]:Bs).toArray⟩:ByteArray).data.toList=[59,32]from rfl]at hcall;exact hcall
theorem qza {w:World} {p:Nat->Prop} {l:List Bs} {v:Value} (h:Rd w p true (strs l) v):
  (l=[]/\ ∃a c,v= .slice a 0 c)\/ ∃b off cap,v= .slice (some ⟨b,off,none⟩) l.length cap/\b<w.heap.size/\l.length<=cap/\ ∀(j:Nat) x,l[j]? =some x->w.cell? ⟨b,off+j,none⟩=some (.string ⟨x.toArray⟩):=by
 unfold strs at h
 cases h with
 |fP h0=>grind
 |ch _ h0 a c=>grind
 |bn b off cap arr e fz sz u hp hb hs hl hn hc h1 h2=>
  refine .inr ⟨b,off,cap,rfl,(Ab.1 hb).1,hc,fun j x hx=>?_⟩;have hsz:sz=1:=(hn j x hx).symm;subst hsz;have e1:=h1 j x 0 (.str x) hx rfl;have e3:u j 0= .string ⟨x.toArray⟩:=rI (h2 j x 0 (.str x) hx rfl);grind [World.cell?]
section
variable [Inhabited aK]
theorem Sw (hdr:¬(default:aK).dr):CO pO oT:=jx bh.ok (by
 rintro s ⟨h1,h2⟩ w args - ⟨q1,q2⟩;match args,q1 with
 |[v,u],_=>
  have hv:v= .string ⟨List.toArray s⟩:=rI (q2 0 _ _ rfl rfl);have hu:u= .string ⟨([63,35]:Bs).toArray⟩:=rI (q2 1 _ _ rfl rfl);subst hv hu;refine(T6 s w h1 h2).mono ?_;rintro e w' ⟨rfl,hb⟩;exact⟨_,rfl, .inr (.bool _),hb,fun h=>absurd h hdr⟩)
def Jp:aL:={Y:=List Bs,pre:=fun y=>y.length<=100000/\(pH y).length<=1000000,args:=fun y=>[strs y, .str [59,32]],res:=fun y=> .str (pH y)}
theorem Q9 (hdr:¬(default:aK).dr):CO F.strings_Join Jp:=jx bh.ok (by
 rintro l ⟨h1,h2⟩ w args - ⟨q1,q2⟩;match args,q1 with
 |[v,u],_=>
  have hu:u= .string ⟨([59,32]:Bs).toArray⟩:=rI (q2 1 _ _ rfl rfl);subst hu;rcases qza (l:=l) (q2 0 _ _ rfl rfl)with⟨rfl,a,c,rfl⟩|⟨b,off,cap,rfl,hb,hc,hcell⟩
  . refine(Tryz.strings_Join_none a c ⟨([59,32]:Bs).toArray⟩ w).mono ?_;rintro e w' ⟨rfl,rfl⟩;exact⟨_,rfl, .inr (.str []),Below.refl _ _,fun _=>Ac _⟩
  . refine(UB l b off cap w hb hc h1 h2 hcell).mono ?_;rintro e w' ⟨rfl,hb'⟩;exact⟨_,rfl, .inr (.str _),hb',fun h=>absurd h hdr⟩)
end
end
section
def mM (l:List ab) (r:bG) (now:Int):List ab:=l.filter fun x=>jw x r now
def kK (l:List ab) (r:bG) (now:Int):List ab:=bS (mM l r now)
def u4 (l:List ab) (r:bG):Prop:=l.length<40/\KN l/\(∀x∈l,nf x)/\jF r
def nu (x:ab):Bs:=x.key.name++[61]++x.aa.value
def iW (l:List ab):Bs:=pH (l.map nu)
def Ju (l:List ab):Prop:=l.length<=100/\ ∀x∈l,x.key.name.length<=2000/\x.aa.value.length<=2000
theorem Vo (sep:Bs) (L:List Bs) (x:Bs):Go.Lib.joinTail sep (L++[x])=Go.Lib.joinTail sep L++sep++x:=by
 grind [Go.Lib.joinTail]
theorem Xs (L:List Bs) (x:Bs):pH (L++[x])=if L=[]then x else pH L++[59,32]++x:=by
 cases L with
 |nil=>simp only[BB,Bq];exact Go.Lib.join_one x _
 |cons y L=>
  rw[Al (by simp)];grind [pH,Go.Lib.join_cons,Vo]
theorem Nb {l:List ab} {i:Nat} (h:i<l.length):iW (l.take (i+1))=if i=0 then nu l[i]else iW (l.take i)++[59,32]++nu l[i]:=by
 grind [iW,List.take_succ_eq_append_getElem,Xs,List.length_map]
theorem Gh {l:List ab} (h:∀x∈l,x.key.name.length<=2000/\x.aa.value.length<=2000):∀i,i<=l.length->(iW (l.take i)).length<=i*4005
 |0,_=>by simp[iW,pH,Go.Lib.join_nil]
 |i+1,hi=>by
  have hi2:i<l.length:=hi;have ih:=Gh h i (Nat.le_of_lt hi2);have hx:=h l[i] (AF hi2);have hp:(nu l[i]).length<=4001:=by grind [nu]
  rw[Nb hi2];grind
section
variable [Inhabited aK]
noncomputable def zK (hdr:¬(default:aK).dr) (f:FuncId):Option aL:=bif Nat.beq f Kq then some P3 else bif Nat.beq f p8 then some P4 else bif Nat.beq f J6 then some wk else bif Nat.beq f Ie then some wk else bif Nat.beq f F.strings_Join then some Jp else bu f
theorem FV (hdr:¬(default:aK).dr):∀f C,zK hdr f=some C->CO f C:=bg (qyZ hdr) (bg qy0 (bg qyB (bg O9 (bg (Q9 hdr) eX))))
def zU:aL:={Y:=List ab×bG×Int,pre:=fun y=>u4 y.1 y.2.1,args:=fun y=>[items y.1, .agg y.2.1.enc,i64 y.2.2],res:=fun y=>items (kK y.1 y.2.1 y.2.2)}
def Sl (y:List ab×bG×Int):aJ:={α:=Nat,ok:=fun i=>i<=y.1.length,μ:=fun i=>y.1.length - i,aV:=[2,4],aO:=fun i=>[(7, .own 1),(10,items y.1),(11,i64 (Int.ofNat y.1.length)),(12,i64 i)],bm:=fun i=>[(1,px ((y.1.take i).filter fun x=>jw x y.2.1 y.2.2))]}
def Qn (y:List ab×bG×Int):aJ:={α:=Nat,ok:=fun i=>i<=y.1.length,μ:=fun i=>y.1.length - i,aV:=[2,4],aO:=fun i=>[(0,items y.1),(7, .own 1),(8,i64 i)],bm:=fun i=>[(1,px ((y.1.take i).filter fun x=>jw x y.2.1 y.2.2))]}
theorem Ri (hdr:¬(default:aK).dr):CO II zU:=bB (cfg:=fun(y:List ab×bG×Int)=>bL (zK hdr) (cu II 3 (Sl y))) bh (fun _=>rfl) (fun _=>FV hdr) (n:=700) (by
 rintro⟨l,r,now⟩ ⟨h1,h2,h3,h4⟩;have h1:l.length<40:=h1;have h2:KN l:=h2;have h3:∀x∈l,nf x:=h3;have h4:jF r:=h4;refine⟨⟨(0:Nat),Ao _,?_⟩,?_⟩
 . repeat' first|exact trivial|exact rfl|refine ax (fun _=>?_) fun _=>?_|apply And.intro
   all_goals exact aj.2 ⟨_,rfl,ae.2 ⟨rfl,fun _=>rfl⟩⟩
 intro (x:Nat) hx;have hx:x<=l.length:=hx;have hlen:=Hf (l:=l) (x:=x) (p:=fun z:ab=>jw z r now);refine ax (fun hlt=>?_) fun hge=>?_
 . have hlt':x<l.length:=cm hlt;have hf:=vW (p:=fun z:ab=>jw z r now) hlt';have mu:l.length - (x+1)<l.length - x:=by omega
   have hz:((l.take x).filter fun z:ab=>jw z r now).length+1<=60000:=by omega
   (conv=>whnf)
   refine aj.2 ⟨_,cp hlt',?_⟩;refine⟨(l[x],r,now),?_⟩
   repeat first|refine⟨rfl,?_⟩|refine⟨trivial,?_⟩
   refine⟨⟨h3 _ (AF hlt'),h4⟩,?_⟩;refine ax (fun h=>?_) fun h=>?_
   . have h:jw l[x] r now=true:=h;simp only[h,BB]at hf;refine⟨l[x],rfl,?_⟩
     (conv=>whnf)
     refine ae.2 ⟨xh _ hz,?_⟩
     (conv=>whnf)
     refine ae.2 ⟨cj x (by omega),?_⟩;refine⟨(x+1:Nat),hlt',mu,?_⟩
     repeat' first|exact trivial|exact rfl|refine ax (fun _=>?_) fun _=>?_|apply And.intro
     all_goals ((conv=>whnf);rw[hf])
   . have h:jw l[x] r now=false:=h;simp only[h,Ax,Bc,Br]at hf
     (conv=>whnf)
     refine ae.2 ⟨cj x (by omega),?_⟩;refine⟨(x+1:Nat),hlt',mu,?_⟩
     repeat' first|exact trivial|exact rfl|refine ax (fun _=>?_) fun _=>?_|apply And.intro
     all_goals ((conv=>whnf);rw[hf])
 . have hall:(l.take x).filter (fun z:ab=>jw z r now)=mM l r now:=zi (gE hge);have hsub:(mM l r now).Sublist l:=Be;refine⟨mM l r now,?_⟩;refine⟨by(rw[hall])<;>rfl,?_⟩;refine⟨⟨by have:=hsub.length_le;omega,h2.sub hsub⟩,?_⟩
   repeat' first|exact trivial|exact rfl|refine ax (fun _=>?_) fun _=>?_|apply And.intro)
theorem qyN (hdr:¬(default:aK).dr):CO Ih zU:=bB (cfg:=fun(y:List ab×bG×Int)=>bL (zK hdr) (cu Ih 3 (Qn y))) bh (fun _=>rfl) (fun _=>FV hdr) (n:=700) (by
 rintro⟨l,r,now⟩ ⟨h1,h2,h3,h4⟩;have h1:l.length<40:=h1;have h2:KN l:=h2;have h3:∀x∈l,nf x:=h3;have h4:jF r:=h4;refine⟨⟨(0:Nat),Ao _,?_⟩,?_⟩
 . repeat' first|exact trivial|exact rfl|refine ax (fun _=>?_) fun _=>?_|apply And.intro
   all_goals exact aj.2 ⟨_,rfl,ae.2 ⟨rfl,fun _=>rfl⟩⟩
 intro (x:Nat) hx;have hx:x<=l.length:=hx;have hlen:=Hf (l:=l) (x:=x) (p:=fun z:ab=>jw z r now);refine ax (fun hlt=>?_) fun hge=>?_
 . have hlt':x<l.length:=cm hlt;have hf:=vW (p:=fun z:ab=>jw z r now) hlt';have mu:l.length - (x+1)<l.length - x:=by omega
   have hz:((l.take x).filter fun z:ab=>jw z r now).length+1<=60000:=by omega
   (conv=>whnf)
   refine aj.2 ⟨_,cp hlt',?_⟩;refine⟨(l[x],r,now),?_⟩
   repeat first|refine⟨rfl,?_⟩|refine⟨trivial,?_⟩
   refine⟨⟨h3 _ (AF hlt'),h4⟩,?_⟩;refine ax (fun h=>?_) fun h=>?_
   . have h:jw l[x] r now=true:=h;simp only[h,BB]at hf
     (conv=>whnf)
     refine aj.2 ⟨_,cp hlt',?_⟩;refine⟨l[x],rfl,?_⟩
     (conv=>whnf)
     refine ae.2 ⟨xh _ hz,?_⟩
     (conv=>whnf)
     refine ae.2 ⟨cj x (by omega),?_⟩;refine⟨(x+1:Nat),hlt',mu,?_⟩
     repeat' first|exact trivial|exact rfl|refine ax (fun _=>?_) fun _=>?_|apply And.intro
     all_goals ((conv=>whnf);rw[hf])
   . have h:jw l[x] r now=false:=h;simp only[h,Ax,Bc,Br]at hf
     (conv=>whnf)
     refine ae.2 ⟨cj x (by omega),?_⟩;refine⟨(x+1:Nat),hlt',mu,?_⟩
     repeat' first|exact trivial|exact rfl|refine ax (fun _=>?_) fun _=>?_|apply And.intro
     all_goals ((conv=>whnf);rw[hf])
 . have hall:(l.take x).filter (fun z:ab=>jw z r now)=mM l r now:=zi (gE hge);have hsub:(mM l r now).Sublist l:=Be;refine⟨mM l r now,?_⟩;refine⟨by(rw[hall])<;>rfl,?_⟩;refine⟨by have:=hsub.length_le;show(mM l r now).length<=1000;omega,?_⟩
   repeat' first|exact trivial|exact rfl|refine ax (fun _=>?_) fun _=>?_|apply And.intro)
def wu:aL:={Y:=List ab,pre:=Ju,args:=fun y=>[items y],res:=fun y=> .str (iW y)}
def Qv (y:List ab):aJ:={α:=Nat,ok:=fun i=>i<=y.length,μ:=fun i=>y.length - i,aV:=[],aO:=fun i=>[(3, .own 0),(6,items y),(7,i64 (Int.ofNat y.length)),(8,i64 i)],bm:=fun i=>[(0, .arr Bs ((y.take i).map nu) fA Ty.string)]}
theorem qy3 (hdr:¬(default:aK).dr):CO IJ wu:=bB (cfg:=fun(y:List ab)=>bL (zK hdr) (cu IJ 3 (Qv y))) bh (fun _=>rfl) (fun _=>FV hdr) (n:=700) (by
 intro (l:List ab) hpre;obtain⟨h1,h2⟩:=hpre;have h1:l.length<=100:=h1;refine⟨⟨(0:Nat),Ao _,?_⟩,?_⟩
 . repeat' first|exact trivial|exact rfl|refine ax (fun _=>?_) fun _=>?_|apply And.intro
   all_goals exact aj.2 ⟨_,rfl,ae.2 ⟨rfl,fun _=>rfl⟩⟩
 intro (x:Nat) hx;have hx:x<=l.length:=hx;refine ax (fun hlt=>?_) fun hge=>?_
 . have hlt':x<l.length:=cm hlt;have hf:=vN nu hlt';have hb:=h2 l[x] (AF hlt');have mu:l.length - (x+1)<l.length - x:=by omega
   (conv=>whnf)
   refine aj.2 ⟨_,cp hlt',?_⟩
   (conv=>whnf)
   refine ae.2 ⟨by grind [Nat.ble_eq],?_⟩
   (conv=>whnf)
   refine ae.2 ⟨by grind [Nat.ble_eq],?_⟩;refine⟨nu l[x],rfl,?_⟩
   (conv=>whnf)
   refine ae.2 ⟨by grind [Nat.ble_eq],?_⟩
   (conv=>whnf)
   refine ae.2 ⟨cj x (by omega),?_⟩;refine⟨(x+1:Nat),hlt',mu,?_⟩
   repeat' first|exact trivial|exact rfl|refine ax (fun _=>?_) fun _=>?_|apply And.intro
   all_goals ((conv=>whnf);rw[hf])
 . have hge':l.length<=x:=gf hge;have hall:l.take x=l:=Aq hge';have hl:=Gh h2 l.length (Ac _);rw[A6]at hl;refine⟨l.map nu,?_⟩;refine⟨by(rw[hall])<;>rfl,?_⟩;refine⟨rfl,?_⟩;refine⟨⟨by grind,by grind [iW]⟩,?_⟩
   repeat' first|exact trivial|exact rfl|refine ax (fun _=>?_) fun _=>?_|apply And.intro)
def Qw (y:List ab):aJ:={α:=Nat,ok:=fun i=>i<=y.length,μ:=fun i=>y.length - i,aV:=[],aO:=fun i=>[(0,items y),(3, .str (iW (y.take i))),(4,i64 i)],bm:=fun _=>[]}
theorem Pf:CO p9 wu:=bB (cfg:=fun(y:List ab)=>bL bu (cu p9 3 (Qw y))) bh (fun _=>rfl) (fun _=>eX) (n:=700) (by
 intro (l:List ab) hpre;obtain⟨h1,h2⟩:=hpre;have h1:l.length<=100:=h1;refine⟨⟨(0:Nat),Ao _,?_⟩,?_⟩
 . repeat' first|exact trivial|exact rfl|refine ax (fun _=>?_) fun _=>?_|apply And.intro
 intro (x:Nat) hx;have hx:x<=l.length:=hx;have hl:=Gh h2 x hx;have hl2:(iW (l.take x)).length<=400500:=by have:=A5 4005 (show x<=100 by omega);omega
 refine ax (fun hlt=>?_) fun hge=>?_
 . have hlt':x<l.length:=cm hlt;have hb:=h2 l[x] (AF hlt');have hn:=Nb hlt';have mu:l.length - (x+1)<l.length - x:=by omega
   have b1:l[x].key.name.length<=2000:=hb.1;have b2:l[x].aa.value.length<=2000:=hb.2;have cks:∀a b:Bs,a.length+b.length<=1000000->Nat.ble (a.length+b.length) 1048576=true:=fun a b h=>by rw[Au];omega
   refine ax (fun hp=>?_) fun hp=>?_
   . have hp:aZ 0 (x:Int)=true:=hp;rw[bM,Aa]at hp;rw[Al (by omega)]at hn
     (conv=>whnf)
     refine ae.2 ⟨cks (iW (l.take x)) [59,32] (by grind),?_⟩
     (conv=>whnf)
     refine aj.2 ⟨_,cp hlt',?_⟩
     (conv=>whnf)
     refine ae.2 ⟨cks (iW (l.take x)++[59,32]) l[x].key.name (by grind),?_⟩
     (conv=>whnf)
     refine ae.2 ⟨cks (iW (l.take x)++[59,32]++l[x].key.name) [61] (by grind),?_⟩
     (conv=>whnf)
     refine aj.2 ⟨_,cp hlt',?_⟩
     (conv=>whnf)
     refine ae.2 ⟨cks (iW (l.take x)++[59,32]++l[x].key.name++[61]) l[x].aa.value (by grind),?_⟩
     (conv=>whnf)
     refine ae.2 ⟨cj x (by omega),?_⟩;refine⟨(x+1:Nat),hlt',mu,?_⟩
     repeat' first|exact trivial|exact rfl|refine ax (fun _=>?_) fun _=>?_|apply And.intro
     all_goals ((conv=>whnf);rw[hn];simp[nu])
   . have hp:aZ 0 (x:Int)=false:=hp;rw[bM,Ah]at hp;have h0:x=0:=by omega
     rw[An h0]at hn;have ht:iW (l.take x)=[]:=by rw[h0];rfl
     (conv=>whnf)
     refine aj.2 ⟨_,cp hlt',?_⟩
     (conv=>whnf)
     refine ae.2 ⟨cks (iW (l.take x)) l[x].key.name (by omega),?_⟩
     (conv=>whnf)
     refine ae.2 ⟨cks (iW (l.take x)++l[x].key.name) [61] (by grind),?_⟩
     (conv=>whnf)
     refine aj.2 ⟨_,cp hlt',?_⟩
     (conv=>whnf)
     refine ae.2 ⟨cks (iW (l.take x)++l[x].key.name++[61]) l[x].aa.value (by grind),?_⟩
     (conv=>whnf)
     refine ae.2 ⟨cj x (by omega),?_⟩;refine⟨(x+1:Nat),hlt',mu,?_⟩
     repeat' first|exact trivial|exact rfl|refine ax (fun _=>?_) fun _=>?_|apply And.intro
     all_goals ((conv=>whnf);rw[hn,ht];simp[nu])
 . have hge':l.length<=x:=gf hge;refine⟨by rw[Aq hge'],?_⟩
   repeat' first|exact trivial|exact rfl|refine ax (fun _=>?_) fun _=>?_|apply And.intro)
end
end
end Go.Proofs
