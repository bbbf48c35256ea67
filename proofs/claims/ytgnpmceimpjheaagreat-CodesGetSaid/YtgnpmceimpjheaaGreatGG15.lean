/- A part of the proof: BdC DGe. -/
import Derived.Test.YtgnpmceimpjheaaGreatGG14
set_option maxRecDepth 100000
set_option maxHeartbeats 16000000
namespace Go.Proofs.YtgnpmceimpjheaaGreat
open Go.RowKit Go.Proofs.Tryz
variable {a b c d e f g h i j k l m n o p q r:Nat}{w v u t s:World}{X Y W L T:List Int}{A B C E Z:Value}{x y z:Int}{N R:Bool}{F Q:Option Addr}{S P:Nat->Prop}
theorem tf (d:a<=64) (c:b=a+1):wrap64 ((a:Int)+1)=(b:Int)/\IntKind.i64.wrap ((a:Int)+1)=(b:Int):=by
 subst c;exact⟨by unfold wrap64;omega,by rw[show ((a+1:Nat):Int)=(a:Int)+1 by omega];exact IntWalk.i64_in _ H⟩
theorem th (b:a<=64):wrap64 ((a:Int)+1)=(a:Int)+1/\IntKind.i64.wrap ((a:Int)+1)=(a:Int)+1:=⟨by unfold wrap64;omega,IntWalk.i64_in _ H⟩
theorem ti {e f:Type}{b:List e}{M:List f}{c:e}{d:f}(g:b[a]?=some c) (h:M[a]?=some d):(b.zip M)[a]?=some (c,d):=by
 rw[List.getElem?_zip_eq_some];exact⟨g,h⟩
theorem Ev {b:LexD}(c:OkLx b):∃a:Nat,vC b.c=(a:Int)/\a<=65536/\b.n.length * a<=4194304:=by
 obtain⟨a,e⟩:=Ax3 (tE b.c);have f:=c.cw;have d:=c.pr;rw[e]at f d;have g:((b.n.length * a:Nat):Int)<=4194304:=by rw[Int.natCast_mul];exact d
 exact⟨a,e,H,H⟩
theorem Ew (a:TabsD) (k4:TabsS) (o3:Nat->Prop) (c5:World) (k:DocIn c5 o3 k4 a) (a9:OkBd a) :
  Calls prog 33 #[kN k4] c5 λj iA=>∃aH,j=.returned aH/\POwn iA (c5.heap.size+1) aH (uG a)/\Cf c5 iA:=by
 obtain⟨⟨h8,pM,hG⟩,⟨h9,pO,hH⟩,⟨hC,pV,hL⟩,⟨⟨dU,pX,d6⟩,⟨dV,pZ,d7⟩,⟨cH,q0,cI⟩,⟨dX,q1,e3⟩⟩,⟨⟨hD,q2,hM⟩,⟨dZ,q3,e4⟩,⟨e0,q4,e5⟩,⟨dT,pP,e2⟩,⟨hA,pT,hI⟩⟩,⟨hB,pU,hK⟩⟩:=k4;have k:=DocIn.good.mono k (S':=(·<c5.heap.size)) (λ_ x _=>x);have lL:=V k;have bO:=V a9;obtain⟨lR,a7,s,⟨hO,lV,jB,lW⟩,⟨lX,lY,lZ,lS,lT⟩,lU⟩:=k;obtain⟨rfl,-⟩:=lR.len;obtain⟨rfl,-⟩:=a7.len;obtain⟨rfl,-⟩:=s.len;obtain⟨rfl,-⟩:=hO.len;obtain⟨rfl,-⟩:=lV.len;obtain⟨rfl,-⟩:=jB.len;obtain⟨rfl,-⟩:=lW.len;obtain⟨rfl,-⟩:=lX.len;obtain⟨rfl,-⟩:=lY.len;obtain⟨rfl,-⟩:=lZ.len;obtain⟨rfl,-⟩:=lS.len;obtain⟨rfl,-⟩:=lT.len;obtain⟨rfl,-⟩:=lU.len;clear lR a7 s hO lV jB lW lX lY lZ lS lT lU;have pF:=a9.rl.1;have i0:=a9.tk.1;have pD:=a9.lx.rl;have p9:=a9.lx.el;have oS:=a9.lx.nl;have pH:=a9.st;have pB:=a9.ll;obtain⟨hN,b3,oC,m3⟩:=Ev a9.lx;have iK:=V a9.dr;have h0:=V a9.lx.cl;have gX:=V b3;have n7:=V m3;obtain⟨iY,jF⟩:=rK tQ;obtain⟨f2,fT⟩:=rK (iY++putL a.rl.length);obtain⟨j0,g0⟩:=rK (f2++a.rl.flatMap xE);obtain⟨d3,g1⟩:=rK (j0++putL a.tk.length);obtain⟨j1,g2⟩:=rK (d3++(a.tk.zip a.dr).flatMap sC);obtain⟨dP,g3⟩:=rK (j1++putL a.lx.r.length);obtain⟨fM,g4⟩:=rK (dP++(a.lx.r.zip a.lx.c).flatMap ptRc);obtain⟨f3,g5⟩:=rK (fM++vJ (vC a.lx.c) a.lx.n);obtain⟨j2,g6⟩:=rK (f3++a.lx.e.flatMap nQ);obtain⟨d4,g7⟩:=rK (j2++putL a.nt.st.length);obtain⟨dO,fV⟩:=rK (d4++a.nt.st.flatMap xU);obtain⟨d2,fX⟩:=rK (dO++(zE zJ a.nt.s++(zE zJ a.nt.p++zE zJ a.nt.q)));obtain⟨iZ,fZ⟩:=rK (d2++a.lk.flatMap (uA a.tk.length));have iV:G (iZ=uG a):=V (by
  rw[fZ,fX,fV,g7,g6,g5,g4,g3,g2,g1,g0,fT,jF];unfold uG jW gQ dJ zE;rw[Au5,Au5,iK.o,h0.o,Nat.min_self,Nat.min_self];simp only[Az7])
 have d1:G (∀d,(f2++(a.rl.take d).flatMap xE).length<=90000000/\(d3++((a.tk.zip a.dr).take d).flatMap sC).length<=90000000/\(dP++((a.lx.r.zip a.lx.c).take d).flatMap ptRc).length<=90000000/\(f3++(a.lx.e.take d).flatMap nQ).length<=90000000/\(d4++(a.nt.st.take d).flatMap xU).length<=90000000/\(d2++(a.lk.take d).flatMap (uA a.tk.length)).length<=90000000):=V (λd=>by
  have gD:=a9.l;rw[<-iV.o]at gD;have q7:=yW (enc:=xE) (L:=a.rl) d;have q8:=yW (enc:=sC) (L:=a.tk.zip a.dr) d;have q9:=yW (enc:=ptRc) (L:=a.lx.r.zip a.lx.c) d;have qB:=yW (enc:=nQ) (L:=a.lx.e) d;have qD:=yW (enc:=xU) (L:=a.nt.st) d;have qF:=yW (enc:=uA a.tk.length) (L:=a.lk) d;have gK:=congrArg List.length fT;have dH:=congrArg List.length g0;have gM:=congrArg List.length g1;have kB:=congrArg List.length g2;have kD:=congrArg List.length g3;have kF:=congrArg List.length g4;have kH:=congrArg List.length g5;have kI:=congrArg List.length g6;have kK:=congrArg List.length g7;have k7:=congrArg List.length fV;have k8:=congrArg List.length fX;have k9:=congrArg List.length fZ;simp only[Az]at gK dH gM kB kD kF kH kI kK k7 k8 k9 ⊢;omega)
 have oN:iY.length<=90000000/\f2.length<=90000000/\j0.length<=90000000/\d3.length<=90000000/\j1.length<=90000000/\dP.length<=90000000/\fM.length<=90000000/\f3.length<=90000000/\j2.length<=90000000/\d4.length<=90000000/\dO.length<=90000000/\d2.length<=90000000/\iZ.length<=90000000:=by
  have gD:=a9.l;rw[<-iV.o]at gD;have gK:=congrArg List.length fT;have dH:=congrArg List.length g0;have gM:=congrArg List.length g1;have kB:=congrArg List.length g2;have kD:=congrArg List.length g3;have kF:=congrArg List.length g4;have kH:=congrArg List.length g5;have kI:=congrArg List.length g6;have kK:=congrArg List.length g7;have k7:=congrArg List.length fV;have k8:=congrArg List.length fX;have k9:=congrArg List.length fZ;simp only[Az]at gK dH gM kB kD kF kH kI kK k7 k8 k9;omega
 obtain⟨qM,qO,qV,qX,qZ,r0,r1,r2,r3,r4,qP,qR,qT⟩:=oN;have n8:=V jF;have n9:=V fT;have nF:=V g0;have nH:=V g1;have nI:=V g2;have nK:=V g3;have nM:=V g4;have lM:=V g5;have nO:=V g6;have nP:=V g7;have nB:=V fV;have iU:=V fX;have nD:=V fZ;clear a9 b3 m3 jF fT g0 g1 g2 g3 g4 g5 g6 g7 fV fX fZ;obtain⟨aP,g8⟩:=rK c5.heap.size;obtain⟨i,jD⟩:=rK (c5.heap.size+1);obtain⟨y,gH⟩:=rK (c5.alloc (.cells #[.slice h8 a.rl.length hG,.slice h9 a.tk.length hH,.slice hC a.dr.length hL,.slice dU a.lx.r.length d6,.slice dV a.lx.c.length d7,.slice cH a.lx.n.length cI,.slice dX a.lx.e.length e3,.slice hD a.nt.st.length hM,.slice dZ a.nt.s.length e4,.slice e0 a.nt.p.length e5,.slice dT a.nt.q.length e2,.slice hA a.nt.d.length hI,.slice hB a.lk.length hK] 43));have l6:G (Cf c5 y):=V (by rw[gH];exact (J.refl _ c5).alloc _);have iT:G (y.heap.size=i):=V (by rw[gH,jD];simp);have a0:G (∀Y,J (λe=>i<=e) y Y->∀a3 aH,([.slice h8 a.rl.length hG,.slice h9 a.tk.length hH,.slice hC a.dr.length hL,.slice dU a.lx.r.length d6,.slice dV a.lx.c.length d7,.slice cH a.lx.n.length cI,.slice dX a.lx.e.length e3,.slice hD a.nt.st.length hM,.slice dZ a.nt.s.length e4,.slice e0 a.nt.p.length e5,.slice dT a.nt.q.length e2,.slice hA a.nt.d.length hI,.slice hB a.lk.length hK]:List Value)[a3]?=some aH->Y.cell? ⟨aP,a3,none⟩=some aH):=V (λY u a3 aH eB=>u.cellS (by
  rw[gH];exact zG _ g8 (by rw[<-Aw];exact eB)) (by show ¬i<=aP;omega))
 have bD:G (∀Y,J (λe=>i<=e) y Y->DocIn Y (·<aP) ⟨(h8,a.rl.length,hG),(h9,a.tk.length,hH),(hC,a.dr.length,hL),⟨(dU,a.lx.r.length,d6),(dV,a.lx.c.length,d7),(cH,a.lx.n.length,cI),(dX,a.lx.e.length,e3)⟩,⟨(hD,a.nt.st.length,hM),(dZ,a.nt.s.length,e4),(e0,a.nt.p.length,e5),(dT,a.nt.q.length,e2),(hA,a.nt.d.length,hI)⟩,(hB,a.lk.length,hK)⟩ a):=V (λY u=>DocIn.good.chg (by rw[g8];exact DocIn.good.chg lL.o l6.o iF) u (λe x j=>H));have p4:aP+1=i:=H
 have p0:=V g8;have mT:=V jD;clear lL;show Calls prog 33 #[.agg #[.slice h8 a.rl.length hG,.slice h9 a.tk.length hH,.slice hC a.dr.length hL,.slice dU a.lx.r.length d6,.slice dV a.lx.c.length d7,.slice cH a.lx.n.length cI,.slice dX a.lx.e.length e3,.slice hD a.nt.st.length hM,.slice dZ a.nt.s.length e4,.slice e0 a.nt.p.length e5,.slice dT a.nt.q.length e2,.slice hA a.nt.d.length hI,.slice hB a.lk.length hK]] c5 _;go_enter func33,ntmps33
 go_upto_region 1 with fail
 rw[<-gH,<-g8];clear gH;obtain⟨f5,hT⟩:=rK y.heap.size;obtain⟨iB,eD⟩:=rK (y.alloc (.cells #[.int .u8 72,.int .u8 66,.int .u8 84,.int .u8 49] 5 (4,5)));have jV:BytesAt iB f5 0 tQ:=by
  rw[eD,hT];exact gl y tQ 5 (4,5) dE
 have e9:(convert 45 45 (.slice (some ⟨y.heap.size,0,none⟩) 4 4)).run prog (y.alloc (.cells #[.int .u8 72,.int .u8 66,.int .u8 84,.int .u8 49] 5))=.ok (.slice (some ⟨y.heap.size,0,none⟩) 4 4) (y.alloc (.cells #[.int .u8 72,.int .u8 66,.int .u8 84,.int .u8 49] 5 (4,5))):=Lib.run_convert_bytes_const (P:=prog) y 45 5 #[.int .u8 72,.int .u8 66,.int .u8 84,.int .u8 49] 4 4 underlying45 underlying5;have S:G (BdSt i y iB (.slice (some ⟨f5,0,none⟩) 4 4) iY):=V ⟨by rw[n8.o];exact .inr ⟨f5,D,by rw[hT,iT.o];exact Ay1 _,jV.lt dE,jV⟩,by rw[eD];exact (rT),by rw[eD];have:=iT.o;simp;omega⟩;have i7:=a0.o iB S.o.c 0 _ D;clear jV g8 jD;go_upto_region 2 with fail
 rw[<-eD,<-hT];clear eD hT e9;have F:=V (xN (a.rl.length:Int) _ iB S.o.o S.o.s H H);go_wp2_with fail
 refine F.o.mono ?_;rintro j z b;obtain⟨_,rfl,-⟩:=id b;obtain⟨cV,cZ,cX,rfl⟩:=b.own.shape3;have aK:=V (S.o.ap b);have bB:=V b;clear b F;have aK:G (BdSt i y z (.slice cV cZ cX) f2):=V (aK.o.to (by rw[n9.o];unfold zJ;rw[Ay5]));clear i7 S bB;go_wp2_with fail
 go_loopw [3,4] (λaY B wr=>∃d:Nat,d<=a.rl.length/\B=.int .i64 d/\BdSt i y wr aY (f2++(a.rl.take d).flatMap xE)) (λ_ B _=>a.rl.length-(intOf B).toNat)
 .exact⟨0,H,D,by rw[List.take_zero,List.flatMap_nil,Av3];exact aK.o⟩
 clear aK;obtain⟨d,a9,rfl,U⟩:=hrel;obtain⟨t,rfl⟩:∃h:World,h=wr:=⟨_,D⟩;have v:=V U;obtain⟨n,p,o,rfl⟩:=U.o.shape3;have i7:=a0.o t U.c 0 _ D;clear U;by_cases bH:d<a.rl.length
 .as_aux_lemma =>
  have c2:=rO d a.rl.length;obtain⟨X,kM,e,k5,E,jZ,rfl,-,-,-,e9⟩:=(zL.of (bD.o t v.o.c).rl).get1' (f:=λX=>[.string X]) D bH D;obtain rfl:X=kM:=jZ;have j7:=e9 _ D;have jX:=bO.o.rl.2 X (Az1 E);have c6:=V E;have dB:=(d1.o d).1;clear E e9;have F:=V (sj X _ t v.o.o v.o.s jX H);go_wp2_with fail
  refine F.o.mono ?_;rintro j b2 b;obtain⟨_,rfl,-⟩:=id b;obtain⟨i3,i5,i4,rfl⟩:=b.own.shape3;have bP:=V (v.o.ap b);have bB:=V b;clear b F;have a6:G (BdSt i y b2 (.slice i3 i5 i4) (f2++(a.rl.take (d+1)).flatMap xE)):=V (bP.o.to (by rw[yA c6.o,Az7]));clear i7 j7;go_wp2;go_roundw
  .first|exact⟨d+1,H,GN,a6.o⟩|((repeat apply Ay4);exact⟨⟨d+1,H,GN,a6.o⟩,D⟩)
  simp[intOf];omega
 obtain rfl:d=a.rl.length:=H
 have c2:=rP a.rl.length;have S:G (BdSt i y t (.slice n p o) j0):=V (v.o.to (by rw[nF.o,Ay7]));have dI:=a0.o t v.o.c 1 _ D;clear v;have F:=V (xN (a.tk.length:Int) _ t S.o.o S.o.s H H);go_wp2_with fail
 refine F.o.mono ?_;rintro j b2 b;obtain⟨_,rfl,-⟩:=id b;obtain⟨cV,cZ,cX,rfl⟩:=b.own.shape3;have aK:=V (S.o.ap b);have bB:=V b;clear b F;have aK:G (BdSt i y b2 (.slice cV cZ cX) d3):=V (aK.o.to (by rw[nH.o];unfold zJ;rw[Ay5]));clear i7 dI S bB;go_wp2_with fail
 go_loopw [3,5] (λaY B wr=>∃d:Nat,d<=a.tk.length/\B=.int .i64 d/\BdSt i y wr aY (d3++((a.tk.zip a.dr).take d).flatMap sC)) (λ_ B _=>a.tk.length-(intOf B).toNat)
 .exact⟨0,H,D,by rw[List.take_zero,List.flatMap_nil,Av3];exact aK.o⟩
 clear aK;obtain⟨d,a9,rfl,U⟩:=hrel;obtain⟨t,rfl⟩:∃h:World,h=wr:=⟨_,D⟩;have v:=V U;obtain⟨n,p,o,rfl⟩:=U.o.shape3;have dI:=a0.o t U.c 1 _ D;clear U;by_cases bH:d<a.tk.length
 .as_aux_lemma =>
  have c2:=rO d a.tk.length;obtain⟨X,kM,e,k5,E,jZ,rfl,-,-,-,e9⟩:=(zL.of (bD.o t v.o.c).tk).get1' (f:=λX=>[.string X]) D bH D;obtain rfl:X=kM:=jZ;have j7:=e9 _ D;have jX:=bO.o.tk.2 X (Az1 E);have dB:=(d1.o d).2.1;have F:=V (sj X _ t v.o.o v.o.s jX H);go_wp2_with fail
  refine F.o.mono ?_;rintro j b2 b;obtain⟨_,rfl,-⟩:=id b;obtain⟨i3,i5,i4,rfl⟩:=b.own.shape3;have bP:=V (v.o.ap b);have bB:=V b;clear b F;have oG:d<a.dr.length:=(by rw[iK.o];exact bH);obtain⟨fO,e7,p3,q6,bX,jK,hS,-,-,-,m1⟩:=(zL.of (bD.o b2 bP.o.c).dr).get1' (f:=λfO=>[.bool fO]) D oG D;obtain rfl:fO=e7:=jK;have lO:=m1 _ D;have c6:G ((a.tk.zip a.dr)[d]?=some (X,fO)):=V (ti E bX);have Q:=a0.o b2 bP.o.c 2 _ D;have mX:=V hS;have dD:((d3++((a.tk.zip a.dr).take d).flatMap sC)++xE X).length<=99000000:=by
   have a7:=rS (n:=X.size) H;have s:=rC X;have hO:(xE X).length=(putL X.size).length+(strB X).length:=(by unfold xE;rw[Az]);rw[Az,hO];omega
  clear dI j7 E e9 bX m1 hS bB;obtain rfl:=mX.o;cases fO with
  | true =>
   have F:=V (xN 1 _ b2 bP.o.o bP.o.s H H);go_wp2_with fail
   refine F.o.mono ?_;rintro j b8 b;obtain⟨_,rfl,-⟩:=id b;obtain⟨kO,kT,kP,rfl⟩:=b.own.shape3;have iS:=V (bP.o.ap b);have bB:=V b;clear b F;have a6:G (BdSt i y b8 (.slice kO kT kP) (d3++((a.tk.zip a.dr).take (d+1)).flatMap sC)):=V (iS.o.to (by rw[yA c6.o,Az7,Az7];rfl));clear Q lO;go_wp2;go_roundw
   .first|exact⟨d+1,H,GN,a6.o⟩|((repeat apply Ay4);exact⟨⟨d+1,H,GN,a6.o⟩,D⟩)
   .simp[intOf];omega
  | false =>
   have F:=V (xN 0 _ b2 bP.o.o bP.o.s H H);go_wp2_with fail
   refine F.o.mono ?_;rintro j b8 b;obtain⟨_,rfl,-⟩:=id b;obtain⟨kO,kT,kP,rfl⟩:=b.own.shape3;have iS:=V (bP.o.ap b);have bB:=V b;clear b F;have a6:G (BdSt i y b8 (.slice kO kT kP) (d3++((a.tk.zip a.dr).take (d+1)).flatMap sC)):=V (iS.o.to (by rw[yA c6.o,Az7,Az7];rfl));clear Q lO;go_wp2;go_roundw
   .first|exact⟨d+1,H,GN,a6.o⟩|((repeat apply Ay4);exact⟨⟨d+1,H,GN,a6.o⟩,D⟩)
   simp[intOf];omega
 obtain rfl:d=a.tk.length:=H
 have c2:=rP a.tk.length;have S:G (BdSt i y t (.slice n p o) j1):=V (v.o.to (by rw[nI.o,Ax8 (by rw[Au5,iK.o,Nat.min_self];exact Ay1 _)]));have i8:=a0.o t v.o.c 3 _ D;clear v;have F:=V (xN (a.lx.r.length:Int) _ t S.o.o S.o.s H H);go_wp2_with fail
 refine F.o.mono ?_;rintro j b2 b;obtain⟨_,rfl,-⟩:=id b;obtain⟨cV,cZ,cX,rfl⟩:=b.own.shape3;have aK:=V (S.o.ap b);have bB:=V b;clear b F;have aK:G (BdSt i y b2 (.slice cV cZ cX) dP):=V (aK.o.to (by rw[nK.o];unfold zJ;rw[Ay5]));clear dI i8 S bB;go_wp2_with fail
 go_loopw [3,6] (λaY B wr=>∃d:Nat,d<=a.lx.r.length/\B=.int .i64 d/\BdSt i y wr aY (dP++((a.lx.r.zip a.lx.c).take d).flatMap ptRc)) (λ_ B _=>a.lx.r.length-(intOf B).toNat)
 .exact⟨0,H,D,by rw[List.take_zero,List.flatMap_nil,Av3];exact aK.o⟩
 clear aK;obtain⟨d,a9,rfl,U⟩:=hrel;obtain⟨t,rfl⟩:∃h:World,h=wr:=⟨_,D⟩;have v:=V U;obtain⟨n,p,o,rfl⟩:=U.o.shape3;have i8:=a0.o t U.c 3 _ D;clear U;by_cases bH:d<a.lx.r.length
 .as_aux_lemma =>
  have c2:=rO d a.lx.r.length;have oF:d<a.lx.c.length:=(by rw[h0.o];exact bH);obtain⟨⟨b7,bF⟩,e7,fP,k6,u,jK,m9,oJ,-,oI,m2⟩:=(zL.of (bD.o t v.o.c).lx.r).get2 (f:=λ(mM:Int×Int)=>[.int .i32 mM.1,.int .i32 mM.2]) D bH D;obtain rfl:(b7,bF)=e7:=jK;obtain⟨gO,gP⟩:=m2 _ _ D;obtain⟨f4,j9,mK,k0,m0,i1,-,-,oB,-⟩:=(bD.o t v.o.c).lx.c.getI oF;have o9:=bO.o.lx.rs _ (Az1 u);have fR:=bO.o.lx.cs _ (Az1 k0);have c6:G ((a.lx.r.zip a.lx.c)[d]?=some ((b7,bF),f4)):=V (ti u k0);obtain⟨⟨u1,u2⟩,u3,u4⟩:=o9;simp only at u1 u2 u3 u4 gO gP;have dB:=(d1.o d).2.2.1;have n3:=V (show _/\_/\_/\_/\_ from ⟨gO,gP,i1,oJ,oB⟩);have iR:=V (show _/\_ from ⟨m9,m0⟩);have lP:=nN (z:=b7) ⟨u1,u2⟩;have lQ:=nN (z:=bF) ⟨u3,u4⟩;clear u k0 m2 gO gP i1 m9 m0 oI;obtain⟨rfl,rfl⟩:=iR.o;obtain⟨aO,c4⟩:=rK (dP++((a.lx.r.zip a.lx.c).take d).flatMap ptRc);have fK:=V c4;rw[<-c4]at v dB;clear c4;have eD:IntKind.i64.wrap b7=b7:=IntWalk.i64_in _ H;have bI:IntKind.i64.wrap bF=bF:=IntWalk.i64_in _ H;go_upto_region 19 with fail
  clear i8;refine rB 27 (λd=>(Value.slice n p o).ownBlock=some d) (λ_=>false) ?_;intro m N c;have l:=V (v.o.fresh N.o);have Z:G (Ap i m (.slice n p o) aO [] (.returned (.slice n p o)) m):=V (Ap.nil l.o.o);have g:G (∀h,J (λd=>(Value.slice n p o).ownBlock=some d) m h->(h.cell? ⟨aP,3,none⟩=some (.slice (some ⟨fP,k6,none⟩) a.lx.r.length d6)/\h.cell? ⟨aP,4,none⟩=some (.slice (some ⟨j9,mK,none⟩) a.lx.c.length d7))/\h.cell? ⟨fP,k6+d * 2,none⟩=some (.int .i32 b7)/\h.cell? ⟨fP,k6+d * 2+1,none⟩=some (.int .i32 bF)/\h.cell? ⟨j9,mK+d,none⟩=some (.int .i64 f4)):=V (λh u=>by
   have a8:J (λe=>i<=e) y h:=l.o.c.trans (l.o.all u);have b3:J (λe=>i<=e) t h:=N.o.any.trans (l.o.all u);obtain⟨gO,gP,i1,a7,s⟩:=n3.o;exact⟨⟨a0.o h a8 3 _ D,a0.o h a8 4 _ D⟩,b3.cellS gO (by show ¬i<=fP;omega),b3.cellS gP (by show ¬i<=fP;omega),b3.cellS i1 (by show ¬i<=j9;omega)⟩)
  refine lf 0 c.o g.o ?_;refine lf 1 c.o g.o ?_;refine lf 2 c.o g.o ?_;refine lf 3 c.o g.o ?_;refine lf 4 c.o g.o ?_;refine lf 5 c.o g.o ?_;refine lf 6 c.o g.o ?_;refine lf 7 c.o g.o ?_;refine lf 8 c.o g.o ?_;refine lf 10 c.o g.o ?_;refine lf 11 c.o g.o ?_;refine lf 12 c.o g.o ?_;refine lf 13 c.o g.o ?_;refine lf 14 c.o g.o ?_;refine lf 15 c.o g.o ?_;refine lf 16 c.o g.o ?_;refine lf 17 c.o g.o ?_;refine lf 19 c.o g.o ?_;refine lf 20 c.o g.o ?_;refine lf 21 c.o g.o ?_;refine lf 22 c.o g.o ?_;refine lf 23 c.o g.o ?_;refine lf 24 c.o g.o ?_;refine zY (i:=9) M D D 78 #[.slice n p o,.int .i64 b7] (λq W=>Ap i m (.slice n p o) aO (zJ b7) (.returned q) W) (by go_simp) ?_ ?_
  .refine (xN b7 (.slice n p o) m Z.o.own (Ay2 l.o.s Z.o.chg.size) ⟨u1,u2⟩ (by rw[Az,Aw6];omega)).mono ?_
   rintro j z b;obtain⟨Q,rfl,-⟩:=id b;have s:=(Z.o.trans b).to (Y':=zJ b7) (Av _);exact⟨Q,D,λ_=>s.chg,s⟩
  rintro q b9 E b T w;obtain⟨aZ,b1,b0,rfl⟩:=b.own.shape3;have R:=V b;have c:=V b.chg;clear b E;(try go_simp)
  refine w _ ?_;clear w T;refine zY (i:=18) M D D 78 #[.slice aZ b1 b0,.int .i64 bF] (λq W=>Ap i m (.slice n p o) aO (zJ b7++zJ bF) (.returned q) W) (by go_simp) ?_ ?_
  .refine (xN bF (.slice aZ b1 b0) b9 R.o.own (Ay2 l.o.s R.o.chg.size) ⟨u3,u4⟩ (by rw[Az];omega)).mono ?_
   rintro j z b;obtain⟨Q,rfl,-⟩:=id b;have s:=(R.o.trans b).to (Y':=zJ b7++zJ bF) D;exact⟨Q,D,λ_=>s.chg,s⟩
  rintro q a5 E b T w;obtain⟨aR,aV,aT,rfl⟩:=b.own.shape3;have a1:=V b;have c:=V b.chg;clear b E;(try go_simp)
  refine w _ ?_;clear w T;refine zY (i:=25) M D D 78 #[.slice aR aV aT,.int .i64 f4] (λq W=>Ap i m (.slice n p o) aO (zJ b7++(zJ bF++zJ f4)) (.returned q) W) (by go_simp) ?_ ?_
  .refine (xN f4 (.slice aR aV aT) a5 a1.o.own (Ay2 l.o.s a1.o.chg.size) ⟨fR.1,H⟩ (by rw[Az,Az];omega)).mono ?_
   rintro j z b;obtain⟨Q,rfl,-⟩:=id b;have s:=(a1.o.trans b).to (Y':=zJ b7++(zJ bF++zJ f4)) (Az7 _ _ _);exact⟨Q,D,λ_=>s.chg,s⟩
  rintro q f9 E b T w;obtain⟨gS,gV,gT,rfl⟩:=b.own.shape3;have eR:=V b;have c:=V b.chg;clear b E;(try go_simp)
  refine w _ ?_;clear w T;refine lq 26 c.o ?_;refine zQ M ?_ _;have a6:G (BdSt i y f9 (.slice gS gV gT) (dP++((a.lx.r.zip a.lx.c).take (d+1)).flatMap ptRc)):=V ((l.o.ap eR.o).to (by rw[yA c6.o,fK.o,Az7];rfl));go_wp2;go_roundw
  .first|exact⟨d+1,H,GN,a6.o⟩|((repeat apply Ay4);exact⟨⟨d+1,H,GN,a6.o⟩,D⟩)
  simp[intOf];omega
 obtain rfl:d=a.lx.r.length:=H
 have c2:=rP a.lx.r.length;have S:G (BdSt i y t (.slice n p o) fM):=V (v.o.to (by rw[nM.o,Ax8 (by rw[Au5,h0.o,Nat.min_self];exact Ay1 _)]));clear v;go_upto_region 20 with fail
 clear i8;refine rB 9 (λd=>(Value.slice n p o).ownBlock=some d) (λ_=>false) ?_;intro m N c;have l:=V (S.o.fresh N.o);have Z:G (Ap i m (.slice n p o) fM [] (.returned (.slice n p o)) m):=V (Ap.nil l.o.o);have g:G (∀h,J (λd=>(Value.slice n p o).ownBlock=some d) m h->h.cell? ⟨aP,3,none⟩=some (.slice dU a.lx.r.length d6)/\h.cell? ⟨aP,4,none⟩=some (.slice dV a.lx.c.length d7)/\h.cell? ⟨aP,5,none⟩=some (.slice cH a.lx.n.length cI)/\h.cell? ⟨aP,6,none⟩=some (.slice dX a.lx.e.length e3)):=V (λh u=>by
  have a8:J (λe=>i<=e) y h:=l.o.c.trans (l.o.all u);exact⟨a0.o h a8 3 _ D,a0.o h a8 4 _ D,a0.o h a8 5 _ D,a0.o h a8 6 _ D⟩)
 refine lq 0 c.o ?_;refine lq 1 c.o ?_;refine lf 2 c.o g.o ?_;refine lq 4 c.o ?_;refine lq 5 c.o ?_;refine lf 6 c.o g.o ?_;refine zY (i:=3) M D D 45 #[.agg #[.slice dU a.lx.r.length d6,.slice dV a.lx.c.length d7,.slice cH a.lx.n.length cI,.slice dX a.lx.e.length e3]] (λq W=>q=.int .i64 (hN:Int)/\Cf m W) (by go_simp) ?_ ?_
 .refine (te a.lx ⟨(dU,a.lx.r.length,d6),(dV,a.lx.c.length,d7),(cH,a.lx.n.length,cI),(dX,a.lx.e.length,e3)⟩ (·<aP) m (bD.o m l.o.c).lx (by rw[h0.o];omega) bO.o.lx.cs).mono ?_
  rintro j z ⟨rfl,d8⟩;exact⟨_,D,λ_=>d8.any,by rw[gX.o],d8⟩
 rintro q b9 E ⟨rfl,d8⟩ T w;have eX:=V d8;clear d8 E;(try go_simp)
 refine w _ ?_;clear w T;have cF:=V (l.o.fresh eX.o);refine zY (i:=7) M D D 80 #[.slice n p o,.int .i64 (hN:Int),.slice cH a.lx.n.length cI] (λq W=>Ap i m (.slice n p o) fM (vJ (hN:Int) a.lx.n) (.returned q) W) (by go_simp) ?_ ?_
 .refine (sk hN a.lx.n cH cI _ b9 cF.o.o cF.o.s (LexIn.tab (LexIn.good.mono (bD.o b9 cF.o.c).lx (S':=(0<=·)) (λ_ _ _=>Ax9 _))).n oC oS (by have k:=bO.o.lx.mo;rw[gX.o]at k;exact k) n7.o (by have k:=congrArg List.length lM.o;rw[Az,gX.o]at k;omega)).mono ?_
  rintro j z b;obtain⟨Q,rfl,-⟩:=id b;have s:=Ap.fresh eX.o b;exact⟨Q,D,λ_=>s.chg,s⟩
 rintro q a5 E b T w;obtain⟨aZ,b1,b0,rfl⟩:=b.own.shape3;have R:=V b;have c:=V b.chg;clear b E;(try go_simp)
 refine w _ ?_;clear w T;refine lq 8 c.o ?_;refine zQ M ?_ _;have lI:G (BdSt i y a5 (.slice aZ b1 b0) f3):=V ((l.o.ap R.o).to (by rw[lM.o,gX.o]));go_wp2;obtain⟨l1,rfl⟩:∃h:World,h=a5:=⟨_,D⟩;clear Z R l cF eX S N g c
 go_loopw [3,7] (λaY B wr=>∃d:Nat,d<=a.lx.e.length/\B=.int .i64 d/\BdSt i y wr aY (f3++(a.lx.e.take d).flatMap nQ)) (λ_ B _=>a.lx.e.length-(intOf B).toNat)
 .exact⟨0,H,D,by rw[List.take_zero,List.flatMap_nil,Av3];exact lI.o⟩
 clear lI;obtain⟨d,a9,rfl,U⟩:=hrel;obtain⟨t,rfl⟩:∃h:World,h=wr:=⟨_,D⟩;have v:=V U;obtain⟨n,p,o,rfl⟩:=U.o.shape3;have mO:=a0.o t U.c 6 _ D;clear U;by_cases bH:d<a.lx.e.length
 .as_aux_lemma =>
  have c2:=rO d a.lx.e.length;obtain⟨j,e,k5,u,rfl,cK,-,-,-,-⟩:=(bD.o t v.o.c).lx.e.getI bH;obtain⟨bK,c1⟩:=bO.o.lx.eb j (Az1 u);have c6:=V u;have dB:=(d1.o d).2.2.2.1;have eD:wrap64 (j+1)=j+1:=(by unfold wrap64;omega);have bI:IntKind.i64.wrap (j+1)=j+1:=IntWalk.i64_in _ H;clear u;have F:=V (xN (j+1) _ t v.o.o v.o.s H H);go_wp2_with fail
  refine F.o.mono ?_;rintro j b2 b;obtain⟨_,rfl,-⟩:=id b;obtain⟨i3,i5,i4,rfl⟩:=b.own.shape3;have bP:=V (v.o.ap b);have bB:=V b;clear b F;have a6:G (BdSt i y b2 (.slice i3 i5 i4) (f3++(a.lx.e.take (d+1)).flatMap nQ)):=V (bP.o.to (by rw[yA c6.o,Az7];rfl));clear mO cK;go_wp2;go_roundw
  .first|exact⟨d+1,H,GN,a6.o⟩|((repeat apply Ay4);exact⟨⟨d+1,H,GN,a6.o⟩,D⟩)
  simp[intOf];omega
 obtain rfl:d=a.lx.e.length:=H
 have c2:=rP a.lx.e.length;have S:G (BdSt i y t (.slice n p o) j2):=V (v.o.to (by rw[nO.o,Ay7]));have i9:=a0.o t v.o.c 7 _ D;clear v;have F:=V (xN (a.nt.st.length:Int) _ t S.o.o S.o.s H H);go_wp2_with fail
 refine F.o.mono ?_;rintro j b2 b;obtain⟨_,rfl,-⟩:=id b;obtain⟨cV,cZ,cX,rfl⟩:=b.own.shape3;have aK:=V (S.o.ap b);have bB:=V b;clear b F;have aK:G (BdSt i y b2 (.slice cV cZ cX) d4):=V (aK.o.to (by rw[nP.o];unfold zJ;rw[Ay5]));clear mO i9 S bB;go_wp2_with fail
 go_loopw [3,8] (λaY B wr=>∃d:Nat,d<=a.nt.st.length/\B=.int .i64 d/\BdSt i y wr aY (d4++(a.nt.st.take d).flatMap xU)) (λ_ B _=>a.nt.st.length-(intOf B).toNat)
 .exact⟨0,H,D,by rw[List.take_zero,List.flatMap_nil,Av3];exact aK.o⟩
 clear aK;obtain⟨d,a9,rfl,U⟩:=hrel;obtain⟨t,rfl⟩:∃h:World,h=wr:=⟨_,D⟩;have v:=V U;obtain⟨n,p,o,rfl⟩:=U.o.shape3;have i9:=a0.o t U.c 7 _ D;clear U;by_cases bH:d<a.nt.st.length
 .as_aux_lemma =>
  have c2:=rO d a.nt.st.length;obtain⟨⟨aM,⟨c8,o7,bV⟩,⟨eM,qI,eO⟩⟩,⟨qH,r,bZ⟩,e,k5,bX,⟨f6,-,cS,hZ⟩,rfl,-,p7,-,g9⟩:=(bD.o t v.o.c).nt.st.get3 (f:=hJ) D bH D;simp only at f6 cS hZ;subst f6;obtain⟨rfl,-⟩:=cS.len;obtain⟨rfl,-⟩:=hZ.len;obtain⟨i2,f7,gR⟩:=g9 _ _ _ D;simp only[slV]at f7 gR;have c6:=V bX;obtain⟨mF,⟨oU,mH⟩,oV,mI⟩:=bO.o.nt.st.2 _ (Az1 bX);obtain⟨oW,oX⟩:=bO.o.sl _ (Az1 bX);simp only at mF oU mH oV mI oW oX;have h6:=V (show _/\_/\_ from ⟨mF,mH,mI⟩);have dB:=(d1.o d).2.2.2.2.1;have dD:((d4++(a.nt.st.take d).flatMap xU)++xU (aM,r,bZ)).length<=90000000:=by
   have k:=(d1.o (d+1)).2.2.2.2.1;rw[yA bX,<-Az7]at k;exact k
  have iX:G (∀Y,J (λe=>i<=e) t Y->zL nG eqR Y (·<aP) (c8,r.length,bV) r):=V (λY u=>zL.of (cS.chg u (λe x j=>H)));have o2:G (∀Y,J (λe=>i<=e) t Y->intE.InS Y (·<i) (eM,bZ.length,eO) bZ):=V (λY u=>(hZ.chg u (λe x j=>H)).mono (λe _ x=>H));obtain⟨aO,c4⟩:=rK (d4++(a.nt.st.take d).flatMap xU);have fK:=V c4;rw[<-c4]at v dB dD;have m7:(xU (aM,r,bZ)).length=(zJ aM).length+((putL r.length).length+(r.flatMap sQ).length+((putL bZ.length).length+(bZ.flatMap zJ).length)):=by
   unfold xU zE;simp only[Az]
  rw[Az,m7]at dD;obtain⟨bT,hR⟩:=rK t.heap.size;obtain⟨z,bI⟩:=rK (t.alloc (.cells #[.int .i64 aM,.slice c8 r.length bV,.slice eM bZ.length eO] 121));have fF:G (Cf t z):=V (by rw[bI];exact rT);have l5:G (∀a3 aH,(#[.int .i64 aM,.slice c8 r.length bV,.slice eM bZ.length eO]:Array Value)[a3]?=some aH->z.cell? ⟨bT,a3,none⟩=some aH):=V (λa3 aH eB=>by rw[bI];exact zG _ hR eB);have dM:G (∀e,(Value.slice n p o).ownBlock=some e->e≠bT):=V (λe x j=>by have:=(v.o.blk x).2;omega);have iJ:G (bT<z.heap.size):=V (by rw[bI,hR];simp);have cD:=V (v.o.fresh fF.o);clear bX cS hZ g9 c4 m7;go_upto_region 30 with fail
  rw[<-bI,<-hR];clear bI hR i9 i2 f7 gR;refine rB 9 (λd=>(Value.slice n p o).ownBlock=some d) (λ_=>false) ?_;intro m N c;have l:=V (cD.o.fresh N.o);have Z:G (Ap i m (.slice n p o) aO [] (.returned (.slice n p o)) m):=V (Ap.nil l.o.o);have g:G (∀h,J (λd=>(Value.slice n p o).ownBlock=some d) m h->h.cell? ⟨bT,0,none⟩=some (.int .i64 aM)/\h.cell? ⟨bT,1,none⟩=some (.slice c8 r.length bV)):=V (λh u=>by
   have a8:J (λe=>i<=e) y h:=l.o.c.trans (l.o.all u);have b3:J (λe=>i<=e) z h:=N.o.any.trans (l.o.all u);have f5:∀a3 aH,(#[.int .i64 aM,.slice c8 r.length bV,.slice eM bZ.length eO]:Array Value)[a3]?=some aH->h.cell? ⟨bT,a3,none⟩=some aH:=λa3 aH eB=>u.cellS (N.o.cellS (l5.o a3 aH eB) iD) (λj=>dM.o _ j D)
   exact⟨f5 0 _ D,f5 1 _ D⟩)
  refine lf 0 c.o g.o ?_;refine lf 1 c.o g.o ?_;refine lf 2 c.o g.o ?_;refine lf 4 c.o g.o ?_;refine lf 5 c.o g.o ?_;refine lf 6 c.o g.o ?_;refine zY (i:=3) M D D 78 #[.slice n p o,.int .i64 aM] (λq W=>Ap i m (.slice n p o) aO (zJ aM) (.returned q) W) (by go_simp) ?_ ?_
  .refine (xN aM (.slice n p o) m Z.o.own (Ay2 l.o.s Z.o.chg.size) h6.o.1 (by rw[Az,Aw6];omega)).mono ?_
   rintro j z b;obtain⟨Q,rfl,-⟩:=id b;have s:=(Z.o.trans b).to (Y':=zJ aM) (Av _);exact⟨Q,D,λ_=>s.chg,s⟩
  rintro q b9 E b T w;obtain⟨aZ,b1,b0,rfl⟩:=b.own.shape3;have R:=V b;have c:=V b.chg;clear b E;(try go_simp)
  refine w _ ?_;clear w T;refine zY (i:=7) M D D 78 #[.slice aZ b1 b0,.int .i64 r.length] (λq W=>Ap i m (.slice n p o) aO (zJ aM++zJ r.length) (.returned q) W) (by go_simp) ?_ ?_
  .refine (xN (r.length:Int) (.slice aZ b1 b0) b9 R.o.own (Ay2 l.o.s R.o.chg.size) H (by have:=nN h6.o.1;rw[Az];omega)).mono ?_
   rintro j z b;obtain⟨Q,rfl,-⟩:=id b;have s:=(R.o.trans b).to (Y':=zJ aM++zJ r.length) D;exact⟨Q,D,λ_=>s.chg,s⟩
  rintro q a5 E b T w;obtain⟨aR,aV,aT,rfl⟩:=b.own.shape3;have a1:=V b;have c:=V b.chg;clear b E;(try go_simp)
  refine w _ ?_;clear w T;refine lq 8 c.o ?_;refine zQ M ?_ _;have fD:G (Ap i z (.slice n p o) aO (zJ aM++putL r.length) (.returned (.slice aR aV aT)) a5):=V ((Ap.fresh N.o a1.o).to (by unfold zJ;rw[Ay5]));go_wp2;obtain⟨l1,rfl⟩:∃h:World,h=a5:=⟨_,D⟩;clear Z R a1 l N g c
  go_loopw [3,10] (λaY B wr=>∃C:Nat,C<=r.length/\B=.int .i64 C/\Ap i z (.slice n p o) aO ((zJ aM++putL r.length)++(r.take C).flatMap sQ) (.returned aY) wr) (λ_ B _=>r.length-(intOf B).toNat)
  .exact⟨0,H,D,by rw[List.take_zero,List.flatMap_nil,Av3];exact fD.o⟩
  clear fD;obtain⟨C,oP,rfl,b⟩:=hrel;obtain⟨aI,rfl⟩:∃h:World,h=wr:=⟨_,D⟩;have eT:=V b;obtain⟨aB,aF,aD,rfl⟩:=b.own.shape3;have aX:=V (cD.o.ap b);have iC:G (∀a3 aH,(#[.int .i64 aM,.slice c8 r.length bV,.slice eM bZ.length eO]:Array Value)[a3]?=some aH->aI.cell? ⟨bT,a3,none⟩=some aH):=V (λa3 aH eB=>b.chg.cellS (l5.o a3 aH eB) (λj=>dM.o _ j D));have iM:G (∀e,(Value.slice aB aF aD).ownBlock=some e->e≠bT):=V (λe x j=>(b.nx e x).elim (λk=>dM.o e k j) (λk=>by have:=iJ.o;omega));have h1:G (J (λe=>i<=e) t aI):=V (fF.o.any.trans (cD.o.all b.chg));obtain⟨i2,f7,gR⟩:aI.cell? ⟨bT,0,none⟩=some (.int .i64 aM)/\aI.cell? ⟨bT,1,none⟩=some (.slice c8 r.length bV)/\aI.cell? ⟨bT,2,none⟩=some (.slice eM bZ.length eO):=⟨iC.o 0 _ D,iC.o 1 _ D,iC.o 2 _ D⟩;clear b;have oQ:((r.take C).flatMap sQ).length<=(r.flatMap sQ).length:=yW C;by_cases k2:C<r.length
  .have j3:=rO C r.length
   obtain⟨⟨a4,d0,c0⟩,e7,c3,dF,eF,k1,jM,m5,-,-,a8⟩:=(iX.o aI h1.o).get3 (f:=de) D k2 D;obtain rfl:(a4,d0,c0)=e7:=k1;obtain⟨cK,e6,j8⟩:=a8 _ _ _ D;simp only at cK e6 j8;subst jM;obtain⟨⟨bK,c1⟩,bM,l2⟩:=h6.o.2.1 _ (Az1 eF);simp only at bK c1 bM l2;have eZ:G (U32 a4/\U32 d0/\U32 c0):=V ⟨⟨bK,H⟩,bM,l2⟩;have cF:=V eF;have gZ:=V (show _/\_/\_/\_/\_ from ⟨f7,cK,e6,j8,m5⟩);obtain⟨c7,cM⟩:=rK (aO++((zJ aM++putL r.length)++(r.take C).flatMap sQ));have oO:c7.length<=90000000:=(by rw[cM];simp only[Az];omega);have iW:=V cM;rw[<-cM]at aX;clear eF a8 cK e6 j8 cM bK c1 bM l2;go_upto_region 34 with fail
   clear i2 f7 gR;refine rB 23 (λd=>(Value.slice aB aF aD).ownBlock=some d) (λ_=>false) ?_;intro m N c;have l:=V (aX.o.fresh N.o);have Z:G (Ap i m (.slice aB aF aD) c7 [] (.returned (.slice aB aF aD)) m):=V (Ap.nil l.o.o);have g:G (∀h,J (λd=>(Value.slice aB aF aD).ownBlock=some d) m h->h.cell? ⟨bT,1,none⟩=some (.slice (some ⟨c3,dF,none⟩) r.length bV)/\h.cell? ⟨c3,dF+C * 3,none⟩=some (.int .i64 a4)/\h.cell? ⟨c3,dF+C * 3+1,none⟩=some (.int .i64 d0)/\h.cell? ⟨c3,dF+C * 3+2,none⟩=some (.int .i64 c0)):=V (λh u=>by
    have a8:J (λe=>i<=e) y h:=l.o.c.trans (l.o.all u);have b3:J (λe=>i<=e) aI h:=N.o.any.trans (l.o.all u);obtain⟨fB,bK,c1,bM,x⟩:=gZ.o;exact⟨u.cellS (N.o.cellS fB iD) (λj=>iM.o _ j D),b3.cellS bK (by show ¬i<=c3;omega),b3.cellS c1 (by show ¬i<=c3;omega),b3.cellS bM (by show ¬i<=c3;omega)⟩)
   refine lf 0 c.o g.o ?_;refine lf 1 c.o g.o ?_;refine lf 2 c.o g.o ?_;refine lf 3 c.o g.o ?_;refine lf 4 c.o g.o ?_;refine lf 5 c.o g.o ?_;refine lf 6 c.o g.o ?_;refine lf 8 c.o g.o ?_;refine lf 9 c.o g.o ?_;refine lf 10 c.o g.o ?_;refine lf 11 c.o g.o ?_;refine lf 12 c.o g.o ?_;refine lf 13 c.o g.o ?_;refine lf 15 c.o g.o ?_;refine lf 16 c.o g.o ?_;refine lf 17 c.o g.o ?_;refine lf 18 c.o g.o ?_;refine lf 19 c.o g.o ?_;refine lf 20 c.o g.o ?_;refine zY (i:=7) M D D 78 #[.slice aB aF aD,.int .i64 a4] (λq W=>Ap i m (.slice aB aF aD) c7 (zJ a4) (.returned q) W) (by go_simp) ?_ ?_
   .refine (xN a4 (.slice aB aF aD) m Z.o.own (Ay2 l.o.s Z.o.chg.size) eZ.o.1 (by rw[Az,Aw6];omega)).mono ?_
    rintro j z b;obtain⟨Q,rfl,-⟩:=id b;have s:=(Z.o.trans b).to (Y':=zJ a4) (Av _);exact⟨Q,D,λ_=>s.chg,s⟩
   rintro q b9 E b T w;obtain⟨aZ,b1,b0,rfl⟩:=b.own.shape3;have R:=V b;have c:=V b.chg;clear b E;(try go_simp)
   refine w _ ?_;clear w T;refine zY (i:=14) M D D 78 #[.slice aZ b1 b0,.int .i64 d0] (λq W=>Ap i m (.slice aB aF aD) c7 (zJ a4++zJ d0) (.returned q) W) (by go_simp) ?_ ?_
   .refine (xN d0 (.slice aZ b1 b0) b9 R.o.own (Ay2 l.o.s R.o.chg.size) eZ.o.2.1 (by have:=nN eZ.o.1;rw[Az];omega)).mono ?_
    rintro j z b;obtain⟨Q,rfl,-⟩:=id b;have s:=(R.o.trans b).to (Y':=zJ a4++zJ d0) D;exact⟨Q,D,λ_=>s.chg,s⟩
   rintro q a5 E b T w;obtain⟨aR,aV,aT,rfl⟩:=b.own.shape3;have a1:=V b;have c:=V b.chg;clear b E;(try go_simp)
   refine w _ ?_;clear w T;refine zY (i:=21) M D D 78 #[.slice aR aV aT,.int .i64 c0] (λq W=>Ap i m (.slice aB aF aD) c7 (zJ a4++(zJ d0++zJ c0)) (.returned q) W) (by go_simp) ?_ ?_
   .refine (xN c0 (.slice aR aV aT) a5 a1.o.own (Ay2 l.o.s a1.o.chg.size) eZ.o.2.2 (by have:=nN eZ.o.1;have:=nN eZ.o.2.1;rw[Az,Az];omega)).mono ?_
    rintro j z b;obtain⟨Q,rfl,-⟩:=id b;have s:=(a1.o.trans b).to (Y':=zJ a4++(zJ d0++zJ c0)) (Az7 _ _ _);exact⟨Q,D,λ_=>s.chg,s⟩
   rintro q f9 E b T w;obtain⟨gS,gV,gT,rfl⟩:=b.own.shape3;have eR:=V b;have c:=V b.chg;clear b E;(try go_simp)
   refine w _ ?_;clear w T;refine lq 22 c.o ?_;refine zQ M ?_ _;have cB:G (Ap i z (.slice n p o) aO ((zJ aM++putL r.length)++(r.take (C+1)).flatMap sQ) (.returned (.slice gS gV gT)) f9):=V (by
    have k:=eT.o.trans (by rw[<-iW.o];exact Ap.fresh N.o eR.o);refine k.to ?_;rw[yA cF.o];simp only[Az7]
    rfl)
   go_wp2;go_roundw
   .first|exact⟨C+1,H,GN,cB.o⟩|((repeat apply Ay4);exact⟨⟨C+1,H,GN,cB.o⟩,D⟩)
   simp[intOf];omega
  obtain rfl:C=r.length:=H
  have j3:=rP r.length;rw[Ay7]at eT aX;have F:=V (mW bZ eM eO _ aI aX.o.o aX.o.s (o2.o aI h1.o) (λe x=>(aX.o.blk x).1) h6.o.2.2 H (by simp only[Az];omega));go_wp2_with fail
  refine F.o.mono ?_;rintro j f8 b;obtain⟨_,rfl,-⟩:=id b;obtain⟨kV,kZ,kX,rfl⟩:=b.own.shape3;have a6:G (BdSt i y f8 (.slice kV kZ kX) (d4++(a.nt.st.take (d+1)).flatMap xU)):=V ((aX.o.ap b).to (by
   rw[yA c6.o,fK.o];unfold xU;simp only[zE,Az7]))
  clear b F i2 f7 gR;go_wp2;go_roundw
  .first|exact⟨d+1,H,GN,a6.o⟩|((repeat apply Ay4);exact⟨⟨d+1,H,GN,a6.o⟩,D⟩)
  simp[intOf];omega
 obtain rfl:d=a.nt.st.length:=H
 have c2:=rP a.nt.st.length;have S:G (BdSt i y t (.slice n p o) dO):=V (v.o.to (by rw[nB.o,Ay7]));have iO:=V bO.o.nt;have iN:=V bO.o.nl;clear v;go_upto_region 36 with fail
 clear i9;refine rB 14 (λd=>(Value.slice n p o).ownBlock=some d) (λ_=>false) ?_;intro m N c;have l:=V (S.o.fresh N.o);have Z:G (Ap i m (.slice n p o) dO [] (.returned (.slice n p o)) m):=V (Ap.nil l.o.o);have g:G (∀h,J (λd=>(Value.slice n p o).ownBlock=some d) m h->h.cell? ⟨aP,8,none⟩=some (.slice dZ a.nt.s.length e4)/\h.cell? ⟨aP,9,none⟩=some (.slice e0 a.nt.p.length e5)/\h.cell? ⟨aP,10,none⟩=some (.slice dT a.nt.q.length e2)):=V (λh u=>by
  have a8:J (λe=>i<=e) y h:=l.o.c.trans (l.o.all u);have b3:J (λe=>i<=e) t h:=N.o.any.trans (l.o.all u);exact⟨a0.o h a8 8 _ D,a0.o h a8 9 _ D,a0.o h a8 10 _ D⟩)
 refine lf 0 c.o g.o ?_;refine lf 1 c.o g.o ?_;refine lf 2 c.o g.o ?_;refine lf 3 c.o g.o ?_;refine lf 5 c.o g.o ?_;refine lf 6 c.o g.o ?_;refine lf 7 c.o g.o ?_;refine lf 9 c.o g.o ?_;refine lf 10 c.o g.o ?_;refine lf 11 c.o g.o ?_;refine zY (i:=4) M D D 81 #[.slice n p o,.slice dZ a.nt.s.length e4] (λq W=>Ap i m (.slice n p o) dO (zE zJ a.nt.s) (.returned q) W) (by go_simp) ?_ ?_
 .refine (mW a.nt.s dZ e4 (.slice n p o) m Z.o.own (Ay2 l.o.s Z.o.chg.size) ((bD.o m (l.o.c.trans (l.o.all Z.o.chg))).nt.s.mono (λe _ x=>H)) (λe x=>(Z.o.own.blk x).1) iO.o.s.2 (by have:=iN.o;omega) (by rw[Az,Aw6];omega)).mono ?_
  rintro j z b;obtain⟨Q,rfl,-⟩:=id b;have s:=(Z.o.trans b).to (Y':=zE zJ a.nt.s) (Av _);exact⟨Q,D,λ_=>s.chg,s⟩
 rintro q b9 E b T w;obtain⟨aZ,b1,b0,rfl⟩:=b.own.shape3;have R:=V b;have c:=V b.chg;clear b E;(try go_simp)
 refine w _ ?_;clear w T;refine zY (i:=8) M D D 81 #[.slice aZ b1 b0,.slice e0 a.nt.p.length e5] (λq W=>Ap i m (.slice n p o) dO (zE zJ a.nt.s++zE zJ a.nt.p) (.returned q) W) (by go_simp) ?_ ?_
 .refine (mW a.nt.p e0 e5 (.slice aZ b1 b0) b9 R.o.own (Ay2 l.o.s R.o.chg.size) ((bD.o b9 (l.o.c.trans (l.o.all R.o.chg))).nt.p.mono (λe _ x=>H)) (λe x=>(R.o.own.blk x).1) iO.o.p.2 (by have:=iN.o;omega) (by have k:=congrArg List.length iU.o;simp only[Az]at k ⊢;omega)).mono ?_
  rintro j z b;obtain⟨Q,rfl,-⟩:=id b;have s:=(R.o.trans b).to (Y':=zE zJ a.nt.s++zE zJ a.nt.p) D;exact⟨Q,D,λ_=>s.chg,s⟩
 rintro q a5 E b T w;obtain⟨aR,aV,aT,rfl⟩:=b.own.shape3;have a1:=V b;have c:=V b.chg;clear b E;(try go_simp)
 refine w _ ?_;clear w T;refine zY (i:=12) M D D 81 #[.slice aR aV aT,.slice dT a.nt.q.length e2] (λq W=>Ap i m (.slice n p o) dO (zE zJ a.nt.s++(zE zJ a.nt.p++zE zJ a.nt.q)) (.returned q) W) (by go_simp) ?_ ?_
 .refine (mW a.nt.q dT e2 (.slice aR aV aT) a5 a1.o.own (Ay2 l.o.s a1.o.chg.size) ((bD.o a5 (l.o.c.trans (l.o.all a1.o.chg))).nt.q.mono (λe _ x=>H)) (λe x=>(a1.o.own.blk x).1) iO.o.q.2 (by have:=iN.o;omega) (by have k:=congrArg List.length iU.o;simp only[Az]at k ⊢;omega)).mono ?_
  rintro j z b;obtain⟨Q,rfl,-⟩:=id b;have s:=(a1.o.trans b).to (Y':=zE zJ a.nt.s++(zE zJ a.nt.p++zE zJ a.nt.q)) (Az7 _ _ _);exact⟨Q,D,λ_=>s.chg,s⟩
 rintro q f9 E b T w;obtain⟨gS,gV,gT,rfl⟩:=b.own.shape3;have eR:=V b;have c:=V b.chg;clear b E;(try go_simp)
 refine w _ ?_;clear w T;refine lq 13 c.o ?_;refine zQ M ?_ _;have lH:G (BdSt i y f9 (.slice gS gV gT) d2):=V ((l.o.ap eR.o).to (by rw[iU.o]));go_wp2;obtain⟨l1,rfl⟩:∃h:World,h=f9:=⟨_,D⟩;clear Z R a1 eR l S N g c
 go_loopw [3,11] (λaY B wr=>∃d:Nat,d<=a.lk.length/\B=.int .i64 d/\BdSt i y wr aY (d2++(a.lk.take d).flatMap (uA a.tk.length))) (λ_ B _=>a.lk.length-(intOf B).toNat)
 .exact⟨0,H,D,by rw[List.take_zero,List.flatMap_nil,Av3];exact lH.o⟩
 clear lH;obtain⟨d,a9,rfl,U⟩:=hrel;obtain⟨t,rfl⟩:∃h:World,h=wr:=⟨_,D⟩;have v:=V U;obtain⟨n,p,o,rfl⟩:=U.o.shape3;have oY:=a0.o t U.c 12 _ D;clear U;by_cases bH:d<a.lk.length
 .as_aux_lemma =>
  have c2:=rO d a.lk.length;obtain⟨⟨i6,qK,eP⟩,A,gA,q5,hX,jT,rfl,p6,-,lN⟩:=(bD.o t v.o.c).lk.get1 (f:=slV) D bH (λ_=>rfl);obtain⟨rfl,-⟩:=zL.len jT;simp only[slV]at lN;have n5:=V hX;have iP:=V (bO.o.lk A (Az1 hX));have o8:A.length<=4096:=iP.o.2.1;have dB:=(d1.o d).2.2.2.2.2;have dD:((d2++(a.lk.take d).flatMap (uA a.tk.length))++uA a.tk.length A).length<=90000000:=by
   have k:=(d1.o (d+1)).2.2.2.2.2;rw[yA hX,<-Az7]at k;exact k
  have iR:G (∀Y,J (λe=>i<=e) t Y->uJ Y (·<aP) (i6,A.length,eP) A):=V (λY u=>uJ.good.chg jT u (λe x j=>H));obtain⟨aO,c4⟩:=rK (d2++(a.lk.take d).flatMap (uA a.tk.length));have fK:=V c4;rw[<-c4]at v dB dD;have lD:G (uA a.tk.length A=(putL A.length++A.flatMap ptL)++vJ ((a.tk.length+1:Nat):Int) (A.map (λX=>yU a.tk.length X.2.2))):=V (Bg _ _);rw[Az,lD.o]at dD;simp only[Az]at dD;obtain⟨d5,hQ⟩:=rK t.heap.size;obtain⟨z,bI⟩:=rK (t.alloc (.cells #[.slice i6 A.length eP] 79));have fF:G (Cf t z):=V (by rw[bI];exact rT);have iH:G (z.cell? ⟨d5,0,none⟩=some (.slice i6 A.length eP)):=V (by rw[bI];exact uE _ _ hQ);have dM:G (∀e,(Value.slice n p o).ownBlock=some e->e≠d5):=V (λe x j=>by have:=(v.o.blk x).2;omega);have iJ:G (d5<z.heap.size):=V (by rw[bI,hQ];simp);have cD:=V (v.o.fresh fF.o);have cT:=iH.o;clear hX jT c4;go_upto_region 42 with fail
  rw[<-bI,<-hQ];clear bI hQ oY lN;have F:=V (xN (A.length:Int) _ z cD.o.o cD.o.s H H);go_wp2_with fail
  refine F.o.mono ?_;rintro j b2 b;obtain⟨_,rfl,-⟩:=id b;obtain⟨cV,cZ,cX,rfl⟩:=b.own.shape3;have fD:G (Ap i z (.slice n p o) aO (putL A.length) (.returned (.slice cV cZ cX)) b2):=V (b.to (by unfold zJ;rw[Ay5]));clear b F cT;go_wp2_with fail
  go_loopw [3,13,14] (λaY oT B wr=>∃C:Nat,C<=A.length/\B=.int .i64 C/\Ap i z (.slice n p o) aO (putL A.length++(A.take C).flatMap ptL) (.returned aY) wr/\LkS z.heap.size wr aY oT ((A.take C).map (λX=>yU a.tk.length X.2.2))) (λ_ _ B _=>A.length-(intOf B).toNat)
  .exact⟨0,H,D,by rw[List.take_zero,List.flatMap_nil,Av3];exact fD.o,LkS.start _ _ _⟩
  clear fD;obtain⟨C,oP,rfl,b,jR⟩:=hrel;obtain⟨aI,rfl⟩:∃h:World,h=wr:=⟨_,D⟩;have eT:=V b;obtain⟨aB,aF,aD,rfl⟩:=b.own.shape3;have aX:=V (cD.o.ap b);have fI:=V jR;obtain⟨dR,cO,cP,e8⟩:=jR.ex;obtain⟨eH,gI,eI,rfl⟩:=cO.shape3;have iI:G (aI.cell? ⟨d5,0,none⟩=some (.slice i6 A.length eP)):=V (b.chg.cellS iH.o (λj=>dM.o _ j D));have iM:G (∀e,(Value.slice aB aF aD).ownBlock=some e->e≠d5):=V (λe x j=>(b.nx e x).elim (λk=>dM.o e k j) (λk=>by have:=iJ.o;omega));have h1:G (J (λe=>i<=e) t aI):=V (fF.o.any.trans (cD.o.all b.chg));have cT:=iI.o;clear b jR cO e8 cP;have oQ:((A.take C).flatMap ptL).length<=(A.flatMap ptL).length:=yW C;by_cases k2:C<A.length
  .as_aux_lemma =>
   have j3:=rO C A.length;obtain⟨⟨r5,⟨hE,p2,hF⟩,⟨c8,o7,bV⟩⟩,⟨a4,e1,r⟩,c9,eK,bX,⟨f6,-,hY,cS⟩,hS,oD,-,-,g9⟩:=(iR.o aI h1.o).get3 (f:=hJ) D k2 D;simp only at f6 hY cS;obtain⟨rfl,-⟩:=hY.len;obtain⟨rfl,-⟩:=cS.len;obtain⟨j4,j5,j6⟩:=g9 _ _ _ D;rw[f6]at j4;simp only[slV]at j5 j6;subst hS;have cF:=V bX;obtain⟨gF,oA⟩:=iP.o.1 _ (Az1 bX);simp only at oA;have lC:=V gF;have l9:G (0<=a4/\a4<4294967296):=V ⟨gF.k.1,by have:=gF.k.2;simp only at this;omega⟩;have nT:G (∀Y,J (λe=>i<=e) aI Y->intE.InS Y (·<i) (hE,e1.length,hF) e1):=V (λY u=>(hY.chg u (λe x j=>H)).mono (λe _ x=>H));have iX:G (∀Y,J (λe=>i<=e) aI Y->zL dLeE eqR Y (·<aP) (c8,r.length,bV) r):=V (λY u=>zL.of (cS.chg u (λe x j=>H)));have gZ:=V (show _/\_/\_/\_/\_ from ⟨iI.o,j4,j5,j6,oD⟩);obtain⟨c7,cM⟩:=rK (aO++(putL A.length++(A.take C).flatMap ptL));have oO:c7.length<=90000000:=(by rw[cM];simp only[Az];omega);have iW:=V cM;rw[<-cM]at aX;have p5:r.length<=1000000000:=gF.el;clear bX hY cS g9 j4 j5 j6 cM gF f6;go_upto_region 46 with fail
   clear cT;refine rB 16 (λd=>(Value.slice aB aF aD).ownBlock=some d) (λ_=>false) ?_;intro m N c;have l:=V (aX.o.fresh N.o);have Z:G (Ap i m (.slice aB aF aD) c7 [] (.returned (.slice aB aF aD)) m):=V (Ap.nil l.o.o);have g:G (∀h,J (λd=>(Value.slice aB aF aD).ownBlock=some d) m h->h.cell? ⟨d5,0,none⟩=some (.slice (some ⟨c9,eK,none⟩) A.length eP)/\h.cell? ⟨c9,eK+C * 3,none⟩=some (.int .i64 a4)/\h.cell? ⟨c9,eK+C * 3+1,none⟩=some (.slice hE e1.length hF)):=V (λh u=>by
    have a8:J (λe=>i<=e) y h:=l.o.c.trans (l.o.all u);have b3:J (λe=>i<=e) aI h:=N.o.any.trans (l.o.all u);obtain⟨fB,bK,c1,bM,x⟩:=gZ.o;exact⟨u.cellS (N.o.cellS fB iD) (λj=>iM.o _ j D),b3.cellS bK (by show ¬i<=c9;omega),b3.cellS c1 (by show ¬i<=c9;omega)⟩)
   refine lf 0 c.o g.o ?_;refine lf 1 c.o g.o ?_;refine lf 2 c.o g.o ?_;refine lf 3 c.o g.o ?_;refine lf 4 c.o g.o ?_;refine lf 5 c.o g.o ?_;refine lf 6 c.o g.o ?_;refine lf 8 c.o g.o ?_;refine lf 9 c.o g.o ?_;refine lf 10 c.o g.o ?_;refine lf 11 c.o g.o ?_;refine lf 12 c.o g.o ?_;refine lf 13 c.o g.o ?_;refine zY (i:=7) M D D 78 #[.slice aB aF aD,.int .i64 a4] (λq W=>Ap i m (.slice aB aF aD) c7 (zJ a4) (.returned q) W) (by go_simp) ?_ ?_
   .refine (xN a4 (.slice aB aF aD) m Z.o.own (Ay2 l.o.s Z.o.chg.size) l9.o (by rw[Az,Aw6];omega)).mono ?_
    rintro j z b;obtain⟨Q,rfl,-⟩:=id b;have s:=(Z.o.trans b).to (Y':=zJ a4) (Av _);exact⟨Q,D,λ_=>s.chg,s⟩
   rintro q b9 E b T w;obtain⟨aZ,b1,b0,rfl⟩:=b.own.shape3;have R:=V b;have c:=V b.chg;clear b E;(try go_simp)
   refine w _ ?_;clear w T;refine zY (i:=14) M D D 81 #[.slice aZ b1 b0,.slice hE e1.length hF] (λq W=>Ap i m (.slice aB aF aD) c7 (zJ a4++zE zJ e1) (.returned q) W) (by go_simp) ?_ ?_
   .refine (mW e1 hE hF (.slice aZ b1 b0) b9 R.o.own (Ay2 l.o.s R.o.chg.size) (nT.o b9 (N.o.any.trans (l.o.all R.o.chg))) (λe x=>(R.o.own.blk x).1) lC.o.a.2 H (by have jB:=nN l9.o;rw[Az];omega)).mono ?_
    rintro j z b;obtain⟨Q,rfl,-⟩:=id b;have s:=(R.o.trans b).to (Y':=zJ a4++zE zJ e1) D;exact⟨Q,D,λ_=>s.chg,s⟩
   rintro q a5 E b T w;obtain⟨aR,aV,aT,rfl⟩:=b.own.shape3;have a1:=V b;have c:=V b.chg;clear b E;(try go_simp)
   refine w _ ?_;clear w T;refine lq 15 c.o ?_;refine zQ M ?_ _;have cB:G (Ap i z (.slice n p o) aO (putL A.length++(A.take (C+1)).flatMap ptL) (.returned (.slice aR aV aT)) a5):=V (by
    have k:=eT.o.trans (by rw[<-iW.o];exact Ap.fresh N.o a1.o);refine k.to ?_;rw[yA cF.o];simp only[Az7]
    rfl)
   have h4:G (LkS z.heap.size a5 (.slice aR aV aT) (.slice eH gI eI) ((A.take C).map (λX=>yU a.tk.length X.2.2))):=V ((fI.o.fresh N.o).bytes a1.o);have lK:=V (cD.o.ap cB.o);have eX:G (J (λe=>i<=e) aI a5):=V (N.o.any.trans (l.o.all a1.o.chg));have l4:G (a5.cell? ⟨d5,0,none⟩=some (.slice (some ⟨c9,eK,none⟩) A.length eP)/\a5.cell? ⟨c9,eK+C * 3+2,none⟩=some (.slice c8 r.length bV)):=V (by
    obtain⟨fB,bK,c1,bM,x⟩:=gZ.o;exact⟨cB.o.chg.cellS iH.o (λj=>dM.o _ j D),eX.o.cellS bM (by show ¬i<=c9;omega)⟩)
   have oK:z.heap.size<=a5.heap.size:=cB.o.chg.size;obtain⟨b4,hU⟩:=rK (a.tk.length+1);have h5:=V hU;have oH:b4<=65:=H;have dI:=a0.o a5 lK.o.c 1 _ D;have mP:=(tf i0 hU).1;have mR:=(tf i0 hU).2;clear hU Z R a1 l N g c fI aX eT iI;go_wp2_with (at_make;refine intE.wpList_make D _ _ _ D D _ _ _ _ b4 b4 D D D D (Ay1 _) (Ay2 oH dE) ?_;intro f8 iQ l8)
   obtain⟨b8,rfl⟩:∃h:World,h=a5:=⟨_,D⟩;clear dI mP mR;obtain⟨k,jO⟩:=rK b8.heap.size;have h3:=V jO;rw[<-jO]at iQ ⊢;clear jO;have lG:G (I.Row f8 k (List.replicate b4 0)):=V (bY.1 iQ.o);have l7:G (J (λe=>k<=e) b8 f8):=V l8.o.any;clear iQ l8
   go_loopw [16] (λB wr=>∃K:Nat,K<=b4/\B=.int .i64 K/\I.Row wr k (List.replicate K (-1)++List.replicate (b4-K) 0)/\J (λe=>k<=e) b8 wr) (λB _=>b4-(intOf B).toNat)
   .exact⟨0,H,D,lG.o,l7.o⟩
   clear lG l7;obtain⟨K,p8,rfl,cA,d9⟩:=hrel;obtain⟨a2,rfl⟩:∃h:World,h=wr:=⟨_,D⟩;have f1:=V cA;have h2:=V d9;by_cases k3:K<b4
   .have o4:=rO K b4
    have jI:(List.replicate K (-1:Int)++List.replicate (b4-K) 0).length=b4:=sO;obtain⟨u1,mB⟩:∃q,a2.cell? ⟨k,K,none⟩=some q:=⟨_,cA.c K _ (Az4 (by rw[jI];exact k3))⟩;have mD:=cA.z K;have f0:G (I.Row (a2.setCell ⟨k,K,none⟩ (.int .i64 (-1))) k (List.replicate (K+1) (-1)++List.replicate (b4-(K+1)) 0)):=V (by
     have a7:=qo cA (j:=K) (by rw[jI];exact k3) (x:=-1) ⟨H,H⟩;rw[rv b4 K (-1) k3]at a7;exact a7)
    have eV:G (J (λe=>k<=e) b8 (a2.setCell ⟨k,K,none⟩ (.int .i64 (-1)))):=V (d9.trans ((zA a2 k K _).mono (λe _ j=>H)));clear cA d9 jI;go_wp2;go_roundw
    .first|exact⟨K+1,H,GN,f0.o,eV.o⟩|((repeat apply Ay4);exact⟨⟨K+1,H,GN,f0.o,eV.o⟩,D⟩)
    simp[intOf];omega
   obtain rfl:K=b4:=H
   have o4:=rP K;have lF:G (I.Row a2 k (yU a.tk.length (r.take 0))):=V (by
    have a7:=cA;rw[Au4,List.replicate_zero,Av3,h5.o]at a7;rw[List.take_zero];exact a7)
   clear cA d9 f1;go_wp2_with fail
   obtain⟨l1,rfl⟩:∃h:World,h=a2:=⟨_,D⟩
   go_loopw [17] (λB wr=>∃O:Nat,O<=r.length/\B=.int .i64 O/\I.Row wr k (yU a.tk.length (r.take O))/\J (λe=>k<=e) b8 wr) (λB _=>r.length-(intOf B).toNat)
   .exact⟨0,H,D,lF.o,h2.o⟩
   clear lF h2;obtain⟨O,bF,rfl,cA,d9⟩:=hrel;obtain⟨a2,rfl⟩:∃h:World,h=wr:=⟨_,D⟩;have f1:=V cA;have h2:=V d9;have dK:G (Cf b8 a2):=V ((d9.mono (λe _ j=>by have:=h3.o;omega)).fresh);have cT:=dK.o.cellS l4.o.1 iD;have dH:=dK.o.cellS l4.o.2 iD;clear cA d9;by_cases oE:O<r.length
   .have o5:=rO O r.length
    obtain⟨⟨tok,c0⟩,e7,c3,dF,eF,k1,jM,m5,-,-,a8⟩:=(iX.o a2 (eX.o.trans dK.o.any)).get2 (f:=tY) D oE D;obtain rfl:(tok,c0)=e7:=k1;obtain⟨cK,e6⟩:=a8 _ _ D;simp only at cK e6;obtain⟨bK,c1,bM⟩:=lC.o.e _ (Az1 eF);simp only at bK c1 bM;subst jM;obtain⟨b5,m6⟩:∃b5:Nat,(b5:Int)=tok+1:=⟨(tok+1).toNat,H⟩;have m8:b5<K:=(by have:=h5.o;omega);have hV:IntKind.i64.wrap (tok+1)=(b5:Int):=(by rw[m6];exact IntWalk.i64_in _ H);have lE:=V hV;have jP:(yU a.tk.length (r.take O)).length=K:=(by rw[dS,h5.o]);have f0:G (I.Row (a2.drew.setCell ⟨k,b5,none⟩ (.int .i64 c0)) k (yU a.tk.length (r.take (O+1)))):=V (by
     have a7:=qo (I.Row.chg f1.o ((FR a2).drew) iD) (j:=b5) (by rw[jP];exact m8) bM;rw[Bf a.tk.length eF];rw[show (tok+1).toNat=b5 by omega];exact a7)
    have eV:G (J (λe=>k<=e) b8 (a2.drew.setCell ⟨k,b5,none⟩ (.int .i64 c0))):=V (h2.o.drew.trans ((zA _ k b5 _).mono (λe _ j=>H)));have n0:G ((∃q,a2.cell? ⟨k,b5,none⟩=some q)/\a2.frozen? ⟨k,b5,none⟩=false):=V ⟨⟨_,f1.o.c b5 _ (Az4 (by rw[jP];exact m8))⟩,f1.o.z b5⟩;have mV:=V (show _/\_/\_/\_ from ⟨cT,dH,cK,e6⟩);clear eF a8 cK e6 m6 hV jP;go_upto_region 55 with fail
    clear cT dH;obtain⟨m,hW⟩:=rM a2.drew;have N:G (Cf a2 m):=V (by rw[<-hW];exact (J.refl _ _).drew);have mZ:G ((∃q,m.cell? ⟨k,b5,none⟩=some q)/\m.frozen? ⟨k,b5,none⟩=false):=V (by rw[<-hW];exact n0.o);refine zC (λh=>Cf m h) (λO=>decide (O=23)) M ?_;show yC _ _ _ _ _ _ 24 (Array.replicate 24 false) _ a2.drew;rw[hW]at f0 eV ⊢;clear hW;have c:G (Cf m m):=V cR;have g:G (∀h,Cf m h->h.cell? ⟨d5,0,none⟩=some (.slice (some ⟨c9,eK,none⟩) A.length eP)/\h.cell? ⟨c9,eK+C * 3+2,none⟩=some (.slice (some ⟨c3,dF,none⟩) r.length bV)/\h.cell? ⟨c3,dF+O * 2,none⟩=some (.int .i64 tok)/\h.cell? ⟨c3,dF+O * 2+1,none⟩=some (.int .i64 c0)):=V (λh u=>by
     obtain⟨fB,bK,c1,bM⟩:=mV.o;have a7:=N.o.trans u;exact⟨a7.cellS fB iD,a7.cellS bK iD,a7.cellS c1 iD,a7.cellS bM iD⟩)
    refine lf 0 c.o g.o ?_;refine lf 1 c.o g.o ?_;refine lf 2 c.o g.o ?_;refine lf 3 c.o g.o ?_;refine lf 4 c.o g.o ?_;refine lf 5 c.o g.o ?_;refine lf 6 c.o g.o ?_;refine lf 7 c.o g.o ?_;refine lf 8 c.o g.o ?_;refine lf 9 c.o g.o ?_;refine lf 10 c.o g.o ?_;(refine lq 11 c.o ?_ (hr:=by intro iA fR;obtain⟨cT,gK,dH,gM⟩:=g.o _ fR;have hV:=lE.o;go_simp;try with_reducible rfl));refine lf 12 c.o g.o ?_;refine lf 13 c.o g.o ?_;refine lf 14 c.o g.o ?_;refine lf 15 c.o g.o ?_;refine lf 16 c.o g.o ?_;refine lf 17 c.o g.o ?_;refine lf 18 c.o g.o ?_;refine lf 19 c.o g.o ?_;refine lf 20 c.o g.o ?_;refine lf 21 c.o g.o ?_;(refine lq 22 c.o ?_ (hr:=by intro iA fR;obtain⟨cT,gK,dH,gM⟩:=g.o _ fR;have hV:=lE.o;go_simp;try with_reducible rfl));obtain⟨⟨q,mB⟩,mD⟩:=mZ.o;refine ld 23 ?_;refine zQ M ?_ _;clear mB mD;go_wp2;go_roundw
    .first|exact⟨O+1,H,GN,f0.o,eV.o⟩|((repeat apply Ay4);exact⟨⟨O+1,H,GN,f0.o,eV.o⟩,D⟩)
    simp[intOf];omega
   obtain rfl:O=r.length:=H
   have o5:=rP r.length;have n4:G (I.Row a2 k (yU a.tk.length r)):=V (by have a7:=f1.o;rw[Ay7]at a7;exact a7);have lB:=V (h4.o.fresh dK.o);obtain⟨dR,cO,cP,e8⟩:=lB.o.ex;have nR:=V cO;have nV:=V cP;have o0:=V e8;have nZ:G (dR.length<=4096):=V (by rw[cP,Ax4,Ay8];omega);have lJ:G (∀e,(Value.slice aR aV aT).ownBlock=some e->e<b8.heap.size):=V (λe x=>(lK.o.blk x).2);have n6:G (∀e,(Value.slice eH gI eI).ownBlock=some e->e<b8.heap.size):=V (λe x=>by
    obtain⟨b6,jH,-,-⟩:=h4.o.ex;exact (jH.blk x).2)
   have nU:G (intE.InS a2 (λe=>z.heap.size<=e/\(Value.slice aR aV aT).ownBlock≠some e/\(Value.slice eH gI eI).ownBlock≠some e) (some ⟨k,0,none⟩,K,K) (yU a.tk.length r)):=V ⟨by show K=_;rw[dS,h5.o],Ay1 _,k,0,er.2 (n4.o.bytes (Aw8 _)),λ_=>⟨D,by have:=h3.o;omega,λj=>by have:=lJ.o _ j;have:=h3.o;omega,λj=>by have:=n6.o _ j;have:=h3.o;omega⟩⟩;have oL:z.heap.size<=a2.heap.size:=Ay2 oK dK.o.size;clear cO cP e8;have o1:G (z.heap.size<=a2.heap.size+1):=V (Nat.le_succ_of_le oL);have nX:G (dR.length+1<=1000000000000):=V (Ay2 (Nat.add_le_add_right nZ.o 1) dE);go_wp2_with (at_builtin;refine Elt.wpList_append2 pW D _ _ 26 26 D D z.heap.size (.slice eH gI eI) dR [((some ⟨k,0,none⟩,K,K):Sl)] (.slice (some ⟨a2.heap.size,0,none⟩) 1 1) D D (nR.o.chg ((FR _).alloc _) (λ_ _ _ k=>k)) (by rw[World.size_alloc];exact o1.o) (pW.srcLit (Y:=[((some ⟨k,0,none⟩,K,K):Sl)]) 1 (λ_ _=>trivial)) (λ_ _=>trivial) nX.o ?_;intro oZ l0 n1 p1 iG)
   have fH:G (LkS z.heap.size l0 (.slice aR aV aT) oZ ((A.take (C+1)).map (λX=>yU a.tk.length X.2.2))):=V (by
    rw[Ay3,cF.o,List.map_append];exact LkS.push lB.o.ap (λe x=>Ay9 (lJ.o e x) dK.o.size) nV.o o0.o nU.o (rT) n1.o iG.o.1 iG.o.2)
   have l3:G (Ap i z (.slice n p o) aO (putL A.length++(A.take (C+1)).flatMap ptL) (.returned (.slice aR aV aT)) l0):=V (by
    have d8:J (λe=>(Value.slice eH gI eI).ownBlock=some e) b8 l0:=(dK.o.trans (rT)).any.trans iG.o.1;exact⟨_,D,cB.o.own.chgB d8 (λe x j=>h4.o.ap e j x),cB.o.chg.trans2 d8 (λe x j=>by
     obtain⟨b6,jH,-,-⟩:=h4.o.ex;have:=(jH.blk j).1;omega),cB.o.nx⟩)
   go_wp2;go_roundw
   .first|exact⟨C+1,H,GN,l3.o,fH.o⟩|((repeat apply Ay4);exact⟨⟨C+1,H,GN,l3.o,fH.o⟩,D⟩)
   simp[intOf];omega
  obtain rfl:C=A.length:=H
  have j3:=rP A.length;rw[Ay7]at eT fI aX;obtain⟨h7,hP⟩:=rK (A.map (λX=>yU a.tk.length X.2.2));rw[<-hP]at fI;have iL:=V hP;have fH:G (h7.length=A.length):=V (by rw[hP,Ax4]);obtain⟨dR,cO,cP,e8⟩:=fI.o.ex;obtain⟨pI,pK,m4,-,-⟩:=cO.clip;rw[cP]at m4;injection m4 with lP lQ o6;subst lP lQ o6;have lA:G (rN aI 0 (eH,h7.length,eI) h7):=V ⟨dR,cO.inC.lower (Ax9 _),cP,λa3 h oR u gD=>(e8 a3 h oR u gD).in' (λ_ _=>Ax9 _)⟩;have n2:=V iP.o.2.2;have F:=V (sk (a.tk.length+1) h7 eH eI _ aI aX.o.o aX.o.s lA.o H (by rw[fH.o];omega) (by have k:=n2.o;rw[<-iL.o]at k;exact k) (by rw[fH.o];have:A.length * (a.tk.length+1)<=4096 * 65:=Nat.mul_le_mul o8 H;omega) (by rw[<-iL.o]at dD;simp only[Az];omega));rw[show ((a.tk.length+1:Nat):Int)=(a.tk.length:Int)+1 by omega]at F;have dI:=a0.o aI aX.o.c 1 _ D;have mP:=(th i0).1;have mR:=(th i0).2;clear cO cP e8 lA hP;go_wp2_with fail
  refine F.o.mono ?_;rintro j f8 b;obtain⟨_,rfl,-⟩:=id b;obtain⟨kV,kZ,kX,rfl⟩:=b.own.shape3;have a6:G (BdSt i y f8 (.slice kV kZ kX) (d2++(a.lk.take (d+1)).flatMap (uA a.tk.length))):=V ((aX.o.ap b).to (by
   rw[yA n5.o,fK.o,lD.o,iL.o];simp only[Az7];rw[show ((a.tk.length+1:Nat):Int)=(a.tk.length:Int)+1 by omega]))
  clear b F cT dI;go_wp2;go_roundw
  .first|exact⟨d+1,H,GN,a6.o⟩|((repeat apply Ay4);exact⟨⟨d+1,H,GN,a6.o⟩,D⟩)
  simp[intOf];omega
 obtain rfl:d=a.lk.length:=H
 have c2:=rP a.lk.length;have S:G (BdSt i y t (.slice n p o) iZ):=V (v.o.to (by rw[nD.o,Ay7]));clear v;go_wp2;go_ret
 refine⟨_,D,?_,l6.o.trans ((S.o.c.mono (λe _ x=>by rw[iT.o];exact x)).fresh)⟩;have k:=S.o.o;rw[iV.o,mT.o]at k;exact k
theorem Ex {b0 k f6:List Int}{bP aX:World}{bO aT aR l cH:Nat}{fB:Nat->Value}{j:TabsD}{b5:World}{bH:List Int}{b4:Bool}{r s w x y z A B C E t u v:Option Addr}{F Y K Z P a3 Q o R a4 S a5 T a6 U a7 W a8 X a9 L a0 N a1 O a2:Nat}
  (eZ:GEnv b0 k f6 bP aX bO aT aR l) (b6:G (GS aR aT l b5 bH b4 ⟨(r,F,Y),(s,K,Z),(w,P,a3),⟨(x,Q,o),(y,R,a4),(z,S,a5),(A,T,a6)⟩,⟨(B,U,a7),(C,W,a8),(E,X,a9),(t,L,a0),(u,N,a1)⟩,(v,O,a2)⟩)) (bZ:G (J (aX.heap.size<=·) aX b5))
  (aY:G (∀m,sS k=some m->j=m/\bH=[]/\b4=false))
  (c7:G (b4=false->FairTabs j/\(∀gF∈j.nt.st,∀aB∈gF.2.1,0<=aB.1)/\(yE j=true->OkTabs j/\OkBd j)))
  (b7:G (∀g,J (TP aR l) b5 g->DocIn g (SF aX aR l) ⟨(r,F,Y),(s,K,Z),(w,P,a3),⟨(x,Q,o),(y,R,a4),(z,S,a5),(A,T,a6)⟩,⟨(B,U,a7),(C,W,a8),(E,X,a9),(t,L,a0),(u,N,a1)⟩,(v,O,a2)⟩ j/\BytesAt g aT 0 k)) :
  Code.wp prog (tlC 16 getC) (bodyPost prog f19 (pS bP b0)) (FrG bO aT k.length cH aR l fB) b5:=by
 conv=>arg 2;whnf
 unfold FrG;simp only[frL,Nat.reduceAdd];have f0:=eZ;obtain⟨bB,dT,cD,b8,dR,dU,dZ,c9,dO⟩:=f0;have bD:G (∀m,sS k=some m->yE m=true/\k=uG m):=V λm aD=>⟨(c9.o m aD).2.1,by rw[dO.o,(c9.o m aD).2.2];rfl⟩
 have cA:G (OkTabs j->yE j=true->uG j=k->sS k=some j):=V λgD fI d=>by rw[<-d];exact qy gD fI
 clear c9 dO;go_upto_region 69 with fail
 go_cut [383] from 359 to 382 (λp dF=>∃b3:Bool,p=.bool b3/\Cf b5 dF/\(b3=true->sS k=none)/\(b3=false->sS k=some j))
 .refine rD 25 (λ_=>false) ?_;intro aH aZ c;have c8:=V (b6.out.fresh aZ.o);obtain⟨f8,f7,e1,fF,-⟩:=c8.o.r.g.c;have c0:G (∀g,Cf aH g->g.cell? ⟨aR,0,none⟩=some (.slice (some ⟨aT,f8,none⟩) bH.length f7)):=V λg aO=>aO.cellS e1 iD
  have c1:G (∀g,Cf aH g->g.cell? ⟨aR,1,none⟩=some (.bool b4)):=V λg aO=>aO.cellS c8.o.r.n iD
  have h:G (∀g,Cf aH g->∀bM p,([.slice r F Y,.slice s K Z,.slice w P a3,.slice x Q o,.slice y R a4,.slice z S a5,.slice A T a6,.slice B U a7,.slice C W a8,.slice E X a9,.slice t L a0,.slice u N a1,.slice v O a2]:List Value)[bM]?=some p->g.cell? ⟨l,bM,none⟩=some p):=V λg aO bM p fO=>aO.cellS (c8.o.c bM p fO) iD
  have c2:G (∀g,Cf aH g->DocIn g (SF aX aR l) ⟨(r,F,Y),(s,K,Z),(w,P,a3),⟨(x,Q,o),(y,R,a4),(z,S,a5),(A,T,a6)⟩,⟨(B,U,a7),(C,W,a8),(E,X,a9),(t,L,a0),(u,N,a1)⟩,(v,O,a2)⟩ j/\BytesAt g aT 0 k):=V λg aO=>b7.o g (aZ.o.any.trans aO.any);clear e1 fF;cases b4 with
  | true =>
   have b2:G (sS k=none):=V (by
    cases aD:sS k with
    | none=>rfl
    | some m=>have d:=(aY.o m aD).2.2;cases d)
   refine lq 0 c.o ?_;refine lq 1 c.o ?_;refine lq 2 c.o ?_;(refine lf 3 c.o (λ_ f=>c1.o _ f) ?_);refine lq 4 c.o ?_;(refine ab (i:=5) rfl M (λ_ _ _ _ d=>d) rfl c.o λe b=>?_;(try go_simp);refine b _ ?_;clear b e);(refine ab (i:=6) rfl M (λ_ _ _ _ d=>d) rfl c.o λe b=>?_;(try go_simp);refine b _ ?_;clear b e);(refine ab (i:=7) rfl M (λ_ _ _ _ d=>d) rfl c.o λe b=>?_;(try go_simp);refine b _ ?_;clear b e);(refine ab (i:=8) rfl M (λ_ _ _ _ d=>d) rfl c.o λe b=>?_;(try go_simp);refine b _ ?_;clear b e);(refine ab (i:=9) rfl M (λ_ _ _ _ d=>d) rfl c.o λe b=>?_;(try go_simp);refine b _ ?_;clear b e);(refine ab (i:=10) rfl M (λ_ _ _ _ d=>d) rfl c.o λe b=>?_;(try go_simp);refine b _ ?_;clear b e);refine lq 11 c.o ?_;refine lq 12 c.o ?_;(refine ab (i:=13) rfl M (λ_ _ _ _ d=>d) rfl c.o λe b=>?_;(try go_simp);refine b _ ?_;clear b e);(refine ab (i:=14) rfl M (λ_ _ _ _ d=>d) rfl c.o λe b=>?_;(try go_simp);refine b _ ?_;clear b e);(refine ab (i:=15) rfl M (λ_ _ _ _ d=>d) rfl c.o λe b=>?_;(try go_simp);refine b _ ?_;clear b e);refine lq 16 c.o ?_;refine lq 17 c.o ?_;(refine ab (i:=18) rfl M (λ_ _ _ _ d=>d) rfl c.o λe b=>?_;(try go_simp);refine b _ ?_;clear b e);(refine ab (i:=19) rfl M (λ_ _ _ _ d=>d) rfl c.o λe b=>?_;(try go_simp);refine b _ ?_;clear b e);(refine ab (i:=20) rfl M (λ_ _ _ _ d=>d) rfl c.o λe b=>?_;(try go_simp);refine b _ ?_;clear b e);(refine ab (i:=21) rfl M (λ_ _ _ _ d=>d) rfl c.o λe b=>?_;(try go_simp);refine b _ ?_;clear b e);(refine ab (i:=22) rfl M (λ_ _ _ _ d=>d) rfl c.o λe b=>?_;(try go_simp);refine b _ ?_;clear b e);(refine ab (i:=23) rfl M (λ_ _ _ _ d=>d) rfl c.o λe b=>?_;(try go_simp);refine b _ ?_;clear b e);refine lq 24 c.o ?_
   refine zQ M ?_ _;go_wp2;go_meet
   exact⟨true,rfl,aZ.o,λ_=>b2.o,λd=>by cases d⟩
  | false =>
   obtain⟨c4,c5,c6⟩:=c7.o rfl;obtain⟨c4,c5,c6⟩:=rZ c4 c5 c6;obtain⟨bX,cX⟩:=rM bH.length;rw[cX]at c0;have f4:=V cX;clear cX;by_cases fR:0<bX
   .have b2:G (sS k=none):=V (by
     cases aD:sS k with
     | none=>rfl
     | some m=>have d:=(aY.o m aD).2.1;have aI:=f4.o;rw[d]at aI;simp at aI;omega)
    have h3:decide ((0:Int)<(bX:Int))=true:=decide_eq_true H;have h4:decide (0<bX)=true:=decide_eq_true fR;refine lq 0 c.o ?_;refine lq 1 c.o ?_;refine lq 2 c.o ?_;(refine lf 3 c.o (λ_ f=>c1.o _ f) ?_);refine lq 4 c.o ?_;refine lq 5 c.o ?_;refine lq 6 c.o ?_;refine lq 7 c.o ?_;(refine lf 8 c.o (λ_ f=>c0.o _ f) ?_);refine lq 9 c.o ?_;refine lq 10 c.o ?_;refine lq 11 c.o ?_;refine lq 12 c.o ?_;(refine ab (i:=13) rfl M (λ_ _ _ _ d=>d) rfl c.o λe b=>?_;(try go_simp);refine b _ ?_;clear b e);(refine ab (i:=14) rfl M (λ_ _ _ _ d=>d) rfl c.o λe b=>?_;(try go_simp);refine b _ ?_;clear b e);(refine ab (i:=15) rfl M (λ_ _ _ _ d=>d) rfl c.o λe b=>?_;(try go_simp);refine b _ ?_;clear b e);refine lq 16 c.o ?_;refine lq 17 c.o ?_;(refine ab (i:=18) rfl M (λ_ _ _ _ d=>d) rfl c.o λe b=>?_;(try go_simp);refine b _ ?_;clear b e);(refine ab (i:=19) rfl M (λ_ _ _ _ d=>d) rfl c.o λe b=>?_;(try go_simp);refine b _ ?_;clear b e);(refine ab (i:=20) rfl M (λ_ _ _ _ d=>d) rfl c.o λe b=>?_;(try go_simp);refine b _ ?_;clear b e);(refine ab (i:=21) rfl M (λ_ _ _ _ d=>d) rfl c.o λe b=>?_;(try go_simp);refine b _ ?_;clear b e);(refine ab (i:=22) rfl M (λ_ _ _ _ d=>d) rfl c.o λe b=>?_;(try go_simp);refine b _ ?_;clear b e);(refine ab (i:=23) rfl M (λ_ _ _ _ d=>d) rfl c.o λe b=>?_;(try go_simp);refine b _ ?_;clear b e);refine lq 24 c.o ?_
    refine zQ M ?_ _;go_wp2;go_meet
    exact⟨true,rfl,aZ.o,λ_=>b2.o,λd=>by cases d⟩
   have fP:bX=0:=H
   subst fP;refine lq 0 c.o ?_;refine lq 1 c.o ?_;refine lq 2 c.o ?_;(refine lf 3 c.o (λ_ f=>c1.o _ f) ?_);refine lq 4 c.o ?_;refine lq 5 c.o ?_;refine lq 6 c.o ?_;refine lq 7 c.o ?_;(refine lf 8 c.o (λ_ f=>c0.o _ f) ?_);refine lq 9 c.o ?_;refine lq 10 c.o ?_;refine lq 11 c.o ?_;refine lq 12 c.o ?_;(refine lq 13 c.o ?_ (hr:=by intro dF f;have e7:=h.o _ f 0 _ rfl;have e8:=h.o _ f 1 _ rfl;have eF:=h.o _ f 2 _ rfl;have eH:=h.o _ f 3 _ rfl;have eI:=h.o _ f 4 _ rfl;have eK:=h.o _ f 5 _ rfl;have eM:=h.o _ f 6 _ rfl;have eO:=h.o _ f 7 _ rfl;have eP:=h.o _ f 8 _ rfl;have eR:=h.o _ f 9 _ rfl;have e9:=h.o _ f 10 _ rfl;have eB:=h.o _ f 11 _ rfl;have eD:=h.o _ f 12 _ rfl;go_simp;try with_reducible rfl))
   obtain⟨e5,e2⟩:=rM (yE j);have b9:=V e2;refine zY (i:=14) M rfl rfl 13 #[.agg #[.slice r F Y,.slice s K Z,.slice w P a3,.slice x Q o,.slice y R a4,.slice z S a5,.slice A T a6,.slice B U a7,.slice C W a8,.slice E X a9,.slice t L a0,.slice u N a1,.slice v O a2]] (λp bT=>p=.bool e5/\Cf aH bT) (by go_simp) ?_ ?_
   .refine (Eu j ⟨(r,F,Y),(s,K,Z),(w,P,a3),⟨(x,Q,o),(y,R,a4),(z,S,a5),(A,T,a6)⟩,⟨(B,U,a7),(C,W,a8),(E,X,a9),(t,L,a0),(u,N,a1)⟩,(v,O,a2)⟩ _ aH (c2.o aH cR).1 c4.o c5.o).mono ?_
    rintro aB bV ⟨rfl,aF⟩;exact⟨_,rfl,λ_=>aF,by rw[b9.o],aF⟩
   rintro p bV-⟨rfl,cM⟩ e b;(try go_simp)
   refine b _ ?_;clear b e
   clear e2;have bF:=V cM;have c:G (Cf aH bV):=V cM;clear cM;refine lq 15 c.o ?_;cases e5 with
   | false =>
    have b2:G (sS k=none):=V (by
     cases aD:sS k with
     | none=>rfl
     | some m=>have d:=(aY.o m aD).1;have aI:=b9.o;rw[d,(bD.o m aD).1]at aI;cases aI)
    refine lq 16 c.o ?_;refine lq 17 c.o ?_;(refine ab (i:=18) rfl M (λ_ _ _ _ d=>d) rfl c.o λe b=>?_;(try go_simp);refine b _ ?_;clear b e);(refine ab (i:=19) rfl M (λ_ _ _ _ d=>d) rfl c.o λe b=>?_;(try go_simp);refine b _ ?_;clear b e);(refine ab (i:=20) rfl M (λ_ _ _ _ d=>d) rfl c.o λe b=>?_;(try go_simp);refine b _ ?_;clear b e);(refine ab (i:=21) rfl M (λ_ _ _ _ d=>d) rfl c.o λe b=>?_;(try go_simp);refine b _ ?_;clear b e);(refine ab (i:=22) rfl M (λ_ _ _ _ d=>d) rfl c.o λe b=>?_;(try go_simp);refine b _ ?_;clear b e);(refine ab (i:=23) rfl M (λ_ _ _ _ d=>d) rfl c.o λe b=>?_;(try go_simp);refine b _ ?_;clear b e);refine lq 24 c.o ?_
    refine zQ M ?_ _;go_wp2;go_meet
    exact⟨true,rfl,aZ.o.trans bF.o,λ_=>b2.o,λd=>by cases d⟩
   | true =>
    obtain⟨e4,e3⟩:=c6.o b9.o;have f2:=V e4;have f1:=V e3;clear e4 e3;refine lq 16 c.o ?_;refine lq 17 c.o ?_;(refine lq 18 c.o ?_ (hr:=by intro dF f;have e7:=h.o _ f 0 _ rfl;have e8:=h.o _ f 1 _ rfl;have eF:=h.o _ f 2 _ rfl;have eH:=h.o _ f 3 _ rfl;have eI:=h.o _ f 4 _ rfl;have eK:=h.o _ f 5 _ rfl;have eM:=h.o _ f 6 _ rfl;have eO:=h.o _ f 7 _ rfl;have eP:=h.o _ f 8 _ rfl;have eR:=h.o _ f 9 _ rfl;have e9:=h.o _ f 10 _ rfl;have eB:=h.o _ f 11 _ rfl;have eD:=h.o _ f 12 _ rfl;go_simp;try with_reducible rfl));refine lq 21 c.o ?_
    obtain⟨e6,cT⟩:=rM (strOfNums k);have eV:G (∀g,Cf aH g->(convert 45 9 (.slice (some ⟨aT,0,none⟩) k.length cH)).run prog g=.ok (.string e6) g):=V λg aO=>by rw[<-cT];exact au cH (c2.o g aO).2 (λ_=>rfl)
    have f3:=V cT;clear cT;(refine lf 22 c.o (λ_ f=>eV.o _ f) ?_);refine zY (i:=19) M rfl rfl 33 #[.agg #[.slice r F Y,.slice s K Z,.slice w P a3,.slice x Q o,.slice y R a4,.slice z S a5,.slice A T a6,.slice B U a7,.slice C W a8,.slice E X a9,.slice t L a0,.slice u N a1,.slice v O a2]] (λp bT=>∃b1 cF,p=.slice (some ⟨b1,0,none⟩) (uG j).length cF/\BytesAt bT b1 0 (uG j)/\Cf aH bT) (by go_simp) ?_ ?_
    .refine (Ew j ⟨(r,F,Y),(s,K,Z),(w,P,a3),⟨(x,Q,o),(y,R,a4),(z,S,a5),(A,T,a6)⟩,⟨(B,U,a7),(C,W,a8),(E,X,a9),(t,L,a0),(u,N,a1)⟩,(v,O,a2)⟩ _ bV (c2.o bV bF.o).1 f1.o).mono ?_
     rintro aB eT ⟨p,rfl,fK,aF⟩;obtain⟨b1,cF,rfl,-,-,fD⟩:=fK.bytes (by unfold uG tQ;simp);exact⟨_,rfl,λ_=>bF.o.trans aF,b1,cF,rfl,fD,bF.o.trans aF⟩
    rintro p eT-⟨o,f9,rfl,bI,cO⟩ e b;(try go_simp)
    refine b _ ?_;clear b e
    have dV:=V cO;have c:G (Cf aH eT):=V cO;obtain⟨gH,cV⟩:=rM (strOfNums (uG j));have cP:=au f9 bI (a:=some ⟨o,0,none⟩) (λ_=>rfl);rw[cV]at cP;have eX:=V cP;have dK:G ((gH.toList == e6.toList)=decide (uG j=k)):=V (by
     rw[<-cV,<-f3.o,Au7,beq_iff_eq,decide_eq_true_eq];refine⟨λaB=>ew bI.byte cD.o.2 ?_,λaB=>by rw[aB]⟩;rw[ByteArray.toList_eq,ByteArray.toList_eq]at aB;exact ByteArray.ext (Array.toList_inj.1 aB))
    have h2:=V bI;clear bI cO cP cV;(refine ku (i:=20) M rfl rfl λe b=>?_;apply Ay4;apply Ay4;refine⟨?_,?_,?_⟩;((have h5:=eX.o);go_simp;try first|with_reducible rfl|exact⟨rfl,rfl⟩);(exact λ_=>dV.o);(try go_simp);refine b _ _ ?_;clear b e);obtain⟨e0,bK⟩:=rM (decide (uG j=k));rw[bK]at dK;have fM:=dK.o;refine lq 23 c.o ?_;refine lq 24 c.o ?_
    refine zQ M ?_ _;clear fM;go_wp2;go_meet
    refine⟨!e0,rfl,aZ.o.trans dV.o,λd=>?_,λd=>?_⟩
    .cases aD:sS k with
     | none=>rfl
     | some m =>
      have aI:¬uG j=k:=λaB=>by rw[decide_eq_true aB]at bK;subst bK;cases d
      exact (aI (by rw[(aY.o m aD).1];exact (bD.o m aD).2.symm)).elim
    have aI:uG j=k:=by
     cases e0 with
     | true=>exact of_decide_eq_true bK
     | false=>cases d
    exact cA.o f2.o b9.o aI
 obtain⟨b3,rfl,aF,cI,cK⟩:=hcut;obtain⟨n,rfl⟩:∃f5:World,f5=wc:=⟨_,rfl⟩;have dM:G (J (aX.heap.size<=·) aX n):=V (bZ.out.trans aF.any);have q:=V (b6.out.fresh aF);have dI:=V (b7.o n aF.any).1;cases b3 with
 | true =>
  have dP:G (getR b0=(4,none)):=V (eh b8.o (cI rfl));clear aF cI cK aY c7 b7 bD cA b8 q dI b6 bZ cD dZ dR dU
  have aK:=dT.o n dM.o;obtain⟨dH,aM⟩:=rK (xC bO 0 tC n);obtain⟨aV,aP⟩:=aK.1.set tC rfl;rw[<-aM]at aV aP;have c3:G (pS bP b0 (.returned (.tuple #[kN nilT,.int .i64 4])) dH):=V ⟨aK.2.trans2 aP (λfT fH aB=>by have:=bB.o;omega),nilT,by rw[dP.o],.inl ⟨by rw[dP.o],rfl⟩⟩;obtain⟨⟨fV,fX,g2,g3,g4,g5,g6,g7,g8,g9,fZ,g0,g1⟩,gI,gK,gR,gS,gT,gV,gX,gZ,h0,h1,gM,gO,gP⟩:=R13.all aK.1;obtain⟨⟨cZ,d0,d4,d5,d6,d7,d8,d9,dB,dD,d1,d2,d3⟩,-⟩:=R13.all aV;simp only[xC,tC,Ax,Nat.reduceAdd]at aM;have cB:=V aM;clear aM aK aV aP;go_wp2;rw[<-cB.o];exact bodyPost_ret (v:=.tuple #[.agg #[.slice none 0 0,.slice none 0 0,.slice none 0 0,.slice none 0 0,.slice none 0 0,.slice none 0 0,.slice none 0 0,.slice none 0 0,.slice none 0 0,.slice none 0 0,.slice none 0 0,.slice none 0 0,.slice none 0 0],.int .i64 4]) (by simp[results,results19,go_sem,cZ,d0,d4,d5,d6,d7,d8,d9,dB,dD,d1,d2,d3]) rfl c3.o
 | false =>
  have dX:G (getR b0=(0,some j)):=V (by rw[b8.o,cK rfl];rfl);clear aF cI cK aY c7 b7 bD cA b8 b6 bZ cD dZ dR dU
  have aK:=dT.o n dM.o;obtain⟨dH,aM⟩:=rK (xC bO 0 [.slice r F Y,.slice s K Z,.slice w P a3,.slice x Q o,.slice y R a4,.slice z S a5,.slice A T a6,.slice B U a7,.slice C W a8,.slice E X a9,.slice t L a0,.slice u N a1,.slice v O a2] n);obtain⟨aV,aP⟩:=aK.1.set [.slice r F Y,.slice s K Z,.slice w P a3,.slice x Q o,.slice y R a4,.slice z S a5,.slice A T a6,.slice B U a7,.slice C W a8,.slice E X a9,.slice t L a0,.slice u N a1,.slice v O a2] rfl;rw[<-aM]at aV aP;have c3:G (pS bP b0 (.returned (.tuple #[kN ⟨(r,F,Y),(s,K,Z),(w,P,a3),⟨(x,Q,o),(y,R,a4),(z,S,a5),(A,T,a6)⟩,⟨(B,U,a7),(C,W,a8),(E,X,a9),(t,L,a0),(u,N,a1)⟩,(v,O,a2)⟩,.int .i64 0])) dH):=V (by
   refine⟨aK.2.trans2 aP (λfT fH aB=>by have:=bB.o;omega),⟨(r,F,Y),(s,K,Z),(w,P,a3),⟨(x,Q,o),(y,R,a4),(z,S,a5),(A,T,a6)⟩,⟨(B,U,a7),(C,W,a8),(E,X,a9),(t,L,a0),(u,N,a1)⟩,(v,O,a2)⟩,by rw[dX.o],.inr ⟨j,by rw[dX.o],?_⟩⟩;exact DocIn.good.mono (DocIn.good.chg dI.o aP (λb1 cS aB=>by have:=cS.1;have:=bB.o;omega)) (λb1 _ cS=>by have:=cS.1;have:=bB.o;omega))
  obtain⟨⟨fV,fX,g2,g3,g4,g5,g6,g7,g8,g9,fZ,g0,g1⟩,gI,gK,gR,gS,gT,gV,gX,gZ,h0,h1,gM,gO,gP⟩:=R13.all aK.1;obtain⟨⟨cZ,d0,d4,d5,d6,d7,d8,d9,dB,dD,d1,d2,d3⟩,-⟩:=R13.all aV;have e7:n.cell? ⟨l,0,none⟩=some (.slice r F Y):=q.o.c 0 _ rfl;have e8:n.cell? ⟨l,1,none⟩=some (.slice s K Z):=q.o.c 1 _ rfl;have eF:n.cell? ⟨l,2,none⟩=some (.slice w P a3):=q.o.c 2 _ rfl;have eH:n.cell? ⟨l,3,none⟩=some (.slice x Q o):=q.o.c 3 _ rfl;have eI:n.cell? ⟨l,4,none⟩=some (.slice y R a4):=q.o.c 4 _ rfl;have eK:n.cell? ⟨l,5,none⟩=some (.slice z S a5):=q.o.c 5 _ rfl;have eM:n.cell? ⟨l,6,none⟩=some (.slice A T a6):=q.o.c 6 _ rfl;have eO:n.cell? ⟨l,7,none⟩=some (.slice B U a7):=q.o.c 7 _ rfl;have eP:n.cell? ⟨l,8,none⟩=some (.slice C W a8):=q.o.c 8 _ rfl;have eR:n.cell? ⟨l,9,none⟩=some (.slice E X a9):=q.o.c 9 _ rfl;have e9:n.cell? ⟨l,10,none⟩=some (.slice t L a0):=q.o.c 10 _ rfl;have eB:n.cell? ⟨l,11,none⟩=some (.slice u N a1):=q.o.c 11 _ rfl;have eD:n.cell? ⟨l,12,none⟩=some (.slice v O a2):=q.o.c 12 _ rfl;simp only[xC,Ax,Nat.reduceAdd]at aM;have cB:=V aM;clear aM aK aV aP;go_wp2;rw[<-cB.o];exact bodyPost_ret (v:=.tuple #[.agg #[.slice r F Y,.slice s K Z,.slice w P a3,.slice x Q o,.slice y R a4,.slice z S a5,.slice A T a6,.slice B U a7,.slice C W a8,.slice E X a9,.slice t L a0,.slice u N a1,.slice v O a2],.int .i64 0]) (by simp[results,results19,go_sem,cZ,d0,d4,d5,d6,d7,d8,d9,dB,dD,d1,d2,d3]) rfl c3.o
end Go.Proofs.YtgnpmceimpjheaaGreat
