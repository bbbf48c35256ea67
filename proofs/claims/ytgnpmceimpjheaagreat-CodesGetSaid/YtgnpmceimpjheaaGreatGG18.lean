/- 'CodesGet' for whatever bytes are handed in: true, and all reads as it did. No condition. -/
import Derived.Test.YtgnpmceimpjheaaGreatGG17
import Derived.LoopN
import Derived.ShutString
import Derived.ChangeOld
import Derived.Deep.Slices
import Derived.Deep.Fields
set_option maxRecDepth 100000
set_option maxHeartbeats 16000000
namespace Go.Proofs.YtgnpmceimpjheaaGreat
open Go.RowKit Go.Proofs.Tryz
variable {a b c d e f g h i j k l m n o p q r:Nat}{w v u t s:World}{X Y W L T:List Int}{A B C E Z:Value}{x y z:Int}{N R:Bool}{F Q:Option Addr}{S P:Nat->Prop}
theorem livZ:gQ livT.lx=zJ 0++(vJ (0:Nat) [[]]++zJ 0)/\uG livT=tQ++(zE xE livT.rl++(zJ 0++(gQ livT.lx++dJ livT.nt)))/\(uG livT).length<=200:=by decide +kernel
theorem Ge (e j r h:Option Addr) (g l s i:Nat) (c:World) (n:PSt a b c X) (a9:intE.InS c (·<b) (h,0,i) []) (aB:zL pW (inR intE) c (·<b) (e,1,g) [[]]) (aD:intE.InS c (·<b) (j,1,l) [-1]) (T:(X++gQ livT.lx).length<=1000) :
  Calls prog 28 #[.pointer (some ⟨a,0,none⟩),.agg #[.slice r 0 s,.slice h 0 i,.slice e 1 g,.slice j 1 l]] c λR b2=>R=.returned (.tuple #[])/\Puts a b c b2 (X++gQ livT.lx):=by
 obtain⟨m,F⟩:=rK (c.alloc (.cells #[.slice r 0 s,.slice h 0 i,.slice e 1 g,.slice j 1 l] 28));have S:Cf c m:=by rw[F];exact (J.refl _ c).alloc _
 have aF:Puts a b c m X:=n.fresh S;have v:=V aF;have y:¬Cp a m c.heap.size:=n.newF S (Ay1 _);have u:G (∀W a1,([.slice r 0 s,.slice h 0 i,.slice e 1 g,.slice j 1 l]:List Value)[W]?=some a1->m.cell? ⟨c.heap.size,W,none⟩=some a1):=V (λW a1 b1=>by rw[F];exact zG _ D (by rw[<-Aw];exact b1));have B:G (∀t w,Puts a b m t w->t.cell? ⟨c.heap.size,0,none⟩=some (.slice r 0 s)/\t.cell? ⟨c.heap.size,1,none⟩=some (.slice h 0 i)/\t.cell? ⟨c.heap.size,2,none⟩=some (.slice e 1 g)/\t.cell? ⟨c.heap.size,3,none⟩=some (.slice j 1 l)):=V (λt w o =>
  ⟨o.keep y (u.o 0 _ D),o.keep y (u.o 1 _ D),o.keep y (u.o 2 _ D),o.keep y (u.o 3 _ D)⟩)
 have L:G (∀d w,Puts a b m d w->intE.InS d (·<b) (h,0,i) []/\zL pW (inR intE) d (·<b) (e,1,g) [[]]/\intE.InS d (·<b) (j,1,l) [-1]):=V (λd w o=>by
  have q:=(v.o.below n).trans (o.below v.o.st);exact⟨a9.chg q (λa8 aI a7=>H),(zL.good inR.good).chg aB q (λa8 aI a7=>H),aD.chg q (λa8 aI a7=>H)⟩)
 rw[livZ.1]at T ⊢;have N:G (X.length<=1000/\((X++zJ 0)++vJ (0:Nat) [[]]).length<=1000):=V (by simp only[Az]at T ⊢;omega);clear n aF y T a9 aB aD S u;go_enter func28,ntmps28
 go_upto_region 1 with fail
 rw[<-F];clear F;obtain⟨Y,Z,a0,z⟩:=B.o m X v.o.st.refl;go_wp2_with fail
 refine (uN 0 m v.o.st H (by have:=N.o;omega)).mono ?_;rintro b5 b3 ⟨rfl,aK⟩;have p:=V aK;clear aK Y Z a0 z;obtain⟨Y,Z,a0,z⟩:=B.o b3 _ p.o;go_upto_region 3 with fail
 refine wp_loop_once ?_;clear Y Z a0 z;go_upto_region 9 with fail
 refine rD 6 (λU=>decide (U=5)) ?_;intro a4 P E;have a5:G (∀d,Cf a4 d->d.cell? ⟨c.heap.size,0,none⟩=some (.slice r 0 s)/\d.cell? ⟨c.heap.size,1,none⟩=some (.slice h 0 i)/\d.cell? ⟨c.heap.size,2,none⟩=some (.slice e 1 g)/\d.cell? ⟨c.heap.size,3,none⟩=some (.slice j 1 l)):=V (λd q=>B.o d _ (p.o.trans (p.o.st.fresh (P.o.trans q))));refine lq 0 E.o ?_;refine lf 1 E.o a5.o ?_;refine lq 3 E.o ?_;refine lf 4 E.o a5.o ?_;refine zY (i:=2) M D D 64 #[.agg #[.slice r 0 s,.slice h 0 i,.slice e 1 g,.slice j 1 l]] (λA K=>A=.int .i64 ((0:Nat):Int)) (by go_simp) ?_ ?_
 .refine (hy [] r e j h 0 s 1 g 1 l i 0 a4 (Elt.InS.in' (L.o a4 _ (p.o.trans (p.o.st.fresh P.o))).1 (λ_ _=>Ax9 _)) sI (λ_ n=>by cases n)).mono ?_
  rintro R K ⟨rfl,q⟩;exact⟨_,D,λ_=>q,D⟩
 rintro A a2 aP rfl Q x;have aV:=V (P.o.trans (aP dE));clear aP;(try go_simp)
 refine x _ ?_;clear x Q;have O:=V (p.o.trans (p.o.st.fresh aV.o));refine zY (i:=5) M D D 63 #[.pointer (some ⟨a,0,none⟩),.int .i64 ((0:Nat):Int),.slice e 1 g] (λA K=>A=.tuple #[]/\Puts a b m K ((X++zJ 0)++vJ (0:Nat) [[]])) (by go_simp) ?_ ?_
 .have aZ:rN a2 0 (e,1,g) [[]]:=(zL.good inR.good).mono (L.o a2 _ O.o).2.1 (S':=(0<=·)) (λ_ _ _=>Ax9 _)
  refine (Be 0 [[]] e g a2 O.o.st aZ H sI (by decide +kernel) sI (by have:=N.o.2;omega)).mono ?_;rintro R K ⟨rfl,o⟩;exact⟨_,D,λn=>absurd n dE,D,O.o.trans o⟩
 rintro A a3-⟨rfl,aM⟩ Q x;have C:=V aM;clear aM;(try go_simp)
 refine x _ ?_;clear x Q;refine zQ M ?_ _;obtain⟨-,-,-,z⟩:=B.o a3 _ C.o;go_upto_region 11 with fail
 refine wp_loop_rounds 2 ?_;rw[rounds_succ];obtain⟨aT,aY,b7,b8,aR,b0,rfl,-,-,-,aH⟩:=(zL.of (L.o a3 _ C.o).2.2).get1' (f:=ql) D (k:=0) dE D;obtain rfl:aT=aY:=b0;obtain rfl:-1=aT:=Az2 aR;have a6:=aH _ D;rw[Nat.add_zero]at a6;clear aR aH;go_wp2_with fail
 refine (uN 0 a3 C.o.st H (by have:=N.o.2;omega)).mono ?_;rintro b6 b4 ⟨rfl,aO⟩;have aX:G (Puts a b c b4 (X++(zJ 0++(vJ (0:Nat) [[]]++zJ 0)))):=V (by
  have:=v.o.trans (C.o.trans aO);simp only[Az7]at this ⊢;exact this)
 clear aO a6 z;go_wp2;rw[rounds_succ];go_wp2;go_end0
 exact⟨D,aX.o⟩
theorem Gf (bO:TabsS) (d1:Nat->Prop) (b:World) (a:TabsIn b d1 bO livT) :
  Calls prog 10 #[kN bO] b λc aH=>Cf b aH/\∃a,c=.returned (.tuple #[.slice (some ⟨a,0,none⟩) (rG (uG livT)).length (rG (uG livT)).length,.int .i64 0])/\b.heap.size<=a/\Row aH a (rG (uG livT)):=by
 obtain⟨⟨x,e9,y⟩,⟨T,e2,U⟩,⟨O,dO,Q⟩,⟨⟨z,eD,E⟩,⟨A,eF,F⟩,⟨B,eH,K⟩,⟨C,bT,L⟩⟩,⟨⟨s,e4,n⟩,⟨t,e5,o⟩,⟨u,e6,p⟩,⟨v,e7,q⟩,⟨w,e8,r⟩⟩,⟨W,e3,X⟩⟩:=bO;have b9:TabsIn b (·<b.heap.size) _ livT:=TabsIn.good.mono a (λ_ cB _=>cB);obtain⟨rfl,-⟩:=a.rl.len;obtain⟨rfl,-⟩:=a.tk.len;obtain⟨rfl,-⟩:=a.dr.len;obtain⟨rfl,-⟩:=a.lx.r.len;obtain⟨rfl,-⟩:=a.lx.c.len;obtain⟨rfl,-⟩:=a.lx.n.len;obtain⟨rfl,-⟩:=a.lx.e.len;obtain⟨rfl,-⟩:=a.nt.st.len;obtain⟨rfl,-⟩:=a.nt.s.len;obtain⟨rfl,-⟩:=a.nt.p.len;obtain⟨rfl,-⟩:=a.nt.q.len;obtain⟨rfl,-⟩:=a.nt.d.len;obtain⟨rfl,-⟩:=a.lk.len;clear a;have cZ:=V b9;obtain⟨Z,a5⟩:=rK (b.alloc (.cells #[.slice x 1 y,.slice T 0 U,.slice O 0 Q,.slice z 0 E,.slice A 0 F,.slice B 1 K,.slice C 1 L,.slice s 2 n,.slice t 1 o,.slice u 1 p,.slice v 0 q,.slice w 0 r,.slice W 0 X] 34));have c0:G (Cf b Z):=V (by rw[a5];exact rT);have cV:G (Z.heap.size=b.heap.size+1):=V (by rw[a5];simp);have aI:G (∀m j,([.slice x 1 y,.slice T 0 U,.slice O 0 Q,.slice z 0 E,.slice A 0 F,.slice B 1 K,.slice C 1 L,.slice s 2 n,.slice t 1 o,.slice u 1 p,.slice v 0 q,.slice w 0 r,.slice W 0 X]:List Value)[m]?=some j->Z.cell? ⟨b.heap.size,m,none⟩=some j):=V (λm j R=>by rw[a5];exact zG _ D (by rw[<-Aw];exact R));have c6:G (Calls prog 12 #[.agg #[.slice x 1 y,.slice T 0 U,.slice O 0 Q,.slice z 0 E,.slice A 0 F,.slice B 1 K,.slice C 1 L,.slice s 2 n,.slice t 1 o,.slice u 1 p,.slice v 0 q,.slice w 0 r,.slice W 0 X]] Z λc aH=>c=.returned (.bool (yE livT))/\Cf Z aH):=V (dz livT ⟨(x,1,y),(T,0,U),(O,0,Q),⟨(z,0,E),(A,0,F),(B,1,K),(C,1,L)⟩,⟨(s,2,n),(t,1,o),(u,1,p),(v,0,q),(w,0,r)⟩,(W,0,X)⟩ _ Z (TabsIn.good.chg b9 c0.o iF) nS);obtain⟨aR,a4,d3,aY,aZ,b0,b1,b2,b3,b4,aT,aV,aX⟩:=rX aI.o;clear b9;show Calls prog 10 #[.agg #[.slice x 1 y,.slice T 0 U,.slice O 0 Q,.slice z 0 E,.slice A 0 F,.slice B 1 K,.slice C 1 L,.slice s 2 n,.slice t 1 o,.slice u 1 p,.slice v 0 q,.slice w 0 r,.slice W 0 X]] b _;go_enter func10,ntmps10
 go_upto_region 1 with fail
 rw[<-a5];clear a5;go_wp2_with fail
 refine c6.o.mono ?_;rintro c e ⟨rfl,bB⟩;rw[ei];have cS:=V (c0.o.trans bB);have c1:=V bB;clear bB c6 aR a4 d3 aY aZ b0 b1 b2 b3 b4 aT aV aX;obtain⟨h,aD⟩:=rK e.heap.size;obtain⟨i,bK⟩:=rK (e.heap.size+1);obtain⟨k,Y⟩:=rK ((e.alloc (.cells #[.int .u8 72,.int .u8 66,.int .u8 84,.int .u8 49] 5 (4,5))).alloc (.cells #[.slice (some ⟨h,0,none⟩) 4 4] 83));have bM:BytesAt k h 0 tQ:=by
  rw[Y,aD];exact (gl e tQ 5 (4,5) dE).chg ((FR _).alloc _) iE
 have d7:(convert 45 45 (.slice (some ⟨e.heap.size,0,none⟩) 4 4)).run prog (e.alloc (.cells #[.int .u8 72,.int .u8 66,.int .u8 84,.int .u8 49] 5))=.ok (.slice (some ⟨e.heap.size,0,none⟩) 4 4) (e.alloc (.cells #[.int .u8 72,.int .u8 66,.int .u8 84,.int .u8 49] 5 (4,5))):=Lib.run_convert_bytes_const (P:=prog) e 45 5 #[.int .u8 72,.int .u8 66,.int .u8 84,.int .u8 49] 4 4 underlying45 underlying5;have a2:G (b.heap.size<h/\i=h+1):=V ⟨by rw[aD];have:=c1.o.size;have:=cV.o;omega,H⟩;have aP:k.cell? ⟨i,0,none⟩=some (.slice (some ⟨h,0,none⟩) 4 4):=by rw[Y,bK];exact uE _ _ sI
 have bT:k.frozen? ⟨i,0,none⟩=false:=by
  have c:e.heap.size+1=(e.alloc (.cells #[.int .u8 72,.int .u8 66,.int .u8 84,.int .u8 49] 5 (4,5))).heap.size:=sI
  rw[Y,bK,c];exact Az6 _ _ _ _
 have a9:G (PSt i b.heap.size k tQ):=V ⟨⟨_,aP,.inr ⟨h,D,by have:=a2.o;omega,bM.lt dE,bM⟩,λc=>by have d4:h=i:=Az2 c;have:=a2.o;omega⟩,bT,by have:=a2.o;omega⟩;have c5:G (∀S,S<=b.heap.size->¬Cp i k S):=V (λS e0 c=>by
  have:=a2.o;rcases c with c|⟨eB,cK,c⟩
  .omega
  rw[aP]at cK
  obtain rfl:=Az2 cK;have d4:h=S:=Az2 c;omega)
 have c2:G (Cf e k):=V (by rw[Y];exact (rT).alloc _);have c3:=V (cS.o.trans c2.o);have d:G (∀N a3,Puts i b.heap.size k N a3->∀m j,([.slice x 1 y,.slice T 0 U,.slice O 0 Q,.slice z 0 E,.slice A 0 F,.slice B 1 K,.slice C 1 L,.slice s 2 n,.slice t 1 o,.slice u 1 p,.slice v 0 q,.slice w 0 r,.slice W 0 X]:List Value)[m]?=some j->N.cell? ⟨b.heap.size,m,none⟩=some j):=V (λN a3 bD m j R =>
  bD.keep (c5.o _ (Ay1 _)) ((c1.o.trans c2.o).cellS (aI.o m j R) iD))
 have a1:G (∀N a3,Puts i b.heap.size k N a3->TabsIn N (·<b.heap.size) ⟨(x,1,y),(T,0,U),(O,0,Q),⟨(z,0,E),(A,0,F),(B,1,K),(C,1,L)⟩,⟨(s,2,n),(t,1,o),(u,1,p),(v,0,q),(w,0,r)⟩,(W,0,X)⟩ livT):=V (λN a3 bD =>
  TabsIn.good.chg (TabsIn.good.chg cZ.o c3.o iF) bD.chg (λd5 cB c=>c5.o d5 H c))
 obtain⟨dF,cO,a6⟩:=livZ;rw[cO]at a6;simp only[Az]at a6;obtain⟨bV,b5⟩:=rM (zE xE livT.rl);obtain⟨bX,b6⟩:=rM (gQ livT.lx);obtain⟨bZ,b7⟩:=rM (dJ livT.nt);rw[b5,b6,b7]at a6;have a8:G (tQ.length+(bV.length+((zJ 0).length+(bX.length+bZ.length)))<=200):=V a6;have g:=V (show _/\_/\_ from ⟨b5,b6,b7⟩);have e1:=mkfn;have cH:i=h+1:=a2.o.2;clear bM aP bT aI dF cO a6 b5 b6 b7;go_upto_region 4 with fail
 rw[<-aD,<-cH,<-Y];clear Y aD bK cH d7;have aR:=d.o _ _ a9.o.refl 0 _ D;go_wp2_with fail
 refine (Ar livT.rl x y k a9.o (a1.o _ _ a9.o.refl).rl dE dE (by rw[g.o.1,Az];have:=a8.o;omega)).mono ?_;rintro dR dI ⟨rfl,bF⟩;rw[g.o.1]at bF;have aM:=V bF;clear bF aR;have a4:=d.o _ _ aM.o 1 _ D;go_wp2_with fail
 refine (uN 0 dI aM.o.st H (by rw[Az];have:=a8.o;omega)).mono ?_;rintro dT dK ⟨rfl,cF⟩;have f:=V (aM.o.trans cF);clear cF a4;have a4:=d.o _ _ f.o 1 _ D;go_upto_region 7 with fail
 refine wp_loop_once ?_;clear a4;have aY:=d.o _ _ f.o 3 _ D;have aZ:=d.o _ _ f.o 4 _ D;have b0:=d.o _ _ f.o 5 _ D;have b1:=d.o _ _ f.o 6 _ D;go_wp2_with fail
 refine (Ge B C z A K L E F dK f.o.st (a1.o _ _ f.o).lx.c (a1.o _ _ f.o).lx.n (a1.o _ _ f.o).lx.e (by rw[g.o.2.1];simp only[Az];have:=a8.o;omega)).mono ?_;rintro dU dM ⟨rfl,bH⟩;rw[g.o.2.1]at bH;have l:=V (f.o.trans bH);clear bH aY aZ b0 b1;have b2:=d.o _ _ l.o 7 _ D;have b3:=d.o _ _ l.o 8 _ D;have b4:=d.o _ _ l.o 9 _ D;have aT:=d.o _ _ l.o 10 _ D;have aV:=d.o _ _ l.o 11 _ D;go_wp2_with fail
 refine (Bd livT.nt ⟨(s,2,n),(t,1,o),(u,1,p),(v,0,q),(w,0,r)⟩ dM l.o.st (a1.o _ _ l.o).nt Gb (by rw[g.o.2.2];simp only[Az];have:=a8.o;omega)).mono ?_;rintro dV a0 ⟨rfl,bI⟩;rw[g.o.2.2]at bI;have aB:=V (l.o.trans bI);clear bI b2 b3 b4 aT aV;have aX:=d.o _ _ aB.o 12 _ D;go_upto_region 17 with fail
 refine wp_loop_once ?_;clear aX;have cT:G (uG livT=tQ++bV++zJ 0++bX++bZ):=V (by rw[livZ.2.1,g.o.1,g.o.2.1,g.o.2.2];simp only[Az7]);rw[<-cT.o]at aB;obtain⟨j,R,cD,dB⟩:=aB.o.st.ex;obtain⟨c8,d2,rfl,d8,dZ,c9⟩:=cD.bytes (by unfold uG;simp[tQ]);obtain⟨bP,aF⟩:=rK (a0.alloc (.cells ch 104));have dH:=sd;have a7:G (Cf a0 bP):=V (by rw[aF];exact rT);have cX:G (kL bP a0.heap.size):=V (by rw[aF];exact⟨0,_,SumsAt.made a0 _,.inl D⟩);have cM:=a7.o.cellS R iD;have aO:=V (Dl a0.heap.size (uG livT) (some ⟨c8,0,none⟩) c8 0 d2 bP cX.o (c9.chg a7.o iE) (λ_=>H) (λ_=>rfl) (by have:=livZ.2.2;omega));have c4:G (J (λS=>b.heap.size<=S) b a0):=V (c3.o.any.trans (aB.o.below a9.o));obtain⟨d0,b8⟩:=rM (uG livT);have c7:=V b8;rw[b8]at R cM aO;clear R cD dB d8 c9 b8;go_upto_region 22 with fail
 rw[<-aF];clear aF dH;go_wp2_with fail
 refine aO.o.mono ?_;rintro dP cP ⟨a,rfl,d9,cI,dD,cA⟩;have aK:G (Cf b cP/\b.heap.size<=a/\Row cP a (rG d0)):=V (by
  have d6:=c4.o.size;have dX:=a7.o.size;exact⟨(c4.o.trans (a7.o.any.trans (cA.mono (λS _ c=>by rw[c];exact d6)))).fresh,H,cI⟩)
 clear d9 cI dD cA cM aO;go_wp2;go_ret2
 exact⟨aK.o.1,a,by rw[c7.o];rfl,aK.o.2.1,by rw[c7.o];exact aK.o.2.2⟩
theorem bE (F:TabsS) (T:Nat->Prop) (b:World) (a:TabsIn b T F livN) :
  Calls prog 10 #[kN F] b λO W=>O=.returned (.tuple #[.slice none 0 0,.int .i64 1])/\Cf b W:=by
 obtain⟨⟨t,aP,u⟩,⟨f,aD,g⟩,⟨c,aB,d⟩,⟨⟨v,aT,z⟩,⟨w,aV,A⟩,⟨x,aX,B⟩,⟨y,aY,C⟩⟩,⟨⟨o,aH,j⟩,⟨p,aI,k⟩,⟨q,aK,l⟩,⟨r,aM,m⟩,⟨s,aO,n⟩⟩,⟨h,aF,i⟩⟩:=F;have S:=V a;obtain⟨rfl,-⟩:=a.rl.len;obtain⟨rfl,-⟩:=a.tk.len;obtain⟨rfl,-⟩:=a.dr.len;obtain⟨rfl,-⟩:=a.lx.r.len;obtain⟨rfl,-⟩:=a.lx.c.len;obtain⟨rfl,-⟩:=a.lx.n.len;obtain⟨rfl,-⟩:=a.lx.e.len;obtain⟨rfl,-⟩:=a.nt.st.len;obtain⟨rfl,-⟩:=a.nt.s.len;obtain⟨rfl,-⟩:=a.nt.p.len;obtain⟨rfl,-⟩:=a.nt.q.len;obtain⟨rfl,-⟩:=a.nt.d.len;obtain⟨rfl,-⟩:=a.lk.len;clear a;obtain⟨L,e⟩:=rK (b.alloc (.cells #[.slice t 1 u,.slice f 0 g,.slice c 0 d,.slice v 0 z,.slice w 0 A,.slice x 1 B,.slice y 1 C,.slice o 0 j,.slice p 1 k,.slice q 1 l,.slice r 0 m,.slice s 0 n,.slice h 0 i] 34));have N:G (Cf b L):=V (by rw[e];exact rT);have R:G (∀E K,([.slice t 1 u,.slice f 0 g,.slice c 0 d,.slice v 0 z,.slice w 0 A,.slice x 1 B,.slice y 1 C,.slice o 0 j,.slice p 1 k,.slice q 1 l,.slice r 0 m,.slice s 0 n,.slice h 0 i]:List Value)[E]?=some K->L.cell? ⟨b.heap.size,E,none⟩=some K):=V (λE K U=>by rw[e];exact zG _ D (by rw[<-Aw];exact U));obtain⟨X,Y,a2,a3,a4,a5,a6,a7,a8,a9,Z,a0,a1⟩:=rX R.o;show Calls prog 10 #[.agg #[.slice t 1 u,.slice f 0 g,.slice c 0 d,.slice v 0 z,.slice w 0 A,.slice x 1 B,.slice y 1 C,.slice o 0 j,.slice p 1 k,.slice q 1 l,.slice r 0 m,.slice s 0 n,.slice h 0 i]] b _;go_enter func10,ntmps10
 go_upto_region 1 with fail
 rw[<-e];clear e;go_wp2_with fail
 refine (dz livN ⟨(t,1,u),(f,0,g),(c,0,d),⟨(v,0,z),(w,0,A),(x,1,B),(y,1,C)⟩,⟨(o,0,j),(p,1,k),(q,1,l),(r,0,m),(s,0,n)⟩,(h,0,i)⟩ _ L (TabsIn.good.chg S.o N.o iF) tv).mono ?_;rintro O aR ⟨rfl,P⟩;rw[tu];have Q:=V (N.o.trans P);clear P;go_wp2;go_ret2
 exact⟨D,Q.o⟩
section
variable {β δ:Type}{E:Elt β}{R:Rp β δ}
structure Mk (E:Elt β) (R:Rp β δ) (bx bo off:Nat) (w:World) (v:Value) (acc:List δ):Prop where
 c:w.cell? ⟨bo,off,none⟩=some v
 z:w.frozen? ⟨bo,off,none⟩=false
 ex:∃X,E.Own w (bo+1) v X/\X.length=acc.length/\∀(j:Nat) x d,X[j]?=some x->acc[j]?=some d->R w (λk=>(k≠bo/\k≠bx)/\v.ownBlock≠some k) x d
theorem Mk.lt {d a f:Nat}{b:World}{g:Value}{c:List δ}(e:Mk E R d a f b g c):a<b.heap.size:=Az8 _ _ e.c
theorem Mk.chg (q:Good R) {h e f:Nat}{S:Nat->Prop}{d w':World}{i:Value}{g:List δ}(a:Mk E R h e f d i g) (r:J S d w') (t:∀c,S c->d.heap.size<=c):Mk E R h e f w' i g:=by
 have b:Cf d w':=r.mono (λc x l=>by have:=t c l;omega);obtain⟨j,m,n,o⟩:=a.ex;exact⟨b.cellS a.c iD,(b.frozen (p:=⟨e,f,none⟩) a.lt iD).trans a.z,j,m.chg b (λ_ _ _ a=>a),n,λv w k u s=>q.chg (o v w k u s) b iF⟩
theorem Mk.step (x:Good R) {n b h:Nat}{q r j:World}{f i:Value}{u:List δ}{t:List β}{y:β}{d:δ}(B:Mk E R n b h q f u) (U:t.length=u.length) (hrel:∀(g:Nat) s d,t[g]?=some s->u[g]?=some d->R q (λa=>(a≠b/\a≠n)/\f.ownBlock≠some a) s d)
  (P:∀a,f.ownBlock=some a->b<a/\a<q.heap.size) (C:Cf q r) (a1:R r (λa=>(a≠b/\a≠n)/\f.ownBlock≠some a) y d) (Z:E.Own j (b+1) i (t++[y])) (O:J (λa=>f.ownBlock=some a) r j) (k:i.ownBlock=f.ownBlock\/i.ownBlock=some r.heap.size) :
  (j.cell? ⟨b,h,none⟩=some f/\j.frozen? ⟨b,h,none⟩=false)/\Mk E R n b h (j.setCell ⟨b,h,none⟩ i) i (u++[d])/\J (λa=>a=b\/f.ownBlock=some a) q (j.setCell ⟨b,h,none⟩ i) /\
   ∀g K,g≠h->q.cell? ⟨b,g,none⟩=some K->(j.setCell ⟨b,h,none⟩ i).cell? ⟨b,g,none⟩=some K:=by
 have Y:=B.lt;have a5:=C.size;have F:¬f.ownBlock=some b:=λc=>by have:=(P b c).1;omega
 have z:J (λa=>f.ownBlock=some a) q j:=C.any.trans (O.mono (λ_ _ c=>c));have N:=z.cellS B.c F;have S:=(z.frozen (p:=⟨b,h,none⟩) Y F).trans B.z;obtain⟨L,w⟩:=rK (j.setCell ⟨b,h,none⟩ i);have v:J (·=b) j L:=by rw[w];exact zA j b h i
 have a2:∀m,i.ownBlock=some m->¬m=b:=λm e c=>by
  rcases k with k|k
  .rw[k]at e;have:=(P m e).1;omega
  rw[k]at e;have:=Az2 e;omega
 have W:J (λa=>f.ownBlock=some a\/a=b) r L:=(O.mono (λ_ _ c=>.inl c)).trans (v.mono (λ_ _ c=>.inr c));have Q:∀{s:β}{d:δ},R r (λa=>(a≠b/\a≠n)/\f.ownBlock≠some a) s d->R L (λa=>(a≠b/\a≠n)/\i.ownBlock≠some a) s d:=λl=>by
  have a3:=x.mono l (S':=λa=>((a≠b/\a≠n)/\f.ownBlock≠some a)/\a<r.heap.size) (λm e v=>⟨v,e⟩);have a4:=x.chg a3 W (λm e c=>c.elim e.1.2 e.1.1.1);refine x.mono a4 (λm _ e=>⟨e.1.1,λc=>?_⟩);rcases k with k|k
  .rw[k]at c;exact e.1.2 c
  rw[k]at c;have:=Az2 c;omega
 rw[<-w];refine⟨⟨N,S⟩,⟨by rw[w];exact Az9 _ _ _ N,by rw[w];exact (Az3 _ _ _ _).trans S,t++[y],Z.chgB v (λm e c=>a2 m e c),by simp[U],λg s T l o=>?_⟩,(z.mono (λ_ _ c=>.inr c)).trans (v.mono (λ_ _ c=>.inl c)),λg K A a0=>by
  rw[w,Ay0 _ _ _ _ (by intro c;injection c with _ c;exact A c.symm)];exact z.cellS a0 F⟩
 rw[List.getElem?_append]at l o;by_cases A:g<t.length
 .rw[if_pos A]at l
  rw[if_pos H]at o;exact Q (x.chg (hrel g s T l o) C iF)
 rw[if_neg A]at l
 rw[if_neg H]at o;have X:g-t.length=0:=by
  have:=(Az0.1 l).1;simp at this;omega
 rw[X]at l;rw[show g-u.length=0 by omega]at o;simp at l o
 subst l o;exact Q a1
theorem Mk.own {e d j:Nat}{k:World}{a:Value}{c:List δ}(g:Mk E R e d j k a c):∃b i f,a=.slice b i f:=by
 obtain⟨l,h,-⟩:=g.ex;exact h.shape3
theorem Mk.list {c b B:Nat}{l:World}{i:Option Addr}{h j:Nat}{a:List δ}(t:Mk E R c b B l (.slice i h j) a) (w:Good R) (L:c<=b):h=a.length/\zL E R l (λg=>g≠b/\g≠c) (i,h,j) a:=by
 obtain⟨m,u,k,v⟩:=t.ex;obtain⟨F,s,K,d,o,p,e⟩:=u.at';injection d with d q r;subst d q r;refine⟨k,m,⟨D,o,s,0,p,λf=>⟨(e f).1,by have:=(e f).2;omega,by have:=(e f).2;omega⟩⟩,k,λA C n z x=>w.mono (v A C n z x) (λg _ y=>y.1)⟩
end
section
variable {P:Program}{ops:Array Oper}{Q:Exit->Act->World->Prop}{md:Region.Mode}{S:World->Prop}{late:Nat->Bool}
theorem tw {i j:Nat}{h k:Oper}{l:Nat}{g:Array Bool}{a:Act}{d:World}(r:Region.ready md ops g=[i,j]) (x:ops[i]?=some h) (y:ops[j]?=some k)
  (B:Region.wanted h (yielded ops a.tmps)=true) (C:Region.wanted k (yielded ops a.tmps)=true) (o:FuncId) (m:Array Value) (R:Value->World->Prop) (z:(execOp a.eval h).run P d=.ok (.enter o m) d)
  (v:Calls P o m d (λn b=>∃c,n=.returned c/\(late i=false->S b)/\R c b))
  (s:∀c b,(late i=false->S b)->R c b->∀e:Act->Prop,(∀a,yC P md ops Q S late l (g.setIfInBounds i true) a b->e a)->e (a.put h.dst c))
  (A:∀e:Act->World->Prop,(∀a d,yC P md ops Q S late l (g.setIfInBounds j true) a d->e a d)->∃c b,(execOp a.eval k).run P d=.ok (.value c) b/\(late j=false->S b)/\e (a.put k.dst c) b) :
  yC P md ops Q S late (l+1) g a d:=by
 refine⟨λp=>(by rw[r]at p;cases p),λF q=>?_⟩;rw[r,Ax5,Ay]at q;rcases q with rfl|rfl
 .unfold Go.wpOp
  simp only[x,B,if_true,Oper.wp,z,Oper.upon];refine .inl (v.mono λn b ⟨c,w,f,u⟩=>?_);subst w;exact⟨f,s c b f u _ iE⟩
 obtain⟨c,b,E,f,t⟩:=A _ iF
 unfold Go.wpOp;simp only[y,C,if_true,Oper.wp,E,Oper.upon];exact .inl ⟨f,t⟩
end
theorem Gg (d e f g:Option Addr) (m n o p i j k l:Nat) (b:World):Calls prog 22 #[.agg #[.slice d m i,.slice e n j,.slice f o k,.slice g p l]] b λu Q=>u=.returned (.agg #[.slice d m i,.slice e n j,.slice f o k,.slice g p l])/\Cf b Q:=by
 obtain⟨c,a⟩:=rK ((b.alloc (.cells #[.slice d m i,.slice e n j,.slice f o k,.slice g p l] 28)).alloc (.cells #[.slice none 0 0,.slice none 0 0,.slice none 0 0,.slice none 0 0] 37));have C:G (Cf b c):=V (by rw[a];exact ((J.refl _ b).alloc _).alloc _);have S:c.cell? ⟨b.heap.size,0,none⟩=some (.slice d m i):=by rw[a];exact yL _ (zG _ D D)
 have T:c.cell? ⟨b.heap.size,1,none⟩=some (.slice e n j):=by rw[a];exact yL _ (zG _ D D)
 have U:c.cell? ⟨b.heap.size,2,none⟩=some (.slice f o k):=by rw[a];exact yL _ (zG _ D D)
 have W:c.cell? ⟨b.heap.size,3,none⟩=some (.slice g p l):=by rw[a];exact yL _ (zG _ D D)
 obtain⟨h,q⟩:=rK (b.heap.size+1);have K:c.cell? ⟨h,0,none⟩=some (.slice none 0 0):=by rw[a,q];exact zG _ sI D
 have L:c.cell? ⟨h,1,none⟩=some (.slice none 0 0):=by rw[a,q];exact zG _ sI D
 have N:c.cell? ⟨h,2,none⟩=some (.slice none 0 0):=by rw[a,q];exact zG _ sI D
 have O:c.cell? ⟨h,3,none⟩=some (.slice none 0 0):=by rw[a,q];exact zG _ sI D
 have t:∀r,c.frozen? ⟨h,r,none⟩=false:=λr=>by
  have u:h=(b.alloc (.cells #[.slice d m i,.slice e n j,.slice f o k,.slice g p l] 28)).heap.size:=by rw[q];simp
  rw[a,u];exact Az6 _ _ _ _
 have Z:=t 0;have a0:=t 1;have a1:=t 2;have a2:=t 3;obtain⟨R,w⟩:=rK (xC h 0 [.slice d m i,.slice e n j,.slice f o k,.slice g p l] c);obtain⟨s,-,x,-⟩:=vY h [.slice d m i,.slice e n j,.slice f o k,.slice g p l] 0 c (λr P=>by
  simp only[Ax2,Aw6]at P;rcases (by omega:r=0\/r=1\/r=2\/r=3) with rfl|rfl|rfl|rfl
  .rw[K];rfl
  .rw[L];rfl
  .rw[N];rfl
  rw[O];rfl)
 rw[<-w]at s x;have E:G (Cf b R):=V (C.o.trans2 x (λY X u=>H));have y:=s 0 _ D;have z:=s 1 _ D;have A:=s 2 _ D;have B:=s 3 _ D;simp only[Ax]at y z A B;simp only[xC,Ax,Nat.reduceAdd]at w;have F:=V w;clear t w s x;go_enter func22,ntmps22
 go_upto_region 1 with fail
 rw[<-a,<-q];clear a q;go_wp2;rw[<-F.o];exact bodyPost_ret (v:=.agg #[.slice d m i,.slice e n j,.slice f o k,.slice g p l]) (by simp[results,results22,go_sem,y,z,A,B]) D ⟨D,E.o⟩
section
variable {β δ:Type}{E:Elt β}{R:Rp β δ}
def pR (P:Nat->Prop) (R:Rp β δ):Rp β δ:=λw S x d=>R w (λk=>S k/\P k) x d
theorem pR.good {g:Nat->Prop}(e:Good R):Good (pR g R):=⟨λb h d=>e.chg b h (λa c=>d a c.1),λb d=>e.mono b (λa c f=>⟨d a c f.1,f.2⟩)⟩
theorem Mk.inP {c:Nat->Prop}{e b F:Nat}{o:World}{h:Option Addr}{g i:Nat}{d:List δ}(v:Mk E (pR c R) e b F o (.slice h g i) d) (z:Good R) (y:∀a,b<a->c a) (O:e<=b):g=d.length/\zL E R o (λa=>c a/\a≠b/\a≠e) (h,g,i) d:=by
 obtain⟨p,w,l,x⟩:=v.ex;obtain⟨L,k,N,f,r,s,j⟩:=w.at';injection f with f t u;subst f t u;refine⟨l,p,⟨D,r,k,0,s,λn=>⟨(j n).1,by have:=(j n).2;exact⟨y k H,H,H⟩⟩⟩,l,λC K q B A=>z.mono (x C K q B A) (λa _ m=>⟨m.2,m.1.1⟩)⟩
end
theorem Gh (a:NetD) (dD:NetS) (L:Nat->Prop) (d:World) (k:NetIn d L dD a) (d5:FairN a) :
  Calls prog 23 #[netV dD] d λg aZ=>∃eB,g=.returned (netV eB)/\DNetIn aZ (λc=>L c\/d.heap.size<=c) eB a/\Cf d aZ:=by
 obtain⟨⟨aM,hV,a6⟩,⟨s,hA,t⟩,⟨w,hR,x⟩,⟨z,hS,A⟩,⟨u,hC,v⟩⟩:=dD;have gH:=NetIn.good.mono k (S':=λc=>c<d.heap.size/\L c) (λ_ bM gV=>⟨bM,gV⟩);clear k;obtain⟨T,F,N,c7,c8⟩:=gH;obtain⟨rfl,-⟩:=T.len;obtain⟨rfl,-⟩:=F.len;obtain⟨rfl,-⟩:=N.len;obtain⟨rfl,-⟩:=c7.len;obtain⟨rfl,-⟩:=c8.len;simp only at T F N c7 c8;have fB:=V d5;have hF:=d5.st;obtain⟨aB,aI⟩:=rK ((d.alloc (.cells #[.slice aM a.st.length a6,.slice s a.s.length t,.slice w a.p.length x,.slice z a.q.length A,.slice u a.d.length v] 31)).alloc (.cells #[.slice none 0 0,.slice none 0 0,.slice none 0 0,.slice none 0 0,.slice none 0 0] 40));obtain⟨W,bV⟩:=rK (aB.alloc (.cells #[.slice none 0 0,.slice s a.s.length t,.slice w a.p.length x,.slice z a.q.length A,.slice u a.d.length v] 40));have e3:Cf d aB:=by rw[aI];exact ((J.refl _ d).alloc _).alloc _
 have b9:Cf aB W:=by rw[bV];exact (J.refl _ aB).alloc _
 have d8:aB.heap.size=d.heap.size+2:=by rw[aI];simp
 obtain⟨o,bD⟩:=rK (d.heap.size+1);obtain⟨n,bB⟩:=rK (d.heap.size+1+1);have Z:G (o=d.heap.size+1/\n=d.heap.size+2):=V ⟨bD,bB⟩;have b4:G (∀b m,([.slice aM a.st.length a6,.slice s a.s.length t,.slice w a.p.length x,.slice z a.q.length A,.slice u a.d.length v]:List Value)[b]?=some m->aB.cell? ⟨d.heap.size,b,none⟩=some m):=V (λb m bT=>by
  rw[aI];exact yL _ (zG _ D (by rw[<-Aw];exact bT)))
 have e0:G (∀b,b<5->W.cell? ⟨o,b,none⟩=some (.slice none 0 0)):=V (λb a0=>b9.cellS (by
  rw[aI,bD];exact zG _ sI (by rcases (by omega:b=0\/b=1\/b=2\/b=3\/b=4) with rfl|rfl|rfl|rfl|rfl <;> rfl)) iD)
 have fT:G (∀b,W.frozen? ⟨o,b,none⟩=false):=V (λb=>(b9.frozen (p:=⟨o,b,none⟩) (by show o<aB.heap.size;omega) iD).trans (by
  have g:o=(d.alloc (.cells #[.slice aM a.st.length a6,.slice s a.s.length t,.slice w a.p.length x,.slice z a.q.length A,.slice u a.d.length v] 31)).heap.size:=by rw[bD];simp
  rw[aI,g];exact Az6 _ _ _ _))
 have aR:G (∀b m,([.slice none 0 0,.slice s a.s.length t,.slice w a.p.length x,.slice z a.q.length A,.slice u a.d.length v]:List Value)[b]?=some m->W.cell? ⟨n,b,none⟩=some m):=V (λb m bT=>by
  rw[bV];exact zG _ (by rw[d8,bB]) (by rw[<-Aw];exact bT))
 have fO:G (∀b,W.frozen? ⟨n,b,none⟩=false):=V (λb=>by
  have g:n=aB.heap.size:=by rw[d8,bB]
  rw[bV,g];exact Az6 _ _ _ _)
 have dU:G (Mk dStE (pR (λc=>L c\/d.heap.size<=c) dStR) o n 0 W (.slice none 0 0) []):=V ⟨aR.o 0 _ D,fO.o 0,[],.nil _ _,D,λb Y cZ e=>by simp at e⟩;have f3:=V (e3.trans b9);have fI:G (∀b m,([.slice aM a.st.length a6,.slice s a.s.length t,.slice w a.p.length x,.slice z a.q.length A,.slice u a.d.length v]:List Value)[b]?=some m->W.cell? ⟨d.heap.size,b,none⟩=some m):=V (λb m bT=>b9.cellS (b4.o b m bT) iD);have dT:G (∀h,J (λc=>d.heap.size<=c) d h->NetIn h (λc=>c<d.heap.size/\L c) ⟨(aM,a.st.length,a6),(s,a.s.length,t),(w,a.p.length,x),(z,a.q.length,A),(u,a.d.length,v)⟩ a):=V (λh e=>NetIn.good.chg ⟨T,F,N,c7,c8⟩ e (λd3 bM g=>by have:=bM.1;omega));have g4:=b4.o 1 _ D;have g5:=b4.o 2 _ D;have g6:=b4.o 3 _ D;have g7:=b4.o 4 _ D;clear T F N c7 c8 d5;show Calls prog 23 #[.agg #[.slice aM a.st.length a6,.slice s a.s.length t,.slice w a.p.length x,.slice z a.q.length A,.slice u a.d.length v]] d _;go_enter func23,ntmps23
 go_upto_region 1 with fail
 rw[<-aI];have e8:=bV;clear aI bV;go_upto_region 3 with fail
 rw[<-e8,<-bB,<-bD];clear e8 bB bD g4 g5 g6 g7 e3 b9 d8
 go_loopw [4] (λy wr=>∃(B:Nat) (m:Value),B<=a.st.length/\y=.int .i64 B/\Mk dStE (pR (λc=>L c\/d.heap.size<=c) dStR) o n 0 wr m (a.st.take B)/\(∀b a7,([.slice none 0 0,.slice s a.s.length t,.slice w a.p.length x,.slice z a.q.length A,.slice u a.d.length v]:List Value)[b]?=some a7->b≠0->wr.cell? ⟨n,b,none⟩=some a7)/\J (λc=>n<=c) W wr) (λy _=>a.st.length-(intOf y).toNat)
 .exact⟨0,_,H,D,dU.o,λb a7 d9 _=>aR.o b a7 d9,cR⟩
 clear dU;obtain⟨B,m,hN,rfl,O,e6,U⟩:=hrel;obtain⟨i,rfl⟩:∃i:World,i=wr:=⟨_,D⟩;obtain⟨c2,b5,c1⟩:=rZ O e6 U;have dR:G (J (λc=>d.heap.size<=c) d i):=V (f3.o.any.trans (U.mono (λc _ g=>by have:=Z.o;omega)));obtain⟨a8,dI,a9,rfl⟩:=O.own;have f1:G (n<i.heap.size):=V O.lt;have fK:G (∀h,J (λc=>n<=c) W h->h.cell? ⟨d.heap.size,0,none⟩=some (.slice aM a.st.length a6)):=V (λh e=>e.cellS (fI.o 0 _ D) (by have:=Z.o;show ¬n<=d.heap.size;omega));have eF:=fK.o i U;clear O e6 U;by_cases gP:B<a.st.length
 .have gM:=rO B a.st.length
  obtain⟨⟨c,⟨d1,hE,d2⟩,⟨P,hW,Q⟩⟩,⟨hP,j,C⟩,c6,cH,e,⟨eH,dH,cI,cK⟩,rfl,hM,-,-,bF⟩:=(dT.o _ dR.o).st.get3 (f:=hJ) D gP D;simp only at eH dH cI cK;subst eH;obtain⟨rfl,-⟩:=cI.len;obtain⟨rfl,-⟩:=cK.len;have fX:=V e;obtain⟨h0,h1⟩:=fB.o.e _ (Az1 e);simp only at h0 h1;obtain⟨cM,bX,bZ⟩:=bF _ _ _ D;simp only[slV]at bX bZ;have R:G (∀h,J (λc=>i.heap.size<=c) i h->h.cell? ⟨d.heap.size,0,none⟩=some (.slice (some ⟨c6,cH,none⟩) a.st.length a6)/\h.cell? ⟨c6,cH+B * 3,none⟩=some (.int .i64 c)/\h.cell? ⟨c6,cH+B * 3+1,none⟩=some (.slice d1 j.length d2)/\h.cell? ⟨c6,cH+B * 3+2,none⟩=some (.slice P C.length Q)):=V (λh e =>
   ⟨e.fresh.cellS eF iD,e.fresh.cellS cM iD,e.fresh.cellS bX iD,e.fresh.cellS bZ iD⟩)
  have c3:G (I.Byte c/\nY.InS i (·<d.heap.size) (d1,j.length,d2) j/\intE.InS i (λc=>c<d.heap.size/\L c) (P,C.length,Q) C):=V ⟨dH,cI.mono (λ_ _ k=>k.1),cK⟩;clear e bF dH cI cK;go_upto_region 5 with fail
  clear cM bX bZ eF;obtain⟨aP,cD⟩:=rM i.drew;have b7:G (Cf i aP):=V (by rw[<-cD];exact (J.refl _ _).drew);have bP:aP.heap.size=i.heap.size:=(by rw[<-cD];rfl);refine zC (λY=>Cf aP Y) (λB=>decide (B=14)) M ?_;show yC _ _ _ _ _ _ 15 (Array.replicate 15 false) _ i.drew;rw[cD];clear cD;have q:G (Cf aP aP):=V cR;refine lq 0 q.o ?_;(refine lq 1 q.o ?_ (hr:=by intro aZ aF;obtain⟨a2,a3,a4,a5⟩:=R.o _ (b7.o.trans aF).any;go_simp;try with_reducible rfl));refine lq 2 q.o ?_;refine lq 3 q.o ?_;refine lq 4 q.o ?_;(refine lq 5 q.o ?_ (hr:=by intro aZ aF;obtain⟨a2,a3,a4,a5⟩:=R.o _ (b7.o.trans aF).any;go_simp;try with_reducible rfl));refine lq 6 q.o ?_;(refine lq 7 q.o ?_ (hr:=by intro aZ aF;obtain⟨a2,a3,a4,a5⟩:=R.o _ (b7.o.trans aF).any;go_simp;try with_reducible rfl));refine lq 8 q.o ?_;refine lq 9 q.o ?_;refine lq 10 q.o ?_;(refine lq 11 q.o ?_ (hr:=by intro aZ aF;obtain⟨a2,a3,a4,a5⟩:=R.o _ (b7.o.trans aF).any;go_simp;try with_reducible rfl));refine lq 12 q.o ?_;refine lt 13 (λ_=>rT) ?_;refine ld 14 ?_;refine zQ M ?_ _;obtain⟨X,aK⟩:=rK (aP.alloc (.cells #[.int .i64 c,.slice none 0 0,.slice P C.length Q] 121));rw[<-aK];obtain⟨r,aH⟩:=rK i.heap.size;rw[<-aH];have dO:G (r=i.heap.size):=V aH;have dP:G (Cf i X):=V (b7.o.trans (by rw[aK];exact rT));have eX:X.cell? ⟨r,0,none⟩=some (.int .i64 c):=(by rw[aK];exact zG _ (by rw[aH,bP]) D);have c0:X.cell? ⟨r,1,none⟩=some (.slice none 0 0):=(by rw[aK];exact zG _ (by rw[aH,bP]) D);have b0:X.cell? ⟨r,2,none⟩=some (.slice P C.length Q):=(by rw[aK];exact zG _ (by rw[aH,bP]) D);have dM:X.frozen? ⟨r,1,none⟩=false:=by
   rw[aK,show r=aP.heap.size by rw[aH,bP]];exact Az6 _ _ _ _
  have dV:G (Mk nG eqR r r 1 X (.slice none 0 0) []):=V ⟨c0,dM,[],.nil _ _,D,λb Y cZ e=>by simp at e⟩;have e1:G (X.cell? ⟨r,0,none⟩=some (.int .i64 c)/\X.cell? ⟨r,2,none⟩=some (.slice P C.length Q)):=V ⟨eX,b0⟩;clear aK aH bP eX c0 b0 dM q;obtain⟨a2,a3,a4,a5⟩:=R.o X dP.o.any;go_upto_region 7 with fail
  go_loopw [6] (λy wr=>∃(b:Nat) (m:Value),b<=j.length/\y=.int .i64 b/\Mk nG eqR r r 1 wr m (j.take b)/\(wr.cell? ⟨r,0,none⟩=some (.int .i64 c)/\wr.cell? ⟨r,2,none⟩=some (.slice P C.length Q))/\J (λc=>i.heap.size<=c) i wr) (λy _=>j.length-(intOf y).toNat)
  .exact⟨0,_,H,D,dV.o,e1.o,dP.o.any⟩
  clear dV e1 a2 a3 a4 a5;obtain⟨b,m,a0,rfl,O,e9,U⟩:=hrel;obtain⟨cT,cX,b3⟩:=rZ O e9 U;obtain⟨aX,h3,aY,rfl⟩:=O.own;obtain⟨a2,a3,a4,a5⟩:=R.o wr U;have f9:G (nY.InS wr (·<d.heap.size) (d1,j.length,d2) j):=V (c3.o.2.1.chg U.fresh iF);have dF:=O.c;have eD:=O.z;clear O e9 U;by_cases gR:b<j.length
  .have gK:=rO b j.length
   obtain⟨⟨l,aO,E⟩,gF,hG,hQ,e,gT,rfl,-,-,gO,bF⟩:=(zL.of f9.o).get3 (f:=bz) D gR D;obtain rfl:(l,aO,E)=gF:=gT;have fZ:=V e;obtain⟨⟨e4,e5⟩,d6,d7⟩:=gO;simp only at e4 e5 d6 d7;have hO:IntKind.i64.wrap l=l:=(by rw[IntKind.wrap_i64];omega);have dX:G (∀Y∈[((l,aO,E):sU)],nG.ok Y):=V (λY e=>by
    rw[Ay.1 e];exact⟨⟨by show -9223372036854775808<=l;omega,by show l<=9223372036854775807;omega⟩,d6,d7⟩)
   obtain⟨cM,bX,bZ⟩:=bF _ _ _ D;obtain⟨aD,aT⟩:=rK (wr.alloc (.cells #[.int .u8 l,.int .i64 aO,.int .i64 E] 71));have b2:G (Cf wr aD):=V (by rw[aT];exact rT);have g8:aD.cell? ⟨wr.heap.size,0,none⟩=some (.int .u8 l):=(by rw[aT];exact zG _ D D);have b8:aD.cell? ⟨wr.heap.size,1,none⟩=some (.int .i64 aO):=(by rw[aT];exact zG _ D D);have d0:aD.cell? ⟨wr.heap.size,2,none⟩=some (.int .i64 E):=(by rw[aT];exact zG _ D D);have h2:=b2.o.cellS dF iD;clear e bF e4 e5 d6 d7;go_upto_region 10 with fail
   rw[<-aT];clear aT cM bX bZ a2 a3 a4 a5 dF eD;have cS:=V (cT.o.chg eqR.good b2.o (λ_ k=>k.elim));obtain⟨h,T,F,N⟩:=cS.o.ex;obtain⟨aR,fD,fP⟩:=rZ T F N;have f0:G (r+1<=aD.heap.size):=V cS.o.lt;have g0:G (h.length<=1000000000):=V (by rw[F,Ay8];omega);clear T F N;go_wp2_with (at_builtin;refine Elt.wpList_append2 nG D _ _ 119 119 D D (r+1) (.slice aX h3 aY) h [((l,aO,E):sU)] (.slice (some ⟨aD.heap.size,0,none⟩) 1 1) D D (aR.o.chg ((FR _).alloc _) (λ_ _ _ k=>k)) (by have:=f0.o;simp;omega) (Elt.srcLit nG (w:=aD) (Y:=[((l,aO,E):sU)]) (e:=123) 1 dX.o) dX.o (by have:=g0.o;simp;omega) ?_;intro h4 h8 b6 f4 b1;obtain⟨h5,h7,h6,dB⟩:=b6.o.shape3;subst dB;obtain⟨⟨gX,gZ⟩,bH,bI,bK⟩:=Mk.step eqR.good (d:=((l,aO,E):sU)) cS.o fD.o fP.o (λc cA=>by have:=aR.o.blk cA;omega) ((FR aD).alloc _) D b6.o b1.o.1 b1.o.2;have cP:=V bH;have cO:=V bI;have c4:=V bK;clear bH bI bK)
   have g1:=V (show _/\_ from ⟨c4.o 0 _ dE (b2.o.cellS cX.o.1 iD),c4.o 2 _ dE (b2.o.cellS cX.o.2 iD)⟩);have f6:=V ((b3.o.trans b2.o.any).trans2 cO.o (λc cA g=>by
    have hL:=dO.o;rcases g with g|g
    .omega
    have:=(aR.o.blk g).1;omega))
   clear g8 b8 d0 h2;go_wp2;go_roundw
   .exact⟨b+1,_,H,GN,by rw[Ay3,fZ.o];exact cP.o,g1.o,f6.o⟩
   simp[intOf];omega
  obtain rfl:b=j.length:=H
  have gK:=rP j.length;have S:G (Mk dStE (pR (λc=>L c\/d.heap.size<=c) dStR) o n 0 wr (.slice a8 dI a9) (a.st.take B)):=V (c2.o.chg (pR.good dStR.good) b3.o iE);obtain⟨c5,c0,b0,eZ⟩:=S.o.ex;have cV:=V c0;have fH:=V b0;have fR:=V eZ;have f2:G (n+1<=wr.heap.size):=V S.o.lt;have g2:G (c5.length<=1000000000):=V (by rw[b0,Ay8];omega);obtain⟨cB,bO⟩:=cT.o.list eqR.good (Ay1 _);rw[Ax8 (Ay1 _)]at cB bO;subst cB;have eI:=S.o.c;obtain⟨eK,eM⟩:=cX.o;have f8:G (nG.InS wr (λc=>i.heap.size<=c) (aX,j.length,aY) j):=V (by
   obtain⟨h,T,F,N⟩:=cT.o.ex;rw[Ax8 (Ay1 _)]at F N;have gI:h=j:=List.ext_getElem F (λb e gS=>N b _ _ (Az4 e) (Az4 gS));subst gI;obtain⟨h9,d3,hB,b8,d0,g9,e2⟩:=T.at';injection b8 with b8 hD gD;subst b8 gD;exact⟨D,d0,d3,0,g9,λe7=>⟨(e2 e7).1,by have:=(e2 e7).2;have:=dO.o;omega⟩⟩)
  have dZ:G (∀Y∈[((c,(aX,j.length,aY),(P,C.length,Q)):Int×Sl×Sl)],dStE.ok Y):=V (λY e=>by
   rw[Ay.1 e];exact c3.o.1)
  have q:G (∀h,Cf wr h->pR (λc=>L c\/d.heap.size<=c) dStR h (λy=>(y≠n/\y≠o)/\(Value.slice a8 dI a9).ownBlock≠some y) (c,(aX,j.length,aY),(P,C.length,Q)) (c,j,C)):=V (λh e=>by
   have hI:=Z.o;have hK:=f1.o;refine⟨D,c3.o.1,(f8.o.chg e iF).mono (λy _ a1=>⟨⟨⟨H,H⟩,λg=>?_⟩,.inr H⟩),((c3.o.2.2.chg b3.o.fresh iF).chg e iF).mono (λy _ a1=>⟨⟨⟨by have:=a1.1;omega,by have:=a1.1;omega⟩,λg=>?_⟩,.inl a1.2⟩)⟩
   .obtain⟨g3,d4,-⟩:=c2.o.ex
    have:=(d4.blk g).2;omega
   obtain⟨g3,d4,-⟩:=c2.o.ex
   have hH:=a1.1;have:=(d4.blk g).1;omega)
  clear c0 b0 eZ bO eD a3 a5;go_wp2_with (at_builtin;refine Elt.wpList_append2 dStE D _ _ 38 38 D D (n+1) (.slice a8 dI a9) c5 [((c,(aX,j.length,aY),(P,C.length,Q)):Int×Sl×Sl)] (.slice (some ⟨wr.heap.size,0,none⟩) 1 1) D D (cV.o.chg ((FR _).alloc _) (λ_ _ _ k=>k)) (by have:=f2.o;simp;omega) (Elt.srcLit dStE (w:=wr) (Y:=[((c,(aX,j.length,aY),(P,C.length,Q)):Int×Sl×Sl)]) (e:=121) 1 dZ.o) dZ.o (by have:=g2.o;simp;omega) ?_;intro h4 h8 b6 f4 b1;obtain⟨h5,h7,h6,dB⟩:=b6.o.shape3;subst dB;obtain⟨⟨gX,gZ⟩,bH,bI,bK⟩:=Mk.step (pR.good dStR.good) (d:=((c,j,C):StD)) S.o fH.o fR.o (λy a1=>by have:=cV.o.blk a1;omega) ((FR wr).alloc _) (q.o _ ((FR wr).alloc _)) b6.o b1.o.1 b1.o.2;have cP:=V bH;have cO:=V bI;have c4:=V bK;clear bH bI bK)
  have fM:=V (λ(b:Nat) (a7:Value) (d9:([.slice none 0 0,.slice s a.s.length t,.slice w a.p.length x,.slice z a.q.length A,.slice u a.d.length v]:List Value)[b]?=some a7) (a0:b≠0)=>c4.o b a7 a0 (b3.o.fresh.cellS (b5.o b a7 d9 a0) iD));have f5:=V ((c1.o.trans2 b3.o (λc cA g=>by have:=c1.o.size;omega)).trans2 cO.o (λy a1 g=>by
   rcases g with g|g
   .omega
   have:=(cV.o.blk g).1;omega))
  clear eI eK eM a2 a4 dF;go_wp2;go_roundw
  .exact⟨B+1,_,H,GN,by rw[Ay3,fX.o];exact cP.o,fM.o,f5.o⟩
  simp[intOf];omega
 obtain rfl:B=a.st.length:=H
 have gM:=rP a.st.length;have S:=c2.o;rw[Ax8 (Ay1 _)]at S;obtain⟨cB,bO⟩:=S.inP dStR.good (λc cA=>.inr (by have:=Z.o;omega)) (by have:=Z.o;omega);subst cB;have eI:=S.c;have eK:=b5.o 1 _ D dE;have eM:=b5.o 2 _ D dE;have hT:=b5.o 3 _ D dE;have hU:=b5.o 4 _ D dE;have fF:=V bO;have K:∀b,b<5->i.cell? ⟨o,b,none⟩=some (.slice none 0 0):=λb a0=>c1.o.cellS (e0.o b a0) (by have:=Z.o;show ¬n<=o;omega)
 have aV:∀b,i.frozen? ⟨o,b,none⟩=false:=λb=>(c1.o.frozen (p:=⟨o,b,none⟩) (by have:=Az8 _ _ (e0.o 0 dE);exact this) (by have:=Z.o;show ¬n<=o;omega)).trans (fT.o b)
 have u0:=K 0 dE;have u1:=K 1 dE;have u2:=K 2 dE;have u3:=K 3 dE;have u4:=K 4 dE;have hX:=aV 0;have dM:=aV 1;have hY:=aV 2;have hZ:=aV 3;have i0:=aV 4;obtain⟨dK,cF⟩:=rK (xC o 0 [.slice a8 a.st.length a9,.slice s a.s.length t,.slice w a.p.length x,.slice z a.q.length A,.slice u a.d.length v] i);obtain⟨l,-,E,-⟩:=vY o [.slice a8 a.st.length a9,.slice s a.s.length t,.slice w a.p.length x,.slice z a.q.length A,.slice u a.d.length v] 0 i (λb a0=>by
  rw[Ax,K b a0];rfl)
 rw[<-cF]at l E;have R:G (J (λc=>d.heap.size<=c) d dK):=V (dR.o.trans (E.mono (λc _ g=>by have:=Z.o;omega)));have f7:G (DNetIn dK (λc=>L c\/d.heap.size<=c) ⟨(a8,a.st.length,a9),(s,a.s.length,t),(w,a.p.length,x),(z,a.q.length,A),(u,a.d.length,v)⟩ a):=V (by
  have c9:=dT.o dK R.o;exact⟨(zL.good dStR.good).mono ((zL.good dStR.good).chg fF.o E (λd3 bM g=>bM.2.2 g)) (λ_ _ k=>k.1),c9.s.mono (λ_ _ k=>.inl k.2),c9.p.mono (λ_ _ k=>.inl k.2),c9.q.mono (λ_ _ k=>.inl k.2),c9.d.mono (λ_ _ k=>.inl k.2)⟩)
 have eO:=l 0 _ D;have eP:=l 1 _ D;have eR:=l 2 _ D;have eT:=l 3 _ D;have eV:=l 4 _ D;simp only[Ax]at eO eP eR eT eV;simp only[xC,Ax,Nat.reduceAdd]at cF;have fV:=V cF;clear cF l E K aV bO S;go_wp2;rw[<-fV.o];exact bodyPost_ret (v:=.agg #[.slice a8 a.st.length a9,.slice s a.s.length t,.slice w a.p.length x,.slice z a.q.length A,.slice u a.d.length v]) (by simp[results,results23,go_sem,eO,eP,eR,eT,eV]) D ⟨⟨(a8,a.st.length,a9),(s,a.s.length,t),(w,a.p.length,x),(z,a.q.length,A),(u,a.d.length,v)⟩,D,f7.o,R.o.fresh⟩
theorem DNetIn.len {b:NetS}{a:NetD}(m:DNetIn w S b a):∃e j f k g l c h d i,b=⟨(e,a.st.length,j),(f,a.s.length,k),(g,a.p.length,l),(c,a.q.length,h),(d,a.d.length,i)⟩:=by
 obtain⟨⟨e,u,j⟩,⟨f,v,k⟩,⟨g,x,l⟩,⟨c,s,h⟩,⟨d,t,i⟩⟩:=b;obtain⟨n,o,p,q,r⟩:=m;obtain⟨rfl,-⟩:=n.len;obtain⟨rfl,-⟩:=o.len;obtain⟨rfl,-⟩:=p.len;obtain⟨rfl,-⟩:=q.len;obtain⟨rfl,-⟩:=r.len;exact⟨_,_,_,_,_,_,_,_,_,_,D⟩
theorem gC (d2:TabsS) (e4:Nat->Prop) (x:World) (T:TabsIn x e4 d2 livT) :
  Calls prog 9 #[kN d2] x λP W=>∃d3,P=.returned (kN d3)/\DocIn W (λ_=>True) d3 livT/\Cf x W:=by
 obtain⟨⟨B,eD,F⟩,⟨C,eF,K⟩,⟨E,eM,L⟩,⟨⟨n,eO,r⟩,⟨o,eP,s⟩,⟨p,eR,t⟩,⟨q,eT,u⟩⟩,⟨⟨a4,eV,aB⟩,⟨a5,eX,aD⟩,⟨a6,eZ,aF⟩,⟨a2,eH,a8⟩,⟨a3,eI,a9⟩⟩,⟨b0,eK,b1⟩⟩:=d2;have dD:TabsIn x (·<x.heap.size) _ livT:=TabsIn.good.mono T (λ_ Y _=>Y);obtain⟨rfl,-⟩:=T.rl.len;obtain⟨rfl,-⟩:=T.tk.len;obtain⟨rfl,-⟩:=T.dr.len;obtain⟨rfl,-⟩:=T.lx.r.len;obtain⟨rfl,-⟩:=T.lx.c.len;obtain⟨rfl,-⟩:=T.lx.n.len;obtain⟨rfl,-⟩:=T.lx.e.len;obtain⟨rfl,-⟩:=T.nt.st.len;obtain⟨rfl,-⟩:=T.nt.s.len;obtain⟨rfl,-⟩:=T.nt.p.len;obtain⟨rfl,-⟩:=T.nt.q.len;obtain⟨rfl,-⟩:=T.nt.d.len;obtain⟨rfl,-⟩:=T.lk.len;clear T;obtain⟨aT,b3⟩:=rK ((x.alloc (.cells #[.slice B 1 F,.slice C 0 K,.slice E 0 L,.slice n 0 r,.slice o 0 s,.slice p 1 t,.slice q 1 u,.slice a4 2 aB,.slice a5 1 aD,.slice a6 1 aF,.slice a2 0 a8,.slice a3 0 a9,.slice b0 0 b1] 34)).alloc (.cells #[.slice none 0 0,.slice none 0 0,.slice none 0 0,.slice none 0 0,.slice none 0 0,.slice none 0 0,.slice none 0 0,.slice none 0 0,.slice none 0 0,.slice none 0 0,.slice none 0 0,.slice none 0 0,.slice none 0 0] 43));obtain⟨a7,cK⟩:=rK (x.heap.size+1);have cS:G (Cf x aT):=V (by rw[b3];exact ((J.refl _ x).alloc _).alloc _);have aZ:G (a7=x.heap.size+1/\aT.heap.size=x.heap.size+2):=V ⟨cK,by rw[b3];simp⟩;have d6:G (∀aM w,([.slice B 1 F,.slice C 0 K,.slice E 0 L,.slice n 0 r,.slice o 0 s,.slice p 1 t,.slice q 1 u,.slice a4 2 aB,.slice a5 1 aD,.slice a6 1 aF,.slice a2 0 a8,.slice a3 0 a9,.slice b0 0 b1]:List Value)[aM]?=some w->aT.cell? ⟨x.heap.size,aM,none⟩=some w):=V (λaM w d1=>by
  rw[b3];exact yL _ (zG _ rfl (by rw[<-Aw];exact d1)))
 have e2:G (R13 a7 aT tC):=V (by
  have P:a7=(x.alloc (.cells #[.slice B 1 F,.slice C 0 K,.slice E 0 L,.slice n 0 r,.slice o 0 s,.slice p 1 t,.slice q 1 u,.slice a4 2 aB,.slice a5 1 aD,.slice a6 1 aF,.slice a2 0 a8,.slice a3 0 a9,.slice b0 0 b1] 34)).heap.size:=by rw[cK];simp
  rw[b3,P];exact R13.made tC _)
 have d4:G (∀cZ,J (λv=>x.heap.size<=v) x cZ->TabsIn cZ (·<x.heap.size) ⟨(B,1,F),(C,0,K),(E,0,L),⟨(n,0,r),(o,0,s),(p,1,t),(q,1,u)⟩,⟨(a4,2,aB),(a5,1,aD),(a6,1,aF),(a2,0,a8),(a3,0,a9)⟩,(b0,0,b1)⟩ livT):=V (λcZ aY=>TabsIn.good.chg dD aY (λaX Y P=>H));clear dD;show Calls prog 9 #[.agg #[.slice B 1 F,.slice C 0 K,.slice E 0 L,.slice n 0 r,.slice o 0 s,.slice p 1 t,.slice q 1 u,.slice a4 2 aB,.slice a5 1 aD,.slice a6 1 aF,.slice a2 0 a8,.slice a3 0 a9,.slice b0 0 b1]] x _;go_enter func9,ntmps9
 go_upto_region 1 with fail
 rw[<-b3,<-cK];clear b3 cK
 go_cut [3] (λcP W=>∃m c h d i e j a f b g,cP=.pointer (some ⟨m,0,none⟩)/\R13 m W [.slice B 1 F,.slice C 0 K,.slice E 0 L,.slice n 0 r,.slice o 0 s,.slice p 1 t,.slice q 1 u,.slice c 2 h,.slice d 1 i,.slice e 1 j,.slice a 0 f,.slice b 0 g,.slice none 0 0]/\DNetIn W (λv=>¬v=a7) ⟨(c,2,h),(d,1,i),(e,1,j),(a,0,f),(b,0,g)⟩ livT.nt/\Cf aT W/\aT.heap.size<=m)
 .refine rD 15 (λb4=>decide (b4=14)) ?_;intro y aV l;have a0:G (∀z,Cf y z->∀aM w,([.slice B 1 F,.slice C 0 K,.slice E 0 L,.slice n 0 r,.slice o 0 s,.slice p 1 t,.slice q 1 u,.slice a4 2 aB,.slice a5 1 aD,.slice a6 1 aF,.slice a2 0 a8,.slice a3 0 a9,.slice b0 0 b1]:List Value)[aM]?=some w->z.cell? ⟨x.heap.size,aM,none⟩=some w):=V (λz aY aM w d1=>(aV.o.trans aY).cellS (d6.o aM w d1) iD);have d5:G (∀z,Calls prog 22 #[.agg #[.slice n 0 r,.slice o 0 s,.slice p 1 t,.slice q 1 u]] z λP W=>P=.returned (.agg #[.slice n 0 r,.slice o 0 s,.slice p 1 t,.slice q 1 u])/\Cf z W):=V (λz=>Gg _ _ _ _ _ _ _ _ _ _ _ _ z);have cX:G (∀z,Cf y z->Calls prog 23 #[.agg #[.slice a4 2 aB,.slice a5 1 aD,.slice a6 1 aF,.slice a2 0 a8,.slice a3 0 a9]] z λP W=>∃c h d i e j a f b g,P=.returned (.agg #[.slice c 2 h,.slice d 1 i,.slice e 1 j,.slice a 0 f,.slice b 0 g])/\DNetIn W (λv=>v<x.heap.size\/z.heap.size<=v) ⟨(c,2,h),(d,1,i),(e,1,j),(a,0,f),(b,0,g)⟩ livT.nt/\Cf z W):=V (λz aY=>(Gh livT.nt ⟨(a4,2,aB),(a5,1,aD),(a6,1,aF),(a2,0,a8),(a3,0,a9)⟩ (·<x.heap.size) z (d4.o z ((cS.o.trans aV.o).trans aY).any).nt nS.nt).mono (by
   rintro P W ⟨d3,rfl,N,k⟩;obtain⟨c,h,d,i,e,j,a,f,b,g,rfl⟩:=N.len;exact⟨c,h,d,i,e,j,a,f,b,g,rfl,N,k⟩))
  have cV:G (∀(z:World) (m:Nat) c h d i e j a f b g,R13 m z tC->y.heap.size<=m->Cf y z->DNetIn z (λv=>¬v=m/\¬v=a7) ⟨(c,2,h),(d,1,i),(e,1,j),(a,0,f),(b,0,g)⟩ livT.nt->R13 m (xC m 0 [.slice B 1 F,.slice C 0 K,.slice E 0 L,.slice n 0 r,.slice o 0 s,.slice p 1 t,.slice q 1 u,.slice c 2 h,.slice d 1 i,.slice e 1 j,.slice a 0 f,.slice b 0 g,.slice none 0 0] z) [.slice B 1 F,.slice C 0 K,.slice E 0 L,.slice n 0 r,.slice o 0 s,.slice p 1 t,.slice q 1 u,.slice c 2 h,.slice d 1 i,.slice e 1 j,.slice a 0 f,.slice b 0 g,.slice none 0 0]/\DNetIn (xC m 0 [.slice B 1 F,.slice C 0 K,.slice E 0 L,.slice n 0 r,.slice o 0 s,.slice p 1 t,.slice q 1 u,.slice c 2 h,.slice d 1 i,.slice e 1 j,.slice a 0 f,.slice b 0 g,.slice none 0 0] z) (λv=>¬v=a7) ⟨(c,2,h),(d,1,i),(e,1,j),(a,0,f),(b,0,g)⟩ livT.nt/\Cf aT (xC m 0 [.slice B 1 F,.slice C 0 K,.slice E 0 L,.slice n 0 r,.slice o 0 s,.slice p 1 t,.slice q 1 u,.slice c 2 h,.slice d 1 i,.slice e 1 j,.slice a 0 f,.slice b 0 g,.slice none 0 0] z)/\aT.heap.size<=m):=V (λz m c h d i e j a f b g b2 d0 k N=>by
   obtain⟨e6,d9⟩:=b2.set [.slice B 1 F,.slice C 0 K,.slice E 0 L,.slice n 0 r,.slice o 0 s,.slice p 1 t,.slice q 1 u,.slice c 2 h,.slice d 1 i,.slice e 1 j,.slice a 0 f,.slice b 0 g,.slice none 0 0] rfl;have:=aV.o.size;exact⟨e6,DNetIn.good.mono (DNetIn.good.chg N d9 (λaX Y P=>Y.1 P)) (λ_ _ Y=>Y.2),(aV.o.trans k).trans2 d9 (λv e8 P=>H),H⟩)
  refine lq 0 l.o ?_;(refine lf 1 l.o (λ_ S=>a0.o _ S 0 _ rfl) ?_);refine lq 2 l.o ?_;(refine lf 3 l.o (λ_ S=>a0.o _ S 1 _ rfl) ?_);refine lq 4 l.o ?_;(refine lf 5 l.o (λ_ S=>a0.o _ S 2 _ rfl) ?_);refine lq 6 l.o ?_;(refine lq 7 l.o ?_ (hr:=by intro W S;have f3:=a0.o _ S 3 _ rfl;have f4:=a0.o _ S 4 _ rfl;have f5:=a0.o _ S 5 _ rfl;have f6:=a0.o _ S 6 _ rfl;go_simp;try with_reducible rfl));refine lq 9 l.o ?_;(refine lq 10 l.o ?_ (hr:=by intro W S;have f7:=a0.o _ S 7 _ rfl;have f8:=a0.o _ S 8 _ rfl;have f9:=a0.o _ S 9 _ rfl;have f1:=a0.o _ S 10 _ rfl;have f2:=a0.o _ S 11 _ rfl;go_simp;try with_reducible rfl));refine tw (i:=8) (j:=13) M rfl rfl rfl rfl 22 #[.agg #[.slice n 0 r,.slice o 0 s,.slice p 1 t,.slice q 1 u]] (λw R=>w=.agg #[.slice n 0 r,.slice o 0 s,.slice p 1 t,.slice q 1 u]/\Cf y R/\Cf y R) (by go_simp) ?_ ?_ ?_
  .exact (d5.o y).mono (by rintro P R ⟨rfl,k⟩;exact⟨_,rfl,λ_=>l.o.trans k,rfl,k,l.o.trans k⟩)
  .rintro w Z aO ⟨rfl,cB,k⟩ X Q
   have aK:=V k;have cH:=V cB;clear k cB aO;(try go_simp)
   refine Q _ ?_;clear Q X;have l:=aK;refine tw (i:=11) (j:=13) M rfl rfl rfl rfl 23 #[.agg #[.slice a4 2 aB,.slice a5 1 aD,.slice a6 1 aF,.slice a2 0 a8,.slice a3 0 a9]] (λw R=>∃c h d i e j a f b g,w=.agg #[.slice c 2 h,.slice d 1 i,.slice e 1 j,.slice a 0 f,.slice b 0 g]/\DNetIn R (λv=>v<x.heap.size\/Z.heap.size<=v) ⟨(c,2,h),(d,1,i),(e,1,j),(a,0,f),(b,0,g)⟩ livT.nt/\Cf Z R) (by go_simp) ?_ ?_ ?_
   .exact (cX.o Z aK.o).mono (by rintro P R ⟨c,h,d,i,e,j,a,f,b,g,rfl,N,k⟩;exact⟨_,rfl,λ_=>aK.o.trans k,c,h,d,i,e,j,a,f,b,g,rfl,N,k⟩)
   .rintro w A aO ⟨c,h,d,i,e,j,a,f,b,g,rfl,N,k⟩ X Q
    have c9:=V N;have aR:G (Cf Z A/\Cf y A):=V ⟨k,aK.o.trans k⟩;clear N k aO;(try go_simp)
    refine Q _ ?_;clear Q X;have l:G (Cf y A):=V aR.o.2;refine lq 12 l.o ?_;refine lt 13 (λ_=>l.o.alloc _) ?_
    obtain⟨a1,aI⟩:=rM (A.alloc (.cells #[.slice none 0 0,.slice none 0 0,.slice none 0 0,.slice none 0 0,.slice none 0 0,.slice none 0 0,.slice none 0 0,.slice none 0 0,.slice none 0 0,.slice none 0 0,.slice none 0 0,.slice none 0 0,.slice none 0 0] 43));obtain⟨m,aH⟩:=rK A.heap.size;have O:G (R13 m a1 tC/\Cf A a1/\m=A.heap.size/\a1.heap.size=m+1/\y.heap.size<=m):=V (by have:=l.o.size;rw[<-aI,aH];exact⟨R13.made tC _,rT,rfl,sI,H⟩);rw[aI,<-aH];clear aI aH;have l:G (Cf y a1):=V (l.o.trans O.o.2.1);have aP:=V (cV.o a1 m c h d i e j a f b g O.o.1 O.o.2.2.2.2 l.o (DNetIn.good.mono (DNetIn.good.chg (DNetIn.good.mono c9.o (S':=λv=>v<A.heap.size/\¬v=a7) (λaX e9 Y=>⟨e9,by have:=aZ.o;have:=aV.o.size;have:=aK.o.size;omega⟩)) O.o.2.1 iF) (λaX _ Y=>by have:=O.o.2.2.1;omega)));obtain⟨⟨b6,b7,bD,bF,bH,bI,bK,bM,bO,bP,b8,b9,bB⟩,bT,bV,c1,c2,c3,c4,c5,c6,c7,c8,bX,bZ,c0⟩:=R13.all O.o.1;obtain⟨dZ,U⟩:=rK (xC m 0 [.slice B 1 F,.slice C 0 K,.slice E 0 L,.slice n 0 r,.slice o 0 s,.slice p 1 t,.slice q 1 u,.slice c 2 h,.slice d 1 i,.slice e 1 j,.slice a 0 f,.slice b 0 g,.slice none 0 0] a1);rw[<-U]at aP;simp only[xC,Ax,Nat.reduceAdd]at U;have cA:=V U;clear U;refine ld 14 ?_;refine zQ M ?_ _;rw[<-cA.o];clear b6 bT b7 bV bD c1 bF c2 bH c3 bI c4 bK c5 bM c6 bO c7 bP c8 b8 bX b9 bZ bB c0;go_wp2;go_meet
    exact⟨m,c,h,d,i,e,j,a,f,b,g,rfl,aP.o⟩
   intro X Q
   apply Ay4
   apply Ay4
   refine⟨?_,?_,?_⟩
   (go_simp;try first|with_reducible rfl|exact⟨rfl,rfl⟩)
   exact λ_=>l.o.alloc _
   (try go_simp)
   refine Q _ _ ?_;clear Q X;obtain⟨A,aI⟩:=rM (Z.alloc (.cells #[.slice none 0 0,.slice none 0 0,.slice none 0 0,.slice none 0 0,.slice none 0 0,.slice none 0 0,.slice none 0 0,.slice none 0 0,.slice none 0 0,.slice none 0 0,.slice none 0 0,.slice none 0 0,.slice none 0 0] 43));obtain⟨m,aH⟩:=rK Z.heap.size;have O:G (R13 m A tC/\Cf Z A/\m=Z.heap.size/\A.heap.size=m+1/\y.heap.size<=m):=V (by have:=l.o.size;rw[<-aI,aH];exact⟨R13.made tC _,rT,rfl,sI,H⟩);rw[aI,<-aH];clear aI aH;have l:G (Cf y A):=V (l.o.trans O.o.2.1);refine zY (i:=11) M rfl rfl 23 #[.agg #[.slice a4 2 aB,.slice a5 1 aD,.slice a6 1 aF,.slice a2 0 a8,.slice a3 0 a9]] (λw R=>∃c h d i e j a f b g,w=.agg #[.slice c 2 h,.slice d 1 i,.slice e 1 j,.slice a 0 f,.slice b 0 g]/\DNetIn R (λv=>v<x.heap.size\/A.heap.size<=v) ⟨(c,2,h),(d,1,i),(e,1,j),(a,0,f),(b,0,g)⟩ livT.nt/\Cf A R) (by go_simp) ?_ ?_
   .exact (cX.o A l.o).mono (by rintro P R ⟨c,h,d,i,e,j,a,f,b,g,rfl,N,k⟩;exact⟨_,rfl,λ_=>l.o.trans k,c,h,d,i,e,j,a,f,b,g,rfl,N,k⟩)
   rintro w a1 aO ⟨c,h,d,i,e,j,a,f,b,g,rfl,N,k⟩ X Q;have c9:=V N;have aR:G (Cf A a1/\Cf y a1):=V ⟨k,l.o.trans k⟩;clear N k aO;(try go_simp)
   refine Q _ ?_;clear Q X;have l:G (Cf y a1):=V aR.o.2;refine lq 12 l.o ?_;have aP:=V (cV.o a1 m c h d i e j a f b g (O.o.1.chg aR.o.1 (by have:=O.o.2.2.2.1;omega) iD) O.o.2.2.2.2 l.o (DNetIn.good.mono c9.o (λaX _ Y=>by have:=O.o.2;have:=aZ.o;have:=aV.o.size;omega)));obtain⟨⟨b6,b7,bD,bF,bH,bI,bK,bM,bO,bP,b8,b9,bB⟩,bT,bV,c1,c2,c3,c4,c5,c6,c7,c8,bX,bZ,c0⟩:=R13.all (O.o.1.chg aR.o.1 (by have:=O.o.2.2.2.1;omega) iD);obtain⟨dZ,U⟩:=rK (xC m 0 [.slice B 1 F,.slice C 0 K,.slice E 0 L,.slice n 0 r,.slice o 0 s,.slice p 1 t,.slice q 1 u,.slice c 2 h,.slice d 1 i,.slice e 1 j,.slice a 0 f,.slice b 0 g,.slice none 0 0] a1);rw[<-U]at aP;simp only[xC,Ax,Nat.reduceAdd]at U;have cA:=V U;clear U;refine ld 14 ?_;refine zQ M ?_ _;rw[<-cA.o];clear b6 bT b7 bV bD c1 bF c2 bH c3 bI c4 bK c5 bM c6 bO c7 bP c8 b8 bX b9 bZ bB c0;go_wp2;go_meet
   exact⟨m,c,h,d,i,e,j,a,f,b,g,rfl,aP.o⟩
  intro X Q
  apply Ay4
  apply Ay4
  refine⟨?_,?_,?_⟩
  (go_simp;try first|with_reducible rfl|exact⟨rfl,rfl⟩)
  exact λ_=>l.o.alloc _
  (try go_simp)
  refine Q _ _ ?_;clear Q X;obtain⟨b5,aI⟩:=rM (y.alloc (.cells #[.slice none 0 0,.slice none 0 0,.slice none 0 0,.slice none 0 0,.slice none 0 0,.slice none 0 0,.slice none 0 0,.slice none 0 0,.slice none 0 0,.slice none 0 0,.slice none 0 0,.slice none 0 0,.slice none 0 0] 43));obtain⟨m,aH⟩:=rK y.heap.size;have O:G (R13 m b5 tC/\Cf y b5/\m=y.heap.size/\b5.heap.size=m+1/\y.heap.size<=m):=V (by have:=l.o.size;rw[<-aI,aH];exact⟨R13.made tC _,rT,rfl,sI,H⟩);rw[aI,<-aH];clear aI aH;have l:G (Cf y b5):=V (l.o.trans O.o.2.1);refine zY (i:=8) M rfl rfl 22 #[.agg #[.slice n 0 r,.slice o 0 s,.slice p 1 t,.slice q 1 u]] (λw R=>w=.agg #[.slice n 0 r,.slice o 0 s,.slice p 1 t,.slice q 1 u]/\Cf b5 R/\Cf y R) (by go_simp) ?_ ?_
  .exact (d5.o b5).mono (by rintro P R ⟨rfl,k⟩;exact⟨_,rfl,λ_=>l.o.trans k,rfl,k,l.o.trans k⟩)
  rintro w Z aO ⟨rfl,cB,k⟩ X Q;have aK:=V k;have cH:=V cB;clear k cB aO;(try go_simp)
  refine Q _ ?_;clear Q X;have l:=aK;refine zY (i:=11) M rfl rfl 23 #[.agg #[.slice a4 2 aB,.slice a5 1 aD,.slice a6 1 aF,.slice a2 0 a8,.slice a3 0 a9]] (λw R=>∃c h d i e j a f b g,w=.agg #[.slice c 2 h,.slice d 1 i,.slice e 1 j,.slice a 0 f,.slice b 0 g]/\DNetIn R (λv=>v<x.heap.size\/Z.heap.size<=v) ⟨(c,2,h),(d,1,i),(e,1,j),(a,0,f),(b,0,g)⟩ livT.nt/\Cf Z R) (by go_simp) ?_ ?_
  .exact (cX.o Z aK.o).mono (by rintro P R ⟨c,h,d,i,e,j,a,f,b,g,rfl,N,k⟩;exact⟨_,rfl,λ_=>aK.o.trans k,c,h,d,i,e,j,a,f,b,g,rfl,N,k⟩)
  rintro w A aO ⟨c,h,d,i,e,j,a,f,b,g,rfl,N,k⟩ X Q;have c9:=V N;have aR:G (Cf Z A/\Cf y A):=V ⟨k,aK.o.trans k⟩;clear N k aO;(try go_simp)
  refine Q _ ?_;clear Q X;have l:G (Cf y A):=V aR.o.2;have d8:G (R13 m A tC):=V ((O.o.1.chg cH.o (by have:=O.o.2.2.2.1;omega) iD).chg aR.o.1 (by have:=O.o.2.2.2.1;have:=cH.o.size;omega) iD);refine lq 12 l.o ?_;have aP:=V (cV.o A m c h d i e j a f b g d8.o O.o.2.2.2.2 l.o (DNetIn.good.mono c9.o (λaX _ Y=>by have:=O.o.2;have:=aZ.o;have:=aV.o.size;have:=cH.o.size;omega)));obtain⟨⟨b6,b7,bD,bF,bH,bI,bK,bM,bO,bP,b8,b9,bB⟩,bT,bV,c1,c2,c3,c4,c5,c6,c7,c8,bX,bZ,c0⟩:=R13.all d8.o;obtain⟨dZ,U⟩:=rK (xC m 0 [.slice B 1 F,.slice C 0 K,.slice E 0 L,.slice n 0 r,.slice o 0 s,.slice p 1 t,.slice q 1 u,.slice c 2 h,.slice d 1 i,.slice e 1 j,.slice a 0 f,.slice b 0 g,.slice none 0 0] A);rw[<-U]at aP;simp only[xC,Ax,Nat.reduceAdd]at U;have cA:=V U;clear U;refine ld 14 ?_;refine zQ M ?_ _;rw[<-cA.o];clear b6 bT b7 bV bD c1 bF c2 bH c3 bI c4 bK c5 bM c6 bO c7 bP c8 b8 bX b9 bZ bB c0;go_wp2;go_meet
  exact⟨m,c,h,d,i,e,j,a,f,b,g,rfl,aP.o⟩
 obtain⟨m,c,h,d,i,e,j,a,f,b,g,rfl,b2,N,k,d0⟩:=hcut;obtain⟨cD,rfl⟩:∃e5:World,e5=wc:=⟨_,rfl⟩;obtain⟨e0,e1,cF,eB⟩:=sB b2 N k d0;clear b2 N k d0;have f0:=cF.o.cellS (d6.o 12 _ rfl) iD;go_upto_region 3 with fail
 refine wp_loop_once ?_;have d7:G (R13 a7 cD tC):=V (e2.o.chg cF.o (by have:=aZ.o;omega) iD);obtain⟨dB,cI⟩:=d7.o.set [.slice B 1 F,.slice C 0 K,.slice E 0 L,.slice n 0 r,.slice o 0 s,.slice p 1 t,.slice q 1 u,.slice c 2 h,.slice d 1 i,.slice e 1 j,.slice a 0 f,.slice b 0 g,.slice none 0 0] rfl;have cT:G (DocIn (xC a7 0 [.slice B 1 F,.slice C 0 K,.slice E 0 L,.slice n 0 r,.slice o 0 s,.slice p 1 t,.slice q 1 u,.slice c 2 h,.slice d 1 i,.slice e 1 j,.slice a 0 f,.slice b 0 g,.slice none 0 0] cD) (λ_=>True) ⟨(B,1,F),(C,0,K),(E,0,L),⟨(n,0,r),(o,0,s),(p,1,t),(q,1,u)⟩,⟨(c,2,h),(d,1,i),(e,1,j),(a,0,f),(b,0,g)⟩,(none,0,0)⟩ livT/\Cf x (xC a7 0 [.slice B 1 F,.slice C 0 K,.slice E 0 L,.slice n 0 r,.slice o 0 s,.slice p 1 t,.slice q 1 u,.slice c 2 h,.slice d 1 i,.slice e 1 j,.slice a 0 f,.slice b 0 g,.slice none 0 0] cD)):=V (by
  have e7:=d4.o cD (cS.o.trans cF.o).any;have aY:=TabsIn.good.chg e7 cI (λaX Y P=>by have:=aZ.o;omega);have cO:=TabsIn.good.mono aY (S':=λ_=>True) (λ_ _ _=>trivial);refine⟨⟨cO.rl,cO.tk,cO.dr,cO.lx,DNetIn.good.mono (DNetIn.good.chg e1.o cI (λaX Y P=>Y P)) (λ_ _ _=>trivial),zL.nil _ _ _ _⟩,(cS.o.trans cF.o).trans2 cI (λv e8 P=>by have:=aZ.o;omega)⟩)
 obtain⟨⟨b6,b7,bD,bF,bH,bI,bK,bM,bO,bP,b8,b9,bB⟩,bT,bV,c1,c2,c3,c4,c5,c6,c7,c8,bX,bZ,c0⟩:=R13.all d7.o;obtain⟨⟨fB,fD,fK,fM,fO,fP,fR,fT,fV,fX,fF,fH,fI⟩,-⟩:=R13.all e0.o;obtain⟨⟨dF,dH,dO,cP,dP,dR,dT,dU,dV,dX,dI,dK,dM⟩,-⟩:=R13.all dB;obtain⟨fZ,cM⟩:=rK (xC a7 0 [.slice B 1 F,.slice C 0 K,.slice E 0 L,.slice n 0 r,.slice o 0 s,.slice p 1 t,.slice q 1 u,.slice c 2 h,.slice d 1 i,.slice e 1 j,.slice a 0 f,.slice b 0 g,.slice none 0 0] cD);rw[<-cM]at cT dF dH dO cP dP dR dT dU dV dX dI dK dM;simp only[xC,Ax,Nat.reduceAdd]at cM;have e3:=V cM;clear cM dB cI;go_wp2;rw[<-e3.o];exact bodyPost_ret (v:=.agg #[.slice B 1 F,.slice C 0 K,.slice E 0 L,.slice n 0 r,.slice o 0 s,.slice p 1 t,.slice q 1 u,.slice c 2 h,.slice d 1 i,.slice e 1 j,.slice a 0 f,.slice b 0 g,.slice none 0 0]) (by simp[results,results9,go_sem,dF,dH,dO,cP,dP,dR,dT,dU,dV,dX,dI,dK,dM]) rfl ⟨⟨(B,1,F),(C,0,K),(E,0,L),⟨(n,0,r),(o,0,s),(p,1,t),(q,1,u)⟩,⟨(c,2,h),(d,1,i),(e,1,j),(a,0,f),(b,0,g)⟩,(none,0,0)⟩,rfl,cT.o.1,cT.o.2⟩
theorem jn (a:World):Calls prog 8 #[] a λo l=>o=.returned (.bool true)/\Cf a l:=by
 have dM:=Gd a;obtain⟨b5,dP⟩:=rK (((((((((a.alloc (.cells #[.string ⟨#[97]⟩] 9)).alloc (.cells #[] 3)).alloc (.cells #[.slice (some ⟨a.heap.size+1,0,none⟩) 0 0] 25)).alloc (.cells #[.int .i64 (-1)] 3)).alloc (.cells #[.int .i64 0] 3)).alloc (.cells #[.int .i64 1] 3)).alloc (.cells #[.int .u8 0,.int .i64 0,.int .i64 1] 71)).alloc (.cells #[.int .i64 0,.slice (some ⟨a.heap.size+1+1+1+1+1+1,0,none⟩) 1 1,.slice none 0 0,.int .i64 0,.slice none 0 0,.slice none 0 0] 74)).alloc (.cells #[.slice (some ⟨a.heap.size,0,none⟩) 1 1,.slice none 0 0,.slice none 0 0,.slice none 0 0,.slice none 0 0,.slice (some ⟨a.heap.size+1+1,0,none⟩) 1 1,.slice (some ⟨a.heap.size+1+1+1,0,none⟩) 1 1,.slice (some ⟨a.heap.size+1+1+1+1+1+1+1,0,none⟩) 2 2,.slice (some ⟨a.heap.size+1+1+1+1,0,none⟩) 1 1,.slice (some ⟨a.heap.size+1+1+1+1+1,0,none⟩) 1 1,.slice none 0 0,.slice none 0 0,.slice none 0 0] 34));rw[<-dP]at dM;have cZ:=V dM;have f4:=V dP;clear dM dP;go_enter func8,ntmps8
 go_upto_region 2 with fail
 rw[<-f4.o];obtain⟨b3,d2⟩:=rK (a.heap.size+1+1+1+1+1+1+1+1);have dV:=V d2;rw[<-d2];have d9:G (∀h,Cf b5 h->∀d e,([.slice (some ⟨a.heap.size,0,none⟩) 1 1,.slice none 0 0,.slice none 0 0,.slice none 0 0,.slice none 0 0,.slice (some ⟨a.heap.size+1+1,0,none⟩) 1 1,.slice (some ⟨a.heap.size+1+1+1,0,none⟩) 1 1,.slice (some ⟨a.heap.size+1+1+1+1+1+1+1,0,none⟩) 2 2,.slice (some ⟨a.heap.size+1+1+1+1,0,none⟩) 1 1,.slice (some ⟨a.heap.size+1+1+1+1+1,0,none⟩) 1 1,.slice none 0 0,.slice none 0 0,.slice none 0 0]:List Value)[d]?=some e->h.cell? ⟨b3,d,none⟩=some e):=V (λh g d e b4=>g.cellS (by rw[d2];exact cZ.o.c d e b4) iD);have f8:G (∀h,Cf b5 h->∀d,h.frozen? ⟨b3,d,none⟩=false):=V (λh g d=>(g.frozen (p:=⟨b3,d,none⟩) (by have:=Az8 _ _ (d9.o b5 cR 0 _ D);exact this) iD).trans (by rw[d2];exact cZ.o.z d));clear d2;obtain⟨aH,aI,aP,aR,aT,aV,aX,aD,aY,aZ,aK,aM,aO⟩:=rX (d9.o b5 cR);go_wp2_with fail
 refine (Gf ⟨(some ⟨a.heap.size,0,none⟩,1,1),(none,0,0),(none,0,0),⟨(none,0,0),(none,0,0),(some ⟨a.heap.size+1+1,0,none⟩,1,1),(some ⟨a.heap.size+1+1+1,0,none⟩,1,1)⟩,⟨(some ⟨a.heap.size+1+1+1+1+1+1+1,0,none⟩,2,2),(some ⟨a.heap.size+1+1+1+1,0,none⟩,1,1),(some ⟨a.heap.size+1+1+1+1+1,0,none⟩,1,1),(none,0,0),(none,0,0)⟩,(none,0,0)⟩ _ b5 cZ.o.t).mono ?_;rintro o eH ⟨e7,e4,rfl,fB,dO⟩;have dI:=gN;have dK:(rG (uG livT)).length<=5000004:=by rw[gW];have:=livZ.2.2;omega
 obtain⟨e2,e6⟩:=rM (rG (uG livT));rw[e6]at dI dO dK ⊢;clear e6;obtain⟨f5,eP,eX,eT⟩:=sB e7 dI dO dK;clear e7 dI dO fB dK aH aI aP aR aT aV aX aD aY aZ aK aM aO;go_wp2_with fail
 refine (tr e2 (some ⟨e4,0,none⟩) e4 0 e2.length eH (eX.o.bytes (Aw8 _)) (λ_=>rfl) (Ay1 _) (by have:=eT.o;omega)).mono ?_;rintro o dR ⟨e8,fF,rfl,d6⟩;rw[eP.o]at d6 ⊢;rcases d6 with ⟨d6,-⟩|⟨fH,eF,eD⟩
 .cases d6
 obtain rfl:livT=fH:=Az2 eF;obtain⟨⟨b7,cB,bV⟩,⟨b8,cD,bX⟩,⟨bF,cK,c2⟩,⟨⟨bH,cM,c3⟩,⟨bI,cO,c4⟩,⟨bK,cP,c5⟩,⟨bM,cS,c6⟩⟩,⟨⟨bO,cT,c7⟩,⟨bP,cV,c8⟩,⟨bT,cX,c9⟩,⟨b9,cF,bZ⟩,⟨bB,cH,c0⟩⟩,⟨bD,cI,c1⟩⟩:=fF;simp only[kN,slV];have f6:=V (f5.o.trans e8);have eR:=V eD;clear e8 eD eF;obtain⟨dT,d7⟩:=rK (dR.alloc (.cells #[.slice b7 cB bV,.slice b8 cD bX,.slice bF cK c2,.slice bH cM c3,.slice bI cO c4,.slice bK cP c5,.slice bM cS c6,.slice bO cT c7,.slice bP cV c8,.slice bT cX c9,.slice b9 cF bZ,.slice bB cH c0,.slice bD cI c1] 34));have d4:G (Cf b5 dT/\Cf dR dT):=V (by rw[d7];exact⟨f6.o.alloc _,rT⟩);obtain⟨e3,dH⟩:=rK dR.heap.size;have f0:G (∀h,Cf dT h->∀d e,([.slice b7 cB bV,.slice b8 cD bX,.slice bF cK c2,.slice bH cM c3,.slice bI cO c4,.slice bK cP c5,.slice bM cS c6,.slice bO cT c7,.slice bP cV c8,.slice bT cX c9,.slice b9 cF bZ,.slice bB cH c0,.slice bD cI c1]:List Value)[d]?=some e->h.cell? ⟨e3,d,none⟩=some e):=V (λh g d e b4=>g.cellS (by rw[d7];exact zG _ dH (by rw[<-Aw];exact b4)) iD);have f1:=V d7;have eM:=V dH;clear d7 dH;go_upto_region 4 with fail
 rw[<-f1.o,<-eM.o];refine rD 18 (λ_=>false) ?_;intro b0 d0 m;have c:G (∀f,Cf b0 f->∀d e,([.slice (some ⟨a.heap.size,0,none⟩) 1 1,.slice none 0 0,.slice none 0 0,.slice none 0 0,.slice none 0 0,.slice (some ⟨a.heap.size+1+1,0,none⟩) 1 1,.slice (some ⟨a.heap.size+1+1+1,0,none⟩) 1 1,.slice (some ⟨a.heap.size+1+1+1+1+1+1+1,0,none⟩) 2 2,.slice (some ⟨a.heap.size+1+1+1+1,0,none⟩) 1 1,.slice (some ⟨a.heap.size+1+1+1+1+1,0,none⟩) 1 1,.slice none 0 0,.slice none 0 0,.slice none 0 0]:List Value)[d]?=some e->f.cell? ⟨b3,d,none⟩=some e):=V (λf g=>d9.o f ((d4.o.1.trans d0.o).trans g));have q:G (∀f,Cf b0 f->∀d e,([.slice b7 cB bV,.slice b8 cD bX,.slice bF cK c2,.slice bH cM c3,.slice bI cO c4,.slice bK cP c5,.slice bM cS c6,.slice bO cT c7,.slice bP cV c8,.slice bT cX c9,.slice b9 cF bZ,.slice bB cH c0,.slice bD cI c1]:List Value)[d]?=some e->f.cell? ⟨e3,d,none⟩=some e):=V (λf g=>f0.o f (d0.o.trans g));have dB:G (∀f,Cf b0 f->TabsIn f (λb2=>a.heap.size<=b2/\b2<a.heap.size+8) ⟨(some ⟨a.heap.size,0,none⟩,1,1),(none,0,0),(none,0,0),⟨(none,0,0),(none,0,0),(some ⟨a.heap.size+1+1,0,none⟩,1,1),(some ⟨a.heap.size+1+1+1,0,none⟩,1,1)⟩,⟨(some ⟨a.heap.size+1+1+1+1+1+1+1,0,none⟩,2,2),(some ⟨a.heap.size+1+1+1+1,0,none⟩,1,1),(some ⟨a.heap.size+1+1+1+1+1,0,none⟩,1,1),(none,0,0),(none,0,0)⟩,(none,0,0)⟩ livT):=V (λf g=>TabsIn.good.chg cZ.o.t ((d4.o.1.trans d0.o).trans g) iF);have eZ:G (∀f,Cf b0 f->TabsIn f (λb2=>eH.heap.size<=b2) ⟨(b7,cB,bV),(b8,cD,bX),(bF,cK,c2),⟨(bH,cM,c3),(bI,cO,c4),(bK,cP,c5),(bM,cS,c6)⟩,⟨(bO,cT,c7),(bP,cV,c8),(bT,cX,c9),(b9,cF,bZ),(bB,cH,c0)⟩,(bD,cI,c1)⟩ livT):=V (λf g=>TabsIn.good.chg eR.o ((d4.o.2.trans d0.o).trans g) iF);have eV:G (∀f,Cf b0 f->Calls prog 9 #[.agg #[.slice (some ⟨a.heap.size,0,none⟩) 1 1,.slice none 0 0,.slice none 0 0,.slice none 0 0,.slice none 0 0,.slice (some ⟨a.heap.size+1+1,0,none⟩) 1 1,.slice (some ⟨a.heap.size+1+1+1,0,none⟩) 1 1,.slice (some ⟨a.heap.size+1+1+1+1+1+1+1,0,none⟩) 2 2,.slice (some ⟨a.heap.size+1+1+1+1,0,none⟩) 1 1,.slice (some ⟨a.heap.size+1+1+1+1+1,0,none⟩) 1 1,.slice none 0 0,.slice none 0 0,.slice none 0 0]] f λo l=>∃(r s w x y z A B C E t u v:Option Addr) (Y Z a3 a4 a5 a6 a7 a8 a9 aB a0 a1 a2:Nat) (F K P Q R S T U W X L N O:Nat),o=.returned (.agg #[.slice r Y F,.slice s Z K,.slice w a3 P,.slice x a4 Q,.slice y a5 R,.slice z a6 S,.slice A a7 T,.slice B a8 U,.slice C a9 W,.slice E aB X,.slice t a0 L,.slice u a1 N,.slice v a2 O])/\DocIn l (λ_=>True) ⟨(r,Y,F),(s,Z,K),(w,a3,P),⟨(x,a4,Q),(y,a5,R),(z,a6,S),(A,a7,T)⟩,⟨(B,a8,U),(C,a9,W),(E,aB,X),(t,a0,L),(u,a1,N)⟩,(v,a2,O)⟩ livT/\Cf f l):=V (λf g=>(gC ⟨(some ⟨a.heap.size,0,none⟩,1,1),(none,0,0),(none,0,0),⟨(none,0,0),(none,0,0),(some ⟨a.heap.size+1+1,0,none⟩,1,1),(some ⟨a.heap.size+1+1+1,0,none⟩,1,1)⟩,⟨(some ⟨a.heap.size+1+1+1+1+1+1+1,0,none⟩,2,2),(some ⟨a.heap.size+1+1+1+1,0,none⟩,1,1),(some ⟨a.heap.size+1+1+1+1+1,0,none⟩,1,1),(none,0,0),(none,0,0)⟩,(none,0,0)⟩ _ f (dB.o f g)).mono (by
  rintro o l ⟨fD,rfl,cA,j⟩;obtain⟨⟨r,Y,F⟩,⟨s,Z,K⟩,⟨w,a3,P⟩,⟨⟨x,a4,Q⟩,⟨y,a5,R⟩,⟨z,a6,S⟩,⟨A,a7,T⟩⟩,⟨⟨B,a8,U⟩,⟨C,a9,W⟩,⟨E,aB,X⟩,⟨t,a0,L⟩,⟨u,a1,N⟩⟩,⟨v,a2,O⟩⟩:=fD;exact⟨r,s,w,x,y,z,A,B,C,E,t,u,v,Y,Z,a3,a4,a5,a6,a7,a8,a9,aB,a0,a1,a2,F,K,P,Q,R,S,T,U,W,X,L,N,O,D,cA,j⟩))
 refine lq 0 m.o ?_;refine lq 1 m.o ?_;refine lq 2 m.o ?_;refine lq 3 m.o ?_;refine lq 4 m.o ?_;refine lq 5 m.o ?_;refine lq 6 m.o ?_;(refine lq 7 m.o ?_ (hr:=by intro l b;have u0:=q.o _ b 0 _ D;have u1:=q.o _ b 1 _ D;have u2:=q.o _ b 2 _ D;have u3:=q.o _ b 3 _ D;have u4:=q.o _ b 4 _ D;have u5:=q.o _ b 5 _ D;have u6:=q.o _ b 6 _ D;have u7:=q.o _ b 7 _ D;have u8:=q.o _ b 8 _ D;have u9:=q.o _ b 9 _ D;have u10:=q.o _ b 10 _ D;have u11:=q.o _ b 11 _ D;have u12:=q.o _ b 12 _ D;go_simp;try with_reducible rfl));(refine lq 8 m.o ?_ (hr:=by intro l b;have aH:=c.o _ b 0 _ D;have aI:=c.o _ b 1 _ D;have aP:=c.o _ b 2 _ D;have aR:=c.o _ b 3 _ D;have aT:=c.o _ b 4 _ D;have aV:=c.o _ b 5 _ D;have aX:=c.o _ b 6 _ D;have aD:=c.o _ b 7 _ D;have aY:=c.o _ b 8 _ D;have aZ:=c.o _ b 9 _ D;have aK:=c.o _ b 10 _ D;have aM:=c.o _ b 11 _ D;have aO:=c.o _ b 12 _ D;go_simp;try with_reducible rfl));refine zY (i:=9) M D D 9 #[.agg #[.slice (some ⟨a.heap.size,0,none⟩) 1 1,.slice none 0 0,.slice none 0 0,.slice none 0 0,.slice none 0 0,.slice (some ⟨a.heap.size+1+1,0,none⟩) 1 1,.slice (some ⟨a.heap.size+1+1+1,0,none⟩) 1 1,.slice (some ⟨a.heap.size+1+1+1+1+1+1+1,0,none⟩) 2 2,.slice (some ⟨a.heap.size+1+1+1+1,0,none⟩) 1 1,.slice (some ⟨a.heap.size+1+1+1+1+1,0,none⟩) 1 1,.slice none 0 0,.slice none 0 0,.slice none 0 0]] (λe l=>∃(r s w x y z A B C E t u v:Option Addr) (Y Z a3 a4 a5 a6 a7 a8 a9 aB a0 a1 a2:Nat) (F K P Q R S T U W X L N O:Nat),e=.agg #[.slice r Y F,.slice s Z K,.slice w a3 P,.slice x a4 Q,.slice y a5 R,.slice z a6 S,.slice A a7 T,.slice B a8 U,.slice C a9 W,.slice E aB X,.slice t a0 L,.slice u a1 N,.slice v a2 O]/\DocIn l (λ_=>True) ⟨(r,Y,F),(s,Z,K),(w,a3,P),⟨(x,a4,Q),(y,a5,R),(z,a6,S),(A,a7,T)⟩,⟨(B,a8,U),(C,a9,W),(E,aB,X),(t,a0,L),(u,a1,N)⟩,(v,a2,O)⟩ livT/\Cf b0 l) (by go_simp) ?_ ?_
 .exact (eV.o b0 cR).mono (by
   rintro o l ⟨r,s,w,x,y,z,A,B,C,E,t,u,v,Y,Z,a3,a4,a5,a6,a7,a8,a9,aB,a0,a1,a2,F,K,P,Q,R,S,T,U,W,X,L,N,O,rfl,cA,j⟩;exact⟨_,D,λ_=>j,r,s,w,x,y,z,A,B,C,E,t,u,v,Y,Z,a3,a4,a5,a6,a7,a8,a9,aB,a0,a1,a2,F,K,P,Q,R,S,T,U,W,X,L,N,O,D,cA,j⟩)
 rintro e eI d3 ⟨r,s,w,x,y,z,A,B,C,E,t,u,v,Y,Z,a3,a4,a5,a6,a7,a8,a9,aB,a0,a1,a2,F,K,P,Q,R,S,T,U,W,X,L,N,O,rfl,cA,j⟩ d1 b1;have eO:=V cA;have dD:=V j;clear cA j d3;(try go_simp)
 refine b1 _ ?_;clear b1 d1;refine zY (i:=10) M D D 15 #[.agg #[.slice b7 cB bV,.slice b8 cD bX,.slice bF cK c2,.slice bH cM c3,.slice bI cO c4,.slice bK cP c5,.slice bM cS c6,.slice bO cT c7,.slice bP cV c8,.slice bT cX c9,.slice b9 cF bZ,.slice bB cH c0,.slice bD cI c1],.agg #[.slice r Y F,.slice s Z K,.slice w a3 P,.slice x a4 Q,.slice y a5 R,.slice z a6 S,.slice A a7 T,.slice B a8 U,.slice C a9 W,.slice E aB X,.slice t a0 L,.slice u a1 N,.slice v a2 O]] (λe l=>e=.bool true/\Cf b0 l) (by go_simp) ?_ ?_
 .refine (jm livT ⟨(b7,cB,bV),(b8,cD,bX),(bF,cK,c2),⟨(bH,cM,c3),(bI,cO,c4),(bK,cP,c5),(bM,cS,c6)⟩,⟨(bO,cT,c7),(bP,cV,c8),(bT,cX,c9),(b9,cF,bZ),(bB,cH,c0)⟩,(bD,cI,c1)⟩ ⟨(r,Y,F),(s,Z,K),(w,a3,P),⟨(x,a4,Q),(y,a5,R),(z,a6,S),(A,a7,T)⟩,⟨(B,a8,U),(C,a9,W),(E,aB,X),(t,a0,L),(u,a1,N)⟩,(v,a2,O)⟩ _ _ eI (eZ.o eI dD.o) eO.o nS).mono ?_
  rintro o l ⟨rfl,j⟩;exact⟨_,D,λ_=>dD.o.trans j,D,dD.o.trans j⟩
 rintro e eK d3 ⟨rfl,j⟩ d1 b1;have d5:=V j;clear j d3;(try go_simp)
 refine b1 _ ?_;clear b1 d1;have m:=d5;refine lq 11 m.o ?_;refine lq 12 m.o ?_;refine lq 13 m.o ?_;(refine lq 14 m.o ?_ (hr:=by intro l b;have aH:=c.o _ b 0 _ D;have aI:=c.o _ b 1 _ D;have aP:=c.o _ b 2 _ D;have aR:=c.o _ b 3 _ D;have aT:=c.o _ b 4 _ D;have aV:=c.o _ b 5 _ D;have aX:=c.o _ b 6 _ D;have aD:=c.o _ b 7 _ D;have aY:=c.o _ b 8 _ D;have aZ:=c.o _ b 9 _ D;have aK:=c.o _ b 10 _ D;have aM:=c.o _ b 11 _ D;have aO:=c.o _ b 12 _ D;go_simp;try with_reducible rfl));refine zY (i:=15) M D D 12 #[.agg #[.slice (some ⟨a.heap.size,0,none⟩) 1 1,.slice none 0 0,.slice none 0 0,.slice none 0 0,.slice none 0 0,.slice (some ⟨a.heap.size+1+1,0,none⟩) 1 1,.slice (some ⟨a.heap.size+1+1+1,0,none⟩) 1 1,.slice (some ⟨a.heap.size+1+1+1+1+1+1+1,0,none⟩) 2 2,.slice (some ⟨a.heap.size+1+1+1+1,0,none⟩) 1 1,.slice (some ⟨a.heap.size+1+1+1+1+1,0,none⟩) 1 1,.slice none 0 0,.slice none 0 0,.slice none 0 0]] (λe l=>e=.bool true/\Cf b0 l) (by go_simp) ?_ ?_
 .refine (dz livT ⟨(some ⟨a.heap.size,0,none⟩,1,1),(none,0,0),(none,0,0),⟨(none,0,0),(none,0,0),(some ⟨a.heap.size+1+1,0,none⟩,1,1),(some ⟨a.heap.size+1+1+1,0,none⟩,1,1)⟩,⟨(some ⟨a.heap.size+1+1+1+1+1+1+1,0,none⟩,2,2),(some ⟨a.heap.size+1+1+1+1,0,none⟩,1,1),(some ⟨a.heap.size+1+1+1+1+1,0,none⟩,1,1),(none,0,0),(none,0,0)⟩,(none,0,0)⟩ _ eK (dB.o eK d5.o) nS).mono ?_
  rintro o l ⟨rfl,j⟩;exact⟨_,D,λ_=>d5.o.trans j,by rw[ei],d5.o.trans j⟩
 rintro e k d3 ⟨rfl,j⟩ d1 b1;have n:=V j;clear j d3;(try go_simp)
 refine b1 _ ?_;clear b1 d1;have m:=n;refine lq 16 m.o ?_;refine lq 17 m.o ?_;refine zQ M ?_ _;have dZ:G (Cf b5 k):=V ((d4.o.1.trans d0.o).trans n.o);have aH:=c.o k n.o 0 _ D;have aI:=c.o k n.o 1 _ D;have aP:=c.o k n.o 2 _ D;have aR:=c.o k n.o 3 _ D;have aT:=c.o k n.o 4 _ D;have aV:=c.o k n.o 5 _ D;have aX:=c.o k n.o 6 _ D;have aD:=c.o k n.o 7 _ D;have aY:=c.o k n.o 8 _ D;have aZ:=c.o k n.o 9 _ D;have aK:=c.o k n.o 10 _ D;have aM:=c.o k n.o 11 _ D;have aO:=c.o k n.o 12 _ D;have fI:=f8.o k dZ.o 7;obtain⟨b6,d8⟩:=rK (k.setCell ⟨b3,7,none⟩ (.slice none 0 0));have e1:G (J (·=b3) k b6):=V (by rw[d8];exact zA _ _ _ _);have dX:G (∀h,Cf b6 h->∀d e,([.slice (some ⟨a.heap.size,0,none⟩) 1 1,.slice none 0 0,.slice none 0 0,.slice none 0 0,.slice none 0 0,.slice (some ⟨a.heap.size+1+1,0,none⟩) 1 1,.slice (some ⟨a.heap.size+1+1+1,0,none⟩) 1 1,.slice none 0 0,.slice (some ⟨a.heap.size+1+1+1+1,0,none⟩) 1 1,.slice (some ⟨a.heap.size+1+1+1+1+1,0,none⟩) 1 1,.slice none 0 0,.slice none 0 0,.slice none 0 0]:List Value)[d]?=some e->h.cell? ⟨b3,d,none⟩=some e):=V (λh g d e b4=>g.cellS (by
  rw[d8];by_cases e5:d=7
  .subst e5
   obtain rfl:=Az2 b4;exact Az9 _ _ _ aD
  rw[Ay0 _ _ _ _ (by intro o;injection o with _ o;exact e5 o.symm)]
  refine c.o k n.o d e ?_;have f9:=(Az0.1 b4).1;simp only[Ax2,Aw6]at f9;rcases (by omega:d=0\/d=1\/d=2\/d=3\/d=4\/d=5\/d=6\/d=8\/d=9\/d=10\/d=11\/d=12) with rfl|rfl|rfl|rfl|rfl|rfl|rfl|rfl|rfl|rfl|rfl|rfl <;> exact b4) iD)
 have e0:G (∀h,Cf b6 h->TabsIn h (λb2=>a.heap.size<=b2/\b2<a.heap.size+8) ⟨(some ⟨a.heap.size,0,none⟩,1,1),(none,0,0),(none,0,0),⟨(none,0,0),(none,0,0),(some ⟨a.heap.size+1+1,0,none⟩,1,1),(some ⟨a.heap.size+1+1+1,0,none⟩,1,1)⟩,⟨(none,0,0),(some ⟨a.heap.size+1+1+1+1,0,none⟩,1,1),(some ⟨a.heap.size+1+1+1+1+1,0,none⟩,1,1),(none,0,0),(none,0,0)⟩,(none,0,0)⟩ livN):=V (λh g=>by
  have aF:=TabsIn.good.chg (TabsIn.good.chg (dB.o k n.o) e1.o (λfM fO o=>by have:=dV.o;omega)) g iF;exact⟨aF.rl,aF.tk,aF.dr,aF.lx,⟨⟨[],Elt.InS.nil' _,D,λd f fK g=>by simp at g⟩,aF.nt.s,aF.nt.p,aF.nt.q,aF.nt.d⟩,aF.lk⟩)
 have f3:G (Cf a b6):=V ((cZ.o.h.trans dZ.o).trans2 e1.o (λb2 fP o=>by have:=dV.o;omega));have f2:=V d8;clear d8;go_upto_region 7 with fail
 rw[<-f2.o];clear fI aH aI aP aR aT aV aX aD aY aZ aK aM aO;obtain⟨aH,aI,aP,aR,aT,aV,aX,aD,aY,aZ,aK,aM,aO⟩:=rX (dX.o b6 cR);go_wp2_with fail
 refine (bE ⟨(some ⟨a.heap.size,0,none⟩,1,1),(none,0,0),(none,0,0),⟨(none,0,0),(none,0,0),(some ⟨a.heap.size+1+1,0,none⟩,1,1),(some ⟨a.heap.size+1+1+1,0,none⟩,1,1)⟩,⟨(none,0,0),(some ⟨a.heap.size+1+1+1+1,0,none⟩,1,1),(some ⟨a.heap.size+1+1+1+1+1,0,none⟩,1,1),(none,0,0),(none,0,0)⟩,(none,0,0)⟩ _ b6 (e0.o b6 cR)).mono ?_;rintro o dU ⟨rfl,e9⟩;have dF:=V e9;clear e9 aH aI aP aR aT aV aX aD aY aZ aK aM aO;obtain⟨aH,aI,aP,aR,aT,aV,aX,aD,aY,aZ,aK,aM,aO⟩:=rX (dX.o dU dF.o);go_wp2_with fail
 refine (dz livN ⟨(some ⟨a.heap.size,0,none⟩,1,1),(none,0,0),(none,0,0),⟨(none,0,0),(none,0,0),(some ⟨a.heap.size+1+1,0,none⟩,1,1),(some ⟨a.heap.size+1+1+1,0,none⟩,1,1)⟩,⟨(none,0,0),(some ⟨a.heap.size+1+1+1+1,0,none⟩,1,1),(some ⟨a.heap.size+1+1+1+1+1,0,none⟩,1,1),(none,0,0),(none,0,0)⟩,(none,0,0)⟩ _ dU (e0.o dU dF.o) tv).mono ?_;rintro o fR ⟨rfl,eB⟩;rw[tu];have f7:=V ((f3.o.trans dF.o).trans eB);clear eB aH aI aP aR aT aV aX aD aY aZ aK aM aO;go_wp2;go_ret
 exact⟨D,f7.o⟩
theorem Gi (a:List Int) (d:Option Addr) (e f g:Nat) (c:World) (j:BytesAt c e f a) (i:0<a.length->d=some ⟨e,f,none⟩) (p:a.length<=1000000000) :
  Calls prog 17 #[.slice d a.length g] c λh k=>∃b,h=.returned (.slice (some ⟨b,0,none⟩) a.length (a.length+2))/\c.heap.size<=b/\Row k b (a++[195,195])/\Cf c k:=by
 have l:=V (uz a (195) d e f g c j i (by constructor <;> omega) p);clear j i;go_enter func17,ntmps17
 go_wp2_with fail
 refine l.o.mono ?_;rintro h q ⟨b,rfl,m,n,o⟩;go_wp2;go_ret
 exact⟨b,D,m,n,o⟩
theorem Gj (b a:List Int) (d:Option Addr) (f e g h:Nat) (c:World) (k:Row c f (a++[195,195])) (l:BytesAt c e g b) (j:0<b.length->d=some ⟨e,g,none⟩) (o:a.length<=1000000000) :
  Calls prog 20 #[.slice (some ⟨f,0,none⟩) a.length (a.length+2),.slice d b.length h] c λi p=>i=.returned (.bool (decide (a=b)))/\Cf c p:=by
 have m:=V (va b a (195) d f e g h c k l j o);clear k l j;go_enter func20,ntmps20
 go_wp2_with fail
 refine m.o.mono ?_;rintro i q ⟨rfl,n⟩;go_wp2;go_ret
 exact⟨D,n⟩
theorem Row.set1 (b:Row w a X) {e:Nat}(i:e<X.length) {v:Int}(l:Byte v):Row (w.setCell ⟨a,e,none⟩ (.int .u8 v)) a (X.set e v):=by
 refine⟨λc f d=>?_,λc=>(Az3 _ _ _ _).trans (b.z c),Ay9 b.lt (zA _ _ _ _).size,λf k=>?_⟩
 .by_cases h:c=e
  .subst h
   rw[Aw7 i]at d;obtain rfl:=Az2 d;exact Az9 _ _ _ (b.c c _ (Az4 i))
  rw[Av5 (Ne.symm h)]at d
  rw[Ay0 _ _ _ _ (by intro g;injection g with _ g;exact h g.symm)];exact b.c c f d
 rcases List.mem_or_eq_of_mem_set k with j|rfl
 .exact b.byte f j
 exact l
theorem Gk (a:List Int) (f:Option Addr) (b h i:Nat) (d:World) (o:BytesAt d b h a) (l:0<a.length->f=some ⟨b,h,none⟩) (s:a.length<=10000000) :
  Calls prog 16 #[.slice f a.length i] d λj p=>∃(b:Nat) (c:List Int),j=.returned (.slice (some ⟨b,0,none⟩) (rG a).length c.length)/\BytesAt p b 0 (rG a)/\(rG a).length<=c.length/\Cf d p:=by
 have H:=V (tm a f b h i d o l s);clear o l;go_enter func16,ntmps16
 go_wp2_with fail
 refine H.out.mono ?_;rintro j q ⟨u,rfl,t,m⟩;rcases t with ⟨-,r⟩|⟨k,c,rfl,-,n,g,-⟩
 .have:=gW a
  rw[r]at this;simp at this
 have e:G (BytesAt q k 0 (rG a)/\(rG a).length<=c.length/\Cf d q):=V ⟨n.bytes g,g.length_le,m⟩;clear n g m;go_wp2;go_ret
 exact⟨k,c,D,e.o.1,e.o.2.1,e.o.2.2⟩
theorem Gl (a:(getR X).2=none):¬(getR X).1=0:=by
 unfold getR at a ⊢;by_cases b:X.length<4
 .rw[if_pos b];simp
 rw[if_neg b]at a ⊢
 by_cases c:X.drop (X.length-4)=kG (ofI (X.take (X.length-4)))
 .rw[if_pos c]at a ⊢
  cases d:sS (X.take (X.length-4)) with
  | none=>simp[getB]
  | some e=>rw[d]at a;cases a
 rw[if_neg c];simp
theorem Gm {d:TabsD}(h:∀b∈X,Byte b) (a:(getR X).2=some d):(getR X).1=0/\FairTabs d:=by
 unfold getR at a ⊢;by_cases e:X.length<4
 .rw[if_pos e]at a;cases a
 rw[if_neg e]at a ⊢
 by_cases f:X.drop (X.length-4)=kG (ofI (X.take (X.length-4)))
 .rw[if_pos f]at a ⊢
  cases c:sS (X.take (X.length-4)) with
  | none=>rw[c]at a;cases a
  | some i =>
   rw[c]at a;obtain rfl:i=d:=Az2 a;exact⟨D,(Ga (λb g=>h b (Av8 g)) c).2.2⟩
 rw[if_neg f]at a;cases a
def nilD:TabsD:=⟨[],[],[],⟨[],[],[],[]⟩,⟨[],[],[],[],[]⟩,[]⟩
theorem tx (w:World) (S:Nat->Prop):TabsIn w S nilT nilD/\DocIn w S nilT nilD :=
 ⟨⟨.nil _ _ _,.nil _ _ _,.nil _ _ _,⟨.nil _ _ _,.nil _ _ _,zL.nil _ _ _ _,.nil _ _ _⟩,⟨zL.nil _ _ _ _,.nil _ _ _,.nil _ _ _,.nil _ _ _,.nil _ _ _⟩,zL.nil _ _ _ _⟩,
  ⟨.nil _ _ _,.nil _ _ _,.nil _ _ _,⟨.nil _ _ _,.nil _ _ _,zL.nil _ _ _ _,.nil _ _ _⟩,⟨zL.nil _ _ _ _,.nil _ _ _,.nil _ _ _,.nil _ _ _,.nil _ _ _⟩,zL.nil _ _ _ _⟩⟩
theorem Gn:FairTabs nilD:=⟨by decide +kernel,by decide +kernel,by decide +kernel,by decide +kernel,by decide +kernel,by constructor <;> decide +kernel,by constructor <;> first|decide +kernel|(simp only[stB];decide +kernel),by decide +kernel,λA h=>by cases h⟩
theorem Gp (h:List Int) (p:Option Addr) (s cF A:Nat) (gP:Bool) (d:World) (gM:BytesAt d s cF h) (fP:0<h.length->p=some ⟨s,cF,none⟩) (fV:h.length<=A) :
  Calls prog 4 #[.slice p h.length A,.bool gP] d λc d9=>c=.returned (.bool true)/\Cf d d9:=by
 obtain⟨d1,dD,f4⟩:=rZ gM fP fV;clear gM fP fV;by_cases g8:4000<h.length
 .have q:decide ((4000:Int)<(h.length:Int))=true:=decide_eq_true H
  clear g8;go_enter func4,ntmps4
  go_wp2_with fail
  refine (jn d).mono ?_;rintro c o ⟨rfl,r⟩;have cK:=V r;clear r;go_wp2;go_ret
  exact⟨rfl,cK.o⟩
 have q:decide ((4000:Int)<(h.length:Int))=false:=decide_eq_false H
 have dM:G (h.length<=4000):=V H;clear g8;go_enter func4,ntmps4
 go_upto_if 15 with fail
 clear q
 go_cut [0] from 15 to 20 (λg d9=>∃(a:List Int) (p:Option Addr) (s cF A:Nat),g=.slice p a.length A/\BytesAt d9 s cF a/\(0<a.length->p=some ⟨s,cF,none⟩)/\a.length<=A/\a.length<=5000/\Cf d d9)
 .cases gP with
  | false =>
   go_wp2;go_meet
   exact⟨h,p,s,cF,A,rfl,d1.o,dD.o,f4.o,by have:=dM.o;omega,cR⟩
  | true =>
   obtain⟨f1,d6⟩:=rK (d.alloc (.cells #[.int .u8 72,.int .u8 66,.int .u8 84,.int .u8 49] 5 (4,5)));have hI:(convert 45 45 (.slice (some ⟨d.heap.size,0,none⟩) 4 4)).run prog (d.alloc (.cells #[.int .u8 72,.int .u8 66,.int .u8 84,.int .u8 49] 5))=.ok (.slice (some ⟨d.heap.size,0,none⟩) 4 4) (d.alloc (.cells #[.int .u8 72,.int .u8 66,.int .u8 84,.int .u8 49] 5 (4,5))):=Lib.run_convert_bytes_const (P:=prog) d 45 5 #[.int .u8 72,.int .u8 66,.int .u8 84,.int .u8 49] 4 4 underlying45 underlying5;have k:BytesAt f1 d.heap.size 0 tQ:=(by rw[d6];exact gl d tQ 5 (4,5) dE);have dH:G (Cf d f1):=V (by rw[d6];exact rT);have h5:G (POwn f1 d.heap.size (.slice (some ⟨d.heap.size,0,none⟩) 4 4) tQ):=V (.inr ⟨_,rfl,Ay1 _,k.lt dE,k⟩);have dO:G (h.length+4<=4004):=V (by have:=dM.o;omega);have h1:G (∀p∈h,Byte p):=V d1.o.byte;have h8:=V d6;clear d6 k;go_wp2_with (at_builtin;rw[<-h8.o];refine pL rfl _ _ 45 rfl d.heap.size (.slice (some ⟨d.heap.size,0,none⟩) 4 4) tQ h (.slice p h.length A) rfl rfl h5.o dH.o.size (tS (d1.o.chg dH.o iE) dD.o) h1.o (by have:=dO.o;have:tQ.length=4:=rfl;omega) ?_;intro g dB gT gV)
   obtain⟨B,hD,rfl,-,-,k⟩:=gT.o.bytes (λc=>by have:=congrArg List.length c;rw[Az]at this;have:tQ.length=4:=rfl;simp only[Aw6]at *;omega);refine (Gk (tQ++h) (some ⟨B,0,none⟩) B 0 hD dB k (λ_=>rfl) (by rw[Az];have:=dO.o;have:tQ.length=4:=rfl;omega)).mono ?_;rintro c o ⟨hG,gS,rfl,fT,g9,r⟩;have gX:=V fT;have h3:=V g9;have cK:G (Cf d o):=V ((dH.o.trans2 gV.o.1 (λb d3 c=>by have hT:d.heap.size=b:=Az2 c;omega)).trans r);clear fT g9 r k hI;go_wp2;go_meet
   exact⟨rG (tQ++h),_,hG,0,gS.length,rfl,gX.o,λ_=>rfl,h3.o,by rw[gW,Az];have:=dO.o;have:tQ.length=4:=rfl;omega,cK.o⟩
 obtain⟨a,dX,B,d7,e1,rfl,gI,fR,gK,e8,g2⟩:=hcut;obtain⟨dB,rfl⟩:∃dV:World,dV=wc:=⟨_,rfl⟩;obtain⟨d0,dF,hB,cO,fF⟩:=sD gI fR gK e8 g2;clear gI fR gK e8 g2 d1 dD f4 dM;go_wp2_with fail
 refine (Gi a dX B d7 e1 dB d0.o dF.o (by have:=cO.o;omega)).mono ?_;rintro c o ⟨f,rfl,g6,k,r⟩;have cI:G (dB.heap.size<=f/\f<o.heap.size):=V ⟨g6,k.lt⟩;obtain⟨x,cK,dU⟩:=rZ k (fF.o.trans r) (d0.o.chg r iE);clear g6 k r;go_wp2_with fail
 refine (tr a (some ⟨f,0,none⟩) f 0 (a.length+2) o (x.o.bytes (List.prefix_append _ _)) (λ_=>rfl) H (by have:=cO.o;omega)).mono ?_;rintro c f0 ⟨fX,hO,rfl,j⟩;have fH:=V fX;have dI:=V j;have f7:G (∀C,getR a=(0,some C)->∀eB∈C.nt.st,∀c∈eB.2.1,0<=c.1):=V (λC gH=>by
  rcases dI.o with ⟨m,-⟩|⟨d8,m,c1⟩
  .rw[gH]at m;cases m
  rw[gH]at m
  obtain rfl:C=d8:=Az2 m;exact λeB hM c hK=>(c1.nt.kinds eB hM c hK).1)
 obtain⟨cH,e2⟩:=rM ((getR a).1);rw[e2];have cV:=V e2;clear fX j e2;obtain⟨⟨F,v,aD⟩,⟨K,Z,aF⟩,⟨Q,a3,aM⟩,⟨⟨R,a4,aO⟩,⟨S,a5,aP⟩,⟨T,a6,aR⟩,⟨U,a7,aT⟩⟩,⟨⟨W,a8,aV⟩,⟨X,a9,aX⟩,⟨Y,aB,w⟩,⟨L,a0,aH⟩,⟨N,a1,aI⟩⟩,⟨O,a2,aK⟩⟩:=hO;simp only[kN,slV];obtain⟨cS,d4⟩:=rK (f0.alloc (.cells #[.slice F v aD,.slice K Z aF,.slice Q a3 aM,.slice R a4 aO,.slice S a5 aP,.slice T a6 aR,.slice U a7 aT,.slice W a8 aV,.slice X a9 aX,.slice Y aB w,.slice L a0 aH,.slice N a1 aI,.slice O a2 aK] 34));have y:G (Cf o cS/\Cf f0 cS):=V (by rw[d4];exact⟨fH.o.alloc _,rT⟩);obtain⟨e0,e4⟩:=rK f0.heap.size;have h0:G (¬e0=f):=V (by have:=cI.o;have:=fH.o.size;omega);have fB:G (∀e,J (·=f) cS e->∀l g,([.slice F v aD,.slice K Z aF,.slice Q a3 aM,.slice R a4 aO,.slice S a5 aP,.slice T a6 aR,.slice U a7 aT,.slice W a8 aV,.slice X a9 aX,.slice Y aB w,.slice L a0 aH,.slice N a1 aI,.slice O a2 aK]:List Value)[l]?=some g->e.cell? ⟨e0,l,none⟩=some g):=V (λe n l g e7=>n.cellS (by rw[d4];exact zG _ e4 (by rw[<-Aw];exact e7)) h0.o);go_upto_region 7 with fail
 rw[<-d4,<-e4];clear d4 e4;go_wp2_with fail
 refine (Fv a dX B d7 e1 cS (dU.o.chg y.o.1 iE) dF.o hB.o (by have:=cO.o;omega) f7.o).mono ?_;rintro c cT ⟨fZ,gO,rfl,fM⟩;have dP:=V fZ;have dK:=V fM;rw[cV.o];clear fZ fM;have f3:G (∃D,TabsIn cT (λb=>o.heap.size<=b) ⟨(F,v,aD),(K,Z,aF),(Q,a3,aM),⟨(R,a4,aO),(S,a5,aP),(T,a6,aR),(U,a7,aT)⟩,⟨(W,a8,aV),(X,a9,aX),(Y,aB,w),(L,a0,aH),(N,a1,aI)⟩,(O,a2,aK)⟩ D/\DocIn cT (λb=>o.heap.size<=b) gO D/\FairTabs D/\(cH=0\/(¬cH=0/\v=0))):=V (by
  rcases dI.o with ⟨m,c1⟩|⟨C,m,c1⟩
  .rcases dK.o with ⟨-,j⟩|⟨d8,j,-⟩
   .rw[c1,j]
    refine⟨nilD,(tx _ _).1,(tx _ _).2,Gn,.inr ⟨by rw[<-cV.o];exact Gl m,?_⟩⟩;have:=congrArg (λhN:TabsS=>hN.rl.2.1) c1;exact this
   rw[m]at j;cases j
  rcases dK.o with ⟨j,-⟩|⟨d8,j,hH⟩
  .rw[m]at j;cases j
  rw[m]at j
  obtain rfl:C=d8:=Az2 j;obtain⟨t,u⟩:=Gm d0.o.byte m;exact⟨C,TabsIn.good.chg c1 (y.o.2.trans dP.o) iF,DocIn.good.mono hH (λ_ _ d3=>by show o.heap.size<=_;have:=y.o.1.size;exact Ay2 this d3),u,.inl (by rw[<-cV.o];exact t)⟩)
 obtain⟨⟨aZ,c2,bF⟩,⟨b0,t,q⟩,⟨b4,u,bM⟩,⟨⟨b5,c6,bO⟩,⟨b6,c7,bP⟩,⟨b7,c8,bT⟩,⟨b8,c9,bV⟩⟩,⟨⟨b9,cA,bX⟩,⟨bB,cB,bZ⟩,⟨bD,cD,c0⟩,⟨b1,c3,bH⟩,⟨b2,c4,bI⟩⟩,⟨b3,c5,bK⟩⟩:=gO;simp only[kN,slV];obtain⟨D,g7,g4,g5,gD⟩:=f3.o;obtain⟨i,d5⟩:=rK (cT.alloc (.cells #[.slice aZ c2 bF,.slice b0 t q,.slice b4 u bM,.slice b5 c6 bO,.slice b6 c7 bP,.slice b7 c8 bT,.slice b8 c9 bV,.slice b9 cA bX,.slice bB cB bZ,.slice bD cD c0,.slice b1 c3 bH,.slice b2 c4 bI,.slice b3 c5 bK] 43));have aY:G (Cf cS i/\Cf cT i):=V (by rw[d5];exact⟨dP.o.alloc _,rT⟩);obtain⟨dZ,e3⟩:=rK cT.heap.size;have gZ:G (¬dZ=f):=V (by have:=cI.o;have:=y.o.1.size;have:=dP.o.size;omega);have fD:G (∀e,J (·=f) i e->∀l g,([.slice aZ c2 bF,.slice b0 t q,.slice b4 u bM,.slice b5 c6 bO,.slice b6 c7 bP,.slice b7 c8 bT,.slice b8 c9 bV,.slice b9 cA bX,.slice bB cB bZ,.slice bD cD c0,.slice b1 c3 bH,.slice b2 c4 bI,.slice b3 c5 bK]:List Value)[l]?=some g->e.cell? ⟨dZ,l,none⟩=some g):=V (λe n l g e7=>n.cellS (by rw[d5];exact zG _ e3 (by rw[<-Aw];exact e7)) gZ.o);have cX:G (∀e,J (·=f) i e->TabsIn e (λb=>o.heap.size<=b) ⟨(F,v,aD),(K,Z,aF),(Q,a3,aM),⟨(R,a4,aO),(S,a5,aP),(T,a6,aR),(U,a7,aT)⟩,⟨(W,a8,aV),(X,a9,aX),(Y,aB,w),(L,a0,aH),(N,a1,aI)⟩,(O,a2,aK)⟩ D/\DocIn e (λb=>o.heap.size<=b) ⟨(aZ,c2,bF),(b0,t,q),(b4,u,bM),⟨(b5,c6,bO),(b6,c7,bP),(b7,c8,bT),(b8,c9,bV)⟩,⟨(b9,cA,bX),(bB,cB,bZ),(bD,cD,c0),(b1,c3,bH),(b2,c4,bI)⟩,(b3,c5,bK)⟩ D):=V (λe n=>⟨TabsIn.good.chg (TabsIn.good.chg g7 aY.o.2 iF) n (λs hL c=>by have:=cI.o;omega),DocIn.good.chg (DocIn.good.chg g4 aY.o.2 iF) n (λs hL c=>by have:=cI.o;omega)⟩);have f6:=V g5;have h4:=V gD;have cZ:G (∀e,J (·=f) i e->(∀l g,([.slice F v aD,.slice K Z aF,.slice Q a3 aM,.slice R a4 aO,.slice S a5 aP,.slice T a6 aR,.slice U a7 aT,.slice W a8 aV,.slice X a9 aX,.slice Y aB w,.slice L a0 aH,.slice N a1 aI,.slice O a2 aK]:List Value)[l]?=some g->e.cell? ⟨e0,l,none⟩=some g)/\∀l g,([.slice aZ c2 bF,.slice b0 t q,.slice b4 u bM,.slice b5 c6 bO,.slice b6 c7 bP,.slice b7 c8 bT,.slice b8 c9 bV,.slice b9 cA bX,.slice bB cB bZ,.slice bD cD c0,.slice b1 c3 bH,.slice b2 c4 bI,.slice b3 c5 bK]:List Value)[l]?=some g->e.cell? ⟨dZ,l,none⟩=some g):=V (λe n=>⟨fB.o e (aY.o.1.any.trans n),fD.o e n⟩);have f9:G (Row i f (a++[195,195])):=V ((x.o.chg y.o.1 iD).chg aY.o.1 iD);have hC:G (BytesAt i B d7 a):=V ((dU.o.chg y.o.1 iE).chg aY.o.1 iE);have h9:G (Cf d i):=V ((cK.o.trans y.o.1).trans aY.o.1);clear g7 g4 g5 gD f3 dI dK f7 cV fB fD x dU d0;go_upto_region 8 with fail
 rw[<-d5,<-e3];clear d5 e3;obtain⟨u0,u1,u2,u3,u4,u5,u6,u7,u8,u9,u10,u11,u12⟩:=rX ((cZ.o i cR).1);obtain⟨eD,eF,eM,eO,eP,eR,eT,eV,eX,eZ,eH,eI,eK⟩:=rX ((cZ.o i cR).2);have hE:(cH != cH)=false:=sI;go_wp2_with fail
 refine (jm D ⟨(F,v,aD),(K,Z,aF),(Q,a3,aM),⟨(R,a4,aO),(S,a5,aP),(T,a6,aR),(U,a7,aT)⟩,⟨(W,a8,aV),(X,a9,aX),(Y,aB,w),(L,a0,aH),(N,a1,aI)⟩,(O,a2,aK)⟩ ⟨(aZ,c2,bF),(b0,t,q),(b4,u,bM),⟨(b5,c6,bO),(b6,c7,bP),(b7,c8,bT),(b8,c9,bV)⟩,⟨(b9,cA,bX),(bB,cB,bZ),(bD,cD,c0),(b1,c3,bH),(b2,c4,bI)⟩,(b3,c5,bK)⟩ _ _ i (cX.o i cR).1 (cX.o i cR).2 f6.o).mono ?_;rintro c hR ⟨rfl,g0⟩;have dR:=V g0;clear g0 hE u0 u1 u2 u3 u4 u5 u6 u7 u8 u9 u10 u11 u12 eD eF eM eO eP eR eT eV eX eZ eH eI eK;go_wp2_with fail
 refine (Gj a a dX f B d7 e1 hR (f9.o.chg dR.o iD) (hC.o.chg dR.o iE) dF.o (by have:=cO.o;omega)).mono ?_;rintro c gR ⟨rfl,g1⟩;rw[show decide (a=a)=true from decide_eq_true rfl];have fI:=V (dR.o.trans g1);clear g1;have e8:=cO.o;go_wp2_with fail
 go_loopw [10] (λe9 wr=>∃(b:Nat) (z:List Int),b<=a.length/\e9=.int .i64 b/\z.length=a.length+2/\Row wr f z/\J (·=f) gR wr) (λe9 _=>a.length-(intOf e9).toNat)
 .exact⟨0,a++[195,195],H,rfl,sI,f9.o.chg fI.o iD,cR⟩
 obtain⟨b,z,d3,rfl,fO,k,g3⟩:=hrel;obtain⟨f8,x,f5⟩:=rZ fO k g3;clear fO k g3;by_cases hV:b<a.length
 .have gF:=rO b a.length
  have e6:b<z.length:=(by have:=f8.o;omega);obtain⟨f2,n⟩:∃f2,z[b]?=some f2:=⟨_,Az4 e6⟩;have hS:=x.o.c b f2 n;have w:=x.o.z b;have h7:=V (x.o.set1 (v:=7) e6 (by constructor <;> omega));have h2:G (J (·=f) gR _):=V (f5.o.trans (zA wr f b (.int .u8 7)));have h6:G ((z.set b 7).length=a.length+2):=V (by rw[Av9,f8.o]);clear n e6;go_wp2;go_roundw
  .exact⟨b+1,z.set b 7,H,GN,h6.o,h7.o,h2.o⟩
  simp[intOf];omega
 obtain rfl:b=a.length:=H
 have gF:=rP a.length;obtain⟨E,rfl⟩:∃dV:World,dV=wr:=⟨_,rfl⟩;have cM:G (J (·=f) i E):=V (fI.o.any.trans f5.o);have hA:G (Cf d E):=V (h9.o.trans2 cM.o (λb d3 c=>by have:=cI.o;have:=fF.o.size;omega));obtain⟨u0,u1,u2,u3,u4,u5,u6,u7,u8,u9,u10,u11,u12⟩:=rX ((cZ.o E cM.o).1);obtain⟨eD,eF,eM,eO,eP,eR,eT,eV,eX,eZ,eH,eI,eK⟩:=rX ((cZ.o E cM.o).2);go_wp2_with fail
 refine (jm D ⟨(F,v,aD),(K,Z,aF),(Q,a3,aM),⟨(R,a4,aO),(S,a5,aP),(T,a6,aR),(U,a7,aT)⟩,⟨(W,a8,aV),(X,a9,aX),(Y,aB,w),(L,a0,aH),(N,a1,aI)⟩,(O,a2,aK)⟩ ⟨(aZ,c2,bF),(b0,t,q),(b4,u,bM),⟨(b5,c6,bO),(b6,c7,bP),(b7,c8,bT),(b8,c9,bV)⟩,⟨(b9,cA,bX),(bB,cB,bZ),(bD,cD,c0),(b1,c3,bH),(b2,c4,bI)⟩,(b3,c5,bK)⟩ _ _ E (cX.o E cM.o).1 (cX.o E cM.o).2 f6.o).mono ?_;rintro c hW ⟨rfl,e5⟩;have fK:=V (hA.o.trans e5);have hP:=e5.cellS u0 iD;clear e5 gF u0 u1 u2 u3 u4 u5 u6 u7 u8 u9 u10 u11 u12 eD eF eM eO eP eR eT eV eX eZ eH eI eK;rcases h4.o with d2|⟨d2,hF⟩
 .subst d2
  clear hP;go_wp2_with fail
  refine (jn _).mono ?_;rintro c hQ ⟨rfl,cP⟩;have dT:=V (fK.o.trans cP);clear cP;go_wp2;go_ret
  exact⟨rfl,dT.o⟩
 subst hF
 have hU:(cH == 0)=false:=(by simpa using d2);clear d2;go_wp2_with fail
 refine (jn _).mono ?_;rintro c hQ ⟨rfl,cP⟩;have dT:=V (fK.o.trans cP);clear cP;go_wp2;go_ret
 exact⟨rfl,dT.o⟩
end Go.Proofs.YtgnpmceimpjheaaGreat
namespace Go.Proofs.YtgnpmceimpjheaaGreat
open Go.ChangeShapes Go.WideShapes Go.ChangeAt Go.RowKit Go.Deep Go.WideMaps Go.Proofs.Tryz
section
variable {H:Type}{enc:TypeId×Value->H}{W:World}
theorem Gq {l:Option Addr}{b m:Nat}{x:DataW H}{N:List MemPlace}(a:DataW.Trod enc prog W 0 (λ_=>true) true 45 (.slice l b m) x N) :
  ∃(q j:Nat) (k:List Int),b=k.length/\BytesAt W q j k/\(0<k.length->l=some ⟨q,j,none⟩)/\b<=m/\(l=none->m=0):=by
 obtain⟨Q,A⟩:=a;rcases open_ints underlying45 underlying5 M A with ⟨f,_⟩|⟨p,R,P,g,f,_,E,_,L,_,n,K⟩
 .simp[Value.cells]at f
  obtain⟨rfl,rfl,rfl⟩:=f;exact⟨0,0,[],D,⟨λc p d=>by simp at d,λa=>absurd D a⟩,λa=>by simp at a,Ay1 _,λ_=>rfl⟩
 simp[Value.cells]at f
 obtain⟨rfl,rfl,rfl⟩:=f;simp only[if_true]at L;obtain⟨w,j,O⟩:=p;have o:(g.take b).length=b:=by simp;omega
 have B:∀c e,(g.take b)[c]?=some e->c<b/\g[c]?=some e:=λc e d=>by
  have i:=(Az0.1 d).1;rw[o]at i;rw[List.getElem?_take_of_lt i]at d;exact⟨i,d⟩
 have v:0<b->O=none:=λh=>by
  have:=World.cell?_spot (n 0 oM);simpa [Addr.add] using this
 refine⟨w,j,g.take b,o.symm,⟨λc e d=>?_,λF=>?_⟩,λh=>?_,E,λa=>by cases a⟩
 .obtain⟨i,r⟩:=B c e d
  obtain rfl:=v oM;have C:=(Az0.1 r);obtain⟨s,y⟩:=C;have t:=n c s;have z:g.getD c 0=e:=(by rw[Aw5,r];rfl);rw[z]at t;have u:=bounds_u8 (K e (by rw[<-y];exact List.getElem_mem s));exact⟨by simpa only [Addr.add_lit] using t,u.1,u.2⟩
 .have h:0<b:=by
   rcases Ax6 b with a|a
   .subst a;simp at F
   exact a
  have:=Az8 _ _ (n 0 oM);simpa [Addr.add] using this
 rw[o]at h
 obtain rfl:=v h
 rfl
end
end Go.Proofs.YtgnpmceimpjheaaGreat
namespace Go.Proofs.YtgnpmceimpjheaaGreat.codesGet
open Go.ChangeShapes Go.WideShapes Go.ChangeAt Go.RowKit Go.Deep Go.WideMaps Go.Proofs.Tryz
theorem lifted (t:Os) (a3:t.Started) (H:Type) (b:TypeId×Value->H) :
  ReturnsInHanded {} checked t 4 .any (Rows.codesGetSpec.pre6 b prog f4 Rows.codesGetRow.domain false) (Rows.codesGetSpec.post b prog f4 false true false false):=by
 refine returnsInHanded_of_change (C:=checked) own a3 M func4
  (ChangeSpec.witness6 (enc:=b) (C:=checked) false ⟨#[],#[.slice none 0 0,.bool false],[]⟩ 8 M M M M) ?_
 intro a A c B aF a7 p o aI _;have f:∀(q:Nat) v w,f4.params[q]?=some v->c[q]?=some w->Value.okWide prog a .any A v w:=p;have N:=o;obtain⟨Y,aO,n,L,rfl,aK,aM⟩:=o;have m:DataW.TrodAll b prog a 0 (λ_=>true) true f4.params.toList c.toList B Y:=n;rw[params4]at m f;obtain⟨x,aT,a8,aB,Z,aP,aH,rfl,rfl,l,a1⟩:=trodAll_cons m;obtain⟨y,aV,a9,aD,a0,aR,rfl,rfl,rfl,K,a2⟩:=trodAll_cons a1;obtain⟨rfl,rfl,rfl⟩:=trodAll_nil a2;obtain rfl:c=#[x,y]:=by cases c;simp_all
 obtain⟨rfl,rfl⟩:=trodVars_none L;have r:=l;have T:∀h∈Z,h.block<a.heap.size:=by obtain⟨g,e⟩:=r;exact DataW.trod_lt g _ _ _ e
 have s:=K;have U:∀h∈a0,h.block<a.heap.size:=by obtain⟨g,e⟩:=s;exact DataW.trod_lt g _ _ _ e
 obtain⟨i,W,j,rfl⟩:=okWide_slice underlying45 (f 0 45 x D D);obtain⟨u,rfl⟩:=okWide_bool underlying4 (f 1 4 y D D);have a5:Calls prog 4 #[.slice i W j,.bool u] a λk a4=>k=.returned (.bool true)/\Cf a a4:=by
  obtain⟨E,X,z,rfl,O,P,R,_⟩:=Gq l;exact Gp z i E X j u a O P R
 clear n p;refine a5.mono λk a6 ⟨S,Q⟩=>?_
 subst S;have d:=Q.to_below;exact⟨_,D,_,_,_,[],_,[],N,trodAll_mk1 (shut_bool underlying4 _),(trodAll_cons_mk (Below.trod jq M (of_decide_eq_true M) r d T) (trodAll_cons_mk (Below.trod jq M (of_decide_eq_true M) s d U) trodAll_mk0)),D,d.frame _,λF=>by cases F⟩
theorem proved:Rows.CodesGetSaid :=
 OpenClaim.holds_of_wide 4 f4 D D D D D D D ⟨D,D,D,D,D⟩ D D D D D M func4 M
  (of_decide_eq_true M) (by unfold Func.isWrapper;first|(rw[if_pos (by decide +kernel)];kernel_rfl)|(rw[if_neg (by decide +kernel)];exact⟨D,D⟩))
  (λb c H a _=>lifted b c H a)
#print axioms proved
end Go.Proofs.YtgnpmceimpjheaaGreat.codesGet
