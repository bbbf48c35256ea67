/- A part of the proof: DGk DGj DGi Crc OfLaw RefOf RefSeal. -/
import Derived.Test.YtgnpmceimpjheaaGreatGG15
import Derived.Lib.EndianBits
set_option maxRecDepth 100000
set_option maxHeartbeats 16000000
namespace Go.Proofs.YtgnpmceimpjheaaGreat
open Go.RowKit Go.Proofs.Tryz
variable {a b c d e f g h i j k l m n o p q r:Nat}{w v u t s:World}{X Y W L T:List Int}{A B C E Z:Value}{x y z:Int}{N R:Bool}{F Q:Option Addr}{S P:Nat->Prop}
theorem Ey {hD:Nat->Value}{hZ:List Str}{g1:List (Str×Bool)}{aP aR aT:Sl}{g0:List ((Int×Int)×Int)}{a1:List (List Int)}{hC:List Int}{aV aX aY:Sl}{j3 j4 j5:List Int}{kF kH kI:Bool}{cI:List StD}{aZ:Sl}{j6:List Int}{kK:Bool}
  (i7:GEnv X Y W w v a b c d) (a0:G (GS c b d u j6 kK ⟨aP,aR,aT,⟨aV,aX,(F,a1.length,g),aY⟩,⟨aZ,(none,0,0),(none,0,0),(none,0,0),(Q,h,i)⟩,(none,0,0)⟩)) (b0:G (J (v.heap.size<=·) v u))
  (c8:G (∀l,J (TP c d) u l->(((((((((BytesAt l b 0 Y/\strE.InS l (SF v c d) aP hZ)/\strE.InS l (SF v c d) aR (g1.map (·.1)))/\mL.InS l (SF v c d) aT (g1.map (·.2)))/\rngE.InS l (SF v c d) aV (g0.map (·.1)))/\intE.InS l (SF v c d) aX (g0.map (·.2)))/\zL pW (inR intE) l (SF v c d) (F,a1.length,g) a1)/\intE.InS l (SF v c d) aY hC)/\zL dStE dStR l (SF v c d) aZ cI)/\intE.InS l (SF v c d) (Q,h,i) (vA cI))))
  (gH:G (Dr (zE xE) (okL ay) hZ W false L N))
  (gI:G (Dr (zE sC) (okL okTk) g1 L N T R))
  (gK:G (Dr (zE ptRc) (okL bf) g0 T R j3 kF))
  (gM:G (Dr ptTb okTb (a1,f) j3 kF j4 kH))
  (gO:G (Dr (λK=>K.flatMap nQ) (λcM=>cM.length=(a1,f).1.length/\∀l∈cM,okEn l) hC j4 kH j5 kI))
  (g3:G (a1.length<=65536/\f<=65536/\∀B∈a1,B.length=f/\∀l∈B,kE l))
  (gP:G (Dr (zE xU) (okL okSt) cI j5 kI j6 kK))
  (gZ:G (∀E∈cI,∀j∈E.2.1,0<=j.1))
  (dK:G (h=(vA cI).length/\h<=60000)) :
  Code.wp prog (tlC 12 getC) (bodyPost prog f19 (pS w X)) (FrG a b Y.length e c d hD) u:=by
 conv=>arg 2;whnf
 unfold FrG;simp only[frL,Nat.reduceAdd];have lC:=i7;obtain⟨m8,m7,oZ,lL,oX,eI,iY,iN,oW⟩:=lC;go_wp2_with fail
 refine (aA u a0.out.r).mono ?_;rintro j d6 ⟨oC,d5,p0,q2,rfl,a7,aB,cB,m,o,x⟩;obtain⟨b7,b9,b8,rfl⟩:=a7.shape3;obtain⟨⟨bF,s⟩,b1,O⟩:=(a0.out.call m o).put (v':=.slice b7 b9 b8) (m':=⟨aP,aR,aT,⟨aV,aX,(F,a1.length,g),aY⟩,⟨aZ,(b7,b9,b8),(none,0,0),(none,0,0),(Q,h,i)⟩,(none,0,0)⟩) 8 D D (FR d6) ⟨λq=>q,λq=>q,λq=>q⟩;obtain⟨f1,c0⟩:=rK (d6.setCell ⟨d,8,none⟩ (.slice b7 b9 b8));rw[<-c0]at b1 O;have bV:=a0.out.all;have bZ:v.heap.size<=u.heap.size:=b0.out.size;have bX:J (TP c d) u f1:=(o.mono λ_ _ j=>.inr j).trans (O.mono λ_ _ j=>.inl j);replace c8:=V (addF (aj c8.out bX) ((inS.good intE).keep (a7.inS.2.chg O (λr m j=>H)) bV bZ));replace a0:=V b1;replace b0:G (J (v.heap.size<=·) v f1):=V (b0.out.trans (bX.mono λk _ j=>eI.o k j));have gR:=V x;clear a7 aB cB m o x b1 O bV bZ bX;go_upto_region 46 with fail
 rw[<-c0];clear c0 bF s;go_wp2_with fail
 refine (aA f1 a0.out.r).mono ?_;rintro j d6 ⟨oB,d5,p1,q3,rfl,a7,aB,cB,m,o,x⟩;obtain⟨bH,bK,bI,rfl⟩:=a7.shape3;obtain⟨⟨bF,s⟩,b1,O⟩:=(a0.out.call m o).put (v':=.slice bH bK bI) (m':=⟨aP,aR,aT,⟨aV,aX,(F,a1.length,g),aY⟩,⟨aZ,(b7,b9,b8),(bH,bK,bI),(none,0,0),(Q,h,i)⟩,(none,0,0)⟩) 9 D D (FR d6) ⟨λq=>q,λq=>q,λq=>q⟩;obtain⟨f2,c0⟩:=rK (d6.setCell ⟨d,9,none⟩ (.slice bH bK bI));rw[<-c0]at b1 O;have bV:=a0.out.all;have bZ:v.heap.size<=f1.heap.size:=b0.out.size;have bX:J (TP c d) f1 f2:=(o.mono λ_ _ j=>.inr j).trans (O.mono λ_ _ j=>.inl j);replace c8:=V (addF (aj c8.out bX) ((inS.good intE).keep (a7.inS.2.chg O (λr m j=>H)) bV bZ));replace a0:=V b1;replace b0:G (J (v.heap.size<=·) v f2):=V (b0.out.trans (bX.mono λk _ j=>eI.o k j));have gS:=V x;clear a7 aB cB m o x b1 O bV bZ bX;go_upto_region 47 with fail
 rw[<-c0];clear c0 bF s;go_wp2_with fail
 refine (aA f2 a0.out.r).mono ?_;rintro j d6 ⟨nq,d5,fI,fZ,rfl,a7,aB,cB,m,o,x⟩;obtain⟨c1,c3,c2,rfl⟩:=a7.shape3;obtain⟨⟨bF,s⟩,b1,O⟩:=(a0.out.call m o).put (v':=.slice c1 c3 c2) (m':=⟨aP,aR,aT,⟨aV,aX,(F,a1.length,g),aY⟩,⟨aZ,(b7,b9,b8),(bH,bK,bI),(c1,c3,c2),(Q,h,i)⟩,(none,0,0)⟩) 10 D D (FR d6) ⟨λq=>q,λq=>q,λq=>q⟩;obtain⟨bP,c0⟩:=rK (d6.setCell ⟨d,10,none⟩ (.slice c1 c3 c2));rw[<-c0]at b1 O;have bV:=a0.out.all;have bZ:v.heap.size<=f2.heap.size:=b0.out.size;have bX:J (TP c d) f2 bP:=(o.mono λ_ _ j=>.inr j).trans (O.mono λ_ _ j=>.inl j);replace c8:=V (addF (aj c8.out bX) ((inS.good intE).keep (a7.inS.2.chg O (λr m j=>H)) bV bZ));replace a0:=V b1;replace b0:G (J (v.heap.size<=·) v bP):=V (b0.out.trans (bX.mono λk _ j=>eI.o k j));have gT:=V x;clear a7 aB cB m o x b1 O bV bZ bX;go_upto_region 48 with fail
 rw[<-c0];clear c0 bF s;go_upto_block 12 with fail
 go_cut [19,20,21,22,23,24,25,26] from 256 to 358 (λ_ _ _ _ _ _ _ _ cK=>∃(K:List LrD) (E:Sl) (dB:List Int) (d4:Bool),GS c b d cK dB d4 ⟨aP,aR,aT,⟨aV,aX,(F,a1.length,g),aY⟩,⟨aZ,(b7,b9,b8),(bH,bK,bI),(c1,c3,c2),(Q,h,i)⟩,E⟩/\zL fG uJ cK (bP.heap.size<=·) E (K.map lkOf)/\J (TP c d) bP cK/\(∀l∈K,TbB l.2.1/\l.2.1.length=l.1.length)/\Dr (λK=>K.flatMap ptLr) (λcM=>cM.length=(vA cI).length/\∀l∈cM,okLr l) K fI fZ dB d4)
 .go_wp2_with fail
  go_loopw [19] (λaO wr=>∃(K:List LrD) (k:Nat) (E:Sl) (dP:List Int) (e0:Bool),aO=.int .i64 k/\K.length=k/\GS c b d wr dP e0 ⟨aP,aR,aT,⟨aV,aX,(F,a1.length,g),aY⟩,⟨aZ,(b7,b9,b8),(bH,bK,bI),(c1,c3,c2),(Q,h,i)⟩,E⟩/\Gr fG uJ bP.heap.size (λ_=>True) wr (slV E) (K.map lkOf)/\J (TP c d) bP wr/\(∀l∈K,TbB l.2.1/\l.2.1.length=l.1.length)/\DrL ptLr okLr (vA cI).length fI fZ K dP e0) (λaO _=>h-(intOf aO).toNat)
  .exact⟨[],0,(none,0,0),fI,fZ,D,D,a0.out,Gr.nil,J.refl _ _,(λ_ q=>by cases q),DrL.start _ _ _⟩
  .obtain⟨K,k,⟨cS,d3,cT⟩,dP,e0,rfl,eT,m,cD,o,dX,a5⟩:=hrel;obtain⟨C,rfl⟩:∃l:World,l=wr:=⟨_,D⟩;simp only[slV]at cD;obtain⟨h0,g8,mI,g4,iL,lS⟩:=sF eT m cD o a5 dX;have lX:G (K.length<=60000):=V (by have:=a5.n;have:=dK.o;omega);have oU:G (J (·=c) C C):=V cR;have hB:=m.r.n;have oE:C.cell? ⟨d,11,none⟩=some (.slice Q h i):=m.c 11 _ D;have eD:G (e0=true\/k=h->∃(K:List LrD) (E:Sl) (dB:List Int) (d4:Bool),GS c b d C dB d4 ⟨aP,aR,aT,⟨aV,aX,(F,a1.length,g),aY⟩,⟨aZ,(b7,b9,b8),(bH,bK,bI),(c1,c3,c2),(Q,h,i)⟩,E⟩/\zL fG uJ C (bP.heap.size<=·) E (K.map lkOf)/\J (TP c d) bP C/\(∀l∈K,TbB l.2.1/\l.2.1.length=l.1.length)/\Dr (λK=>K.flatMap ptLr) (λcM=>cM.length=(vA cI).length/\∀l∈cM,okLr l) K fI fZ dB d4):=V λq=>⟨K,(cS,d3,cT),dP,e0,m,(cD.list uJ.good).2,o,dX,a5.fin (q.imp id (by have:=dK.o;omega))⟩
   have p8:k<=h:=(by have:=a5.n;have:=dK.o;omega);have nZ:h<=60000:=dK.o.2;clear eT m cD o dX a5;by_cases k4:k<h
   rotate_left
   .have fM:=rR k h
    have k3:k=h:=H;have gV:=V (eD.o (.inr k3));clear k3 eD;go_wp2;go_meet
    exact gV.o
   have fM:=rO k h
   cases e0 with
   | true =>
    have gV:=V (eD.o (.inl D));clear eD;go_wp2;go_meet
    exact gV.o
   | false =>
    clear eD;obtain⟨g2,fV⟩:=rK (C.alloc (.cells #[.slice none 0 0] 79));obtain⟨aI,hQ⟩:=rK C.heap.size;have d1:Cf C g2:=(by rw[fV];exact rT);have h7:G (R13 aI g2 [.slice none 0 0]):=V (by rw[fV,hQ];exact R13.made [.slice none 0 0] _);have gF:=V (g8.o.fresh d1);have iA:G (J (·=c) C g2):=V d1.any;have d8:G (C.heap.size<=aI/\¬aI=c/\¬aI=d/\¬aI=b/\c<C.heap.size/\b<C.heap.size/\d<C.heap.size):=V (by have:=g8.o.all;omega);go_upto_region 52 with fail
    rw[<-fV,<-hQ];clear fV hQ d1 hB oE fM;go_wp2_with fail
    refine (tA g2 gF.o.r).mono ?_;rintro j P ⟨d7,j7,kM,rfl,m,o,aB,x⟩;obtain⟨fH,rfl⟩:=Ax3 aB.1;have f7:G (fH<4294967296):=V (by have:=aB.2;omega);obtain⟨gD,HEq,h6,g6⟩:=sB (gF.o.call m o) (iA.o.trans o) (h7.o.chg o h7.o.lt (by have:=d8.o;omega)) x;have aH:G (c<P.heap.size/\b<P.heap.size/\d<P.heap.size/\aI<P.heap.size/\C.heap.size<=P.heap.size):=V (by have:=gD.o.all;have:=h6.o.lt;have:=HEq.o.size;omega);clear m o aB x h7 gF iA;go_upto_block 14 with fail
    go_cut [21,22] from 273 to 294 (λ_ _ cK=>∃(A:List (Int×List Int)) (E:Sl) (dR:List Int) (e2:Bool),GS c b d cK dR e2 ⟨aP,aR,aT,⟨aV,aX,(F,a1.length,g),aY⟩,⟨aZ,(b7,b9,b8),(bH,bK,bI),(c1,c3,c2),(Q,h,i)⟩,(cS,d3,cT)⟩/\R13 aI cK [slV E]/\Gr dLsE dL2R P.heap.size (λ_=>True) cK (slV E) A/\(J (·=c) C cK/\P.heap.size<=cK.heap.size)/\A.length<=200000/\Dr (zE ptLs) (okL ci) A dP false dR e2)
    .go_wp2_with fail
     go_loopw [21] (λaO wr=>∃(A:List (Int×List Int)) (cH:Nat) (E:Sl) (fK:List Int) (e1:Bool),aO=.int .i64 cH/\fH=A.length+cH/\GS c b d wr fK e1 ⟨aP,aR,aT,⟨aV,aX,(F,a1.length,g),aY⟩,⟨aZ,(b7,b9,b8),(bH,bK,bI),(c1,c3,c2),(Q,h,i)⟩,(cS,d3,cT)⟩/\R13 aI wr [slV E]/\Gr dLsE dL2R P.heap.size (λ_=>True) wr (slV E) A/\(J (·=c) C wr/\P.heap.size<=wr.heap.size)/\DrL ptLs ci fH j7 kM A fK e1) (λaO _=>(intOf aO).toNat)
     .exact⟨[],fH,(none,0,0),j7,kM,D,sI,gD.o,h6.o,Gr.nil,⟨HEq.o,Ay1 _⟩,DrL.start _ _ _⟩
     .obtain⟨A,cH,⟨a9,cA,a2⟩,fK,e1,rfl,eT,m,Z,cD,o,a5⟩:=hrel;obtain⟨dF,rfl⟩:∃l:World,l=wr:=⟨_,D⟩;simp only[slV]at cD Z;obtain⟨gX,iH,f8,iP,i9,j1,lV⟩:=sH eT m Z cD o.1 o.2 a5;have bD:G (A.length<=200000):=V (by have:=a5.k;have:=g6.o.l;have:=g8.o.r.s;omega);have hB:=m.r.n;have g7:G (e1=true\/cH=0->∃(A:List (Int×List Int)) (E:Sl) (dR:List Int) (e2:Bool),GS c b d dF dR e2 ⟨aP,aR,aT,⟨aV,aX,(F,a1.length,g),aY⟩,⟨aZ,(b7,b9,b8),(bH,bK,bI),(c1,c3,c2),(Q,h,i)⟩,(cS,d3,cT)⟩/\R13 aI dF [slV E]/\Gr dLsE dL2R P.heap.size (λ_=>True) dF (slV E) A/\(J (·=c) C dF/\P.heap.size<=dF.heap.size)/\A.length<=200000/\Dr (zE ptLs) (okL ci) A dP false dR e2):=V λq=>⟨A,(a9,cA,a2),fK,e1,m,Z,cD,o,bD.o,DrL.list g6.o.cnt a5 (q.imp id H)⟩
      clear eT m Z cD o a5;have pB:cH<=4294967295:=(by have:=gX.o;have:=f7.o;omega);cases cH with
      | zero =>
       go_wp2;go_meet
       exact g7.o sI
      | succ cH =>
       have fM:decide ((0:Int)<((cH+1:Nat):Int))=true:=decide_eq_true H;cases e1 with
       | true =>
        go_wp2;go_meet
        exact g7.o sI
       | false =>
        clear g7;go_upto_region 55 with fail
        clear hB fM
        go_wp2_with fail
        refine (tA dF iH.o.r).mono ?_;rintro j q7 ⟨d2,mX,oA,rfl,m,o,aB,x⟩;obtain⟨lN,oV,fB⟩:=rZ (iH.o.call m o) (i9.o.trans o) o
        have l8:=V x;have iU:=V aB;clear m o x aB
        go_upto_region 56 with fail
        refine rB 10 (·=c) (λt=>decide (7<=t)) ?_;intro a6 bB z;have iC:=V (lN.o.fresh bB.o)
        have iR:=V (f8.o.chg fB.o f8.o.lt d8.o.2.1);have mD:=V (iR.o.chg bB.o iR.o.lt iD);refine lq 0 z.o ?_
        (refine lf 1 z.o (λ_ bT=>bT.cellS (mD.o.c 0 _ D) d8.o.2.1) ?_);refine lq 2 z.o ?_;refine lq 3 z.o ?_
        refine zY (i:=4) M D D 60 #[.pointer (some ⟨c,0,none⟩)] (λd5 oP=>iq c b a6 mX oA (.returned d5) oP) (by go_simp) ?_ ?_
        .refine (aA a6 iC.o.r).mono ?_
         rintro j f0 ⟨e8,d5,T,R,rfl,a7,aB,cB,m,o,x⟩;exact⟨_,D,λ_=>o,e8,d5,T,R,D,a7,aB,cB,m,o,x⟩
        rintro d5 f0-⟨e8,q6,T,R,hU,a7,aB,cB,jX,hI,jT⟩ eM d0;injection hU with hU;subst hU;obtain⟨b2,e3,b3,rfl⟩:=a7.shape3;(try go_simp)
        refine d0 _ ?_;clear d0 eM
        have z:G (J (·=c) a6 f0):=V hI;have lG:=V (iC.o.call jX hI);have m0:=V a7;have lT:=V (lV.o.step fr (by have:=gX.o;omega) (l8.o.ls jT));clear a7 aB cB jX hI jT;refine lq 5 z.o ?_;have eK:G (∀d7∈[((d2,(b2,e3,b3),(none,0,0)):Int×Sl×Sl)],dLsE.ok d7):=V (λd7 eZ=>by rw[Ay]at eZ;rw[eZ];exact u32c iU.o);refine lt 6 (λ_=>z.o.alloc _) ?_;obtain⟨bM,cF⟩:=rK (f0.alloc (.cells #[.int .i64 d2,.slice b2 e3 b3,.slice none 0 0] 145));have h3:G (Src prog dLsE.sz dLsE.sl (.slice (some ⟨f0.heap.size,0,none⟩) 1 1) 1 (dLsE.encs [((d2,(b2,e3,b3),(none,0,0)):Int×Sl×Sl)]) bM):=V (by rw[cF];exact dLsE.srcLit (Y:=[((d2,(b2,e3,b3),(none,0,0)):Int×Sl×Sl)]) 1 eK.o);have f3:G (Cf f0 bM):=V (by rw[cF];exact rT);rw[<-cF];clear cF;have lH:=V (lG.o.fresh f3.o);have fD:G (J (·=c) dF bM):=V (((fB.o.trans bB.o.any).trans z.o).trans f3.o.any);have m9:=V (f8.o.chg fD.o f8.o.lt d8.o.2.1);have m5:=V (iP.o.chg dL2R.good fD.o (λk b6 _ j=>by have:=aH.o;omega));have l9:=V (i9.o.trans fD.o);have iZ:G (P.heap.size<=bM.heap.size):=V (Ay2 j1.o fD.o.size);have eB:G (dL2R bM (λk=>P.heap.size<=k/\True/\(Value.slice a9 cA a2).ownBlock≠some k) (d2,(b2,e3,b3),(none,0,0)) (d2,e8)):=V (by
         refine⟨D,u32c iU.o,(m0.o.inS.2.chg f3.o iF).mono (λr _ m=>⟨?_,trivial,λj=>?_⟩),D⟩
         .have:=j1.o;have:=fB.o.size;have:=bB.o.size;omega
         have:=(iP.o.blk j).2;have:=fB.o.size;have:=bB.o.size;omega)
        obtain⟨j2,dU,eV,jK⟩:=m5.o;obtain⟨dO,c9,fF⟩:=rZ dU eV jK;clear dU eV jK;replace z:G (J (·=c) a6 bM):=V (z.o.trans f3.o.any);refine dW 7 dLsE [((d2,(b2,e3,b3),(none,0,0)):Int×Sl×Sl)] dO.o iZ.o eK.o h3.o (by have:=bD.o;have:=c9.o;simp;omega) M D D D D D D ?_;intro e5 e7 e6 bO aD b4 c4 eM d0;(try go_simp)
        refine d0 _ ?_;clear d0 eM
        obtain⟨⟨bF,s⟩,k9,O⟩:=m9.o.put (.slice e5 e7 e6) 0 D b4 (λj=>by have:=(dO.o.blk j).1;have:=aH.o;omega);obtain⟨mB,lI,m6⟩:=rZ k9 ((lH.o.chg b4 (dO.o.non ⟨aH.o.1,aH.o.2.1,aH.o.2.2.1⟩)).chg O (by have:=d8.o;exact⟨λj=>H,λj=>H,λj=>H⟩)) ((Gr.add dL2R.good c9.o fF.o cR eB.o aD b4 c4).chg dL2R.good O (λk b6 _ j=>by have:=aH.o;omega));have lA:G (J (·=c) C _):=V ((l9.o.trans2 b4 (λk b6 j=>by have:=(dO.o.blk j).1;have:=aH.o;omega)).trans2 O (λk b6 j=>by have:=d8.o;omega));have mV:G (P.heap.size<=_):=V (Ay2 iZ.o (Ay2 b4.size O.size));clear k9 O aD b4 c4;refine lt 8 (λq=>absurd q dE) ?_;refine ld 9 ?_;refine zQ M ?_ _;clear bF s;go_wp2;go_roundw
        .exact⟨A++[(d2,e8)],cH,(e5,e7,e6),T,R,GN,by have:=gX.o;rw[Az,List.length_singleton];omega,lI.o,mB.o,m6.o,⟨lA.o,mV.o⟩,lT.o⟩
        simp[intOf]
    obtain⟨A,⟨a9,cA,a2⟩,dR,e2,m,Z,hP,⟨jV,hS⟩,k8,x⟩:=hcut;obtain⟨c7,rfl⟩:∃f:World,f=wc:=⟨_,D⟩;simp only[slV]at Z hP;obtain⟨g9,h5,h2,i8,oY,i5,j0⟩:=sH m Z hP jV k8 x hS;clear m Z hP jV hS k8 x gD h6 HEq g6 f7;go_wp2_with fail
    refine (rz c7 g9.o.r).mono ?_;rintro j a8 ⟨n,cO,kO,kP,mZ,oD,rfl,kB,m,o,jP,x⟩;obtain⟨cP,jF,eV,jH⟩:=h2.o;have dU:=jF.chg o (λr m _ j=>by have:=aH.o;omega);obtain⟨nP,-⟩:=dU.inS;have dO:=V dU;have c9:=V eV;have fF:G (∀(a3:Nat) l eO,cP[a3]?=some l->A[a3]?=some eO->dL2R a8 (λk=>P.heap.size<=k/\(Value.slice a9 cA a2).ownBlock≠some k/\k<c7.heap.size) l eO):=V λa3 l eO aM x =>
     dL2R.good.chg (dL2R.good.mono (jH a3 l eO aM x) (λk b6 Z=>⟨Z.1,Z.2.2,b6⟩)) o (λk Z j=>by have:=Z.1;have:=aH.o;omega)
    have bD:G (cA=A.length):=V H;obtain⟨lO,iS,iB⟩:=rZ (g9.o.call m o) (h5.o.chg o h5.o.lt d8.o.2.1) (i8.o.trans o);have mF:G (zL pW (inR intE) a8 (λk=>c7.heap.size<=k/\k<a8.heap.size) (kO,n.length,kP) n):=V ((zL.good inR.good).mono kB (λk b6 Z=>⟨Z,b6⟩));have dI:=V jP;have i6:=V x;have h4:G (P.heap.size<=c7.heap.size/\c7.heap.size<=a8.heap.size):=V ⟨j0.o,o.size⟩;have dH:G (∀r,(Value.slice a9 cA a2).ownBlock=some r->P.heap.size<=r/\r<c7.heap.size):=V λr m=>h2.o.blk m
    have hY:a8.cell? ⟨aI,0,none⟩=some (.slice a9 cA a2):=iS.o.c 0 _ D;clear kB m o jP x dU eV jF jH nP g9 h5 h2 i8 j0;go_upto_region 58 with fail
    by_cases k5:n.length=cA
    rotate_left
    .have jD:((n.length:Int) != (cA:Int))=true:=by rw[bne_iff_ne];omega
     have iM:G (getR X=(4,none)):=V (eh lL.o (by
      cases hT:sS Y with
      | none=>rfl
      | some e4 =>
       obtain⟨aD,b4,c4⟩:=iN.o e4 hT;exact (Em (sw (jg gH.o gI.o aD c4) gK.o gM.o gO.o gP.o gR.o gS.o gT.o aD b4) iL.o D (by have:=h0.o;have:=dK.o;omega) i5.o i6.o aD (by have:=bD.o;show n.length≠_;omega)).elim))
     have lD:G (J (v.heap.size<=·) v a8):=V (b0.out.trans ((g4.o.trans (iB.o.mono λ_ _ j=>.inr j)).mono λk _ j=>eI.o k j));clear k5
     have fO:=m7.o a8 lD.o;obtain⟨oQ,fT⟩:=rK (xC a 0 tC a8);obtain⟨hE,hF⟩:=fO.1.set tC D;rw[<-fT]at hE hF;have lB:G (pS w X (.returned (.tuple #[kN nilT,.int .i64 4])) oQ):=V ⟨fO.2.trans2 hF (λk b6 j=>by have:=m8.o;omega),nilT,by rw[iM.o],.inl ⟨by rw[iM.o],D⟩⟩;obtain⟨⟨pK,bF,s,pT,pU,pV,pX,pZ,q0,q1,pM,pO,pP⟩,q9,qB,qI,qK,qM,qO,qP,qR,qT,qV,qD,qF,qH⟩:=R13.all fO.1;obtain⟨⟨aP,aR,aT,aV,aX,aY,aZ,oL,oN,oO,oJ,oK,i0⟩,-⟩:=R13.all hE;simp only[xC,tC,Ax,Nat.reduceAdd]at fT;have mM:=V fT;clear fT fO hE hF;go_wp2;rw[<-mM.o];exact bodyPost_ret (v:=.tuple #[.agg #[.slice none 0 0,.slice none 0 0,.slice none 0 0,.slice none 0 0,.slice none 0 0,.slice none 0 0,.slice none 0 0,.slice none 0 0,.slice none 0 0,.slice none 0 0,.slice none 0 0,.slice none 0 0,.slice none 0 0],.int .i64 4]) (by simp[results,results19,go_sem,aP,aR,aT,aV,aX,aY,aZ,oL,oN,oO,oJ,oK,i0]) D lB.o
    subst k5
    have jD:((n.length:Int) != (n.length:Int))=false:=sI;have iK:G (DKSt P.heap.size a8 a8 a9 n.length a2 cP cP n 0):=V ⟨dO.o,D,λa3 U aM=>by
     have p7:=(Az0.1 aM).1;have nX:a3<A.length:=(by have:=c9.o;omega);obtain⟨-,-,-,eP⟩:=fF.o a3 U _ aM (Az4 nX);exact⟨U.2.2,aM,λq=>absurd q (Ax1 _),λ_=>eP⟩,cR⟩
    have mH:G (n.length<=65536):=V dI.o.1;go_wp2;clear jD hY
    go_loopw [25] (λaO wr=>∃(t:Nat) (b5:List (Int×Sl×Sl)),t<=n.length/\aO=.int .i64 t/\DKSt P.heap.size a8 wr a9 n.length a2 cP b5 n t) (λaO _=>n.length-(intOf aO).toNat)
    .exact⟨0,cP,H,D,iK.o⟩
    clear iK;obtain⟨y,rfl⟩:∃l:World,l=wr:=⟨_,D⟩;obtain⟨t,b5,hL,rfl,hN⟩:=hrel;have aF:=V hN;have i2:G (y.cell? ⟨aI,0,none⟩=some (.slice a9 n.length a2)):=V (hN.chg.cellS (iS.o.c 0 _ D) (λj=>by have:=(dH.o aI j).1;have:=aH.o;omega));clear hN;have pH:n.length<=65536:=mH.o;by_cases nT:t<n.length
    .have hA:=rO t n.length
     have p6:t<65536:=H;have lY:G (zL pW (inR intE) y (λk=>c7.heap.size<=k/\k<a8.heap.size) (kO,n.length,kP) n):=V ((zL.good inR.good).chg mF.o aF.o.chg (λr m j=>by have:=(dH.o r j).2;omega));obtain⟨⟨kT,q8,kV⟩,B,jI,q4,a5,hM,o0,jZ,-,e⟩:=lY.o.get1 (f:=slV) D nT (λ_=>rfl);subst o0;obtain⟨rfl,pF⟩:=Elt.InS.len hM;unfold slV at e;simp only at e;have lP:G (intE.InS y (λk=>c7.heap.size<=k/\k<a8.heap.size) (kT,B.length,kV) B):=V hM;obtain⟨l3,iG,lW⟩:=rZ e jZ a5;have p9:B.length<=65536:=(by rw[(dI.o.2.2 B (Az1 a5)).1];exact dI.o.2.1);obtain⟨U,dZ⟩:∃U,cP[t]?=some U:=⟨_,Az4 (by have:=c9.o;have:=bD.o;omega)⟩;obtain⟨p2,hW,-,hK⟩:=aF.o.eq t U dZ;have hK:=hK (Ay1 _);subst hK;obtain⟨r,rfl,-,-,-,-,-,p4,nR⟩:=sh aF.o.own hW;have mO:=V dZ;have h9:=V hW;have dM:G (P.heap.size<=r/\r<c7.heap.size/\r<y.heap.size):=V ⟨(dH.o r D).1,(dH.o r D).2,nR⟩;clear a5 hM dZ hW e jZ;go_wp2;clear hA
     go_loopw [26] (λaO wr=>∃(s:Nat) (j:Sl),s<=B.length/\aO=.int .i64 s/\dLsE.Own wr P.heap.size (.slice (some ⟨r,0,none⟩) n.length a2) (b5.set t (U.1,U.2.1,j))/\dLeE.Own wr y.heap.size (slV j) (xG (-1) (B.take s))/\J (·=r) y wr) (λaO _=>B.length-(intOf aO).toNat)
     case atStart=>exact⟨0,(none,0,0),H,D,by
      rw[show b5.set t (U.1,U.2.1,(none,0,0))=b5 from List.ext_getElem? (λa3=>by
       by_cases k1:a3=t
       .subst k1
        rw[Aw7 (Az0.1 h9.o).1,h9.o]
       rw[Av5 (Ne.symm k1)])]
      exact aF.o.own,.nil _ _,cR⟩
     case round =>
      obtain⟨s,⟨cV,cZ,cX⟩,b6,rfl,k7,k6,eX⟩:=hrel;have h1:=V k7;have eH:G (dLeE.Own wr y.heap.size (.slice cV cZ cX) (xG (-1) (B.take s))):=V k6;have g5:=V eX;have nO:b5.length=n.length:=(by have:=aF.o.len;have:=c9.o;have:=bD.o;omega);have kD:(b5.set t (U.1,U.2.1,(cV,cZ,cX)))[t]?=some (U.1,U.2.1,(cV,cZ,cX)):=Aw7 H;have iV:=V kD;have lQ:G (intE.InS wr (λk=>c7.heap.size<=k/\k<a8.heap.size) (kT,B.length,kV) B):=V (lP.o.chg eX (λaK a4 j=>by have:=dM.o;omega));have e:=eX.cellS l3.o (by have:=dM.o;have:=iG.o;show ¬jI=r;omega);have l4:=V e;have l0:G (wr.cell? ⟨aI,0,none⟩=some (.slice (some ⟨r,0,none⟩) n.length a2)):=V (eX.cellS i2.o (by have:=dM.o;have:=aH.o;show ¬aI=r;omega));clear k7 k6 eX kD nO
      by_cases k4:s<B.length
      .have j9:=rO s B.length
       have nZ:s<65536:=H;obtain⟨l,nI,q5,aM,rfl,jB,oR,oS,k0,-⟩:=lQ.o.getI k4;obtain⟨f9,l6,lM⟩:=rZ (ox aM) jB k0;clear aM k0;by_cases fX:0<=l
       .have j8:decide (0<=l)=true:=by simpa using fX
        rw[if_pos fX]at f9;go_upto_region 67 with fail
        clear e jB j8 j9;obtain⟨a6,hV⟩:=rM wr.drew;have bB:G (Cf wr a6):=V (by rw[<-hV];exact (J.refl _ _).drew);have iO:=V (h1.o.chg bB.o (λ_ _ _ q=>q));have m3:=V (eH.o.chg bB.o (λ_ _ _ q=>q));have i4:G (J (·=r) y a6):=V (g5.o.trans bB.o.any);have i1:=V (bB.o.cellS l0.o iD);have l2:=V (bB.o.cellS l4.o iD);have mP:=V (bB.o.cellS l6.o iD);have f6:G (a6.cell? ⟨r,t * 3+2,none⟩=some (.slice cV cZ cX)/\a6.frozen? ⟨r,t * 3+2,none⟩=false):=V (by
         obtain⟨aK,a4,-,-,-,eR,nM,-⟩:=sh iO.o iV.o;injection a4 with a4;injection a4 with a4;subst a4;exact⟨eR,nM _⟩)
        refine zC (λl=>J (λk=>y.heap.size<=k) a6 l) (λt=>decide (23<=t)) M ?_;have eF:G (¬y.heap.size<=r/\¬y.heap.size<=aI/\¬y.heap.size<=jI/\¬y.heap.size<=nI):=V (by have:=aF.o.chg.size;have:=dM.o;have:=aH.o;have:=h4.o;have:=iG.o;have:=lM.o;omega);show yC _ _ _ _ _ _ 24 (Array.replicate 24 false) _ wr.drew;rw[hV];clear hV;have z:G (J (λk=>y.heap.size<=k) a6 a6):=V cR;have o5:IntKind.i64.wrap ((s:Int)-1)=(s:Int)-1:=(by rw[IntKind.wrap_i64];omega);refine lq 0 z.o ?_;(refine lf 1 z.o (λ_ bT=>bT.cellS i1.o eF.o.2.1) ?_);refine lq 2 z.o ?_;refine lq 3 z.o ?_;(refine lf 4 z.o (λ_ bT=>bT.cellS i1.o eF.o.2.1) ?_);refine lq 5 z.o ?_;refine lq 6 z.o ?_;refine lq 7 z.o ?_;(refine lf 8 z.o (λ_ bT=>bT.cellS f6.o.1 eF.o.1) ?_);refine lq 9 z.o ?_;refine lq 10 z.o ?_;clear o5;refine lq 11 z.o ?_;refine lq 12 z.o ?_;refine lq 13 z.o ?_;(refine lf 14 z.o (λ_ bT=>bT.cellS l2.o eF.o.2.2.1) ?_);refine lq 15 z.o ?_;refine lq 16 z.o ?_;(refine lf 17 z.o (λ_ bT=>bT.cellS mP.o eF.o.2.2.2) ?_);refine lq 18 z.o ?_;have eK:G (∀d7∈[((s:Int)-1,l)],dLeE.ok d7):=V (λd7 eZ=>by rw[Ay]at eZ;rw[eZ];exact⟨⟨by show (-9223372036854775808:Int)<=(s:Int)-1;omega,by show (s:Int)-1<=9223372036854775807;omega⟩,⟨oR,oS⟩⟩);refine lt 19 (λ_=>rT) ?_;obtain⟨bM,cF⟩:=rK (a6.alloc (.cells #[.int .i64 ((s:Int)-1),.int .i64 l] 147));have f4:G (Cf a6 bM):=V (by rw[cF];exact rT);have h3:G (Src prog dLeE.sz dLeE.sl (.slice (some ⟨a6.heap.size,0,none⟩) 1 1) 1 (dLeE.encs [((s:Int)-1,l)]) bM):=V (by rw[cF];exact dLeE.srcLit (Y:=[((s:Int)-1,l)]) 1 eK.o);rw[<-cF];clear cF;have e9:G (y.heap.size<=bM.heap.size/\r<y.heap.size):=V ⟨Ay2 i4.o.size f4.o.size,dM.o.2.2⟩;have m1:G (dLeE.Own bM y.heap.size (.slice cV cZ cX) (xG (-1) (B.take s))):=V (m3.o.chg f4.o (λ_ _ _ q=>q));have eB:G ((xG (-1) (B.take s)).length<=65536):=V (by have:=kS (B.take s) (-1);rw[Ay8]at this;omega);refine yQ (i:=20) M D D (.tmp 338) (.tmp 349) 143 143 D (.slice cV cZ cX) (.slice (some ⟨a6.heap.size,0,none⟩) 1 1) D D (λc6 bO=>dLeE.Own bO y.heap.size c6 (xG (-1) (B.take s)++[((s:Int)-1,l)])/\J (λk=>y.heap.size<=k) bM bO/\∃cS d3 cT,c6=.slice cS d3 cT) ?_ ?_
        .obtain⟨c6,bO,o3,c5,dT,-,-⟩:=m1.o.append e9.o.1 143 (.slice (some ⟨a6.heap.size,0,none⟩) 1 1) [((s:Int)-1,l)] h3.o eK.o (by have:=eB.o;simp;omega) 143
         exact⟨c6,bO,o3,(λ_=>f4.o.any.trans dT),c5,dT,c5.shape3⟩
        rintro c6 bO-⟨aD,b4,b2,dD,b3,rfl⟩ eM d0;have dV:J (λk=>y.heap.size<=k) a6 bO:=f4.o.any.trans b4;have bF:=dV.cellS f6.o.1 (by have:=e9.o.2;show ¬y.heap.size<=r;omega);have o7:=(dV.frozen (p:=⟨r,t * 3+2,none⟩) (Az8 _ _ f6.o.1) (by have:=e9.o.2;show ¬y.heap.size<=r;omega)).trans f6.o.2;have m4:G (dLsE.Own (bO.setCell ⟨r,t * 3+2,none⟩ (.slice b2 dD b3)) P.heap.size (.slice (some ⟨r,0,none⟩) n.length a2) (b5.set t (U.1,U.2.1,(b2,dD,b3)))):=V (by
         have c5:=Ds (iO.o.chgB dV (λaK a4 j=>by obtain rfl:r=aK:=(by simpa [Value.ownBlock] using a4);have:=e9.o.2;omega)) iV.o (b2,dD,b3);rw[List.set_set]at c5;exact c5)
        have hR:=zA bO r (t * 3+2) (.slice b2 dD b3);have m2:G (dLeE.Own (bO.setCell ⟨r,t * 3+2,none⟩ (.slice b2 dD b3)) y.heap.size (slV (b2,dD,b3)) (xG (-1) (B.take (s+1)))):=V (by
         rw[f9.o];exact aD.chg hR (λaK a4 _ j=>by have:=e9.o.2;omega))
        have l5:G (J (·=r) y (bO.setCell ⟨r,t * 3+2,none⟩ (.slice b2 dD b3))):=V ((i4.o.trans2 dV (λaK a4 j=>absurd j (Nat.not_le.2 a4))).trans hR);have i3:=V dV;clear aD b4 dV hR;(try go_simp)
        refine d0 _ ?_;clear d0 eM;refine lt 21 (λ_=>i3.o) ?_;refine lt 22 (λ_=>i3.o) ?_;refine ld 23 ?_;refine zQ M ?_ _;clear bF o7;go_wp2;go_roundw
        .exact⟨s+1,_,H,GN,m4.o,m2.o,l5.o⟩
        simp[intOf];omega
       have j8:decide (0<=l)=false:=by simpa using fX
       rw[if_neg fX,Av3]at f9;rw[<-f9.o]at eH;go_wp2;go_roundw
       .exact⟨s+1,_,H,GN,h1.o,eH.o,g5.o⟩
       simp[intOf];omega
      .obtain rfl:s=B.length:=H
       have j9:=rP B.length;rw[Ay7]at eH;have f7:G (DKSt P.heap.size a8 wr (some ⟨r,0,none⟩) n.length a2 cP (b5.set t (U.1,U.2.1,(cV,cZ,cX))) n (t+1)):=V (by
        have jR:J (·=r) y wr:=g5.o;have p5:=dM.o;have hS:=h4.o;have p3:=aF.o.chg.size;refine⟨h1.o,by rw[Av9];exact aF.o.len,λa3 oT hX=>?_,aF.o.chg.trans (jR.mono (λk _ j=>by rw[j];rfl))⟩;by_cases k2:a3=t
        .subst k2
         rw[mO.o]at hX;obtain rfl:=Az2 hX;refine⟨(cV,cZ,cX),Aw7 (Az0.1 h9.o).1,λ_=>⟨B,lW.o,?_⟩,λq=>absurd q H⟩;exact eH.o.inS.2.mono (λaK _ a4=>by show a8.heap.size<=aK;omega)
        obtain⟨j,c5,dT,nK⟩:=aF.o.eq a3 oT hX
        refine⟨j,by rw[Av5 (Ne.symm k2)];exact c5,λq=>?_,λq=>nK H⟩;obtain⟨o8,eP,eR⟩:=dT H;exact⟨o8,eP,eR.chg jR (λaK a4 j=>H)⟩)
       go_wp2;go_roundw
       .exact⟨t+1,_,H,GN,f7.o⟩
       simp[intOf];omega
    obtain rfl:t=n.length:=H
    have hA:=rP n.length;have hY:=i2.o
    have fR:J (λk=>(Value.slice a9 n.length a2).ownBlock=some k) a8 y:=aF.o.chg;have iI:=V (lO.o.chg fR (by have hH:=dH.o;have:=aH.o;exact⟨λj=>by have:=(hH c j).1;omega,λj=>by have:=(hH b j).1;omega,λj=>by have:=(hH d j).1;omega⟩));have lE:G (J (·=c) C y):=V (iB.o.trans2 fR (λk b6 j=>by have:=(dH.o k j).1;have:=aH.o;omega));have oF:y.cell? ⟨d,12,none⟩=some (.slice cS d3 cT):=iI.o.c 12 _ D;have d1:Cf y (y.alloc (.cells #[.slice a9 n.length a2] 79)):=rT;have lK:=V (iI.o.fresh d1);have f5:G (J (·=c) C _):=V (lE.o.trans d1.any);have eB:G (uJ (y.alloc (.cells #[.slice a9 n.length a2] 79)) (λk=>C.heap.size<=k/\True) (a9,n.length,a2) (lkOf (A,n,cO))):=V (by
     have pD:=aH.o;have pI:=h4.o;have o6:(lkOf (A,n,cO)).length=n.length:=(by unfold lkOf;rw[List.length_zipWith];have:=bD.o;show min A.length n.length=_;omega);refine uJ.good.mono (uJ.good.chg (S:=λk=>C.heap.size<=k) ?_ d1 iF) (λr _ m=>⟨m,trivial⟩);refine⟨b5,?_,?_,λa3 l eO aM x=>?_⟩
     .exact aF.o.own.inS.2.mono (λaK _ a4=>by show C.heap.size<=aK;omega)
     .rw[o6,aF.o.len,c9.o];exact bD.o.symm
     have nV:=(Az0.1 aM).1
     have nU:a3<n.length:=(by rw[aF.o.len,c9.o]at nV;have:=bD.o;omega);obtain⟨U,dZ⟩:∃U,cP[a3]?=some U:=⟨_,Az4 (by have:=c9.o;have:=bD.o;omega)⟩;obtain⟨j,c5,dT,-⟩:=aF.o.eq a3 U dZ;rw[aM]at c5;obtain rfl:=Az2 c5;obtain⟨B,eP,eR⟩:=dT nU;obtain⟨E,Z⟩:∃E,A[a3]?=some E:=⟨_,Az4 (by have:=bD.o;omega)⟩;unfold lkOf at x;rw[List.getElem?_zipWith,show (A,n,cO).1[a3]?=some E from Z,show (A,n,cO).2.1[a3]?=some B from eP]at x;simp only[Option.some.injEq]at x;subst x;obtain⟨oG,oH,oI,-⟩:=fF.o a3 U E dZ Z;exact⟨oG,oH,(oI.chg fR (λaK a4 j=>a4.2.1 j)).mono (λaK _ a4=>by show C.heap.size<=aK;have:=a4.1;omega),eR.mono (λaK _ a4=>by show C.heap.size<=aK;omega)⟩)
    obtain⟨j2,hG,jM,jO⟩:=mI.o;obtain⟨mR,iW,mT,h8⟩:=sB hG jM jO (hG.chg f5.o (λr m _ j=>by have:=a0.out.all;omega));have iX:G (∀d7∈[((a9,n.length,a2):Sl)],fG.ok d7):=V (λ_ _=>trivial);have iQ:G (bP.heap.size<=C.heap.size):=V g4.o.size;clear hG jM jO d1 fR;go_wp2_with (at_builtin;refine Elt.wpList_append2 fG D _ _ 41 41 D D bP.heap.size (.slice cS d3 cT) j2 [(a9,n.length,a2)] (.slice (some ⟨y.heap.size,0,none⟩) 1 1) D D h8.o (Ay2 iQ.o f5.o.size) (fG.srcLit (Y:=[(a9,n.length,a2)]) 1 iX.o) iX.o (by have:=iW.o;rw[Ax4]at this;have:=lX.o;simp;omega) ?_;intro c6 bO aD b4 c4;obtain⟨e5,e7,e6,o4⟩:=aD.out.shape3;subst o4;obtain⟨⟨bF,s⟩,b1,O⟩:=lK.o.put (v':=.slice e5 e7 e6) (m':=⟨aP,aR,aT,⟨aV,aX,(F,a1.length,g),aY⟩,⟨aZ,(b7,b9,b8),(bH,bK,bI),(c1,c3,c2),(Q,h,i)⟩,(e5,e7,e6)⟩) 12 D D c4.out.1 (h8.o.non a0.out.all))
    have lJ:=V b1;have mK:=V ((Gr.step (A:=λ_=>True) uJ.good mR.o iW.o mT.o iQ.o f5.o (λk b6 _ j=>by have:=a0.out.all;omega) eB.o aD.out c4.out.1 (c4.out.2.imp id (λj=>⟨_,j,Ay1 _⟩))).chg uJ.good O (λk b6 _ j=>by have:=a0.out.all;omega));have l1:G (J (TP c d) bP _):=V (((g4.o.trans (f5.o.mono λ_ _ j=>.inr j)).trans2 c4.out.1 (λk b6 j=>by have:=(h8.o.blk j).1;omega)).trans (O.mono λ_ _ j=>.inl j));have lR:G (∀l∈K++[((A,n,cO):LrD)],TbB l.2.1/\l.2.1.length=l.1.length):=V (λl aM=>by
     rcases Aw9.1 aM with q|q
     .exact lS.o l q
     rw[Ay]at q;rw[q];exact⟨⟨dI.o.1,λB a5=>by rw[(dI.o.2.2 B a5).1];exact dI.o.2.1⟩,bD.o⟩)
    have lU:=V (iL.o.step jf (by have:=h0.o;have:=dK.o;omega) (i5.o.lk i6.o));have lZ:G ((K++[((A,n,cO):LrD)]).map lkOf=K.map lkOf++[lkOf (A,n,cO)]):=V List.map_append;clear b1 O bF s oF hY hA;go_roundw
    .exact⟨K++[(A,n,cO)],k+1,(e5,e7,e6),mZ,oD,GN,by have:=h0.o;rw[Az,List.length_singleton];omega,lJ.o,by rw[lZ.o];exact mK.o,l1.o,lR.o,lU.o⟩
    .simp[intOf];omega
 obtain⟨o9,i0,dB,d4,m,hL,o,dX,x⟩:=hcut;obtain⟨kX,rfl⟩:∃f:World,f=wc:=⟨_,D⟩;have bV:=a0.out.all;have bZ:v.heap.size<=bP.heap.size:=b0.out.size;replace c8:=V (addF (aj c8.out o) ((zL.good uJ.good).keep hL bV bZ));replace a0:=V m;replace b0:G (J (v.heap.size<=·) v kX):=V (b0.out.trans (o.mono λk _ j=>eI.o k j));have iJ:=V x;clear m o x bV bZ;have iT:=V dX;clear hL dX;obtain⟨d9,fP⟩:=rM (nJ hZ g1 g0 a1 hC cI oC oB nq o9);have kZ:G (∀e4,sS Y=some e4->d9=e4/\dB=[]/\d4=false):=V λe4 hT=>by
  obtain⟨aD,b4,c4⟩:=iN.o e4 hT;have s:=jg gH.o gI.o aD c4;have q:=Eg s (sw s gK.o gM.o gO.o gP.o gR.o gS.o gT.o aD b4) iJ.o aD;rw[<-fP];exact q
 have hO:TbB (a1,f).1:=⟨g3.o.1,λB a5=>by rw[(g3.o.2.2 B a5).1];exact g3.o.2.1⟩;have lF:G (d4=false->FairTabs d9/\(∀E∈d9.nt.st,∀j∈E.2.1,0<=j.1)/\(yE d9=true->OkTabs d9/\OkBd d9)):=V λo2=>by
  have Z:=Eh gH.o gI.o gK.o gM.o gO.o gP.o gR.o gS.o gT.o iJ.o o2;rw[<-fP];exact⟨(ta Z iY.o hO iT.o gZ.o).1,gZ.o,λo1=>Ej Z iY.o hO iT.o gZ.o o1⟩
 have l7:G (∀l,J (TP c d) kX l->DocIn l (SF v c d) ⟨aP,aR,aT,⟨aV,aX,(F,a1.length,g),aY⟩,⟨aZ,(b7,b9,b8),(bH,bK,bI),(c1,c3,c2),(Q,h,i)⟩,i0⟩ d9/\BytesAt l b 0 Y):=V λl aM=>by
  obtain⟨⟨⟨⟨⟨⟨⟨⟨⟨⟨⟨⟨⟨nH,n0⟩,n1⟩,n5⟩,n6⟩,n7⟩,n8⟩,n9⟩,nB⟩,nD⟩,nF⟩,n2⟩,n3⟩,n4⟩:=c8.out l aM;rw[<-fP];exact⟨⟨n0,n1,n5,⟨n6,n7,n8,n9⟩,⟨nB,nF,n2,n3,nD⟩,n4⟩,nH⟩
 clear fP hO
 go_step
 refine ft a b Y.length e c d M (λhD=>?_);exact Ex i7 a0 b0 kZ lF l7
theorem Ez {g5 cF g6:List Int}{hF K:World}{eK z d f gI:Nat}{gO:Nat->Value}{hA:List Str}{eO:List (Str×Bool)}{a5 a6 a7:Sl}{g7 cI:List Int}{h3 cZ:Bool}{eM:List ((Int×Int)×Int)}{u:List (List Int)}{aF:Nat}{gM:List Int}{a8 a9 aB:Sl}{a3:Option Addr}{a4:Nat}{g8 g9 cM:List Int}{h4 h5 d0:Bool}{c1:World}
  (f1:GEnv g5 cF g6 hF K eK z d f) (O:G (GS d z f c1 cM d0 ⟨a5,a6,a7,⟨a8,a9,(a3,u.length,a4),aB⟩,⟨(none,0,0),(none,0,0),(none,0,0),(none,0,0),(none,0,0)⟩,(none,0,0)⟩)) (b4:G (J (K.heap.size<=·) K c1))
  (bI:G (∀j,J (TP d f) c1 j->(((((((BytesAt j z 0 cF/\strE.InS j (SF K d f) a5 hA)/\strE.InS j (SF K d f) a6 (eO.map (·.1)))/\mL.InS j (SF K d f) a7 (eO.map (·.2)))/\rngE.InS j (SF K d f) a8 (eM.map (·.1)))/\intE.InS j (SF K d f) a9 (eM.map (·.2)))/\zL pW (inR intE) j (SF K d f) (a3,u.length,a4) u)/\intE.InS j (SF K d f) aB gM)))
  (f7:G (Dr (zE xE) (okL ay) hA g6 false g7 h3))
  (f8:G (Dr (zE sC) (okL okTk) eO g7 h3 cI cZ))
  (f9:G (Dr (zE ptRc) (okL bf) eM cI cZ g8 h4))
  (fB:G (Dr ptTb okTb (u,aF) g8 h4 g9 h5))
  (fD:G (Dr (λe=>e.flatMap nQ) (λg4=>g4.length=(u,aF).1.length/\∀j∈g4,okEn j) gM g9 h5 cM d0))
  (hM:G (u.length<=65536/\aF<=65536/\∀h2∈u,h2.length=aF/\∀j∈h2,kE j)) :
  Code.wp prog (tlC 11 getC) (bodyPost prog f19 (pS hF g5)) (FrG eK z cF.length gI d f gO) c1:=by
 conv=>arg 2;whnf
 unfold FrG;simp only[frL,Nat.reduceAdd];have i0:=f1;obtain⟨k3,k2,k5,jZ,iS,iZ,j8,k1,k0⟩:=i0;go_wp2_with fail
 refine (tA c1 O.out.r).mono ?_;rintro a o ⟨aH,hK,h6,rfl,b,c,s,m⟩;obtain⟨cD,rfl⟩:=Ax3 s.1;have fI:G (cD<4294967296):=V (by have:=s.2;omega);replace O:=V (O.out.call b c);replace b4:G (J (K.heap.size<=·) K o):=V (b4.out.trans (c.mono λp _ a=>by have:=iS.o;omega));replace bI:=V (aj bI.out (c.mono λ_ _ a=>.inr a));have d4:=V m;clear b c m s
 go_upto_block 8 with fail
 go_cut [14,15,16,17,18] from 177 to 243 (λ_ _ _ _ _ x=>∃(e:List StD) (g a0:Sl) (b5:List Int) (bF:Bool),GS d z f x b5 bF ⟨a5,a6,a7,⟨a8,a9,(a3,u.length,a4),aB⟩,⟨g,(none,0,0),(none,0,0),(none,0,0),a0⟩,(none,0,0)⟩/\zL dStE dStR x (o.heap.size<=·) g e/\intE.InS x (o.heap.size<=·) a0 (vA e)/\J (TP d f) o x/\((∀g∈e,∀a∈g.2.1,0<=a.1)/\e.length<=50002)/\Dr (zE xU) (okL okSt) e cM d0 b5 bF)
 .go_wp2_with fail
  go_loopw [14] (λb0 wr=>∃(e:List StD) (aM:Nat) (g a0:Sl) (cH:List Int) (bB:Bool),b0=.int .i64 aM/\cD=e.length+aM/\GS d z f wr cH bB ⟨a5,a6,a7,⟨a8,a9,(a3,u.length,a4),aB⟩,⟨g,(none,0,0),(none,0,0),(none,0,0),a0⟩,(none,0,0)⟩/\W3 dStE dStR o.heap.size wr (slV g) (slV a0) e (vA e)/\J (TP d f) o wr/\(∀g∈e,∀a∈g.2.1,0<=a.1)/\DrL xU okSt cD hK h6 e cH bB) (λb0 _=>(intOf b0).toNat)
  .exact⟨[],cD,(none,0,0),(none,0,0),hK,h6,D,sI,O.out,⟨Gr.nil,.nil _ _,λi b=>by cases b⟩,J.refl _ _,(λ_ l=>by cases l),DrL.start _ _ _⟩
  .obtain⟨e,aM,⟨P,q,Q⟩,⟨aR,aV,aT⟩,cH,bB,rfl,bX,b,v,c,L,aI⟩:=hrel;obtain⟨n,rfl⟩:∃j:World,j=wr:=⟨_,D⟩;simp only[slV]at v;obtain⟨dO,bM,c9,eV,iL,iI⟩:=sF bX b v c aI L;have c6:G (e.length<=50002):=V (by have:=aI.k;have:=d4.o.l;have:=f7.o.l;have:=f8.o.l;have:=f9.o.l;have:=fB.o.l;have:=fD.o.l;have:=j8.o;omega);have fK:G (q=e.length):=V (v.a.list dStR.good).1;have dZ:=b.r.n;have dD:G (bB=true\/aM=0->∃(e:List StD) (g a0:Sl) (b5:List Int) (bF:Bool),GS d z f n b5 bF ⟨a5,a6,a7,⟨a8,a9,(a3,u.length,a4),aB⟩,⟨g,(none,0,0),(none,0,0),(none,0,0),a0⟩,(none,0,0)⟩/\zL dStE dStR n (o.heap.size<=·) g e/\intE.InS n (o.heap.size<=·) a0 (vA e)/\J (TP d f) o n/\((∀g∈e,∀a∈g.2.1,0<=a.1)/\e.length<=50002)/\Dr (zE xU) (okL okSt) e cM d0 b5 bF):=V λl=>⟨e,(P,q,Q),(aR,aV,aT),cH,bB,b,(v.a.list dStR.good).2,v.b.inS.2,c,⟨L,c6.o⟩,DrL.list d4.o.cnt aI (l.imp id H)⟩
   have f0:G (J (·=d) n n):=V cR;have g0:G (o.heap.size<=n.heap.size):=V c.size;clear bX b v c aI L;have kH:aM<=4294967295:=(by have:=dO.o;have:=fI.o;omega);cases aM with
   | zero =>
    go_wp2;go_meet
    exact dD.o sI
   | succ aM =>
    have e0:decide ((0:Int)<((aM+1:Nat):Int))=true:=decide_eq_true H;cases bB with
    | true =>
     go_wp2;go_meet
     exact dD.o sI
    | false =>
     clear dD;go_upto_region 34 with fail
     clear dZ e0
     go_wp2_with fail
     refine (tA n bM.o.r).mono ?_;rintro a eT ⟨k,gF,h8,rfl,b,c,s,m⟩;obtain⟨dH,d9,k4⟩:=rZ (bM.o.call b c) (f0.o.trans c) c
     have eZ:=V m;have fR:=V s;clear b c m s
     obtain⟨d2,cX⟩:=rK (eT.alloc (.cells #[.int .i64 k,.slice none 0 0,.slice none 0 0] 121));obtain⟨w,eD⟩:=rK eT.heap.size;have r:Cf eT d2:=(by rw[cX];exact rT);have dU:G (R13 w d2 [.int .i64 k,.slice none 0 0,.slice none 0 0]):=V (by rw[cX,eD];exact R13.made [.int .i64 k,.slice none 0 0,.slice none 0 0] _);have dK:=V (dH.o.fresh r);have f3:G (J (·=d) n d2):=V (d9.o.trans r.any);have y:G (n.heap.size<=w/\¬w=d/\¬w=f/\¬w=z/\d<n.heap.size/\z<n.heap.size/\f<n.heap.size):=V (by have:=dH.o.all;have:=d9.o.size;have:=bM.o.all;omega);go_upto_region 35 with fail
     rw[<-cX,<-eD];clear cX eD r;go_wp2_with fail
     refine (tA d2 dK.o.r).mono ?_;rintro a T ⟨aH,gH,nq,rfl,b,c,s,m⟩;obtain⟨aP,rfl⟩:=Ax3 s.1;have fH:G (aP<4294967296):=V (by have:=s.2;omega);obtain⟨dI,HEq,dT,d7⟩:=sB (dK.o.call b c) (f3.o.trans c) (dU.o.chg c dU.o.lt (by have:=y.o;omega)) m;have a1:G (d<T.heap.size/\z<T.heap.size/\f<T.heap.size/\w<T.heap.size/\n.heap.size<=T.heap.size):=V (by have:=dI.o.all;have:=dT.o.lt;have:=HEq.o.size;omega);clear b c s m dH d9 dU dK f3;go_upto_block 10 with fail
     go_cut [16,17,18] from 193 to 217 (λ_ _ _ x=>∃(h:List sU) (g:Sl) (b6:List Int) (bH:Bool),GS d z f x b6 bH ⟨a5,a6,a7,⟨a8,a9,(a3,u.length,a4),aB⟩,⟨(P,q,Q),(none,0,0),(none,0,0),(none,0,0),(aR,aV,aT)⟩,(none,0,0)⟩/\R13 w x [.int .i64 k,slV g,.slice none 0 0]/\nG.InS x (T.heap.size<=·) g h/\(J (·=d) n x/\T.heap.size<=x.heap.size)/\(∀a∈h,0<=a.1)/\Dr (zE sQ) (okL okEg) h gF h8 b6 bH)
     .go_wp2_with fail
      go_loopw [16] (λb0 wr=>∃(h:List sU) (aO:Nat) (g:Sl) (cK:List Int) (bD:Bool),b0=.int .i64 aO/\aP=h.length+aO/\GS d z f wr cK bD ⟨a5,a6,a7,⟨a8,a9,(a3,u.length,a4),aB⟩,⟨(P,q,Q),(none,0,0),(none,0,0),(none,0,0),(aR,aV,aT)⟩,(none,0,0)⟩/\R13 w wr [.int .i64 k,slV g,.slice none 0 0]/\nG.Own wr T.heap.size (slV g) h/\(J (·=d) n wr/\T.heap.size<=wr.heap.size)/\(∀a∈h,0<=a.1)/\DrL sQ okEg aP gH nq h cK bD) (λb0 _=>(intOf b0).toNat)
      .exact⟨[],aP,(none,0,0),gH,nq,D,sI,dI.o,dT.o,.nil _ _,⟨HEq.o,Ay1 _⟩,(λ_ l=>by cases l),DrL.start _ _ _⟩
      .obtain⟨h,aO,⟨U,X,W⟩,cK,bD,rfl,bX,b,A,v,c,L,aI⟩:=hrel;obtain⟨b2,rfl⟩:∃j:World,j=wr:=⟨_,D⟩;simp only[slV]at v A;obtain⟨dM,f5,fM,iP,i1,jB,iG,c5⟩:=sK bX b A v c.1 c.2 L aI;have hZ:G (h.length<=200000):=V (by have:=aI.k;have:=d7.o.l;have:=eZ.o.l;have:=bM.o.r.s;omega);have dZ:=b.r.n;have dB:G (bD=true\/aO=0->∃(h:List sU) (g:Sl) (b6:List Int) (bH:Bool),GS d z f b2 b6 bH ⟨a5,a6,a7,⟨a8,a9,(a3,u.length,a4),aB⟩,⟨(P,q,Q),(none,0,0),(none,0,0),(none,0,0),(aR,aV,aT)⟩,(none,0,0)⟩/\R13 w b2 [.int .i64 k,slV g,.slice none 0 0]/\nG.InS b2 (T.heap.size<=·) g h/\(J (·=d) n b2/\T.heap.size<=b2.heap.size)/\(∀a∈h,0<=a.1)/\Dr (zE sQ) (okL okEg) h gF h8 b6 bH):=V λl=>⟨h,(U,X,W),cK,bD,b,A,v.inS.2,c,L,DrL.list d7.o.cnt aI (l.imp id H)⟩
       clear bX b A v c aI L;have kF:aO<=4294967295:=(by have:=dM.o;have:=fH.o;omega);cases aO with
       | zero =>
        go_wp2;go_meet
        exact dB.o sI
       | succ aO =>
        have e0:decide ((0:Int)<((aO+1:Nat):Int))=true:=decide_eq_true H;cases bD with
        | true =>
         go_wp2;go_meet
         exact dB.o sI
        | false =>
         clear dB;go_upto_region 38 with fail
         clear dZ e0
         go_wp2_with fail
         refine (tA b2 f5.o.r).mono ?_;rintro a jV ⟨aY,k7,kM,rfl,b,c,s,m⟩;obtain⟨f6,i2,fO,iQ,j0⟩:=sD (f5.o.call b c) (i1.o.trans c) (fM.o.chg c fM.o.lt (by have:=y.o;omega)) (iP.o.chg c (λi b _ a=>by have:=a1.o;omega)) c.size
         have hS:=V m;have fP:=V s;clear b c m s
         go_wp2_with fail
         refine (tA jV f6.o.r).mono ?_;rintro a hH ⟨b3,k8,kO,rfl,b,c,s,m⟩;obtain⟨i9,i3,c8,iR,j1⟩:=sD (f6.o.call b c) (i2.o.trans c) (fO.o.chg c fO.o.lt (by have:=y.o;omega)) (iQ.o.chg c (λi b _ a=>by have:=a1.o;omega)) c.size
         have hT:=V m;have j2:=V s;clear b c m s
         have iB:G (b2.heap.size<=hH.heap.size):=V (Ay2 j0.o j1.o);go_upto_region 40 with fail
         refine rB 11 (·=d) (λjK=>decide (8<=jK)) ?_;intro eR d5 a2;have f4:=V (i9.o.fresh d5.o)
         have iV:=V (c8.o.chg d5.o c8.o.lt iD);refine lq 0 a2.o ?_
         (refine lf 1 a2.o (λ_ jH=>jH.cellS (iV.o.c 1 _ D) y.o.2.1) ?_);refine lq 2 a2.o ?_;refine lq 3 a2.o ?_;refine lq 4 a2.o ?_
         refine dg 5 (tA eR f4.o.r) iE M D D (by go_simp) ?_;intro j cI cZ d1 gV e5 h1 gT aP bV;(try go_simp)
         refine bV _ ?_;clear bV aP
         have a2:G (J (·=d) eR d1):=V e5;obtain⟨i4,hP,j7⟩:=rZ (f4.o.call gV e5) gT h1;clear gV e5 gT h1
         have iM:=V (c5.o.step jd (by have:=dM.o;omega) (hS.o.edge hT.o hP.o));refine lq 6 a2.o ?_;have fX:G (∀aH∈[((aY,b3,j):sU)],nG.ok aH):=V (λaH aK=>by rw[Ay]at aK;rw[aK];exact⟨u32c fP.o,u32c j2.o,u32c j7.o⟩);refine lt 7 (λ_=>a2.o.alloc _) ?_;obtain⟨c0,cV⟩:=rK (d1.alloc (.cells #[.int .i64 aY,.int .i64 b3,.int .i64 j] 123));have iX:G (Src prog nG.sz nG.sl (.slice (some ⟨d1.heap.size,0,none⟩) 1 1) 1 (nG.encs [((aY,b3,j):sU)]) c0):=V (by rw[cV];exact nG.srcLit (Y:=[((aY,b3,j):sU)]) 1 fX.o);have d3:G (Cf d1 c0):=V (by rw[cV];exact rT);rw[<-cV];clear cV;have i5:=V (i4.o.fresh d3.o);have cA:G (J (·=d) hH c0):=V ((d5.o.any.trans a2.o).trans d3.o.any);obtain⟨iT,c7,hU⟩:=rZ (c8.o.chg cA.o c8.o.lt y.o.2.1) (iR.o.chg cA.o (λi b _ a=>by have:=a1.o;omega)) (i3.o.trans cA.o);have g2:G (T.heap.size<=c0.heap.size):=V (Ay2 jB.o (Ay2 iB.o cA.o.size));replace a2:G (J (·=d) eR c0):=V (a2.o.trans d3.o.any);refine dW 8 nG [((aY,b3,j):sU)] c7.o g2.o fX.o iX.o (by have:=hZ.o;simp;omega) M D D D D D D ?_;intro C F E hG aX aZ B aP bV;(try go_simp)
         refine bV _ ?_;clear bV aP
         obtain⟨⟨b8,b9⟩,gX,N⟩:=iT.o.put (.slice C F E) 1 D aZ (λa=>by have:=(c7.o.blk a).1;have:=a1.o;omega);have iU:=V gX;have i6:=V ((i5.o.chg aZ (c7.o.non ⟨a1.o.1,a1.o.2.1,a1.o.2.2.1⟩)).chg N (by have:=y.o;exact⟨λa=>H,λa=>H,λa=>H⟩));have iO:=V (aX.chg N (λi b _ a=>by have:=a1.o;omega));have hV:G (J (·=d) n _):=V ((hU.o.trans2 aZ (λp cS a=>by have:=(c7.o.blk a).1;have:=a1.o;omega)).trans2 N (λp cS a=>by have:=y.o;omega));have j9:G (T.heap.size<=_):=V (Ay2 g2.o (Ay2 aZ.size N.size));have iH:G (∀a∈h++[((aY,b3,j):sU)],0<=a.1):=V (λa cO=>by
          rcases Aw9.1 cO with l|l
          .exact iG.o a l
          rw[Ay]at l;rw[l];exact fP.o.1)
         clear gX N aX aZ B;refine lt 9 (λl=>absurd l dE) ?_;refine ld 10 ?_;refine zQ M ?_ _;clear b8 b9;go_wp2;go_roundw
         .exact⟨h++[(aY,b3,j)],aO,(C,F,E),cI,cZ,GN,by have:=dM.o;rw[Az,List.length_singleton];omega,i6.o,iU.o,iO.o,⟨hV.o,j9.o⟩,iH.o,iM.o⟩
         simp[intOf]
     obtain⟨h,⟨U,X,W⟩,b6,bH,b,A,bZ,⟨cO,h0⟩,L,m⟩:=hcut;obtain⟨jT,rfl⟩:∃aF:World,aF=wc:=⟨_,D⟩;simp only[slV]at A;obtain⟨c4,dR,fF,f2,iK,eX,g3⟩:=sH b A bZ cO L m h0;clear b A bZ cO h0 L m dI dT HEq d7 fH;go_wp2_with fail
     refine (aA jT c4.o.r).mono ?_;rintro a hI ⟨Z,kV,gD,h7,rfl,cT,s,jI,b,c,m⟩;obtain⟨R,t,S,rfl⟩:=cT.shape3;have gZ:=dR.o.chg c dR.o.lt y.o.2.1;obtain⟨⟨b8,b9⟩,eB,b7⟩:=gZ.put (.slice R t S) 2 D (FR hI) iD;obtain⟨aD,eI⟩:=rK (hI.setCell ⟨w,2,none⟩ (.slice R t S));rw[<-eI]at eB b7;have bT:G (R13 w aD [.int .i64 k,.slice U X W,.slice R t S]):=V eB;have bO:=V ((c4.o.call b c).chg b7 (by have:=y.o;exact⟨λa=>H,λa=>H,λa=>H⟩));have c3:G (J (·=d) n aD):=V ((f2.o.trans c).trans2 b7 (λp cS a=>by have:=y.o;omega));have c5:G (t=Z.length/\Z.length<=200000):=V ⟨cT.inS.1,by have:=c4.o.r.s;omega⟩;have d8:G (dStR aD (λp=>n.heap.size<=p/\p<aD.heap.size) (k,(U,X,W),(R,t,S)) (k,h,Z)):=V (by
      have kK:=a1.o;have aK:=g3.o;refine⟨D,u32c fR.o,?_,?_⟩
      .refine (((fF.o).chg c (λi b a=>H)).chg b7 (λi b a=>H)).mono (λi e7 b=>⟨H,e7⟩)
      exact (cT.inS.2.chg b7 (λi b a=>H)).mono (λi e7 b=>⟨H,e7⟩))
     have dV:=V (c9.o.chg dStR.good c3.o (λp a=>by have:=O.out.all;omega));have c2:G (J (TP d f) o aD):=V (eV.o.trans (c3.o.mono λ_ _ a=>.inr a));have iN:=V (iL.o.step je (by have:=dO.o;omega) (eZ.o.st eX.o m));have bP:G ((∀i,(Value.slice P q Q).ownBlock=some i->i<n.heap.size)/\∀i,(Value.slice aR aV aT).ownBlock=some i->i<n.heap.size):=V ⟨λi b=>(c9.o.a.blk b).2,λi b=>(c9.o.b.blk b).2⟩;have j3:=V c3.o.size;clear cT s jI b c m gZ eB b7 c4 dR fF f2 g3 eX bM c9 eV f0 a1;go_upto_region 42 with fail
     rw[<-eI];clear eI b8 b9;have jM:aD.cell? ⟨w,2,none⟩=some (.slice R t S):=bT.o.c 2 _ D;go_upto_if 224 with fail
     clear jM
     go_cut [] from 224 to 235 (λx=>∃a0:Sl,GS d z f x gD h7 ⟨a5,a6,a7,⟨a8,a9,(a3,u.length,a4),aB⟩,⟨(P,q,Q),(none,0,0),(none,0,0),(none,0,0),a0⟩,(none,0,0)⟩/\W3 dStE dStR o.heap.size x (.slice P q Q) (slV a0) e (vA (e++[(k,h,Z)]))/\R13 w x [.int .i64 k,.slice U X W,.slice R t S]/\dStR x (λp=>o.heap.size<=p/\(slV a0).ownBlock≠some p/\(Value.slice P q Q).ownBlock≠some p) (k,(U,X,W),(R,t,S)) (k,h,Z)/\J (TP d f) o x)
     .by_cases kI:0<t
      .have jF:decide ((0:Int)<(t:Int))=true:=decide_eq_true H
       have d6:G (vA (e++[(k,h,Z)])=vA e++[(q:Int)]):=V (by rw[sg,if_pos (by show 0<Z.length;have:=c5.o;omega),fK.o]);have kP:aD.cell? ⟨f,11,none⟩=some (.slice aR aV aT):=bO.o.c 11 _ D;have h9:aD.cell? ⟨f,7,none⟩=some (.slice P q Q):=bO.o.c 7 _ D;have fZ:G (∀aH∈[(q:Int)],intE.ok aH):=V (λaH aK=>by rw[Ay]at aK;rw[aK];have:=fK.o;have:=c6.o;exact⟨H,H⟩);have r:Cf aD (aD.alloc (.cells #[.int .i64 (q:Int)] 3)):=rT;have dF:=V (bO.o.fresh r);have cB:=V (dV.o.chg dStR.good r (λ_ l=>l.elim));have bK:G (J (TP d f) o _):=V (c2.o.trans r.any);obtain⟨dP,hW,iY⟩:=rZ (bT.o.chg r bT.o.lt iD) (dStR.good.chg d8.o r iF) r.size;have hQ:G ((vA e).length<=60000):=V (by have:=vS e 0;unfold vA;have:=c6.o;omega);clear r;go_wp2_with (at_builtin;refine Elt.wpList_append2 intE D _ _ 25 25 D D o.heap.size (.slice aR aV aT) (vA e) [(q:Int)] (.slice (some ⟨aD.heap.size,0,none⟩) 1 1) D D cB.o.b bK.o.size (intE.srcLit (Y:=[(q:Int)]) 1 fZ.o) fZ.o (by have:=hQ.o;simp;omega) ?_;intro eP hG aX aZ B;obtain⟨C,F,E,eF⟩:=aX.out.shape3;subst eF;obtain⟨⟨b8,b9⟩,cP,N⟩:=dF.o.put (v':=.slice C F E) (m':=⟨a5,a6,a7,⟨a8,a9,(a3,u.length,a4),aB⟩,⟨(P,q,Q),(none,0,0),(none,0,0),(none,0,0),(C,F,E)⟩,(none,0,0)⟩) 11 D D B.out.1 (cB.o.b.non O.out.all))
       have fT:=V ((cB.o.appD dStR.good aX.out B.out.1 B.out.2).chg dStR.good N (λp a=>by have:=O.out.all;omega));rw[<-d6.o]at fT;have iW:=V ((dP.o.chg B.out.1 dP.o.lt (λa=>by have:=bP.o.2 _ a;have:=y.o;omega)).chg N (by have:=dP.o.lt;have:=B.out.1.size;omega) y.o.2.2.1);have hO:G (J (TP d f) o _):=V ((bK.o.trans2 B.out.1 (λp cS a=>by have:=(cB.o.b.blk a).1;omega)).trans (N.mono λ_ _ a=>.inl a));have hX:G (dStR _ (λp=>o.heap.size<=p/\(slV (C,F,E)).ownBlock≠some p/\(Value.slice P q Q).ownBlock≠some p) (k,(U,X,W),(R,t,S)) (k,h,Z)):=V (by
        have e9:=bP.o;have e2:=dStR.good.chg hW.o B.out.1 (λi b a=>by have:=e9.2 i a;omega);have gP:=dStR.good.chg e2 N (λi b a=>by have:=y.o;omega);refine dStR.good.mono gP (λi _ b=>⟨by have:=c2.o.size;have:=j3.o;have:=y.o;have:=O.out.all;have:=g0.o;omega,λa=>?_,λa=>by have:=e9.1 i a;omega⟩);rcases B.out.2 with e1|e1
        .rw[show (slV (C,F,E))=Value.slice C F E from D,e1]at a;have:=e9.2 i a;omega
        rw[show (slV (C,F,E))=Value.slice C F E from D,e1]at a;injection a with a;have:=iY.o;omega)
       have i8:=V cP;go_meet
       exact⟨(C,F,E),i8.o,fT.o,iW.o,hX.o,hO.o⟩
      .have jF:decide ((0:Int)<(t:Int))=false:=decide_eq_false H
       have d6:G (vA (e++[(k,h,Z)])=vA e):=V (by rw[sg,if_neg (by show ¬0<Z.length;have:=c5.o;omega),Av3]);go_wp2;go_meet
       exact⟨(aR,aV,aT),bO.o,by rw[d6.o];exact dV.o,bT.o,dStR.good.mono d8.o (λi _ b=>⟨by have:=g0.o;omega,λa=>by have:=bP.o.2 i a;omega,λa=>by have:=bP.o.1 i a;omega⟩),c2.o⟩
     obtain⟨⟨hC,hE,hD⟩,b,v,A,e6,c⟩:=hcut;obtain⟨b1,rfl⟩:∃aF:World,aF=wc:=⟨_,D⟩;simp only[slV]at v e6;obtain⟨jD,e3,gR,gS⟩:=v.a;have h9:b1.cell? ⟨f,7,none⟩=some (.slice P q Q):=b.c 7 _ D;have jO:b1.cell? ⟨w,0,none⟩=some (.int .i64 k):=A.c 0 _ D;have jP:b1.cell? ⟨w,1,none⟩=some (.slice U X W):=A.c 1 _ D;have jR:b1.cell? ⟨w,2,none⟩=some (.slice R t S):=A.c 2 _ D;have g1:G (∀aH∈[((k,(U,X,W),(R,t,S)):Int×Sl×Sl)],dStE.ok aH):=V (λaH aK=>by rw[Ay]at aK;rw[aK];exact u32c fR.o);have r:Cf b1 (b1.alloc (.cells #[.int .i64 k,.slice U X W,.slice R t S] 121)):=rT;obtain⟨hL,dF,j4,k6,fV,j6,dX,hY⟩:=sK r (b.fresh r) v e3 gR gS (e3.chg r (λ_ _ _ l=>l)) (dStR.good.chg e6 r iF);have bK:G (J (TP d f) o _):=V (c.trans r.any);clear b v A e6 c e3 gR gS r bO dV bT c2 d8 c3 bP y;go_wp2_with (at_builtin;refine Elt.wpList_append2 dStE D _ _ 38 38 D D o.heap.size (.slice P q Q) jD [(k,(U,X,W),(R,t,S))] (.slice (some ⟨b1.heap.size,0,none⟩) 1 1) D D dX.o bK.o.size (dStE.srcLit (Y:=[(k,(U,X,W),(R,t,S))]) 1 g1.o) g1.o (by have:=fV.o;have:=c6.o;simp;omega) ?_;intro eP hG aX aZ B;obtain⟨C,F,E,eF⟩:=aX.out.shape3;subst eF;obtain⟨⟨b8,b9⟩,cP,N⟩:=dF.o.put (v':=.slice C F E) (m':=⟨a5,a6,a7,⟨a8,a9,(a3,u.length,a4),aB⟩,⟨(C,F,E),(none,0,0),(none,0,0),(none,0,0),(hC,hE,hD)⟩,(none,0,0)⟩) 7 D D B.out.1 (dX.o.non O.out.all))
     have i7:=V cP;have j5:=V ((j4.o.appS dStR.good fV.o j6.o hL.o hY.o aX.out B.out.1 B.out.2).chg dStR.good N (λp a=>by have:=O.out.all;omega));have hN:G (J (TP d f) o _):=V ((bK.o.trans2 B.out.1 (λp cS a=>by have:=(dX.o.blk a).1;omega)).trans (N.mono λ_ _ a=>.inl a));have iC:G (∀g∈e++[((k,h,Z):StD)],∀a∈g.2.1,0<=a.1):=V (λg A=>by
      rcases Aw9.1 A with l|l
      .exact iI.o g l
      rw[Ay]at l;rw[l];exact iK.o)
     clear cP N b8 b9 h9 jO jP jR;go_roundw
     .exact⟨e++[(k,h,Z)],aM,(C,F,E),(hC,hE,hD),gD,h7,GN,by have:=dO.o;rw[Az,List.length_singleton];omega,i7.o,j5.o,hN.o,iC.o,iN.o⟩
     simp[intOf]
 obtain⟨hB,kT,⟨k9,gK,kB⟩,b5,bF,b,bZ,e8,c,L,m⟩:=hcut;obtain⟨jX,rfl⟩:∃aF:World,aF=wc:=⟨_,D⟩;have e4:=O.out.all;have eH:K.heap.size<=o.heap.size:=b4.out.size;replace bI:=V (addF (addF (aj bI.out c) ((zL.good dStR.good).keep bZ e4 eH)) ((inS.good intE).keep e8 e4 eH));replace O:=V b;replace b4:G (J (K.heap.size<=·) K jX):=V (b4.out.trans (c.mono λp _ a=>iZ.o p a));have iA:=V m;clear b c m e4 eH;have iJ:=V L.1;have hR:G (gK=(vA hB).length/\gK<=60000):=V (by have e2:=e8.len.1;have gP:=vS hB 0;have kD:=L.2;unfold vA at e2 ⊢;omega);clear bZ e8 L d4 fI;go_step
 refine ft eK z cF.length gI d f M (λgO=>?_);exact Ey f1 O b4 bI f7 f8 f9 fB fD hM iA iJ hR
theorem Fa {c6 bI e5:List Int}{dR n:World}{cM L c f e9:Nat}{eD:Nat->Value}{f1:List Str}{dP:List (Str×Bool)}{u v w:Sl}{e6 aB:List Int}{eX aM:Bool}{t:World}
  (dZ:GEnv c6 bI e5 dR n cM L c f) (j:G (GS c L f t aB aM ⟨u,v,w,⟨(none,0,0),(none,0,0),(none,0,0),(none,0,0)⟩,⟨(none,0,0),(none,0,0),(none,0,0),(none,0,0),(none,0,0)⟩,(none,0,0)⟩)) (x:G (J (n.heap.size<=·) n t))
  (U:G (∀g,J (TP c f) t g->(((BytesAt g L 0 bI/\strE.InS g (SF n c f) u f1)/\strE.InS g (SF n c f) v (dP.map (·.1)))/\mL.InS g (SF n c f) w (dP.map (·.2)))))
  (d3:G (Dr (zE xE) (okL ay) f1 e5 false e6 eX))
  (d4:G (Dr (zE sC) (okL okTk) dP e6 eX aB aM)) :
  Code.wp prog (tlC 8 getC) (bodyPost prog f19 (pS dR c6)) (FrG cM L bI.length e9 c f eD) t:=by
 conv=>arg 2;whnf
 unfold FrG;simp only[frL,Nat.reduceAdd];have fB:=dZ;obtain⟨fP,fO,gO,fD,fM,c3,fX,fK,gM⟩:=fB;go_wp2_with fail
 refine (tA t j.out.r).mono ?_;rintro a q ⟨a8,f7,eZ,rfl,e,d,a3,o⟩;obtain⟨c5,rfl⟩:=Ax3 a3.1;have e1:G (c5<4294967296):=V (by have:=a3.2;omega);replace j:=V (j.out.call e d);replace x:G (J (n.heap.size<=·) n q):=V (x.out.trans (d.mono λh _ a=>by have:=fM.o;omega));replace U:=V (aj U.out (d.mono λ_ _ a=>.inr a));have c0:=V o;clear e d o a3
 go_upto_block 4 with fail
 go_cut [10,11,12] from 100 to 142 (λ_ _ _ T=>∃(b:List ((Int×Int)×Int)) (p S:Sl) (b6:List Int) (b8:Bool),GS c L f T b6 b8 ⟨u,v,w,⟨p,S,(none,0,0),(none,0,0)⟩,⟨(none,0,0),(none,0,0),(none,0,0),(none,0,0),(none,0,0)⟩,(none,0,0)⟩/\rngE.InS T (q.heap.size<=·) p (b.map (·.1))/\intE.InS T (q.heap.size<=·) S (b.map (·.2))/\J (TP c f) q T/\Dr (zE ptRc) (okL bf) b aB aM b6 b8)
 .go_wp2_with fail
  go_loopw [10] (λb0 wr=>∃(b:List ((Int×Int)×Int)) (a6:Nat) (p S:Sl) (a1:List Int) (y:Bool),b0=.int .i64 a6/\c5=b.length+a6/\GS c L f wr a1 y ⟨u,v,w,⟨p,S,(none,0,0),(none,0,0)⟩,⟨(none,0,0),(none,0,0),(none,0,0),(none,0,0),(none,0,0)⟩,(none,0,0)⟩/\W2 rngE intE q.heap.size wr (slV p) (slV S) (b.map (·.1)) (b.map (·.2))/\J (TP c f) q wr/\DrL ptRc bf c5 f7 eZ b a1 y) (λb0 _=>(intOf b0).toNat)
  .exact⟨[],c5,(none,0,0),(none,0,0),f7,eZ,D,sI,j.out,⟨.nil _ _,.nil _ _,λeF e=>by cases e⟩,J.refl _ _,DrL.start _ _ _⟩
  .obtain⟨b,a6,⟨bK,bX,bM⟩,⟨e7,f0,eB⟩,a1,y,rfl,bO,e,R,d,Q⟩:=hrel;obtain⟨O,rfl⟩:∃g:World,g=wr:=⟨_,D⟩;simp only[slV]at R;obtain⟨aT,a9,aV,b4,c1⟩:=sD bO e R d Q;have c2:G (b.length<=50002):=V (by have:=Q.k;have:=c0.o.l;have:=d3.o.l;have:=d4.o.l;have:=fX.o;omega);have d9:=e.r.n;have X:G (y=true\/a6=0->∃(b:List ((Int×Int)×Int)) (p S:Sl) (b6:List Int) (b8:Bool),GS c L f O b6 b8 ⟨u,v,w,⟨p,S,(none,0,0),(none,0,0)⟩,⟨(none,0,0),(none,0,0),(none,0,0),(none,0,0),(none,0,0)⟩,(none,0,0)⟩/\rngE.InS O (q.heap.size<=·) p (b.map (·.1))/\intE.InS O (q.heap.size<=·) S (b.map (·.2))/\J (TP c f) q O/\Dr (zE ptRc) (okL bf) b aB aM b6 b8):=V λi=>⟨b,(bK,bX,bM),(e7,f0,eB),a1,y,e,R.a.inS.2,R.b.inS.2,d,DrL.list c0.o.cnt Q (i.imp id H)⟩
   clear bO e R d Q;have gZ:a6<=4294967295:=(by have:=aT.o;have:=e1.o;omega);cases a6 with
   | zero =>
    go_wp2;go_meet
    exact X.o sI
   | succ a6 =>
    have cA:decide ((0:Int)<((a6+1:Nat):Int))=true:=decide_eq_true H;cases y with
    | true =>
     go_wp2;go_meet
     exact X.o sI
    | false =>
     clear X;go_upto_region 20 with fail
     clear d9 cA
     go_wp2_with fail
     refine (tA O a9.o.r).mono ?_;rintro a f4 ⟨s,gP,hB,rfl,e,d,a3,o⟩;have d1:=V (a9.o.call e d);have e3:=V (aV.o.chg d (λh a=>by have:=j.out.all;omega));have dU:G (J (TP c f) q f4):=V (b4.o.trans (d.mono λ_ _ a=>.inr a))
     have dX:=V o;have fR:=V a3;clear e d o a3
     go_wp2_with fail
     refine (tA f4 d1.o.r).mono ?_;rintro a f5 ⟨l,gR,nq,rfl,e,d,a3,o⟩;have d2:=V (d1.o.call e d);have e4:=V (e3.o.chg d (λh a=>by have:=j.out.all;omega));have cV:G (J (TP c f) q f5):=V (dU.o.trans (d.mono λ_ _ a=>.inr a))
     have dV:=V o;have fT:=V a3;clear e d o a3
     go_upto_region 22 with fail
     obtain⟨e8,eO⟩:=rK (decide (1114111<s) || decide (1114111<l));have bZ:=V eO;clear eO
     go_cut [120] from 115 to 119 (λf3 T=>f3=.bool e8/\T=f5)
     .by_cases eH:1114111<s
      .have dB:decide (1114111<s)=true:=decide_eq_true eH
       go_wp2;go_meet
       exact⟨by rw[bZ.o,dB,Bool.true_or],D⟩
      have dB:decide (1114111<s)=false:=decide_eq_false eH
      go_wp2;go_meet
      exact⟨by rw[bZ.o,dB,Au9],D⟩
     obtain⟨rfl,rfl⟩:=hcut;cases e8 with
     | true =>
      have cF:1114111<s\/1114111<l:=(by have:=bZ.o.symm;simpa using this);have e2:G (getR c6=(4,none)):=V (eh fD.o (by
       cases fZ:sS bI with
       | none=>rfl
       | some S =>
        obtain⟨C,z,A⟩:=fK.o S fZ;exact (El (jg d3.o d4.o C A) c0.o c1.o (by have:=aT.o;omega) dX.o dV.o C z cF).elim))
      have f8:G (J (n.heap.size<=·) n wc):=V (x.out.trans (cV.o.mono λh _ a=>c3.o h a));clear cF;have cB:=fO.o wc f8.o;obtain⟨gI,cH⟩:=rK (xC cM 0 tC wc);obtain⟨dF,dH⟩:=cB.1.set tC D;rw[<-cH]at dF dH;have f9:G (pS dR c6 (.returned (.tuple #[kN nilT,.int .i64 4])) gI):=V ⟨cB.2.trans2 dH (λh dK a=>by have:=fP.o;omega),nilT,by rw[e2.o],.inl ⟨by rw[e2.o],D⟩⟩;obtain⟨⟨h0,aF,aH,h4,h5,h6,h7,h8,h9,hA,h1,h2,h3⟩,hD,hE,hI,hK,hL,hM,hN,hO,hP,hQ,hF,hG,hH⟩:=R13.all cB.1;obtain⟨⟨u,v,w,b1,b2,f2,g9,gD,gF,gH,g6,g7,g8⟩,-⟩:=R13.all dF;simp only[xC,tC,Ax,Nat.reduceAdd]at cH;have fV:=V cH;clear cH cB dF dH;go_wp2;rw[<-fV.o];exact bodyPost_ret (v:=.tuple #[.agg #[.slice none 0 0,.slice none 0 0,.slice none 0 0,.slice none 0 0,.slice none 0 0,.slice none 0 0,.slice none 0 0,.slice none 0 0,.slice none 0 0,.slice none 0 0,.slice none 0 0,.slice none 0 0,.slice none 0 0],.int .i64 4]) (by simp[results,results19,go_sem,u,v,w,b1,b2,f2,g9,gD,gF,gH,g6,g7,g8]) D f9.o
     | false =>
      have cF:s<=1114111/\l<=1114111:=(by have:=bZ.o.symm;simpa using this);obtain⟨u1,-⟩:=fR.o;obtain⟨u2,-⟩:=fT.o;have g1:IntKind.i32.wrap s=s:=(by rw[IntKind.wrap_i32];omega);have g2:IntKind.i32.wrap l=l:=(by rw[IntKind.wrap_i32];omega);have g4:wc.cell? ⟨f,3,none⟩=some (.slice bK bX bM):=d2.o.c 3 _ D;have d8:G (∀a8∈[(s,l)],rngE.ok a8):=V (λa8 aD=>by rw[Ay]at aD;rw[aD];exact⟨⟨by show (-2147483648:Int)<=s;omega,by show s<=2147483647;omega⟩,⟨by show (-2147483648:Int)<=l;omega,by show l<=2147483647;omega⟩⟩);have cD:Cf wc (wc.alloc (.cells #[.int .i32 s,.int .i32 l] 117)):=rT;have e0:=V (d2.o.fresh cD);have bD:=V (e4.o.chg cD (λ_ i=>i.elim));have cT:G (J (TP c f) q _):=V (cV.o.trans cD.any);clear cF u1 u2 cD;go_upto_region 24 with fail
      go_upto_region 25 with (at_builtin;refine Elt.wpList_append2 rngE rfl _ _ 24 24 rfl rfl q.heap.size (.slice bK bX bM) (b.map (λg=>g.1)) [(s,l)] (.slice (some ⟨wc.heap.size,0,none⟩) 1 1) rfl rfl bD.o.a cT.o.size (rngE.srcLit (Y:=[(s,l)]) 1 d8.o) d8.o (by have:=c2.o;simp;omega) ?_;intro cO dT C z A;obtain⟨E,K,F,g0⟩:=C.out.shape3;subst g0;obtain⟨⟨aF,aH⟩,B,r⟩:=e0.o.put (v':=.slice E K F) (m':=⟨u,v,w,⟨(E,K,F),(e7,f0,eB),(none,0,0),(none,0,0)⟩,⟨(none,0,0),(none,0,0),(none,0,0),(none,0,0),(none,0,0)⟩,(none,0,0)⟩) 3 rfl rfl A.out.1 (bD.o.a.non j.out.all))
      have aR:=V B;have aX:=V ((bD.o.app C.out A.out.1 A.out.2).chg r (λh a=>by have:=j.out.all;omega));have aO:G (J (TP c f) q _):=V ((cT.o.trans2 A.out.1 (λh dK a=>by have:=(bD.o.a.blk a).1;omega)).trans (r.mono λ_ _ a=>.inl a));clear B r aF aH g4 g1 g2;clear a9 aV b4 d1 e3 dU d2 e4 cV e0 bD cT d8 C z A;obtain⟨O,eV⟩:=rK (dT.setCell ⟨f,3,none⟩ (.slice E K F));rw[<-eV]at aR aX aO ⊢;clear eV;have a9:=aR;have aV:=aX;have b4:=aO;clear aR aX aO
      obtain⟨c8,cI,c9,eI,eK,eM⟩:∃c8 cI c9,c8=E/\cI=K/\c9=F:=⟨_,_,_,D,D,D⟩;rw[<-eI,<-eK,<-eM]at a9 aV;clear eI eK eM
      refine rB 10 (·=c) (λdO=>decide (6<=dO)) ?_;intro b3 aP k;have Z:=V (a9.o.fresh aP.o);refine lq 0 k.o ?_;refine lq 1 k.o ?_;(refine lf 2 k.o (λ_ dD=>dD.cellS (Z.o.c 4 _ D) (λa=>Z.o.ne.1 a.symm)) ?_);refine lq 3 k.o ?_
      refine dg 4 (tA b3 Z.o.r) iE M D D (by go_simp) ?_;intro g aB aM a7 bT aZ bV bP aY N;(try go_simp)
      refine N _ ?_;clear N aY
      have k:G (J (·=c) b3 a7):=V aZ;obtain⟨cZ,cX,c4⟩:=rZ (Z.o.call bT aZ) bP bV;clear bT aZ bP bV
      have d6:=V (c1.o.step jc (by have:=aT.o;omega) (dX.o.rc dV.o cX.o))
      have bF:G (∀a8∈[g],intE.ok a8):=V (λa8 aD=>by rw[Ay]at aD;rw[aD];exact u32c c4.o);refine lt 5 (λ_=>k.o.alloc _) ?_;obtain⟨t,a5⟩:=rK (a7.alloc (.cells #[.int .i64 g] 3));have d7:G (Src prog intE.sz intE.sl (.slice (some ⟨a7.heap.size,0,none⟩) 1 1) 1 (intE.encs [g]) t):=V (by rw[a5];exact intE.srcLit (Y:=[g]) 1 bF.o);have W:G (Cf a7 t):=V (by rw[a5];exact rT);rw[<-a5];clear a5;have d0:=V (cZ.o.fresh W.o);have bB:G (J (TP c f) q t):=V (((b4.o.trans aP.o.any).trans (k.o.mono λ_ _ a=>.inr a)).trans W.o.any);have a0:=V (((aV.o.chg aP.o (λ_ i=>i.elim)).chg k.o (λh a=>by have:=j.out.all;omega)).chg W.o (λ_ i=>i.elim));replace k:G (J (·=c) b3 t):=V (k.o.trans W.o.any);refine dW 6 intE [g] a0.o.swap.a bB.o.size bF.o d7.o (by have:=c2.o;simp;omega) M D D D D D D ?_;intro E K F dT C z A aY N;(try go_simp)
      refine N _ ?_;clear N aY
      obtain⟨⟨aF,aH⟩,B,r⟩:=d0.o.put (v':=.slice E K F) (m':=⟨u,v,w,⟨(c8,cI,c9),(E,K,F),(none,0,0),(none,0,0)⟩,⟨(none,0,0),(none,0,0),(none,0,0),(none,0,0),(none,0,0)⟩,(none,0,0)⟩) 4 D D z (a0.o.swap.a.non j.out.all);have aR:=V B;have aX:=V ((a0.o.swap.app C z A).swap.chg r (λh a=>by have:=j.out.all;omega));have aO:G (J (TP c f) q _):=V ((bB.o.trans2 z (λh dK a=>by have:=(a0.o.swap.a.blk a).1;omega)).trans (r.mono λ_ _ a=>.inl a));clear B r C z A;refine lt 7 (λi=>absurd i dE) ?_;refine lt 8 (λi=>absurd i dE) ?_
      refine ld 9 ?_;refine zQ M ?_ _;clear aF aH
      go_wp2;go_roundw
      .exact⟨b++[((s,l),g)],a6,(c8,cI,c9),(E,K,F),aB,aM,GN,by have:=aT.o;rw[Az,List.length_singleton];omega,aR.o,by rw[List.map_append,List.map_append];exact aX.o,aO.o,d6.o⟩
      simp[intOf]
 obtain⟨hC,b1,b2,b6,b8,e,l,eR,d,o⟩:=hcut;obtain⟨cP,rfl⟩:∃b5:World,b5=wc:=⟨_,D⟩;have a2:=j.out.all;have a4:n.heap.size<=q.heap.size:=x.out.size;replace U:=V (addF (addF (aj U.out d) ((inS.good rngE).keep l a2 a4)) ((inS.good intE).keep eR a2 a4));replace j:=V e;replace x:G (J (n.heap.size<=·) n cP):=V (x.out.trans (d.mono λh _ a=>c3.o h a));have fF:=V o;clear e d o a2 a4;clear l eR c0 e1;go_wp2_with fail
 refine (rz cP j.out.r).mono ?_;rintro a f6 ⟨m,b5,aI,aK,c7,cK,rfl,l,e,d,eP,o⟩;obtain⟨⟨aF,aH⟩,B,r⟩:=(j.out.call e d).put (v':=.slice aI m.length aK) (m':=⟨u,v,w,⟨b1,b2,(aI,m.length,aK),(none,0,0)⟩,⟨(none,0,0),(none,0,0),(none,0,0),(none,0,0),(none,0,0)⟩,(none,0,0)⟩) 5 D D (FR f6) ⟨λi=>i,λi=>i,λi=>i⟩;obtain⟨P,dM⟩:=rK (f6.setCell ⟨f,5,none⟩ (.slice aI m.length aK));rw[<-dM]at B r;have a2:=j.out.all;have a4:n.heap.size<=cP.heap.size:=x.out.size;have dI:J (TP c f) cP P:=(d.mono λ_ _ a=>.inr a).trans (r.mono λ_ _ a=>.inl a);replace U:=V (addF (aj U.out dI) ((zL.good inR.good).keep ((zL.good inR.good).chg l r (λeF e a=>H)) a2 a4));replace j:=V B;replace x:G (J (n.heap.size<=·) n P):=V (x.out.trans (dI.mono λh _ a=>c3.o h a));have fH:=V o;have cS:=V eP;clear l e d eP o B r a2 a4 dI;go_upto_region 27 with fail
 rw[<-dM];clear dM aF aH;go_upto_block 6 with fail
 go_cut [13] from 150 to 174 (λ_ T=>∃(b:List Int) (p:Sl) (b7:List Int) (b9:Bool),GS c L f T b7 b9 ⟨u,v,w,⟨b1,b2,(aI,m.length,aK),p⟩,⟨(none,0,0),(none,0,0),(none,0,0),(none,0,0),(none,0,0)⟩,(none,0,0)⟩/\intE.InS T (P.heap.size<=·) p b/\J (TP c f) P T/\Dr (λb=>b.flatMap nQ) (λbH=>bH.length=(m,b5).1.length/\∀g∈bH,okEn g) b c7 cK b7 b9)
 .go_wp2_with fail
  go_loopw [13] (λb0 wr=>∃(b:List Int) (h:Nat) (p:Sl) (a1:List Int) (y:Bool),b0=.int .i64 h/\b.length=h/\GS c L f wr a1 y ⟨u,v,w,⟨b1,b2,(aI,m.length,aK),p⟩,⟨(none,0,0),(none,0,0),(none,0,0),(none,0,0),(none,0,0)⟩,(none,0,0)⟩/\W2 intE mL P.heap.size wr (slV p) (.slice none 0 0) b []/\J (TP c f) P wr/\DrL nQ okEn m.length c7 cK b a1 y) (λb0 _=>m.length-(intOf b0).toNat)
  .exact⟨[],0,(none,0,0),c7,cK,D,D,j.out,⟨.nil _ _,.nil _ _,λeF e=>by cases e⟩,J.refl _ _,DrL.start _ _ _⟩
  .obtain⟨b,h,⟨bK,bX,bM⟩,a1,y,rfl,bO,e,R,d,Q⟩:=hrel;obtain⟨O,rfl⟩:∃g:World,g=wr:=⟨_,D⟩;simp only[slV]at R;obtain⟨aT,a9,aV,b4,c1⟩:=sD bO e R d Q;have c2:G (b.length<=65536):=V (by have:=Q.n;have:=cS.o.1;omega);have d9:=e.r.n;have g5:O.cell? ⟨f,5,none⟩=some (.slice aI m.length aK):=e.c 5 _ D;have X:G (y=true\/h=m.length->∃(b:List Int) (p:Sl) (b7:List Int) (b9:Bool),GS c L f O b7 b9 ⟨u,v,w,⟨b1,b2,(aI,m.length,aK),p⟩,⟨(none,0,0),(none,0,0),(none,0,0),(none,0,0),(none,0,0)⟩,(none,0,0)⟩/\intE.InS O (P.heap.size<=·) p b/\J (TP c f) P O/\Dr (λb=>b.flatMap nQ) (λbH=>bH.length=(m,b5).1.length/\∀g∈bH,okEn g) b c7 cK b7 b9):=V λi=>⟨b,(bK,bX,bM),a1,y,e,R.a.inS.2,d,Q.fin (i.imp id H)⟩
   have gT:h<=m.length:=(by have:=Q.n;omega);have gV:m.length<=65536:=cS.o.1;clear bO e R d Q;by_cases gX:h<m.length
   rotate_left
   .have cA:=rR h m.length
    have eT:h=m.length:=H;have d5:=V (X.o (.inr eT));clear eT X;go_wp2;go_meet
    exact d5.o
   have cA:=rO h m.length
   cases y with
   | true =>
    have d5:=V (X.o (.inl D));clear X;go_wp2;go_meet
    exact d5.o
   | false =>
    clear X;go_upto_region 30 with fail
    clear d9 cA g5;refine rB 11 (·=c) (λdO=>decide (7<=dO)) ?_;intro b3 aP k;have Z:=V (a9.o.fresh aP.o);refine lq 0 k.o ?_;refine lq 1 k.o ?_;(refine lf 2 k.o (λ_ dD=>dD.cellS (Z.o.c 6 _ D) (λa=>Z.o.ne.1 a.symm)) ?_);refine lq 3 k.o ?_
    refine dg 4 (tA b3 Z.o.r) iE M D D (by go_simp) ?_;intro g aB aM a7 bT aZ bV bP aY N;(try go_simp)
    refine N _ ?_;clear N aY
    have k:G (J (·=c) b3 a7):=V aZ;obtain⟨cZ,cX,c4⟩:=rZ (Z.o.call bT aZ) bP bV;clear bT aZ bP bV
    have d6:=V (c1.o.step ss (by have:=aT.o;omega) cX.o.en);have g3:IntKind.i64.wrap (g-1)=g-1:=(by obtain⟨u1,u2⟩:=c4.o;rw[IntKind.wrap_i64];omega);refine lq 5 k.o ?_;clear g3
    have bF:G (∀a8∈[g-1],intE.ok a8):=V (λa8 aD=>by rw[Ay]at aD;rw[aD];exact (by obtain⟨u1,u2⟩:=c4.o;exact⟨H,H⟩));refine lt 6 (λ_=>k.o.alloc _) ?_;obtain⟨t,a5⟩:=rK (a7.alloc (.cells #[.int .i64 (g-1)] 3));have d7:G (Src prog intE.sz intE.sl (.slice (some ⟨a7.heap.size,0,none⟩) 1 1) 1 (intE.encs [g-1]) t):=V (by rw[a5];exact intE.srcLit (Y:=[g-1]) 1 bF.o);have W:G (Cf a7 t):=V (by rw[a5];exact rT);rw[<-a5];clear a5;have d0:=V (cZ.o.fresh W.o);have bB:G (J (TP c f) P t):=V (((b4.o.trans aP.o.any).trans (k.o.mono λ_ _ a=>.inr a)).trans W.o.any);have a0:=V (((aV.o.chg aP.o (λ_ i=>i.elim)).chg k.o (λh a=>by have:=j.out.all;omega)).chg W.o (λ_ i=>i.elim));replace k:G (J (·=c) b3 t):=V (k.o.trans W.o.any);refine dW 7 intE [g-1] a0.o.a bB.o.size bF.o d7.o (by have:=c2.o;simp;omega) M D D D D D D ?_;intro E K F dT C z A aY N;(try go_simp)
    refine N _ ?_;clear N aY
    obtain⟨⟨aF,aH⟩,B,r⟩:=d0.o.put (v':=.slice E K F) (m':=⟨u,v,w,⟨b1,b2,(aI,m.length,aK),(E,K,F)⟩,⟨(none,0,0),(none,0,0),(none,0,0),(none,0,0),(none,0,0)⟩,(none,0,0)⟩) 6 D D z (a0.o.a.non j.out.all);have aR:=V B;have aX:=V ((a0.o.app C z A).chg r (λh a=>by have:=j.out.all;omega));have aO:G (J (TP c f) P _):=V ((bB.o.trans2 z (λh dK a=>by have:=(a0.o.a.blk a).1;omega)).trans (r.mono λ_ _ a=>.inl a));clear B r C z A;refine lt 8 (λi=>absurd i dE) ?_;refine lt 9 (λi=>absurd i dE) ?_
    refine ld 10 ?_;refine zQ M ?_ _;clear aF aH
    go_wp2;go_roundw
    .exact⟨b++[g-1],h+1,(E,K,F),aB,aM,GN,by have:=aT.o;rw[Az,List.length_singleton];omega,aR.o,aX.o,aO.o,d6.o⟩
    simp[intOf];omega
 obtain⟨gS,f2,b7,b9,e,l,d,o⟩:=hcut;obtain⟨gK,rfl⟩:∃b5:World,b5=wc:=⟨_,D⟩;have a2:=j.out.all;have a4:n.heap.size<=P.heap.size:=x.out.size;replace U:=V (addF (aj U.out d) ((inS.good intE).keep l a2 a4));replace j:=V e;replace x:G (J (n.heap.size<=·) n gK):=V (x.out.trans (d.mono λh _ a=>c3.o h a));have fI:=V o;clear e d o a2 a4;clear l;go_step
 refine ft cM L bI.length e9 c f M (λeD=>?_);exact Ez dZ j x U d3 d4 fF fH fI cS
theorem tj (c:IntKind) (b:Nat) (l:b<=c.bits) (m:∀a:Int,0<=a->a<2 ^ b->c.wrap a=a) (d e:Nat) (f:d<2 ^ b) (g:e<2 ^ b):bits .xor c d e=((d ^^^ e:Nat):Int):=by
 have h:2 ^ b<=2 ^ c.bits:=Nat.pow_le_pow_right dE l;have j:d % 2 ^ c.bits=d:=Nat.mod_eq_of_lt (Ay9 f h);have k:e % 2 ^ c.bits=e:=Nat.mod_eq_of_lt (Ay9 g h);have cast:∀a:Nat,a<2 ^ b->((a:Nat):Int)<2 ^ b:=λa i=>by exact_mod_cast i
 simp only[bits,BitVec.ofInt_natCast,BitVec.toNat_xor,BitVec.toNat_ofNat,j,k];exact m _ (Int.natCast_nonneg _) (cast _ (Nat.xor_lt_two_pow f g))
theorem fu (a b:Nat) (c:a<4294967296) (d:b<4294967296):bits .xor .u32 a b=((a ^^^ b:Nat):Int):=tj .u32 32 dE wraps_u32 a b c d
theorem xor8 (a b:Nat) (c:a<256) (d:b<256):bits .xor .u8 a b=((a ^^^ b:Nat):Int):=tj .u8 8 dE wraps_u8 a b c d
def invL:List Nat:=[0,65,195,130,134,199,69,4,77,12,142,207,203,138,8,73,154,219,89,24,28,93,223,158,215,150,20,85,81,16,146,211,117,52,182,247,243,178,48,113,56,121,251,186,190,255,125,60,239,174,44,109,105,40,170,235,162,227,97,32,36,101,231,166,234,171,41,104,108,45,175,238,167,230,100,37,33,96,226,163,112,49,179,242,246,183,53,116,61,124,254,191,187,250,120,57,159,222,92,29,25,88,218,155,210,147,17,80,84,21,151,214,5,68,198,135,131,194,64,1,72,9,139,202,206,143,13,76,149,212,86,23,19,82,208,145,216,153,27,90,94,31,157,220,15,78,204,141,137,200,74,11,66,3,129,192,196,133,7,70,224,161,35,98,102,39,165,228,173,236,110,47,43,106,232,169,122,59,185,248,252,189,63,126,55,118,244,181,177,240,114,51,127,62,188,253,249,184,58,123,50,115,241,176,180,245,119,54,229,164,38,103,99,34,160,225,168,233,107,42,46,111,237,172,10,75,201,136,140,205,79,14,71,6,132,197,193,128,2,67,144,209,83,18,22,87,213,148,221,156,30,95,91,26,152,217]
theorem Fb:∀i:Fin 256,0<=tabI i.val/\tabI i.val<4294967296/\invL[(tabI i.val).toNat / 16777216]?=some i.val:=by decide +kernel
theorem Fc (f:a<256):∃b:Nat,tabI a=b/\b<4294967296/\invL[b / 16777216]?=some a:=by
 obtain⟨c,d,e⟩:=Fb ⟨a,f⟩;exact⟨(tabI a).toNat,by simp only at c;omega,by simp only at d;omega,e⟩
theorem Fe (i:a<4294967296) (d:b<256):∃c:Nat,tabI (a % 256 ^^^ b)=c/\bj a b=((a / 256 ^^^ c:Nat):Int)/\c<4294967296/\invL[c / 16777216]?=some (a % 256 ^^^ b):=by
 have h:a % 256 ^^^ b<256:=Nat.xor_lt_two_pow (n:=8) (Nat.mod_lt _ H) d;obtain⟨c,e,f,g⟩:=Fc h;refine⟨c,e,?_,f,g⟩;unfold bj;rw[show ((a:Int) % 256)=((a % 256:Nat):Int) by omega,show ((a:Int) / 256)=((a / 256:Nat):Int) by omega,xor8 _ _ (Nat.mod_lt _ H) d,Ay5,e,fu _ _ H f]
def bL (y:Nat):Nat:=(y / 2) ^^^ (if y % 2=1 then 3988292384 else 0)
def eL:Nat->Nat->Nat
 | 0,y=>y
 | j+1,y=>bL (eL j y)
theorem Ff (b:a<4294967296):bL a<4294967296:=Nat.xor_lt_two_pow (n:=32) H (by split <;> decide)
theorem Fg (d:a<4294967296):fq a=(bL a:Nat):=by
 have c:bits BinOp.and IntKind.u32 (a:Int) 1=((a % 2:Nat):Int):=by
  have:=(bits_nat .u32 32 dE wraps_u32 a 1 H dE).1;rw[Nat.and_one_is_mod]at this;exact this
 unfold fq bL;rw[c,show ((a:Int) / 2)=((a / 2:Nat):Int) by omega];rcases Nat.mod_two_eq_zero_or_one a with b|b
 .rw[b,if_neg H]
  exact fu _ 0 H H
 rw[b,if_pos D]
 exact fu _ 3988292384 H H
theorem jk (a:Nat) {y:Nat}(c:y<4294967296):eg a y=(eL a y:Nat)/\eL a y<4294967296:=by
 induction a with
 | zero=>exact⟨D,c⟩
 | succ a b =>
  refine⟨?_,Ff b.2⟩;show fq (eg a y)=_;rw[b.1,Fg b.2]
  rfl
theorem Fh (a b:Nat):bL (a ^^^ b)=bL a ^^^ bL b:=by
 unfold bL;have j:(a ^^^ b) / 2=a / 2 ^^^ b / 2:=Nat.xor_div_two_pow (n:=1);have k:(a ^^^ b) % 2=a % 2 ^^^ b % 2:=Nat.xor_mod_two_pow (n:=1);rw[j,k];have i:∀f c d e:Nat,(f ^^^ d) ^^^ (c ^^^ e)=(f ^^^ c) ^^^ (d ^^^ e):=λf c d e=>by
  rw[Nat.xor_assoc,Nat.xor_assoc,<-Nat.xor_assoc d c e,Nat.xor_comm d c,Nat.xor_assoc c d e]
 rw[i]
 congr 1
 rcases Nat.mod_two_eq_zero_or_one a with g|g <;> rcases Nat.mod_two_eq_zero_or_one b with h|h <;> rw[g,h] <;> decide
theorem Fi (a b c:Nat):eL a (b ^^^ c)=eL a b ^^^ eL a c:=by
 induction a with
 | zero=>rfl
 | succ a d =>
  show bL (eL a (b ^^^ c))=_;rw[d,Fh]
  rfl
theorem Fj (a b:Nat):eL a (2 ^ a * b)=b:=by
 induction a generalizing b with
 | zero=>simp[eL]
 | succ a c =>
  show bL (eL a (2 ^ (a+1) * b))=b;rw[Nat.pow_succ,Nat.mul_assoc,c];unfold bL;rw[if_neg H,Nat.xor_zero];omega
theorem Fk (a:Nat):a=256 * (a / 256) ^^^ a % 256:=by
 have b:(256 * (a / 256) ^^^ a % 256) / 256=(256 * (a / 256)) / 256 ^^^ (a % 256) / 256:=Nat.xor_div_two_pow (n:=8);have c:(256 * (a / 256) ^^^ a % 256) % 256=(256 * (a / 256)) % 256 ^^^ (a % 256) % 256:=Nat.xor_mod_two_pow (n:=8);rw[Nat.mul_div_cancel_left _ H,show a % 256 / 256=0 by omega,Nat.xor_zero]at b;rw[Nat.mul_mod_right,Nat.zero_xor,Nat.mod_mod]at c;have:=Nat.div_add_mod (256 * (a / 256) ^^^ a % 256) 256;rw[b,c]at this;omega
theorem Fl (i:a<4294967296) (d:b<256):bj a b=((eL 8 (a ^^^ b):Nat):Int):=by
 obtain⟨j,c,g,_,_⟩:=Fe i d;have k:a % 256 ^^^ b<256:=Nat.xor_lt_two_pow (n:=8) (Nat.mod_lt _ H) d;have h:j=eL 8 (a % 256 ^^^ b):=by
  have:=(jk 8 (y:=a % 256 ^^^ b) H).1;rw[tabI]at c;rw[this]at c;exact_mod_cast c.symm
 rw[g,h]
 congr 1
 have e:(a ^^^ b) / 256=a / 256 ^^^ b / 256:=Nat.xor_div_two_pow (n:=8);have f:(a ^^^ b) % 256=a % 256 ^^^ b % 256:=Nat.xor_mod_two_pow (n:=8);rw[show b / 256=0 by omega,Nat.xor_zero]at e;rw[show b % 256=b by omega]at f
 conv=>rhs;rw[Fk (a ^^^ b),Fi,e,f]
 rw[show 256 * (a / 256)=2 ^ 8 * (a / 256) from D,Fj]
def bA (Z:List Int) (y:Nat):Nat:=Z.foldl (λy c=>eL 8 (y ^^^ c.toNat)) y
theorem jl (b:List Int) (f:∀c∈b,Byte c) (a:Nat) (e:a<4294967296):bA b a<4294967296/\b.foldl bj (a:Int)=(bA b a:Nat):=by
 induction b generalizing a with
 | nil=>exact⟨e,D⟩
 | cons l b k =>
  have g:=f l sI;obtain⟨d,rfl⟩:=Ax3 g.1;have i:d<256:=by have:=g.2;omega
  have j:a ^^^ d<4294967296:=Nat.xor_lt_two_pow (n:=32) e H;have:=k (λc h=>f c (by simp[h])) (eL 8 (a ^^^ d)) (jk 8 j).2;refine⟨this.1,?_⟩;rw[List.foldl_cons,Fl e i];exact this.2
theorem Fm (a:List Int) (e:∀c∈a,Byte c):ofI a=((4294967295 ^^^ bA a 4294967295:Nat):Int):=by
 have b:=jl a e 4294967295 H;unfold ofI df;have f:(IntKind.u32.max:Int)=((4294967295:Nat):Int):=dE
 have d:a.foldl bj 4294967295=(bA a 4294967295:Nat):=b.2;rw[d,f];exact fu _ _ H b.1
structure BoolsAt (w:World) (b:Nat) (A:Nat->Bool):Prop where
 c:∀i,i<32->w.cell? ⟨b,i,none⟩=some (.bool (A i))
 z:∀j,w.frozen? ⟨b,j,none⟩=false
theorem BoolsAt.congr {c A':Nat->Bool}(d:BoolsAt w a c) (f:∀b,b<32->A' b=c b):BoolsAt w a A':=⟨λb e=>by rw[f b e];exact d.c b e,d.z⟩
theorem BoolsAt.put {d:Nat->Bool}(c:BoolsAt w a d) {k:Nat}(j:k<32) (h:Bool):BoolsAt (w.setCell ⟨a,k,none⟩ (.bool h)) a (λb=>if b=k then h else d b):=by
 refine⟨λb g=>?_,λi=>(Az3 _ _ _ _).trans (c.z i)⟩;by_cases f:b=k
 .subst f
  rw[if_pos D];exact Az9 _ _ _ (c.c _ g)
 rw[if_neg f,Ay0 _ _ _ _ (by intro e;injection e with _ e;omega)]
 exact c.c b g
def fv:Array Value:=Array.replicate 32 (.bool false)
theorem Fo (w:World):(zeroValue 209).run prog w=.ok (.agg fv) w:=M
theorem BoolsAt.made (a:World) (b:TypeId):BoolsAt (a.alloc (.cells fv b)) a.heap.size (λ_=>false):=by
 refine⟨λd c=>?_,λe=>Az6 _ _ _ _⟩;rw[Az5];simp[fv,c]
theorem tl (b a:Nat):((((b:Int) / 2 ^ a).tmod 2 == 1):Bool)=b.testBit a:=by
 have f:((b:Int) / 2 ^ a)=((b / 2 ^ a:Nat):Int):=sI
 have e:∀c:Nat,((c:Nat):Int).tmod 2=((c % 2:Nat):Int):=λc=>by rw[Int.tmod_eq_emod_of_nonneg (Int.natCast_nonneg _)];omega
 have g:=e (b / 2 ^ a);rw[f,g,Nat.testBit_eq_decide_div_mod_eq];rcases Nat.mod_two_eq_zero_or_one (b / 2 ^ a) with d|d <;> rw[d] <;> rfl
theorem Fp (i:List Int) (U:Option Addr) (aO aV b3:Nat) (f:World) (P:BytesAt f aO aV i) (Z:0<i.length->U=some ⟨aO,aV,none⟩) (c4:i.length<=10000000) :
  Calls prog 77 #[.slice U i.length b3] f λC bH=>C=.returned (.int .u32 (ofI i))/\Cf f bH:=by
 obtain⟨L,aY,a6,a8⟩:=sB P Z (BoolsAt.made f 209) ((J.refl (λb=>f.heap.size<=b) f).alloc (.cells fv 209));have c7:=Fo;clear P Z;go_enter func77,ntmps77
 go_wp2
 go_loopw [4] (λa wr=>∃b:Nat,b<=32/\a=.int .i64 b/\BoolsAt wr f.heap.size (λa=>decide (a<b))/\J (λb=>f.heap.size<=b) f wr) (λa _=>32-(intOf a).toNat)
 .exact⟨0,H,D,a6.o.congr (λa _=>sI),a8.o⟩
 clear a6 a8;obtain⟨b,b8,rfl,l,m⟩:=hrel;have c:=V l;have e:=V m;clear l m;by_cases aP:b<32
 .have aI:=c.o.c b aP
  have bM:=c.o.z b;have h:=V ((c.o.put aP true).congr (A':=λa=>decide (a<b+1)) (λa _=>by
   by_cases o:a=b
   .subst o;simp
   rw[if_neg o,decide_eq_decide];omega))
  have s:=V (e.o.trans ((zA wr f.heap.size b (.bool true)).mono (T:=λb=>f.heap.size<=b) (λb _ C=>H)));have bO:decide ((b:Int)<32)=true:=sO;clear c e;go_wp2;go_roundw
  .first|exact⟨b+1,H,GN,h.o,s.o⟩|((repeat apply Ay4);exact⟨⟨b+1,H,D,h.o,s.o⟩,D⟩)
  simp[intOf];omega
 obtain rfl:b=32:=H
 have a7:G (BoolsAt wr f.heap.size (λa=>(bA (i.take 0) 4294967295).testBit a)):=V (c.o.congr (λa k=>by
  show (4294967295:Nat).testBit a=decide (a<32);rw[show (4294967295:Nat)=2 ^ 32-1 from D,Nat.testBit_two_pow_sub_one]))
 have K:=e;clear c e;go_wp2;obtain⟨v,rfl⟩:∃v:World,v=wr:=⟨_,D⟩
 go_loopw [5] (λa wr=>∃b:Nat,b<=i.length/\a=.int .i64 b/\BoolsAt wr f.heap.size (λa=>(bA (i.take b) 4294967295).testBit a)/\J (λb=>f.heap.size<=b) f wr) (λa _=>i.length-(intOf a).toNat)
 .exact⟨0,H,D,a7.o,K.o⟩
 clear a7 K;obtain⟨b,b8,rfl,l,m⟩:=hrel;have c:=V l;have e:=V m;clear l m;by_cases b9:b<i.length
 .obtain⟨F,P,aI,bK,bM⟩:=(L.o.chg e.o.fresh iE).get b9
  have a2:=aY.o H;subst a2;have aF:=V P;clear P aI;have bP:=rO b i.length;go_wp2;obtain⟨bI,rfl⟩:∃v:World,v=wr:=⟨_,D⟩
  go_loopw [6] (λa wr=>∃g:Nat,g<=8/\a=.int .i64 g/\BoolsAt wr f.heap.size (λa=>if a<g then (bA (i.take b) 4294967295 ^^^ F.toNat).testBit a else (bA (i.take b) 4294967295).testBit a)/\J (λb=>f.heap.size<=b) f wr) (λa _=>8-(intOf a).toNat)
  .exact⟨0,H,D,c.o.congr (λa _=>by rw[if_neg H]),e.o⟩
  clear c e;obtain⟨g,b6,rfl,l,m⟩:=hrel;have c:=V l;have e:=V m;clear l m;by_cases b7:g<8
  .obtain⟨c1,_⟩:=(L.o.chg e.o.fresh iE).c b F aF.o
   have aK:=c.o.c g H;have cA:=c.o.z g;have bT:decide ((g:Int)<8)=true:=sO;obtain⟨w,rfl⟩:=Ax3 bK;have z:=tl w g;rw[if_neg H]at aK;obtain⟨t,p⟩:=rM ((bA (i.take b) 4294967295).testBit g);rw[p]at aK;cases q:w.testBit g with
   | false =>
    rw[q]at z;have h:=V (c.o.congr (A':=λa=>if a<g+1 then (bA (i.take b) 4294967295 ^^^ (Int.ofNat w).toNat).testBit a else (bA (i.take b) 4294967295).testBit a) (λa _=>by
     by_cases o:a=g
     .subst o
      rw[if_pos H,if_neg H,Nat.testBit_xor,show (Int.ofNat w).toNat=w from D,q];simp
     by_cases k:a<g
     .rw[if_pos H,if_pos k];rfl
     rw[if_neg H,if_neg k]))
    clear c p q;go_wp2;go_roundw
    .first|exact⟨g+1,H,GN,h.o,e.o⟩|((repeat apply Ay4);exact⟨⟨g+1,H,D,h.o,e.o⟩,D⟩)
    .simp[intOf];omega
   | true =>
    rw[q]at z;have h:=V ((c.o.put (k:=g) H (!t)).congr (A':=λa=>if a<g+1 then (bA (i.take b) 4294967295 ^^^ (Int.ofNat w).toNat).testBit a else (bA (i.take b) 4294967295).testBit a) (λa _=>by
     by_cases o:a=g
     .subst o
      rw[if_pos H,if_pos D,Nat.testBit_xor,show (Int.ofNat w).toNat=w from D,q,p];simp
     rw[if_neg o]
     by_cases k:a<g
     .rw[if_pos H,if_pos k];rfl
     rw[if_neg H,if_neg k]))
    have s:=V (e.o.trans ((zA wr f.heap.size g (.bool (!t))).mono (T:=λb=>f.heap.size<=b) (λb _ C=>H)));clear c e p q;go_wp2;go_roundw
    .first|exact⟨g+1,H,GN,h.o,s.o⟩|((repeat apply Ay4);exact⟨⟨g+1,H,D,h.o,s.o⟩,D⟩)
    simp[intOf];omega
  obtain rfl:g=8:=H
  have aT:bA (i.take b) 4294967295<4294967296:=(jl _ (λU Z=>L.o.byte U (Av8 Z)) _ H).1;obtain⟨r,u⟩:=rM (bA (i.take b) 4294967295 ^^^ F.toNat);have a0:r<4294967296:=(by rw[<-u];exact Nat.xor_lt_two_pow (n:=32) aT H);have aB:G (bA (i.take (b+1)) 4294967295=eL 8 r):=V (by
   rw[Ay3,aF.o];show List.foldl _ _ (i.take b++[F])=_;rw[List.foldl_append,<-u]
   rfl)
  have A:G (BoolsAt wr f.heap.size (λa=>(eL 0 r).testBit a)):=V (c.o.congr (λa _=>by
   by_cases k:a<8
   .rw[if_pos k,u];rfl
   rw[if_neg k]
   show r.testBit a=_;rw[<-u,Nat.testBit_xor,Nat.testBit_lt_two_pow (x:=F.toNat) (Ay9 (show F.toNat<2 ^ 8 by omega) (Nat.pow_le_pow_right H H))];simp))
  have K:=e;have b1:=V a0;clear c e aT u a0;go_wp2;obtain⟨c8,rfl⟩:∃v:World,v=wr:=⟨_,D⟩
  go_loopw [7] (λa wr=>∃g:Nat,g<=8/\a=.int .i64 g/\BoolsAt wr f.heap.size (λa=>(eL g r).testBit a)/\J (λb=>f.heap.size<=b) f wr) (λa _=>8-(intOf a).toNat)
  .exact⟨0,H,D,A.o,K.o⟩
  clear A K;obtain⟨g,b6,rfl,l,m⟩:=hrel;have c:=V l;have e:=V m;clear l m;by_cases b7:g<8
  .obtain⟨j,Y⟩:=rM (eL g r)
   have b2:G (j<4294967296):=V (by rw[<-Y];exact (jk g b1.o).2);have aD:G (eL (g+1) r=bL j):=V (by rw[<-Y];rfl);have A:G (BoolsAt wr f.heap.size (λa=>j.testBit a)):=V (by rw[<-Y];exact c.o);have aH:=A.o.c 0 H;obtain⟨a1,a4⟩:=rM (j.testBit 0);rw[a4]at aH;have b0:G (a1=decide (j % 2=1)):=V (by rw[<-a4,Nat.testBit_zero]);have bV:decide ((g:Int)<8)=true:=sO;clear c Y a4;go_wp2;obtain⟨c9,rfl⟩:∃v:World,v=wr:=⟨_,D⟩
   go_loopw [9] (λa wr=>∃d:Nat,d<=31/\a=.int .i64 d/\BoolsAt wr f.heap.size (λa=>if a<d then j.testBit (a+1) else j.testBit a)/\J (λb=>f.heap.size<=b) f wr) (λa _=>31-(intOf a).toNat)
   .exact⟨0,H,D,A.o.congr (λa _=>by rw[if_neg H]),e.o⟩
   clear A e aH;obtain⟨d,bD,rfl,l,m⟩:=hrel;have c:=V l;have e:=V m;clear l m;by_cases c5:d<31
   .have aM:=c.o.c (d+1) H
    have B:=c.o.c d H;have aX:=c.o.z d;rw[if_neg H]at aM B;obtain⟨t,p⟩:=rM (j.testBit (d+1));obtain⟨bF,O⟩:=rM (j.testBit d);rw[p]at aM;rw[O]at B;have h:=V ((c.o.put (k:=d) H t).congr (A':=λa=>if a<d+1 then j.testBit (a+1) else j.testBit a) (λa _=>by
     by_cases o:a=d
     .subst o;rw[if_pos H,if_pos D,p]
     rw[if_neg o]
     by_cases k:a<d
     .rw[if_pos H,if_pos k]
     rw[if_neg H,if_neg k]))
    have s:=V (e.o.trans ((zA wr f.heap.size d (.bool t)).mono (T:=λb=>f.heap.size<=b) (λb _ C=>H)));have bX:decide ((d:Int)<31)=true:=sO;clear c e p O;go_wp2;go_roundw
    .first|exact⟨d+1,H,GN,h.o,s.o⟩|((repeat apply Ay4);exact⟨⟨d+1,H,D,h.o,s.o⟩,D⟩)
    simp[intOf];omega
   obtain rfl:d=31:=H
   have B:=c.o.c 31 H;have aX:=c.o.z 31;rw[if_neg H]at B;obtain⟨bF,O⟩:=rM (j.testBit 31);rw[O]at B;have h:=V ((c.o.put (k:=31) H false).congr (A':=λa=>(j / 2).testBit a) (λa k=>by
    rw[Nat.testBit_div_two];by_cases o:a=31
    .subst o;rw[if_pos D,Nat.testBit_lt_two_pow (by have:=b2.o;exact this)]
    rw[if_neg o,if_pos H]))
   have s:=V (e.o.trans ((zA wr f.heap.size 31 (.bool false)).mono (T:=λb=>f.heap.size<=b) (λb _ C=>H)));clear c e O;go_wp2
   go_loopw [10] (λa wr=>∃d:Nat,d<=32/\a=.int .i64 d/\BoolsAt wr f.heap.size (λa=>if a<d then (bL j).testBit a else (j / 2).testBit a)/\J (λb=>f.heap.size<=b) f wr) (λa _=>32-(intOf a).toNat)
   .exact⟨0,H,D,h.o.congr (λa _=>by rw[if_neg H]),s.o⟩
   clear h s B aX;obtain⟨d,bD,rfl,l,m⟩:=hrel;have c:=V l;have e:=V m;clear l m;by_cases aR:d<32
   .have W:=c.o.c d aR
    have cB:=c.o.z d;rw[if_neg H]at W;obtain⟨t,p⟩:=rM ((j / 2).testBit d);rw[p]at W;have z:(((3988292384:Int) / 2 ^ d).tmod 2 == 1)=(3988292384:Nat).testBit d:=tl 3988292384 d;have bZ:decide ((d:Int)<32)=true:=sO;have S:G ((bL j).testBit d=(t != (a1 && (3988292384:Nat).testBit d))):=V (by
     rw[bL,Nat.testBit_xor,p,b0.o];by_cases E:j % 2=1
     .rw[if_pos E];simp[E]
     rw[if_neg E];simp[E])
    cases y:(a1 && (3988292384:Nat).testBit d) with
    | false =>
     have h:=V (c.o.congr (A':=λa=>if a<d+1 then (bL j).testBit a else (j / 2).testBit a) (λa _=>by
      by_cases o:a=d
      .subst o
       rw[if_pos H,if_neg H,S.o,y,p];simp
      by_cases k:a<d
      .rw[if_pos H,if_pos k]
      rw[if_neg H,if_neg k]))
     clear S p c;cases a1 with
     | false =>
      clear y;go_wp2;go_roundw
      .first|exact⟨d+1,H,GN,h.o,e.o⟩|((repeat apply Ay4);exact⟨⟨d+1,H,D,h.o,e.o⟩,D⟩)
      .simp[intOf];omega
     | true =>
      have q:(3988292384:Nat).testBit d=false:=(by simpa using y);rw[q]at z;clear y q;go_wp2;go_roundw
      .first|exact⟨d+1,H,GN,h.o,e.o⟩|((repeat apply Ay4);exact⟨⟨d+1,H,D,h.o,e.o⟩,D⟩)
      .simp[intOf];omega
    | true =>
     have h:=V ((c.o.put aR (!t)).congr (A':=λa=>if a<d+1 then (bL j).testBit a else (j / 2).testBit a) (λa _=>by
      by_cases o:a=d
      .subst o
       rw[if_pos H,if_pos D,S.o,y];simp
      rw[if_neg o]
      by_cases k:a<d
      .rw[if_pos H,if_pos k]
      rw[if_neg H,if_neg k]))
     have s:=V (e.o.trans ((zA wr f.heap.size d (.bool (!t))).mono (T:=λb=>f.heap.size<=b) (λb _ C=>H)));rw[Ay6]at y;obtain⟨E,q⟩:=y;rw[q]at z;subst E;clear S p c e q;go_wp2;go_roundw
     .first|exact⟨d+1,H,GN,h.o,s.o⟩|((repeat apply Ay4);exact⟨⟨d+1,H,D,h.o,s.o⟩,D⟩)
     simp[intOf];omega
   obtain rfl:d=32:=H
   have h:G (BoolsAt wr f.heap.size (λa=>(eL (g+1) r).testBit a)):=V (by rw[aD.o];exact c.o.congr (λa k=>by rw[if_pos k]));clear c aD;go_wp2;go_roundw
   .first|exact⟨g+1,H,GN,h.o,e.o⟩|((repeat apply Ay4);exact⟨⟨g+1,H,D,h.o,e.o⟩,D⟩)
   simp[intOf];omega
  obtain rfl:g=8:=H
  have h:G (BoolsAt wr f.heap.size (λa=>(bA (i.take (b+1)) 4294967295).testBit a)):=V (by rw[aB.o];exact c.o);clear c aB;go_wp2;go_roundw
  .first|exact⟨b+1,H,GN,h.o,e.o⟩|((repeat apply Ay4);exact⟨⟨b+1,H,D,h.o,e.o⟩,D⟩)
  simp[intOf];omega
 obtain rfl:b=i.length:=H
 rw[Ay7]at c;obtain⟨r,u⟩:=rM (bA i 4294967295);rw[u]at c;have a9:G (ofI i=((4294967295 ^^^ r:Nat):Int)):=V (by rw[<-u];exact Fm i L.o.byte);have a0:r<4294967296:=(by rw[<-u];exact (jl i L.o.byte _ H).1);obtain⟨M,X⟩:=rM (4294967295 ^^^ r);have b4:M<4294967296:=(by rw[<-X];exact Nat.xor_lt_two_pow (n:=32) H a0);have aZ:G (∀n,n<32->M.testBit n=!r.testBit n):=V (λn z=>by
  rw[<-X,Nat.testBit_xor,show (4294967295:Nat)=2 ^ 32-1 from D,Nat.testBit_two_pow_sub_one];simp[z])
 rw[X]at a9;clear u X;go_wp2;obtain⟨bI,rfl⟩:∃v:World,v=wr:=⟨_,D⟩
 go_loopw [11,12] (λa5 a wr=>∃Q:Nat,Q<=32/\a=.int .i64 ((Q:Int)-1)/\a5=.int .u32 ((M / 2 ^ Q:Nat):Int)/\BoolsAt wr f.heap.size (λa=>r.testBit a)/\J (λb=>f.heap.size<=b) f wr) (λ_ a _=>(intOf a+1).toNat)
 .exact⟨32,H,D,by rw[Nat.div_eq_of_lt b4];rfl,c.o,e.o⟩
 clear c e;obtain⟨Q,c6,rfl,rfl,l,m⟩:=hrel;have c:=V l;have e:=V m;clear l m;rcases Q with _|n
 .go_wp2
  go_ret
  exact⟨by rw[a9.o];simp,e.o.fresh⟩
 have a2:(((n+1:Nat):Int))-1=(n:Int):=H
 rw[a2];have W:=c.o.c n H;obtain⟨t,p⟩:=rM (r.testBit n);rw[p]at W;obtain⟨N,a3⟩:=rM (M / 2 ^ (n+1));have b5:M / 2 ^ n / 2=N:=(by rw[<-a3,Nat.pow_succ,Nat.div_div_eq_div_mul]);have bB:M / 2 ^ n<=M:=Nat.div_le_self _ _;have q:decide (M / 2 ^ n % 2=1)=!t:=(by rw[<-Nat.testBit_eq_decide_div_mod_eq,aZ.o n H,p]);have R:G (M / 2 ^ n=2 * N+(if t then 0 else 1)):=V (by
  cases t with
  | true=>simp at q;rw[if_pos D];omega
  | false=>simp at q;rw[if_neg dE];omega)
 have c3:N<=2147483647:=H;have c0:decide ((0:Int)<=(n:Int))=true:=sI;rw[a3];clear a3 b5 bB q p;cases t with
 | true =>
  have c2:((2 * N:Nat):Int)=2 * (N:Int):=H;go_wp2;go_roundw
  .first|exact⟨n,H,by first|rfl|go_num,by rw[R.o,if_pos D];first|rfl|simp,c.o,e.o⟩|((repeat apply Ay4);exact⟨⟨n,H,D,by rw[R.o,if_pos D];rfl,c.o,e.o⟩,D⟩)
  .simp[intOf]
 | false =>
  go_wp2;go_roundw
  .first|exact⟨n,H,by first|rfl|go_num,by rw[R.o,if_neg dE];first|rfl|simp,c.o,e.o⟩|((repeat apply Ay4);exact⟨⟨n,H,D,by rw[R.o,if_neg dE];rfl,c.o,e.o⟩,D⟩)
  simp[intOf]
def dN (N:Int):Nat->Int
 | 0=>N
 | j+1=>dN N j / 256
def digs (N:Int):Nat->List Int
 | 0=>[]
 | j+1=>digs N j++[dN N j % 256]
theorem Fq (b:0<=x) (c:x<=4294967295) (a:Nat):0<=dN x a/\dN x a<=4294967295:=by
 induction a with
 | zero=>exact⟨b,c⟩
 | succ a d=>show 0<=dN x a / 256/\dN x a / 256<=4294967295;omega
theorem Fr (a:0<=x) (b:x<=4294967295):digs x 4=kG x:=by
 simp only[digs,dN,kG,Av,At0,List.cons.injEq,and_true,true_and];omega
theorem Fs (b:Int) (a:Nat):(digs b a).length=a:=by
 induction a with
 | zero=>rfl
 | succ a c=>simp[digs,c]
theorem tm (a:List Int) (g:Option Addr) (o v n:Nat) (h:World) (i:BytesAt h o v a) (s:0<a.length->g=some ⟨o,v,none⟩) (Z:a.length<=10000000) :
  Calls prog 32 #[.slice g a.length n] h λC L=>∃f,C=.returned f/\Own L h.heap.size f (rG a)/\Cf h L:=by
 obtain⟨m,T,P,Q⟩:=sB (Fp a g o v n h i s Z) i s i.byte;obtain⟨w,x⟩:=iz a;obtain⟨d,r⟩:=rM (ofI a);have S:G (rG a=a++kG d):=V (by rw[rG,r]);rw[r]at m w x;clear i s r;go_enter func32,ntmps32
 go_wp2_with fail
 refine m.o.mono ?_;rintro C e ⟨rfl,F⟩;have k:=V F;clear F m;go_wp2_with (at_builtin;refine xJ rfl _ _ 45 rfl e.heap.size (.slice none 0 0) [] a (.slice g a.length n) rfl rfl (.inl ⟨rfl,rfl⟩) (Ay1 _) (tS (T.o.chg k.o iE) P.o) Q.o sO ?_;intro a8 a9 y z O)
 go_loopw [3,4,5] (λa0 f t wr=>∃b:Nat,b<=4/\t=.int .i64 b/\a0=.int .u32 (dN d b)/\Own wr e.heap.size f (([]++a)++digs d b)/\J (λu=>e.heap.size<=u) e wr) (λ_ _ t _=>4-(intOf t).toNat)
 .exact⟨0,H,rfl,rfl,by simpa [digs] using y.o,z.o⟩
 clear y z O;obtain⟨b,a5,rfl,rfl,K,E⟩:=hrel;have l:=V K;have j:=V E;clear K E;obtain⟨X,Y⟩:=Fq w x b;by_cases a6:b<4
 .obtain⟨D,q⟩:=rM (dN d b)
  have A:=V q;rw[q]at X Y ⊢;clear q;have a7:D % 256 % 256=D % 256:=H;have B:G (∀g∈[D % 256],Byte g):=V sO;have a4:=Fs d b;have a3:decide ((b:Int)<4)=true:=sO;go_wp2_with (at_builtin;refine xJ rfl _ _ 45 rfl e.heap.size _ (([]++a)++digs d b) [D % 256] (.slice (some ⟨wr.heap.size,0,none⟩) 1 1) rfl rfl (l.o.chg ((FR wr).alloc _) (λ_ _ _ p=>p)) (Ay2 j.o.size ((FR wr).alloc _).size) (srcLit 1 B.o) B.o sO ?_;intro a1 N U W a2)
  have c:G (Own N e.heap.size a1 (([]++a)++digs d (b+1))/\J (λu=>e.heap.size<=u) e N/\dN d (b+1)=D / 256):=V ⟨by rw[digs,<-Az7,A.o];exact U.out,j.o.trans ((rT).trans W.out),by rw[dN,A.o]⟩;go_roundw
  .first|exact⟨b+1,H,GN,by rw[c.o.2.2],c.o.1,c.o.2.1⟩|((repeat apply Ay4);exact⟨⟨b+1,H,rfl,by rw[c.o.2.2],c.o.1,c.o.2.1⟩,rfl⟩)
  simp[intOf];omega
 obtain rfl:b=4:=H
 have c:G (∀f,Own wr e.heap.size f (([]++a)++digs d 4)->Own wr h.heap.size f (rG a)):=V (λf p=>by
  rw[S.o,<-Fr w x];exact p.lower k.o.size)
 have R:=V (c.o _ l.o);clear c l;go_wp2;go_ret
 exact⟨_,rfl,R.o,k.o.trans j.o.fresh⟩
end Go.Proofs.YtgnpmceimpjheaaGreat
