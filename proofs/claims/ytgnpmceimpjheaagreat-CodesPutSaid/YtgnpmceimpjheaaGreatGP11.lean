/- A part of the proof: RefOfR RefOfB RowsX RefMake RefMay. -/
import Derived.Test.YtgnpmceimpjheaaGreatGP2
import Derived.Test.YtgnpmceimpjheaaGreatGP10
import Derived.Test.YtgnpmceimpjheaaGreatGP8
set_option maxRecDepth 100000
set_option maxHeartbeats 16000000
namespace Go.Proofs.YtgnpmceimpjheaaGreat
open Go.RowKit
structure TwoL (B:Nat) (w:World) (v u:Value) (A T:List Int):Prop where
 a:intE.Own w B v A
 t:intE.Own w B u T
 apart:∀g,v.ownBlock=some g->u.ownBlock≠some g
theorem TwoL.chg {S:Nat->Prop}{B:Nat}{w w':World}{v u:Value}{A T:List Int}(h:TwoL B w v u A T) (hc:Chg S w w') (hs:∀g,B<=g->g<w.heap.size->¬S g):TwoL B w' v u A T :=
 ⟨h.a.chg hc hs,h.t.chg hc hs,h.apart⟩
theorem TwoL.appA {B:Nat}{w w':World}{v v' u:Value}{A A' T:List Int}(h:TwoL B w v u A T) (ha:intE.Own w' B v' A') (hc:Chg (λk=>v.ownBlock=some k) w w') (hv:v'.ownBlock=v.ownBlock\/v'.ownBlock=some w.heap.size):TwoL B w' v' u A' T :=
 ⟨ha,h.t.chgB hc (λg hg e=>h.apart g e hg),λg hg hu=>by
  rcases hv with hv|hv
  .rw[hv]at hg;exact h.apart g hg hu
  .rw[hv]at hg
   obtain rfl:=Az3 hg;have:=(h.t.blk hu).2;omega⟩
theorem TwoL.appT {B:Nat}{w w':World}{v u u':Value}{A T T':List Int}(h:TwoL B w v u A T) (ht:intE.Own w' B u' T') (hc:Chg (λk=>u.ownBlock=some k) w w') (hu:u'.ownBlock=u.ownBlock\/u'.ownBlock=some w.heap.size):TwoL B w' v u' A T' :=
 ⟨h.a.chgB hc (λg hg e=>h.apart g hg e),ht,λg hg hu'=>by
  rcases hu with hu|hu
  .rw[hu]at hu';exact h.apart g hg hu'
  .rw[hu]at hu'
   obtain rfl:=Az3 hu';have:=(h.a.blk hg).2;omega⟩
theorem TwoL.set {B:Nat}{w:World}{v:Value}{g n c:Nat}{A T:List Int}(h:TwoL B w v (.slice (some ⟨g,0,none⟩) n c) A T) {k:Nat}(hk:k<T.length) {x:Int}(hx:I.Byte x):TwoL B (w.setCell ⟨g,k,none⟩ (.int .i64 x)) v (.slice (some ⟨g,0,none⟩) n c) A (T.set k x) :=
 ⟨h.a.chgB (zA _ _ _ _) (λg' hg e=>h.apart g' hg (by rw[e];rfl)),zBd h.t hk hx,h.apart⟩
structure VarSt (wo:World) (b:Nat) (w:World) (v0 v1:Value):Prop where
 hb:b=wo.heap.size
 c0:w.cell? ⟨b,0,none⟩=some v0
 c1:w.cell? ⟨b,1,none⟩=some v1
 z0:w.frozen? ⟨b,0,none⟩=false
 z1:w.frozen? ⟨b,1,none⟩=false
 lt:b<w.heap.size
 chg:Cf wo w
theorem VarSt.start (wo:World) (v0 v1:Value) (e:TypeId):VarSt wo wo.heap.size (wo.alloc (.cells #[v0,v1] e)) v0 v1 :=
 ⟨rfl,by rw[Az7];rfl,by rw[Az7];rfl,Az8 _ _ _ _,Az8 _ _ _ _,sI,(Chg.refl _ _).alloc _⟩
theorem VarSt.drew {wo:World}{b:Nat}{w:World}{v0 v1:Value}(h:VarSt wo b w v0 v1):VarSt wo b w.drew v0 v1:=⟨h.hb,h.c0,h.c1,h.z0,h.z1,h.lt,h.chg.drew⟩
theorem VarSt.step {wo:World}{b:Nat}{w:World}{v0 v1:Value}(h:VarSt wo b w v0 v1) (u:Value):VarSt wo b (w.setCell ⟨b,0,none⟩ u) u v1 :=
 ⟨h.hb,Az9 _ _ _ h.c0,by rw[Ay0 _ _ _ _ (by intro e;injection e with _ e;cases e)];exact h.c1,(Az4 _ _ _ _).trans h.z0,(Az4 _ _ _ _).trans h.z1,Ay9 h.lt (zA _ _ _ _).size,(h.chg.any.trans ((zA w b 0 u).mono (T:=λk=>wo.heap.size<=k) (λk _ e=>by rw[e,h.hb];exact Ay _))).fresh⟩
theorem zPt (Z:List Int) (a:Option Addr) (g o c:Nat) (w:World) (hz:I.BytesAt w g o Z) (ha:0<Z.length->a=some ⟨g,o,none⟩) (hl:Z.length<=65536) (hv:uS Z=false) :
  Calls Tryz.prog 163 #[.slice a Z.length c] w λe w'=>∃s,e=.returned (ofV (xA Z) s 0)/\kQ.In w' w.heap.size s (zG (xA Z) 0 Z)/\Cf w w':=by
 have HZ:=jh hz;have HA:=jh ha;have HV:=jh (qW.1 hv);have HC0:=jh ((Chg.refl (λk=>w.heap.size<=k) w).alloc (.cells #[.int .i64 0,.slice none 0 0] 236));have HR0:Hd (∀wr,Chg (λk=>w.heap.size+1<=k) (w.alloc (.cells #[.int .i64 0,.slice none 0 0] 236)) wr->wr.cell? ⟨w.heap.size,0,none⟩=some (.int .i64 0)/\wr.cell? ⟨w.heap.size,1,none⟩=some (.slice none 0 0)/\wr.frozen? ⟨w.heap.size,0,none⟩=false/\wr.frozen? ⟨w.heap.size,1,none⟩=false):=jh λwr hc =>
  ⟨hc.cellS sI (by show ¬w.heap.size+1<=w.heap.size;omega),hc.cellS sI (by show ¬w.heap.size+1<=w.heap.size;omega),(hc.frozen (p:=⟨w.heap.size,0,none⟩) sI (by show ¬w.heap.size+1<=w.heap.size;omega)).trans (Az8 _ _ _ _),(hc.frozen (p:=⟨w.heap.size,1,none⟩) sI (by show ¬w.heap.size+1<=w.heap.size;omega)).trans (Az8 _ _ _ _)⟩
 clear hz ha hv;go_enter Tryz.func163,Tryz.ntmps163
 go_wp2
 go_loopw [4,5,6] (λv u q wr=>∃(i:Nat) (A T:List Int),i<=Z.length/\q=.int .i64 i/\TwoL (w.heap.size+1) wr v u A T/\Tally A T (Z.take i)/\Chg (λk=>w.heap.size+1<=k) (w.alloc (.cells #[.int .i64 0,.slice none 0 0] 236)) wr) (λ_ _ q _=>Z.length-(intOf q).toNat)
 case atStart=>exact⟨0,[],[],oM,rfl,⟨.nil _ _,.nil _ _,λg hg=>by cases hg⟩,Tally.start,Chg.refl _ _⟩
 case round =>
  obtain⟨i,A,T,hi,rfl,htw,hty,hc⟩:=hrel;obtain⟨va,vl,vc,rfl⟩:=htw.a.shape3;obtain⟨ua,ul,uc,rfl⟩:=htw.t.shape3;have HTW:=jh htw;have HTY:=jh hty;have HC:=jh hc;have hvl:vl=A.length:=by obtain⟨_,_,h⟩:=htw.a.shape;injection h with _ h _
  have hul:ul=T.length:=by obtain⟨_,_,h⟩:=htw.t.shape;injection h with _ h _
  subst hvl hul;have hAl:A.length<=Z.length:=by have:=hty.le;have:=Au i Z;omega
  clear htw hty hc;by_cases hil:i<Z.length
  .have b19:decide ((i:Int)<(Z.length:Int))=true:=by simp;omega
   obtain⟨z,hz,q1,z0,z2⟩:=(HZ.o.chg ((HC0.o.trans (HC.o.mono (λk _ e=>oM))).fresh) iE).get hil;have e1:=HA.o oM;subst e1;have HX:=jh hz;have hzv:=HV.o z (Az2 hz);obtain⟨v0,v1⟩:=hzv;have HTT:Hd (Z.take (i+1)=Z.take i++[z]):=jh (by rw[Ay1,HX.o];rfl);have hgz:g<w.heap.size:=HZ.o.lt (by intro e;rw[e]at hil;simp at hil);have d1:¬z < -1:=oM;have d2:¬16777215<z:=oM;clear hz;go_wp2;obtain⟨wo,rfl⟩:∃wo:World,wo=wr:=⟨_,rfl⟩
   go_loopw [7] (λq wr=>∃(k:Nat),k<=A.length/\q=.int .i64 k/\(∀(j:Nat) y,j<k->A[j]?=some y->y≠z)/\Cf wo wr) (λq _=>A.length-(intOf q).toNat)
   case atStart=>exact⟨0,oM,rfl,λj y h=>absurd h (Ax _),Chg.refl _ _⟩
   case round =>
    obtain⟨k,hk,rfl,hb,hcw⟩:=hrel;have HB:=jh hb;have HCW:=jh hcw;have HTR:=jh (HTW.o.chg hcw (λ_ _ _ h=>h));have q2:=hcw.cellS q1 iD;clear hb hcw;by_cases hkl:k<A.length
    .obtain⟨gv,y,-,hle,rfl,hy,c1,-,y0,y1,-,-⟩:=sL HTR.o.a hkl
     have HY:=jh hy;have b39:decide ((k:Int)<(A.length:Int))=true:=sO;clear hy;by_cases hyz:y=z
     .subst hyz
      have hkt:k<T.length:=(by have:=HTY.o.len;omega);obtain⟨gu,t,-,hle2,rfl,ht,c2,c3,t0,t1,hBu,-⟩:=sL HTR.o.t hkt;have HT:=jh ht;have b48:(y != y)=false:=sI;have b55:((k:Int) == (A.length:Int))=false:=sO;have HTC:=jh (HTY.o.cnt k y t HY.o ht);have HLE:Hd (((Z.take i).count y:Int)<=65536):=jh (by have:=List.count_le_length (a:=y) (l:=Z.take i);have:=Au i Z;omega);have t2:t<=65536:=(by have:=HTC.o;have:=HLE.o;omega);have t3:0<=t:=(by have:=HTC.o;omega);have HTN:=jh (HTY.o.old HY.o ht);have HTX:=jh ((HTR.o.chg (S:=λ_=>False) (w':=wr.drew) (Chg.refl _ _).drew (λ_ _ _ h=>h)).set hkt (x:=t+1) ⟨oM,oM⟩);have HCX:=jh ((HC.o.trans HCW.o.any).drew.trans ((zA wr.drew gu k (.int .i64 (t+1))).mono (T:=λj=>w.heap.size+1<=j) (λj _ e=>oM)));clear ht;go_upto_region 11 with (fail)
      refine zW (λw'=>w'=wr.drew) kR kR ?_ ?_
      .rfl
      iterate 15 (refine rq ?_ (by intro _ w' _ hC;subst hC;go_simp;try with_reducible rfl))
      refine zQ ?_;rintro w' rfl;go_wp2;go_roundw
      case rel=>exact⟨i+1,A,_,oM,by go_num,HTX.o,by rw[HTT.o];exact HTN.o,HCX.o⟩
      case measure=>simp[intOf];omega
     .have b48:(y != z)=true:=by simpa using hyz
      have HB2:Hd (∀(j:Nat) x,j<k+1->A[j]?=some x->x≠z):=jh (λj x hj hx=>by
       by_cases he:j=k
       .subst he;rw[HY.o]at hx;obtain rfl:=Az3 hx;exact hyz
       .exact HB.o j x oM hx)
      clear hyz;go_upto_region 11 with (fail)
      refine zW (λw'=>w'=wr.drew) kR kR ?_ ?_
      .rfl
      iterate 15 (refine rq ?_ (by intro _ w' _ hC;subst hC;go_simp;try with_reducible rfl))
      refine zQ ?_;rintro w' rfl;go_wp2;go_roundw
      case rel=>first|exact⟨k+1,oM,by go_num,HB2.o,HCW.o.drew⟩|((repeat apply Ay7);exact⟨⟨k+1,oM,rfl,HB2.o,HCW.o.drew⟩,by (repeat' apply And.intro) <;> first|rfl|go_num⟩)
      case measure=>simp[intOf];omega
    .obtain rfl:k=A.length:=oM
     have b39:decide ((A.length:Int)<(A.length:Int))=false:=sI;have HNA:Hd (z ∉ A):=jh (λhm=>by
      obtain⟨j,hj,he⟩:=Av9 hm;exact HB.o j z hj (by rw[Az hj,he]) rfl)
     have HTN:=jh (HTY.o.new HNA.o);have HTLEN:=jh HTY.o.len;have HOK:Hd (∀x∈[z],intE.ok x):=jh (by intro x hx;rw[Ay3]at hx;subst hx;exact⟨z0,z2⟩);have HOK0:Hd (∀x∈[(0:Int)],intE.ok x):=jh (by intro x hx;rw[Ay3]at hx;subst hx;exact⟨oM,oM⟩);obtain⟨wd,hwd⟩:∃wd,wd=wr.drew:=⟨_,rfl⟩;have HWD:Hd (Cf wr wd):=jh (by rw[hwd];exact (Chg.refl _ _).drew);have q3:=HWD.o.cellS q2 iD;have HTRD:=jh (HTR.o.chg HWD.o (λ_ _ _ h=>h));have HTW1:=jh (HTRD.o.chg ((Chg.refl (λ_=>False) wd).alloc (.cells #[.int .i64 z] 3)) (λ_ _ _ h=>h));have HCD:=jh ((HC.o.trans HCW.o.any).trans HWD.o.any);have HBS:Hd (w.heap.size+1<=(wd.alloc (.cells #[.int .i64 z] 3)).heap.size):=jh (by have:=HCD.o.size;simp at this ⊢;omega);have HWE:=jh hwd;have hTl2:T.length<=65536:=(by have:=HTY.o.len;omega);clear hwd q2;go_upto_region 11 with (fail)
     refine zW (λw'=>w'=wd) kR kR ?_ ?_
     .exact HWE.o.symm
     iterate 5 (refine rq ?_ (by intro _ w' _ hC;subst hC;go_simp;try with_reducible rfl))
     iterate 9 (refine sq ?_)
     (refine rq ?_ (by intro _ w' _ hC;subst hC;go_simp;try with_reducible rfl));refine zQ ?_;rintro w' rfl;go_wp2_with (first
      | (at_builtin;refine Elt.wpList_append2 intE rfl (.tmp 56) (.tmp 61) 25 25 rfl rfl (w.heap.size+1) (.slice va A.length vc) A [z] (.slice (some ⟨w'.heap.size,0,none⟩) 1 1) rfl rfl HTW1.o.a HBS.o (intE.srcLit 1 HOK.o) HOK.o sO ?_;intro v' w1 H1 H2 H3;have HTW2:=jh (HTW1.o.appA H1.o H3.o.1 H3.o.2);have HTW3:=jh (HTW2.o.chg ((Chg.refl (λ_=>False) w1).alloc (.cells #[.int .i64 0] 3)) (λ_ _ _ h=>h));have HC2:=jh ((HCD.o.alloc (.cells #[.int .i64 z] 3)).trans H2.o);have HBS2:Hd (w.heap.size+1<=(w1.alloc (.cells #[.int .i64 0] 3)).heap.size):=jh (by have:=HC2.o.size;simp at this ⊢;omega))
      | (at_builtin;refine Elt.wpList_append2 intE rfl (.tmp 63) (.tmp 64) 25 25 rfl rfl (w.heap.size+1) (.slice ua T.length uc) T [0] (.slice (some ⟨w1.heap.size,0,none⟩) 1 1) rfl rfl HTW3.o.t HBS2.o (intE.srcLit 1 HOK0.o) HOK0.o sO ?_;intro u' w2 K1 K2 K3;have HTW4:=jh (HTW3.o.appT K1.out K3.out.1 K3.out.2);have HC3:=jh ((HC2.o.alloc (.cells #[.int .i64 0] 3)).trans K2.out);obtain⟨ua',ul',uc',hu'⟩:=K1.out.shape3;subst hu';obtain⟨gu,t,hul',hle',hua',ht,c2,c3,-,-,hBu,hgu⟩:=sL K1.out (k:=T.length) sI;have ht0:t=0:=(by simp at ht;exact ht.symm);subst ht0 hua';rw[HTLEN.o]at c2 c3;have hAu:A.length<ul':=(by rw[hul'];simp;have:=HTLEN.o;omega);have hUC:=jh hul';have hle3:ul'<=uc':=(by rw[hul'];exact hle');clear hul' hle' ht))
     have HTX:=jh (HTW4.o.set (k:=T.length) sI (x:=1) ⟨oM,oM⟩);have HCX:=jh (HC3.o.trans ((zA w2 gu T.length (.int .i64 1)).mono (T:=λj=>w.heap.size+1<=j) (λj _ e=>oM)));rw[HTLEN.o]at HCX;go_roundw
     case rel=>exact⟨i+1,A++[z],(T++[0]).set T.length 1,oM,by go_num,by have:=HTX.o;rw[HTLEN.o]at this ⊢;exact this,by rw[HTT.o];exact HTN.o,HCX.o⟩
     case measure=>simp[intOf];omega
  .obtain rfl:i=Z.length:=oM
   have HTZ:Hd (Tally A T Z):=jh (by have:=HTY.o;rwa [Ay5]at this);have HC3:=jh (HC.o.alloc (.cells #[.int .i64 (-1),.slice none 0 0] 236));have HW0:=jh (VarSt.start wr (.int .i64 (-1)) (.slice none 0 0) 236);have hszw:w.heap.size+1<=wr.heap.size:=(by have:=HC.o.size;simpa using this);have HCO:=jh (HC0.o.trans (HC.o.mono (T:=λk=>w.heap.size<=k) (λk _ e=>oM)));have HRO:=jh (HR0.o wr HC.o);clear HTY HC;go_wp2;obtain⟨wo,rfl⟩:∃wo:World,wo=wr:=⟨_,rfl⟩
   go_loopw [9,10] (λtv q wr=>∃(k:Nat) (b t:Int),k<=A.length/\q=.int .i64 k/\tv=.int .i64 t/\(-1<=b/\b<=16777215/\0<=t/\t<=65536)/\VarSt wo wo.heap.size wr (.int .i64 b) (.slice none 0 0)/\zFx A Z k b t) (λ_ q _=>A.length-(intOf q).toNat)
   case atStart=>exact⟨0,-1,0,oM,rfl,rfl,oM,HW0.o,zFx.start A Z⟩
   case round =>
    clear HW0;obtain⟨k,b,t,hk,rfl,rfl,⟨b0,b1,t0,t1⟩,hw,hb⟩:=hrel;have HB:=jh hb;have HW:=jh hw;clear hw hb;by_cases hkl:k<A.length
    .have hkt:k<T.length:=by have:=HTZ.o.len;omega
     have hb76:decide ((k:Int)<(A.length:Int))=true:=sO;obtain⟨wd,hwd⟩:∃wd,wd=wr.drew:=⟨_,rfl⟩;have HWE:=jh hwd;have HWC:Hd (VarSt wo wo.heap.size wd (.int .i64 b) (.slice none 0 0)):=jh (by rw[hwd];exact HW.o.drew);clear hwd;obtain⟨gv,x,-,hle,rfl,hx,c1,-,x0,x1,hBv,hgv⟩:=sL HTW.o.a hkl;obtain⟨gu,cv,-,hle2,rfl,hcv,c2,-,-,-,hBu,hgu⟩:=sL HTW.o.t hkt;have c1:=HWC.o.chg.cellS c1 iD;have c2:=HWC.o.chg.cellS c2 iD;have c3:=HWC.o.c0;have z3:=HWC.o.z0;have HX:=jh hx;have HXZ:Hd (x∈Z):=jh ((HTZ.o.mem x).1 (Az2 hx));have hxv:=HV.o x HXZ.o;obtain⟨xv0,xv1⟩:=hxv;have HCV:Hd (cv=(Z.count x:Int)):=jh (HTZ.o.cnt k x cv hx hcv);have hcv0:0<=cv/\cv<=65536:=(by have:=HCV.o;have:=List.count_le_length (a:=x) (l:=Z);omega);obtain⟨cv0,cv1⟩:=hcv0;clear hx hcv HW;by_cases h1:t<cv
     .have d1:decide (t<cv)=true:=by simpa using h1
      have HBN:=jh (HB.o.next HX.o HXZ.o x cv (.inl ⟨rfl,HCV.o,.inl (by have:=HCV.o;omega)⟩));have HSC:=jh (HWC.o.step (.int .i64 x));clear HB HWC;go_upto_region 22 with (fail)
      refine zW (λw'=>w'=wd) kR kR ?_ ?_
      .exact HWE.o.symm
      iterate 7 (refine rq ?_ (by intro _ w' _ hC;subst hC;go_simp;try with_reducible rfl))
      iterate 15 (refine sq ?_)
      (refine rq ?_ (by intro _ w' _ hC;subst hC;go_simp;try with_reducible rfl));refine zQ ?_;rintro w' rfl;go_wp2;go_roundw
      case rel=>exact⟨k+1,x,cv,oM,by go_num,rfl,oM,HSC.o,HBN.o⟩
      case measure=>simp[intOf];omega
     .by_cases h2:cv=t
      .subst h2
       have d1:decide (cv<cv)=false:=sI;have d2:(cv == cv)=true:=sI;by_cases h3:x<b
       .have d3:decide (x<b)=true:=by simpa using h3
        have HBN:=jh (HB.o.next HX.o HXZ.o x cv (.inl ⟨rfl,HCV.o,.inr ⟨by have:=HCV.o;omega,h3⟩⟩));have HSC:=jh (HWC.o.step (.int .i64 x));clear HB HWC;go_upto_region 22 with (fail)
        refine zW (λw'=>w'=wd) kR kR ?_ ?_
        .exact HWE.o.symm
        iterate 23 (refine rq ?_ (by intro _ w' _ hC;subst hC;go_simp;try with_reducible rfl))
        refine zQ ?_;rintro w' rfl;go_wp2;go_roundw
        case rel=>exact⟨k+1,x,cv,oM,by go_num,rfl,oM,HSC.o,HBN.o⟩
        case measure=>simp[intOf];omega
       .have d3:decide (x<b)=false:=by simpa using h3
        have HBN:=jh (HB.o.next HX.o HXZ.o b cv (.inr ⟨rfl,rfl,.inr ⟨by have:=HCV.o;omega,oM⟩⟩));clear HB;go_upto_region 22 with (fail)
        refine zW (λw'=>w'=wd) kR kR ?_ ?_
        .exact HWE.o.symm
        iterate 23 (refine rq ?_ (by intro _ w' _ hC;subst hC;go_simp;try with_reducible rfl))
        refine zQ ?_;rintro w' rfl;go_wp2;go_roundw
        case rel=>exact⟨k+1,b,cv,oM,by go_num,rfl,oM,HWC.o,HBN.o⟩
        case measure=>simp[intOf];omega
      .have d1:decide (t<cv)=false:=by simpa using h1
       have d2:(cv == t)=false:=(by simpa using h2);have HBN:=jh (HB.o.next HX.o HXZ.o b t (.inr ⟨rfl,rfl,.inl (by have:=HCV.o;omega)⟩));clear HB;go_upto_region 22 with (fail)
       refine zW (λw'=>w'=wd) kR kR ?_ ?_
       .exact HWE.o.symm
       iterate 14 (refine rq ?_ (by intro _ w' _ hC;subst hC;go_simp;try with_reducible rfl))
       iterate 7 (refine sq ?_)
       iterate 2 (refine rq ?_ (by intro _ w' _ hC;subst hC;go_simp;try with_reducible rfl))
       refine zQ ?_;rintro w' rfl;go_wp2;go_roundw
       case rel=>exact⟨k+1,b,t,oM,by go_num,rfl,oM,HWC.o,HBN.o⟩
       case measure=>simp[intOf];omega
    .obtain rfl:k=A.length:=oM
     have HD:=jh (HB.o.done HTZ.o);have HF0:Hd (Fld kQ wo.heap.size 1 wr (.slice none 0 0) (zG b 0 (Z.take 0))):=jh ⟨HW.o.c1,HW.o.z1,.nil _ _⟩;have HX0:=jh HW.o.c0;have HCH:=jh (HW.o.chg.any (S:=λj=>wo.heap.size<=j));clear HB HTZ HTW HW;go_wp2;obtain⟨wp,rfl⟩:∃wp:World,wp=wr:=⟨_,rfl⟩
     go_loopw [11] (λq wr=>∃(i:Nat) (v:Value),i<=Z.length/\q=.int .i64 i/\Fld kQ wo.heap.size 1 wr v (zG b 0 (Z.take i))/\wr.cell? ⟨wo.heap.size,0,none⟩=some (.int .i64 b)/\Chg (λj=>wo.heap.size<=j) wo wr) (λq _=>Z.length-(intOf q).toNat)
     case atStart=>exact⟨0,_,oM,rfl,HF0.o,HX0.o,HCH.o⟩
     case round =>
      clear HF0 HX0 HCH;obtain⟨k,v,hk,rfl,hf,hc0,hc⟩:=hrel;have HF:=jh hf;have HC:=jh hc;have HC02:=jh hc0;obtain⟨va,vl,vc,rfl⟩:=hf.own.shape3;clear hf hc hc0;by_cases hkl:k<Z.length
      .have b114:decide ((k:Int)<(Z.length:Int))=true:=by simp;omega
       obtain⟨z,hz,q1,z0,z2⟩:=(HZ.o.chg (HCO.o.trans (HC.o.mono (T:=λj=>w.heap.size<=j) (λj _ e=>oM))).fresh iE).get hkl;have e1:=HA.o oM;subst e1;have hgz:g<w.heap.size:=HZ.o.lt (by intro e;rw[e]at hkl;simp at hkl);have HX:=jh hz;have htk:(Z.take k).length=k:=(by rw[Ax1];omega);have HTK:=jh (aL b (Z.take k) z 0);rw[htk,Ax0]at HTK;have HTT:Hd (Z.take (k+1)=Z.take k++[z]):=jh (by rw[Ay1,HX.o];rfl);obtain⟨wd,hwd⟩:∃wd,wd=wr.drew:=⟨_,rfl⟩;have HWE:=jh hwd;have HWD:Hd (Cf wr wd):=jh (by rw[hwd];exact (Chg.refl _ _).drew);have q2:=HWD.o.cellS q1 iD;have c0:=HWD.o.cellS HC02.o iD;have HFD:=jh (HF.o.chg HWD.o (λ_ _ _ h=>h));have HCD:=jh (HC.o.trans HWD.o.any);clear hz htk hwd q1;by_cases hzd:z=b
       .subst hzd
        have b28:(z != z)=false:=sI;have HFN:Hd (Fld kQ wo.heap.size 1 wd (.slice va vl vc) (zG z 0 (Z.take (k+1)))):=jh (by rw[HTT.o,HTK.o,if_pos rfl];exact HFD.o);have HC0D:=jh c0;clear HF HTK HTT HC02 HC;go_upto_region 28 with (fail)
        refine zW (λw'=>w'=wd) kR kR ?_ ?_
        .exact HWE.o.symm
        iterate 7 (refine rq ?_ (by intro _ w' _ hC;subst hC;go_simp;try with_reducible rfl))
        refine zQ ?_;rintro w' rfl;go_wp2;go_roundw
        case rel=>exact⟨k+1,_,oM,by go_num,HFN.o,HC0D.o,HCD.o⟩
        case measure=>simp[intOf];omega
       .have b28:(z != b)=true:=by simpa using hzd
        have HTE:Hd (zG b 0 (Z.take (k+1))=zG b 0 (Z.take k)++[((k:Int),z)]):=jh (by rw[HTT.o,HTK.o,if_neg hzd]);have HLE:Hd ((zG b 0 (Z.take k)).length<=65536):=jh (by have:=uL b (Z.take k) 0;have:=Au k Z;omega);have HOK:Hd (∀x∈[((k:Int),z)],kQ.ok x):=jh (by
         intro x hx;simp only[Ay3]at hx;subst hx;exact⟨⟨by show -9223372036854775808<=(k:Int);omega,by show (k:Int)<=9223372036854775807;omega⟩,⟨z0,z2⟩⟩)
        have HC0D:=jh c0;go_upto_region 28 with (fail)
        refine zW (λw'=>w'=wd) kR kR ?_ ?_
        .exact HWE.o.symm
        iterate 7 (refine rq ?_ (by intro _ w' _ hC;subst hC;go_simp;try with_reducible rfl))
        refine zQ ?_;rintro w' rfl;clear HF HTK HTT HC02 HC c0;go_upto_region 29 with (fail)
        obtain⟨we,hwe⟩:∃we,we=w'.drew:=⟨_,rfl⟩;have HWE2:Hd (w'.drew=we):=jh hwe.symm;have HWF:Hd (Cf w' we):=jh (by rw[hwe];exact (Chg.refl _ _).drew);have c1:=HFD.o.c;have HF1:=jh ((HFD.o.chg HWF.o (λ_ _ _ h=>h)).chg ((Chg.refl (λ_=>False) we).alloc (.cells #[.int .i64 k,.int .i64 z] 238)) (λ_ _ _ h=>h));have HBS:Hd (wo.heap.size+1<=(we.alloc (.cells #[.int .i64 k,.int .i64 z] 238)).heap.size):=jh (by have:=HF1.o.lt;omega);have HFIN:Hd (∀v' w1,kQ.Own w1 (wo.heap.size+1) v' (zG b 0 (Z.take k)++[((k:Int),z)])->Chg (λj=>wo.heap.size+1<=j) (we.alloc (.cells #[.int .i64 k,.int .i64 z] 238)) w1 ->
         (w1.cell? ⟨wo.heap.size,1,none⟩=some (.slice va vl vc)/\w1.frozen? ⟨wo.heap.size,1,none⟩=false)/\Fld kQ wo.heap.size 1 (w1.setCell ⟨wo.heap.size,1,none⟩ v') v' (zG b 0 (Z.take (k+1)))/\(w1.setCell ⟨wo.heap.size,1,none⟩ v').cell? ⟨wo.heap.size,0,none⟩=some (.int .i64 b)/\Chg (λj=>wo.heap.size<=j) wo (w1.setCell ⟨wo.heap.size,1,none⟩ v')):=jh (by
         intro v' w1 h1 h2;obtain⟨k1,k2,k3,k4⟩:=HF1.o.step h1 h2;exact⟨k1,by rw[HTE.o];exact k2,k4 0 _ oM (((HWF.o.trans ((Chg.refl (λ_=>False) we).alloc _)).cellS HC0D.o iD)),HCD.o.trans (HWF.o.any.trans (((Chg.refl _ we).alloc _).trans k3))⟩)
        clear hwe;refine zC (λx=>Chg (λj=>wo.heap.size+1<=j) we x) (λi=>decide (i=11)) kR ?_;show yN _ _ _ _ _ _ 12 (Array.replicate 12 false) _ w'.drew;rw[HWE2.o];have HSS:Hd (Chg (λj=>wo.heap.size+1<=j) we we):=jh cR;have HQ2:=jh (HWF.o.cellS q2 iD);have HQ1:=jh (HWF.o.cellS c1 iD);have hneg:¬wo.heap.size+1<=g:=oM;clear q2 c1;(refine lq 0 HSS.o ?_);(refine lq 1 HSS.o ?_ (hr:=by intro w' hC;have q:=hC.cellS HQ1.o (show ¬wo.heap.size+1<=wo.heap.size by omega);go_simp;try with_reducible rfl));(refine lq 2 HSS.o ?_);(refine lq 3 HSS.o ?_);(refine lq 4 HSS.o ?_);(refine lq 5 HSS.o ?_);(refine lq 6 HSS.o ?_ (hr:=by intro w' hC;have q:=hC.cellS HQ2.o hneg;go_simp;try with_reducible rfl));(refine lq 7 HSS.o ?_);(refine lt 8 (λ_=>HSS.o.alloc _) ?_);refine xE (i:=9) kR rfl rfl (.tmp 125) (.tmp 132) 234 234 rfl (.slice va vl vc) (.slice (some ⟨we.heap.size,0,none⟩) 1 1) rfl rfl (λv' w1=>kQ.Own w1 (wo.heap.size+1) v' (zG b 0 (Z.take k)++[((k:Int),z)])/\Chg (λj=>wo.heap.size+1<=j) (we.alloc (.cells #[.int .i64 k,.int .i64 z] 238)) w1) ?_ ?_
        .obtain⟨v',w1,hrun,h1,h2,-⟩:=HF1.o.own.append HBS.o 234 (.slice (some ⟨we.heap.size,0,none⟩) 1 1) [((k:Int),z)] (kQ.srcLit 1 HOK.o) HOK.o (by have:=HLE.o;simp;omega) 234
         exact⟨v',w1,hrun,λ_=>(HSS.o.alloc _).trans h2,h1,h2⟩
        rintro v' w1 hs ⟨h1,h2⟩ K hK;obtain⟨va',vl',vc',hv'⟩:=h1.shape3;subst hv';obtain⟨⟨k1,k2⟩,hf⟩:=HFIN.o _ w1 h1 h2;have HFF:=jh hf;have HSL:=jh (hs dE);clear hf h1 h2 hs;(try go_simp)
        refine hK _ ?_;clear hK K;(refine lt 10 (λ_=>HSL.o) ?_);(refine ld 11 ?_);refine yA kR ?_ _;go_wp2;go_roundw
        case rel=>exact⟨k+1,_,oM,by go_num,HFF.o.1,HFF.o.2.1,HFF.o.2.2⟩
        case measure=>simp[intOf];omega
      .obtain rfl:k=Z.length:=oM
       obtain⟨va',vg,vc',hv',hle,-,-⟩:=HF.o.own.at';injection hv' with e1 e2 e3;subst e1 e2 e3;obtain⟨r0,r1,r2,r3⟩:=HRO.o;have hlt:w.heap.size<wo.heap.size:=oM;have hneg:¬wo.heap.size<=w.heap.size:=oM;have r0:=HC.o.cellS r0 hneg;have r1:=HC.o.cellS r1 hneg;have r2:=(HC.o.frozen (p:=⟨w.heap.size,0,none⟩) hlt hneg).trans r2;have r3:=(HC.o.frozen (p:=⟨w.heap.size,1,none⟩) hlt hneg).trans r3;have hne:w.heap.size≠wo.heap.size:=oM;have c1:=HF.o.c;have c0:=HC02.o;have HTE:Hd (Z.take Z.length=Z):=jh (Ay5);rw[HTE.o]at hle c1;have hlen:=uL b Z 0;obtain⟨X,hX⟩:∃X,zG b 0 Z=X:=⟨_,rfl⟩;rw[hX]at hle c1 hlen;have HIN:=jh (HF.o.own);rw[HTE.o,hX]at HIN;have HXE:=jh hX;clear hX HF;go_wp2;obtain⟨f0,f1,f2⟩:=zCc (.int .i64 b) (.slice va X.length vc) r0 r1;have h3:=((HIN.o.chg f2 (λg hg _ e=>oM)).in' hle).lower (B':=w.heap.size) oM;have h4:=((HCO.o.trans (HC.o.mono (T:=λk=>w.heap.size<=k) (λk _ e=>oM))).trans (f2.mono (λk _ e=>oM))).fresh;clear f2
       generalize (wr.setCell ⟨w.heap.size,0,none⟩ (.int .i64 b)).setCell ⟨w.heap.size,1,none⟩ (.slice va X.length vc)=W at *
       refine bodyPost_ret (v:=.tuple #[.agg #[.int .i64 b,.slice va X.length vc],.int .i64 0]) (by simp[results,Tryz.results163,go_sem,f0,f1]) rfl ⟨(va,X.length,vc),?_,?_,h4⟩
       .rw[<-HD.o];rfl
       .rw[<-HD.o,HXE.o];exact h3
theorem zMf (Z:List Int) (a:Option Addr) (g o c:Nat) (w:World) (hz:I.BytesAt w g o Z) (ha:0<Z.length->a=some ⟨g,o,none⟩) (hl:Z.length<=65536) (hv:uS Z=true) :
  Calls Tryz.prog 163 #[.slice a Z.length c] w λe w'=>e=.returned (ofV 0 (none,0,0) 1)/\Cf w w':=by
 have HZ:=jh hz;have HA:=jh ha;have HV:=jh hv;have HC0:=jh ((Chg.refl (λk=>w.heap.size<=k) w).alloc (.cells #[.int .i64 0,.slice none 0 0] 236));have HR0:Hd (∀wr,Chg (λk=>w.heap.size+1<=k) (w.alloc (.cells #[.int .i64 0,.slice none 0 0] 236)) wr->wr.cell? ⟨w.heap.size,0,none⟩=some (.int .i64 0)/\wr.cell? ⟨w.heap.size,1,none⟩=some (.slice none 0 0)/\wr.frozen? ⟨w.heap.size,0,none⟩=false/\wr.frozen? ⟨w.heap.size,1,none⟩=false):=jh λwr hc =>
  ⟨hc.cellS sI (by show ¬w.heap.size+1<=w.heap.size;omega),hc.cellS sI (by show ¬w.heap.size+1<=w.heap.size;omega),(hc.frozen (p:=⟨w.heap.size,0,none⟩) sI (by show ¬w.heap.size+1<=w.heap.size;omega)).trans (Az8 _ _ _ _),(hc.frozen (p:=⟨w.heap.size,1,none⟩) sI (by show ¬w.heap.size+1<=w.heap.size;omega)).trans (Az8 _ _ _ _)⟩
 clear hz ha hv;go_enter Tryz.func163,Tryz.ntmps163
 go_wp2
 go_loopw [4,5,6] (λv u q wr=>∃(i:Nat) (A T:List Int),i<=Z.length/\q=.int .i64 i/\TwoL (w.heap.size+1) wr v u A T/\(Tally A T (Z.take i)/\∀n∈Z.take i,kE n)/\Chg (λk=>w.heap.size+1<=k) (w.alloc (.cells #[.int .i64 0,.slice none 0 0] 236)) wr) (λ_ _ q _=>Z.length-(intOf q).toNat)
 case atStart=>exact⟨0,[],[],oM,rfl,⟨.nil _ _,.nil _ _,(λg hg=>by cases hg)⟩,⟨Tally.start,sI⟩,Chg.refl _ _⟩
 case round =>
  obtain⟨i,A,T,hi,rfl,htw,⟨hty,hvs⟩,hc⟩:=hrel;have HVS:=jh hvs;obtain⟨va,vl,vc,rfl⟩:=htw.a.shape3;obtain⟨ua,ul,uc,rfl⟩:=htw.t.shape3;have HTW:=jh htw;have HTY:=jh hty;have HC:=jh hc;have hvl:vl=A.length:=by obtain⟨_,_,h⟩:=htw.a.shape;injection h with _ h _
  have hul:ul=T.length:=by obtain⟨_,_,h⟩:=htw.t.shape;injection h with _ h _
  subst hvl hul;have hAl:A.length<=Z.length:=by have:=hty.le;have:=Au i Z;omega
  clear htw hty hc hvs;by_cases hil:i<Z.length
  .have b19:decide ((i:Int)<(Z.length:Int))=true:=by simp;omega
   obtain⟨z,hz,q1,z0,z2⟩:=(HZ.o.chg ((HC0.o.trans (HC.o.mono (λk _ e=>oM))).fresh) iE).get hil;have e1:=HA.o oM;subst e1;have HX:=jh hz;have HTT:Hd (Z.take (i+1)=Z.take i++[z]):=jh (by rw[Ay1,HX.o];rfl);have hgz:g<w.heap.size:=HZ.o.lt (by intro e;rw[e]at hil;simp at hil);by_cases d1:z < -1
   .have q9:decide (z < -1)=true:=by simpa using d1
    obtain⟨r0,r1,r2,r3⟩:=HR0.o wr HC.o;clear hz;go_wp2;obtain⟨f0,f1,f2⟩:=zCc (.int .i64 0) (.slice none 0 0) r0 r1;have h4:=((HC0.o.trans (HC.o.mono (T:=λk=>w.heap.size<=k) (λk _ e=>oM))).trans (f2.mono (λk _ e=>oM))).fresh;clear f2
    generalize (wr.setCell ⟨w.heap.size,0,none⟩ (.int .i64 0)).setCell ⟨w.heap.size,1,none⟩ (.slice none 0 0)=W at *
    exact bodyPost_ret (v:=.tuple #[.agg #[.int .i64 0,.slice none 0 0],.int .i64 1]) (by simp[results,Tryz.results163,go_sem,f0,f1]) rfl ⟨rfl,h4⟩
   .have q8:decide (z < -1)=false:=by simpa using d1
    by_cases d2:16777215<z
    .have q9:decide (16777215<z)=true:=by simpa using d2
     obtain⟨r0,r1,r2,r3⟩:=HR0.o wr HC.o;clear hz;go_wp2;obtain⟨f0,f1,f2⟩:=zCc (.int .i64 0) (.slice none 0 0) r0 r1;have h4:=((HC0.o.trans (HC.o.mono (T:=λk=>w.heap.size<=k) (λk _ e=>oM))).trans (f2.mono (λk _ e=>oM))).fresh;clear f2
     generalize (wr.setCell ⟨w.heap.size,0,none⟩ (.int .i64 0)).setCell ⟨w.heap.size,1,none⟩ (.slice none 0 0)=W at *
     exact bodyPost_ret (v:=.tuple #[.agg #[.int .i64 0,.slice none 0 0],.int .i64 1]) (by simp[results,Tryz.results163,go_sem,f0,f1]) rfl ⟨rfl,h4⟩
    have HVN:Hd (∀n∈Z.take (i+1),kE n):=jh (λn hn=>by
     rw[HTT.o]at hn;rcases Av2.1 hn with hn|hn
     .exact HVS.o n hn
     .rw[Ay3.1 hn];exact⟨oM,oM⟩)
    clear hz;go_wp2;obtain⟨wo,rfl⟩:∃wo:World,wo=wr:=⟨_,rfl⟩
    go_loopw [7] (λq wr=>∃(k:Nat),k<=A.length/\q=.int .i64 k/\(∀(j:Nat) y,j<k->A[j]?=some y->y≠z)/\Cf wo wr) (λq _=>A.length-(intOf q).toNat)
    case atStart=>exact⟨0,oM,rfl,λj y h=>absurd h (Ax _),Chg.refl _ _⟩
    case round =>
     obtain⟨k,hk,rfl,hb,hcw⟩:=hrel;have HB:=jh hb;have HCW:=jh hcw;have HTR:=jh (HTW.o.chg hcw (λ_ _ _ h=>h));have q2:=hcw.cellS q1 iD;clear hb hcw;by_cases hkl:k<A.length
     .obtain⟨gv,y,-,hle,rfl,hy,c1,-,y0,y1,-,-⟩:=sL HTR.o.a hkl
      have HY:=jh hy;have b39:decide ((k:Int)<(A.length:Int))=true:=sO;clear hy;by_cases hyz:y=z
      .subst hyz
       have hkt:k<T.length:=(by have:=HTY.o.len;omega);obtain⟨gu,t,-,hle2,rfl,ht,c2,c3,t0,t1,hBu,-⟩:=sL HTR.o.t hkt;have HT:=jh ht;have b48:(y != y)=false:=sI;have b55:((k:Int) == (A.length:Int))=false:=sO;have HTC:=jh (HTY.o.cnt k y t HY.o ht);have HLE:Hd (((Z.take i).count y:Int)<=65536):=jh (by have:=List.count_le_length (a:=y) (l:=Z.take i);have:=Au i Z;omega);have t2:t<=65536:=(by have:=HTC.o;have:=HLE.o;omega);have t3:0<=t:=(by have:=HTC.o;omega);have HTN:=jh (HTY.o.old HY.o ht);have HTX:=jh ((HTR.o.chg (S:=λ_=>False) (w':=wr.drew) (Chg.refl _ _).drew (λ_ _ _ h=>h)).set hkt (x:=t+1) ⟨oM,oM⟩);have HCX:=jh ((HC.o.trans HCW.o.any).drew.trans ((zA wr.drew gu k (.int .i64 (t+1))).mono (T:=λj=>w.heap.size+1<=j) (λj _ e=>oM)));clear ht;go_upto_region 11 with (fail)
       refine zW (λw'=>w'=wr.drew) kR kR ?_ ?_
       .rfl
       iterate 15 (refine rq ?_ (by intro _ w' _ hC;subst hC;go_simp;try with_reducible rfl))
       refine zQ ?_;rintro w' rfl;go_wp2;go_roundw
       case rel=>exact⟨i+1,A,_,oM,by go_num,HTX.o,⟨by rw[HTT.o];exact HTN.o,HVN.o⟩,HCX.o⟩
       case measure=>simp[intOf];omega
      .have b48:(y != z)=true:=by simpa using hyz
       have HB2:Hd (∀(j:Nat) x,j<k+1->A[j]?=some x->x≠z):=jh (λj x hj hx=>by
        by_cases he:j=k
        .subst he;rw[HY.o]at hx;obtain rfl:=Az3 hx;exact hyz
        .exact HB.o j x oM hx)
       clear hyz;go_upto_region 11 with (fail)
       refine zW (λw'=>w'=wr.drew) kR kR ?_ ?_
       .rfl
       iterate 15 (refine rq ?_ (by intro _ w' _ hC;subst hC;go_simp;try with_reducible rfl))
       refine zQ ?_;rintro w' rfl;go_wp2;go_roundw
       case rel=>first|exact⟨k+1,oM,by go_num,HB2.o,HCW.o.drew⟩|((repeat apply Ay7);exact⟨⟨k+1,oM,rfl,HB2.o,HCW.o.drew⟩,by (repeat' apply And.intro) <;> first|rfl|go_num⟩)
       case measure=>simp[intOf];omega
     .obtain rfl:k=A.length:=oM
      have b39:decide ((A.length:Int)<(A.length:Int))=false:=sI;have HNA:Hd (z ∉ A):=jh (λhm=>by
       obtain⟨j,hj,he⟩:=Av9 hm;exact HB.o j z hj (by rw[Az hj,he]) rfl)
      have HTN:=jh (HTY.o.new HNA.o);have HTLEN:=jh HTY.o.len;have HOK:Hd (∀x∈[z],intE.ok x):=jh (by intro x hx;rw[Ay3]at hx;subst hx;exact⟨z0,z2⟩);have HOK0:Hd (∀x∈[(0:Int)],intE.ok x):=jh (by intro x hx;rw[Ay3]at hx;subst hx;exact⟨oM,oM⟩);obtain⟨wd,hwd⟩:∃wd,wd=wr.drew:=⟨_,rfl⟩;have HWD:Hd (Cf wr wd):=jh (by rw[hwd];exact (Chg.refl _ _).drew);have q3:=HWD.o.cellS q2 iD;have HTRD:=jh (HTR.o.chg HWD.o (λ_ _ _ h=>h));have HTW1:=jh (HTRD.o.chg ((Chg.refl (λ_=>False) wd).alloc (.cells #[.int .i64 z] 3)) (λ_ _ _ h=>h));have HCD:=jh ((HC.o.trans HCW.o.any).trans HWD.o.any);have HBS:Hd (w.heap.size+1<=(wd.alloc (.cells #[.int .i64 z] 3)).heap.size):=jh (by have:=HCD.o.size;simp at this ⊢;omega);have HWE:=jh hwd;have hTl2:T.length<=65536:=(by have:=HTY.o.len;omega);clear hwd q2;go_upto_region 11 with (fail)
      refine zW (λw'=>w'=wd) kR kR ?_ ?_
      .exact HWE.o.symm
      iterate 5 (refine rq ?_ (by intro _ w' _ hC;subst hC;go_simp;try with_reducible rfl))
      iterate 9 (refine sq ?_)
      (refine rq ?_ (by intro _ w' _ hC;subst hC;go_simp;try with_reducible rfl));refine zQ ?_;rintro w' rfl;go_wp2_with (first
       | (at_builtin;refine Elt.wpList_append2 intE rfl (.tmp 56) (.tmp 61) 25 25 rfl rfl (w.heap.size+1) (.slice va A.length vc) A [z] (.slice (some ⟨w'.heap.size,0,none⟩) 1 1) rfl rfl HTW1.o.a HBS.o (intE.srcLit 1 HOK.o) HOK.o sO ?_;intro v' w1 H1 H2 H3;have HTW2:=jh (HTW1.o.appA H1.o H3.o.1 H3.o.2);have HTW3:=jh (HTW2.o.chg ((Chg.refl (λ_=>False) w1).alloc (.cells #[.int .i64 0] 3)) (λ_ _ _ h=>h));have HC2:=jh ((HCD.o.alloc (.cells #[.int .i64 z] 3)).trans H2.o);have HBS2:Hd (w.heap.size+1<=(w1.alloc (.cells #[.int .i64 0] 3)).heap.size):=jh (by have:=HC2.o.size;simp at this ⊢;omega))
       | (at_builtin;refine Elt.wpList_append2 intE rfl (.tmp 63) (.tmp 64) 25 25 rfl rfl (w.heap.size+1) (.slice ua T.length uc) T [0] (.slice (some ⟨w1.heap.size,0,none⟩) 1 1) rfl rfl HTW3.o.t HBS2.o (intE.srcLit 1 HOK0.o) HOK0.o sO ?_;intro u' w2 K1 K2 K3;have HTW4:=jh (HTW3.o.appT K1.out K3.out.1 K3.out.2);have HC3:=jh ((HC2.o.alloc (.cells #[.int .i64 0] 3)).trans K2.out);obtain⟨ua',ul',uc',hu'⟩:=K1.out.shape3;subst hu';obtain⟨gu,t,hul',hle',hua',ht,c2,c3,-,-,hBu,hgu⟩:=sL K1.out (k:=T.length) sI;have ht0:t=0:=(by simp at ht;exact ht.symm);subst ht0 hua';rw[HTLEN.o]at c2 c3;have hAu:A.length<ul':=(by rw[hul'];simp;have:=HTLEN.o;omega);have hUC:=jh hul';have hle3:ul'<=uc':=(by rw[hul'];exact hle');clear hul' hle' ht))
      have HTX:=jh (HTW4.o.set (k:=T.length) sI (x:=1) ⟨oM,oM⟩);have HCX:=jh (HC3.o.trans ((zA w2 gu T.length (.int .i64 1)).mono (T:=λj=>w.heap.size+1<=j) (λj _ e=>oM)));rw[HTLEN.o]at HCX;go_roundw
      case rel=>exact⟨i+1,A++[z],(T++[0]).set T.length 1,oM,by go_num,by have:=HTX.o;rw[HTLEN.o]at this ⊢;exact this,⟨by rw[HTT.o];exact HTN.o,HVN.o⟩,HCX.o⟩
      case measure=>simp[intOf];omega
  .obtain rfl:i=Z.length:=oM
   have h1:=HVS.o;rw[Ay5]at h1;have h2:=HV.o;rw[qW.2 h1]at h2;cases h2
def ofD (Z:List Int):Int:=if uS Z then 0 else xA Z
def ofL (Z:List Int):List (Int×Int):=if uS Z then [] else zG (xA Z) 0 Z
def ofE (Z:List Int):Int:=if uS Z then 1 else 0
theorem zRa (Z:List Int):(ofL Z).length<=Z.length:=by
 unfold ofL
 split
 .simp
 .exact uL _ _ _
theorem zRu (Z:List Int) (h:∀n∈Z,I.Byte n):I.Byte (ofD Z):=by
 unfold ofD
 split
 .exact⟨oM,oM⟩
 .rcases qU Z with ⟨_,h2⟩|⟨h1,_⟩
  .rw[h2];exact⟨oM,oM⟩
  .exact h _ h1
theorem zGd (Z:List Int) (a:Option Addr) (g o c:Nat) (w:World) (hz:I.BytesAt w g o Z) (ha:0<Z.length->a=some ⟨g,o,none⟩) (hl:Z.length<=65536) :
  Calls Tryz.prog 163 #[.slice a Z.length c] w λe w'=>∃s,e=.returned (ofV (ofD Z) s (ofE Z))/\kQ.In w' w.heap.size s (ofL Z)/\Cf w w':=by
 by_cases hv:uS Z=true
 .rw[show ofD Z=0 from if_pos hv,show ofL Z=[] from if_pos hv,show ofE Z=1 from if_pos hv]
  exact (zMf Z a g o c w hz ha hl hv).mono λe w' ⟨h1,h2⟩=>⟨(none,0,0),h1,.nil _ _ _,h2⟩
 .rw[show ofD Z=xA Z from if_neg hv,show ofL Z=zG (xA Z) 0 Z from if_neg hv,show ofE Z=0 from if_neg hv]
  exact zPt Z a g o c w hz ha hl (by simpa using hv)
theorem zDz (r s:RowD):vY r s=vY s r:=by
 unfold vY;by_cases h:r=s
 .rw[h]
 .rw[decide_eq_false h,decide_eq_false (λe=>h e.symm)]
theorem zDf {w:World}{B:Nat}{v:Value}{X Y:List (Int×Sl)}(h:rowR.Own w B v X) (k:rowR.Own w B v Y):X=Y:=by
 have key:∀(n:Nat) (X Y:List (Int×Sl)) (C D:List (Int×Sl)) (g:Nat),X.length=n->Y.length=n->rowR.Row w g C->rowR.Row w g D->X <+: C->Y <+: D->X=Y:=by
  intro n X Y C D g hX hY hC hD hXC hYD
  apply List.ext_getElem oM
  intro i h1 h2;have c:=(hC.at' hXC);have d:=(hD.at' hYD);have ex:X[i]?=some X[i]:=Az h1;have ey:Y[i]?=some Y[i]:=Az h2;have a0:=c.get ex (i:=0) (u:=.int .i64 X[i].1) rfl;have b0:=d.get ey (i:=0) (u:=.int .i64 Y[i].1) rfl;have a1:=c.get ex (i:=1) (u:=slV X[i].2) rfl;have b1:=d.get ey (i:=1) (u:=slV Y[i].2) rfl;rw[a0]at b0;rw[a1]at b1;injection b0 with b0;injection b0 with _ b0;injection b1 with b1;unfold slV at b1;injection b1 with e1 e2 e3;exact Prod.ext b0 (Prod.ext e1 (Prod.ext e2 e3))
 rcases h with ⟨rfl,rfl⟩|⟨g,C,rfl,_,hC,hp,_⟩
 .rcases k with ⟨_,rfl⟩|⟨g,D,e,_⟩
  .rfl
  .cases e
 .rcases k with ⟨e,_⟩|⟨g',D,e,_,hD,hq,_⟩
  .cases e
  .injection e with e1 e2 e3
   injection e1 with e1;injection e1 with e1;subst e1;exact key X.length X Y C D _ rfl e2.symm hC hD hp hq
def zH5 (w:World) (W:Int) (LL:List (List Int)) (e:Ending) (w':World):Prop :=
 (uG W LL=false/\e=.returned (tabV 0 none 0 0 none 0 0 1)/\Cf w w') \/
 (uG W LL=true/\∃ra oa rc oc,e=.returned (tabV W ra (yC LL).1.length rc oa (yC LL).2.length oc 0)/\uN kQ rowR w' w.heap.size (ra,(yC LL).1.length,rc) (yC LL).1/\OfIn w' w.heap.size oa (yC LL).2/\(yC LL).2.length<=oc/\Cf w w')
theorem zHm (W:Int) (LL:List (List Int)) (a:Option Addr) (c B:Nat) (w:World) (h:sC w B (a,LL.length,c) LL) (h0:0<=W) (h1:W<=65536) (hn:LL.length<=65536) (hl:∀l∈LL,l.length<=65536) :
  Calls Tryz.prog 122 #[.int .i64 W,.slice a LL.length c] w (zH5 w W LL):=by
 have HL:=jh h;have HLL:=jh hl;have d1:decide (W<0)=false:=by simp;omega
 have d2:decide (65536<W)=false:=by simp;omega
 have HC0:=jh ((Chg.refl (λk=>w.heap.size<=k) w).alloc (.cells #[.int .i64 0,.slice none 0 0,.slice none 0 0] 194));have HR0:Hd (∀wr,Chg (λk=>w.heap.size+1<=k) (w.alloc (.cells #[.int .i64 0,.slice none 0 0,.slice none 0 0] 194)) wr->(wr.cell? ⟨w.heap.size,0,none⟩=some (.int .i64 0)/\wr.cell? ⟨w.heap.size,1,none⟩=some (.slice none 0 0)/\wr.cell? ⟨w.heap.size,2,none⟩=some (.slice none 0 0))/\∀j,wr.frozen? ⟨w.heap.size,j,none⟩=false):=jh λwr hc =>
  ⟨⟨hc.cellS sI (by show ¬w.heap.size+1<=w.heap.size;omega),hc.cellS sI (by show ¬w.heap.size+1<=w.heap.size;omega),hc.cellS sI (by show ¬w.heap.size+1<=w.heap.size;omega)⟩,λj=>(hc.frozen (p:=⟨w.heap.size,j,none⟩) sI (by show ¬w.heap.size+1<=w.heap.size;omega)).trans (Az8 _ _ _ _)⟩
 obtain⟨w1,hw1⟩:∃w1,w1=w.alloc (.cells #[.int .i64 0,.slice none 0 0,.slice none 0 0] 194):=⟨_,rfl⟩;have hs1:w1.heap.size=w.heap.size+1:=by rw[hw1];simp
 have HT0:Hd (TabSt kQ rowR (w.heap.size+1) (w1.alloc (.cells #[.int .i64 W,.slice none 0 0,.slice none 0 0] 194)) W [] [] (.slice none 0 0) (.slice none 0 0)):=jh (by
  rw[<-hs1];exact⟨by rw[Az7];rfl,by rw[Az7];rfl,Az8 _ _ _ _,by rw[Az7];rfl,Az8 _ _ _ _,⟨[],.nil _ _,rfl,λj x r hx=>by simp at hx⟩,.nil _ _,λg hg=>by cases hg⟩)
 have HC1:Hd (Chg (λk=>w.heap.size+1<=k) w1 (w1.alloc (.cells #[.int .i64 W,.slice none 0 0,.slice none 0 0] 194))):=jh ((Chg.refl _ _).alloc _);rw[<-hw1]at HC0 HR0;have HW1:=jh hw1;clear h hl hw1 hs1;go_enter Tryz.func122,Tryz.ntmps122
 go_wp2;rw[<-HW1.o]
 go_loopw [7] (λq wr=>∃(k:Nat) (v u:Value),k<=LL.length/\q=.int .i64 k/\uG W (LL.take k)=true/\TabSt kQ rowR (w.heap.size+1) wr W (yC (LL.take k)).1 (yC (LL.take k)).2 v u/\Chg (λk=>w.heap.size+1<=k) w1 wr) (λq _=>LL.length-(intOf q).toNat)
 case atStart=>exact⟨0,_,_,oM,rfl,rfl,HT0.o,HC1.o⟩
 case round =>
  clear HT0 HC1;obtain⟨k,v,u,hk,rfl,hok,ht,hc⟩:=hrel;have HOK:=jh hok;have HT:=jh ht;have HC:=jh hc;have HCW:=jh ((HC0.o.trans (hc.mono (T:=λk=>w.heap.size<=k) (λk _ e=>oM))).fresh);clear hok ht hc;by_cases hkl:k<LL.length
  .have b28:decide ((k:Int)<(LL.length:Int))=true:=by simp;omega
   obtain⟨l,g,o,la,lc,gl,ol,hlk,rfl,c0,hlc,hla,hlp,hgw,-⟩:=(HL.o.same HCW.o).get hkl;have HLK:=jh hlk;have HLA:=jh hla;have HLP:Hd (0<l.length->la=some ⟨gl,ol,none⟩):=jh (λh=>(hlp h).1);have hl6:=HLL.o l (Az2 hlk);have HTK:Hd (LL.take (k+1)=LL.take k++[l]):=jh (by rw[Ay1,hlk];rfl);have HBADP:Hd (pA W l=false->uG W LL=false):=jh (λh=>by
    unfold uG;rw[List.all_eq_false];exact⟨l,Az2 HLK.o,by simp[h]⟩)
   have HD1:=jh (zRu l hla.byte);have HLE:=jh (zRa l);have HEQ:Hd (uS l=false->(ofD l=xA l/\ofL l=zG (xA l) 0 l/\ofE l=0)):=jh (λh=>⟨by simp[ofD,h],by simp[ofL,h],by simp[ofE,h]⟩);have HEB:Hd (uS l=true->ofE l=1):=jh (λh=>by simp[ofE,h]);clear hlk hla hlp;go_wp2_with fail
   refine (zGd l la gl ol lc wr HLA.o HLP.o hl6).mono ?_;rintro e w2 ⟨⟨sa,sn,sc⟩,rfl,hin,hc2⟩;obtain rfl:sn=(ofL l).length:=hin.1;unfold ofV slV;simp only;obtain⟨wb,hwb⟩:∃x,x=w2.alloc (.cells #[.int .i64 (ofD l),.slice sa (ofL l).length sc] 236):=⟨_,rfl⟩;have HCA:Hd (Cf wr wb):=jh (by rw[hwb];exact hc2.alloc _);have HTB:=jh (HT.o.same HCA.o);have HCB:=jh (HCW.o.trans HCA.o);have HCX:=jh (HC.o.trans HCA.o.any);have HBS:Hd (w.heap.size+2<=wr.heap.size):=jh (by have:=HT.o.lt;omega);have HIN:Hd (kQ.In wb wr.heap.size (sa,(ofL l).length,sc) (ofL l)):=jh (by rw[hwb];exact hin.same ((Chg.refl _ _).alloc _));have HBX:Hd (∀wx,Cf wb wx->wx.cell? ⟨w2.heap.size,0,none⟩=some (.int .i64 (ofD l))/\wx.cell? ⟨w2.heap.size,1,none⟩=some (.slice sa (ofL l).length sc)):=jh (λwx hx=>by subst hwb;exact⟨hx.cellS sI iD,hx.cellS sI iD⟩);have HWB:=jh hwb;have HXI:Hd (kS kQ wb (w.heap.size+1+1) (ofD l,sa,(ofL l).length,sc) (ofD l,ofL l)):=jh ⟨rfl,HD1.o,HIN.o.lower (by have:=HBS.o;omega)⟩;have HXA:Hd (0<(ofL l).length->∀g o,sa=some ⟨g,o,none⟩->v.ownBlock≠some g/\u.ownBlock≠some g/\w.heap.size+1<g):=jh (λhp g o hg=>by
    obtain⟨_,_,g',o',_,k5⟩:=HIN.o;obtain⟨h6,h7⟩:=k5 hp
    change sa=_ at h6
    rw[hg]at h6;injection h6 with h6;injection h6 with h6;subst h6;obtain⟨X,hX,_⟩:=HT.o.rows;have:=HBS.o;exact⟨λe=>by have:=(hX.blk e).2;omega,λe=>by have:=(HT.o.of.blk e).2;omega,oM⟩)
   obtain⟨va,vn,vc,rfl⟩:∃a n c,v=.slice a n c:=(by obtain⟨X,h1,_⟩:=HT.o.rows;exact h1.shape3);obtain⟨ua,un,uc,rfl⟩:=HT.o.of.shape3;obtain⟨-,-,hvn,hun,hle1,hle2⟩:=HT.o.final cR;subst hvn hun;have HML:=jh (tC (LL.take k));have hR1:(yC (LL.take k)).1.length<=1000000:=(by have:=HML.o.1;have:=Au k LL;omega);have hO1:(yC (LL.take k)).2.length<=1000000:=(by have:=HML.o.2;have:=Au k LL;omega);have hl9:(ofL l).length<=1000000000:=(by have:=HLE.o;omega);have HSN:Hd (uS l=false->yC (LL.take (k+1))=addL (yC (LL.take k)) (ofD l,ofL l)):=jh (λh=>by rw[HTK.o,zBc,(HEQ.o h).1,(HEQ.o h).2.1];rfl);have HOK2:Hd (pA W l=true->uG W (LL.take (k+1))=true):=jh (λh=>by
    have:=HOK.o;unfold uG at this ⊢;rw[HTK.o,List.all_append,this];simp[h])
   have HRLEN:Hd (∀r∈(yC (LL.take k)).1,r.2.length<=1000000000):=jh (λr hr=>by
    obtain⟨l',h1,rfl⟩:=gG _ r hr;have:=uL (xA l') l' 0;have:=HLL.o l' (At1 h1);show (zG (xA l') 0 l').length<=_;omega)
   obtain⟨RR,hRR⟩:∃RR,(yC (LL.take k)).1=RR:=⟨_,rfl⟩;obtain⟨OO,hOO⟩:∃OO,(yC (LL.take k)).2=OO:=⟨_,rfl⟩;have HPE:Hd (yC (LL.take k)=(RR,OO)):=jh (by rw[<-hRR,<-hOO]);rw[hRR]at hR1 hle1 HTB HXA HRLEN;rw[hOO]at hO1 hle2 HTB HXA;obtain⟨D,hD⟩:∃D,ofD l=D:=⟨_,rfl⟩;obtain⟨X,hX⟩:∃X,ofL l=X:=⟨_,rfl⟩;obtain⟨E,hE⟩:∃E,ofE l=E:=⟨_,rfl⟩;rw[hX]at HIN;rw[hD,hX]at HBX HXI HSN HWB;rw[hX]at HXA hl9;rw[hE]at HEB;rw[hD,hX,hE];have HE0:Hd (uS l=false->E=0):=jh (λh=>by rw[<-hE];exact (HEQ.o h).2.2);clear hin hc2 hwb hRR hOO hD hX hE HEQ HML HT HC HD1;have c0:=HCA.o.cellS c0 iD;go_upto_region 8 with (fail)
   rw[<-HWB.o];by_cases hnv:uS l=true
   .have HMB:=jh (HBADP.o (by unfold pA;rw[hnv];rfl))
    have hE1:=HEB.o hnv;subst hE1;clear c0;obtain⟨⟨r0,r1,r2⟩,hz⟩:=HR0.o wb HCX.o;have z0:=hz 0;have z1:=hz 1;have z2:=hz 2;clear hz;go_wp2;obtain⟨f0,f1,f2,f3⟩:=eL (.int .i64 0) (.slice none 0 0) (.slice none 0 0) r0 r1 r2;have h4:=((HCB.o.any (S:=λk=>w.heap.size<=k)).trans (f3.mono (λk _ e=>oM))).fresh;clear f3
    generalize ((wb.setCell ⟨w.heap.size,0,none⟩ (.int .i64 0)).setCell ⟨w.heap.size,1,none⟩ (.slice none 0 0)).setCell ⟨w.heap.size,2,none⟩ (.slice none 0 0)=WW at *
    exact bodyPost_ret (v:=.tuple #[.agg #[.int .i64 0,.slice none 0 0,.slice none 0 0],.int .i64 1]) (by simp[results,Tryz.results122,go_sem,f0,f1,f2]) rfl (.inl ⟨HMB.o,rfl,h4⟩)
   .have hnv:uS l=false:=by simpa using hnv
    have hE1:=HE0.o hnv;subst hE1;by_cases hlw:(l.length:Int)=W
    .have q1:((l.length:Int) != W)=false:=by simpa using hlw
     have HOKN:=jh (HOK2.o (by unfold pA;rw[hnv];simpa using hlw));have HSN2:=jh (HSN.o hnv);have c1:=HTB.o.c1;clear hlw HSN HOK2 HBADP HEB HE0 HLA HLP HLK;go_wp2_with fail
     go_loopw [10] (λq wx=>∃j:Nat,j<=RR.length/\q=.int .i64 j/\(∀(i:Nat) y,i<j->RR[i]?=some y->vY (D,X) y=false)/\Cf wb wx) (λq _=>RR.length-(intOf q).toNat)
     case atStart=>exact⟨0,oM,rfl,λi y h=>absurd h (Ax _),Chg.refl _ _⟩
     case round =>
      clear c1 c0 q1;obtain⟨j,hj,rfl,hb,hcx⟩:=hrel;have HB:=jh hb;have HX:=jh hcx;have HTX:=jh (HTB.o.same hcx);have c1:=HTX.o.c1;clear hb hcx;by_cases hjl:j<RR.length
      .have b55:decide ((j:Int)<(RR.length:Int))=true:=by simp;omega
       obtain⟨r,g',o',xa,xc,hr,rfl,k0,k1,-,hin,-,-⟩:=HTX.o.rowsIn.1.get rfl (λ_=>rfl) hjl;obtain⟨rd,rl⟩:=r;simp only at k0 k1 hin;have HRJ:=jh hr;have HRI:=jh hin;have HK:=jh (And.intro k0 k1);have HRL:Hd (rl.length<=1000000000):=jh (HRLEN.o _ (Az2 hr));clear hr hin k0 k1;by_cases hxi:vY (D,X) (rd,rl)=true
       .have HF:Hd (idxV (vY (D,X)) RR=j):=jh (uQ HRJ.o hxi HB.o)
        have HAL:Hd (addL (RR,OO) (D,X)=(RR,OO++[(j:Int)])):=jh (by
         have hh:gQ (D,X) (RR,OO).1=true:=mU.2 (by
          have:(D,X)=(rd,rl):=by simpa [vY] using hxi
          rw[this];exact Az2 HRJ.o)
         unfold addL;rw[hh,if_pos rfl];rw[show idxV (vY (D,X)) (RR,OO).1=(j:Int) from HF.o])
        have b72:((j:Int) == (RR.length:Int))=false:=sO;go_upto_region 11 with (fail)
        refine ws (λw'=>Cf wr w') ?_;(iterate 2 (refine rq ?_));(refine rq ?_ (by intro _ w' _ hC;have q:=(HTX.o.same hC).c1;go_simp;try with_reducible rfl));(iterate 4 (refine rq ?_));(refine rq ?_ (by intro _ w' _ hC;have q:=(HTX.o.same hC).c1;go_simp;try with_reducible rfl));(iterate 2 (refine rq ?_));(refine rq ?_ (by intro _ w' _ hC;have q0:=hC.cellS HK.o.1 iD;have q1:=hC.cellS HK.o.2 iD;go_simp;try with_reducible rfl));(refine rq ?_ (by intro _ w' _ hC;obtain⟨q0,q1⟩:=HBX.o w' (HX.o.trans hC);go_simp;try with_reducible rfl))
        refine yS rfl (Value.bool true )  164  ( #[.agg #[.int .i64 rd,.slice xa rl.length xc],.agg #[.int .i64 D,.slice sa X.length sc]]) (λw'=>by go_simp) (λ_ w' _ hC=>?_) (λK hK=>?_)
        .refine (fN rd D rl X xa sa xc sc _ _ w' (HRI.o.same hC) (HIN.o.same (HX.o.trans hC)) HRL.o).mono ?_
         rintro e w4 ⟨rfl,hc⟩;exact⟨by rw[zDz,hxi],hC.trans hc⟩
        ((try go_simp);refine hK _ ?_;clear hK K)
        (iterate 2 (refine rq ?_))
        refine zQ ?_;intro w4 hC4;have HX4:=jh (HX.o.trans hC4);have HT4:=jh (HTX.o.same hC4);clear hC4 c1;have c1:=HT4.o.c1;have HTL:=jh (HT4.o.same ((Chg.refl (λ_=>False) w4).alloc (.cells #[.int .i64 j] 3)));have HBL:Hd (w.heap.size+1+1<=(w4.alloc (.cells #[.int .i64 j] 3)).heap.size):=jh HTL.o.lt;have HOKI:Hd (∀x∈[(j:Int)],intE.ok x):=jh (by intro x hx;rw[Ay3]at hx;subst hx;exact⟨oM,oM⟩);have HOL:Hd (OO.length+1<=1000000000000):=jh oM;have c2:=HT4.o.c2;go_wp2_with (at_builtin;refine Elt.wpList_append2 intE rfl (.tmp 80) (.tmp 82) 25 25 rfl rfl (w.heap.size+1+1) (.slice ua OO.length uc) OO [(j:Int)] (.slice (some ⟨w4.heap.size,0,none⟩) 1 1) rfl rfl HTL.o.of HBL.o (intE.srcLit 1 HOKI.o) HOKI.o HOL.o ?_;intro u' w6 H1 H2 H3;obtain⟨ua',ul',uc',hu'⟩:=H1.o.shape3;subst hu';obtain⟨⟨k1,k2⟩,hf1,hf2⟩:=HTL.o.addOf H1.o H3.o.1 (H3.o.2.imp id Or.inl);have HFF:=jh hf1;have HCF:=jh (((Chg.refl (λk=>w.heap.size+1<=k) w4).alloc (.cells #[.int .i64 j] 3)).trans hf2);clear hf1 hf2)
        have HTN:Hd (TabSt kQ rowR (w.heap.size+1) (w6.setCell ⟨w.heap.size+1,2,none⟩ (.slice ua' ul' uc')) W (yC (LL.take (k+1))).1 (yC (LL.take (k+1))).2 (.slice (some ⟨g',o',none⟩) RR.length vc) (.slice ua' ul' uc')):=jh (by rw[HSN2.o,HPE.o,HAL.o];exact HFF.o);have HCN:=jh (HCX.o.trans (HX4.o.any.trans HCF.o));clear HFF HCF hxi;go_roundw
        case rel=>exact⟨k+1,_,_,oM,by go_num,HOKN.o,HTN.o,HCN.o⟩
        case measure=>simp[intOf];omega
       .have hxi:vY (D,X) (rd,rl)=false:=by simpa using hxi
        have HB2:Hd (∀(i:Nat) y,i<j+1->RR[i]?=some y->vY (D,X) y=false):=jh (λi y hi hy=>by
         by_cases he:i=j
         .subst he;rw[HRJ.o]at hy;obtain rfl:=Az3 hy;exact hxi
         .exact HB.o i y oM hy)
        go_upto_region 11 with (fail)
        refine ws (λw'=>Cf wr w') ?_;(iterate 2 (refine rq ?_));(refine rq ?_ (by intro _ w' _ hC;have q:=(HTX.o.same hC).c1;go_simp;try with_reducible rfl));(iterate 4 (refine rq ?_));(refine rq ?_ (by intro _ w' _ hC;have q:=(HTX.o.same hC).c1;go_simp;try with_reducible rfl));(iterate 2 (refine rq ?_));(refine rq ?_ (by intro _ w' _ hC;have q0:=hC.cellS HK.o.1 iD;have q1:=hC.cellS HK.o.2 iD;go_simp;try with_reducible rfl));(refine rq ?_ (by intro _ w' _ hC;obtain⟨q0,q1⟩:=HBX.o w' (HX.o.trans hC);go_simp;try with_reducible rfl))
        refine yS rfl (Value.bool false )  164  ( #[.agg #[.int .i64 rd,.slice xa rl.length xc],.agg #[.int .i64 D,.slice sa X.length sc]]) (λw'=>by go_simp) (λ_ w' _ hC=>?_) (λK hK=>?_)
        .refine (fN rd D rl X xa sa xc sc _ _ w' (HRI.o.same hC) (HIN.o.same (HX.o.trans hC)) HRL.o).mono ?_
         rintro e w4 ⟨rfl,hc⟩;exact⟨by rw[zDz,hxi],hC.trans hc⟩
        ((try go_simp);refine hK _ ?_;clear hK K)
        (iterate 2 (refine rq ?_))
        refine zQ ?_;intro w4 hC4;have HX4:=jh (HX.o.trans hC4);have HT4:=jh (HTX.o.same hC4);clear hC4 c1;have c1:=HT4.o.c1;clear hxi;go_wp2;go_roundw
        case rel=>exact⟨j+1,oM,by go_num,HB2.o,HX4.o⟩
        case measure=>simp[intOf];omega
      .obtain rfl:j=RR.length:=oM
       have b55:decide ((RR.length:Int)<(RR.length:Int))=false:=sI;have HAL:Hd (addL (RR,OO) (D,X)=(RR++[(D,X)],OO++[(RR.length:Int)])):=jh (by
        have hh:¬gQ (D,X) (RR,OO).1=true:=λe=>by
         obtain⟨i,hi,he⟩:=Av9 (mU.1 e);have h1:=HB.o i _ hi (Az hi);have he':RR[i]=(D,X):=he;rw[he']at h1;simp[vY]at h1
        unfold addL;rw[if_neg hh])
       go_upto_region 11 with (fail)
       refine ws (λw'=>Cf wr w') ?_;(iterate 6 (refine rq ?_ (by intro _ w' _ hC;have q:=(HTX.o.same hC).c1;go_simp;try with_reducible rfl)))
       iterate 8 (refine sq ?_)
       (refine rq ?_);refine zQ ?_;intro w4 hC4;have HX4:=jh (HX.o.trans hC4);have HT4:=jh (HTX.o.same hC4);clear hC4 c1;have c1:=HT4.o.c1;obtain⟨x0,x1⟩:=HBX.o w4 HX4.o;have HTE:=jh (HT4.o.same ((Chg.refl (λ_=>False) w4).alloc (.cells #[.int .i64 D,.slice sa X.length sc] 236)));have HXE:=jh (HXI.o.same (HX4.o.trans ((Chg.refl (λ_=>False) w4).alloc (.cells #[.int .i64 D,.slice sa X.length sc] 236))));obtain⟨XX,hXX,hXl,-⟩:=HTE.o.rows;have HXX:=jh hXX;have HXL:=jh hXl;have HOKR:Hd (∀y∈[(D,sa,X.length,sc)],rowR.ok y):=jh (by intro y hy;rw[Ay3]at hy;subst hy;exact HXI.o.2.1);have HBR:Hd (w.heap.size+1+1<=(w4.alloc (.cells #[.int .i64 D,.slice sa X.length sc] 236)).heap.size):=jh HTE.o.lt;have HLR:Hd (XX.length+1<=1000000000000):=jh oM;clear hXX hXl;go_upto_region 15 with (at_builtin;refine Elt.wpList_append2 rowR rfl (.tmp 74) (.tmp 76) 192 192 rfl rfl (w.heap.size+1+1) (.slice va RR.length vc) XX [(D,sa,X.length,sc)] (.slice (some ⟨w4.heap.size,0,none⟩) 1 1) rfl rfl HXX.o HBR.o (rowR.srcLit 1 HOKR.o) HOKR.o HLR.o ?_;intro v' w5 K1 K2 K3;obtain⟨va',vl',vc',hv'⟩:=K1.out.shape3;subst hv';obtain⟨⟨k1,k2⟩,hf1,hf2⟩:=HTE.o.addRow HXE.o HXA.o (λX' hX' _=>(by rw[zDf hX' HXX.o];exact K1.out)) K3.out.1 (K3.out.2.imp id Or.inl);have HFT:=jh hf1;have HFC:=jh (((Chg.refl (λk=>w.heap.size+1<=k) w4).alloc (.cells #[.int .i64 D,.slice sa X.length sc] 236)).trans hf2);clear hf1 hf2)
       clear k1 k2 x0 x1 c1;obtain⟨wf,hwf⟩:∃wf,wf=w5.setCell ⟨w.heap.size+1,1,none⟩ (.slice va' vl' vc'):=⟨_,rfl⟩;rw[<-hwf]at HFT HFC ⊢;clear hwf;have HTL:=jh (HFT.o.same ((Chg.refl (λ_=>False) wf).alloc (.cells #[.int .i64 RR.length] 3)));have HBL:Hd (w.heap.size+1+1<=(wf.alloc (.cells #[.int .i64 RR.length] 3)).heap.size):=jh HTL.o.lt;have HOKI:Hd (∀x∈[(RR.length:Int)],intE.ok x):=jh (by intro x hx;rw[Ay3]at hx;subst hx;exact⟨oM,oM⟩);have HOL:Hd (OO.length+1<=1000000000000):=jh oM;have c2:=HFT.o.c2;go_wp2_with (at_builtin;refine Elt.wpList_append2 intE rfl (.tmp 80) (.tmp 82) 25 25 rfl rfl (w.heap.size+1+1) (.slice ua OO.length uc) OO [(RR.length:Int)] (.slice (some ⟨wf.heap.size,0,none⟩) 1 1) rfl rfl HTL.o.of HBL.o (intE.srcLit 1 HOKI.o) HOKI.o HOL.o ?_;intro u' w6 H1 H2 H3;obtain⟨ua',ul',uc',hu'⟩:=H1.o.shape3;subst hu';obtain⟨⟨k1,k2⟩,hf1,hf2⟩:=HTL.o.addOf H1.o H3.o.1 (H3.o.2.imp id Or.inl);have HFF:=jh hf1;have HCF:=jh (((Chg.refl (λk=>w.heap.size+1<=k) wf).alloc (.cells #[.int .i64 RR.length] 3)).trans hf2);clear hf1 hf2)
       have HTN:Hd (TabSt kQ rowR (w.heap.size+1) (w6.setCell ⟨w.heap.size+1,2,none⟩ (.slice ua' ul' uc')) W (yC (LL.take (k+1))).1 (yC (LL.take (k+1))).2 (.slice va' vl' vc') (.slice ua' ul' uc')):=jh (by rw[HSN2.o,HPE.o,HAL.o];exact HFF.o);have HCN:=jh (HCX.o.trans (HX4.o.any.trans (HFC.o.trans HCF.o)));clear HFF HCF;go_roundw
       case rel=>exact⟨k+1,_,_,oM,by go_num,HOKN.o,HTN.o,HCN.o⟩
       case measure=>simp[intOf];omega
    .have q1:((l.length:Int) != W)=true:=by simpa using hlw
     have HMB:=jh (HBADP.o (by unfold pA;rw[hnv];simpa using hlw));clear hlw;obtain⟨⟨r0,r1,r2⟩,hz⟩:=HR0.o wb HCX.o;have z0:=hz 0;have z1:=hz 1;have z2:=hz 2;clear hz;go_wp2;obtain⟨f0,f1,f2,f3⟩:=eL (.int .i64 0) (.slice none 0 0) (.slice none 0 0) r0 r1 r2;have h4:=((HCB.o.any (S:=λk=>w.heap.size<=k)).trans (f3.mono (λk _ e=>oM))).fresh;clear f3
     generalize ((wb.setCell ⟨w.heap.size,0,none⟩ (.int .i64 0)).setCell ⟨w.heap.size,1,none⟩ (.slice none 0 0)).setCell ⟨w.heap.size,2,none⟩ (.slice none 0 0)=WW at *
     exact bodyPost_ret (v:=.tuple #[.agg #[.int .i64 0,.slice none 0 0,.slice none 0 0],.int .i64 1]) (by simp[results,Tryz.results122,go_sem,f0,f1,f2]) rfl (.inl ⟨HMB.o,rfl,h4⟩)
  .obtain rfl:k=LL.length:=oM
   have HOKF:Hd (uG W LL=true):=jh (by have:=HOK.o;rwa [Ay5]at this);have HTF:Hd (TabSt kQ rowR (w.heap.size+1) wr W (yC LL).1 (yC LL).2 v u):=jh (by have:=HT.o;rwa [Ay5]at this);obtain⟨va,vn,vc,rfl⟩:∃a n c,v=.slice a n c:=(by obtain⟨X,h1,_⟩:=HTF.o.rows;exact h1.shape3);obtain⟨ua,un,uc,rfl⟩:=HTF.o.of.shape3;obtain⟨-,-,rfl,rfl,hle1,hle2⟩:=HTF.o.final cR;obtain⟨⟨r0,r1,r2⟩,hz⟩:=HR0.o wr HC.o;have z0:=hz 0;have z1:=hz 1;have z2:=hz 2;have c0:=HTF.o.c0;have c1:=HTF.o.c1;have c2:=HTF.o.c2;have hbl:w.heap.size+1<wr.heap.size:=HTF.o.lt;clear hz HT HOK;go_wp2;obtain⟨f0,f1,f2,f3⟩:=eL (.int .i64 W) (.slice va (yC LL).1.length vc) (.slice ua (yC LL).2.length uc) r0 r1 r2;obtain⟨h4,h5,-⟩:=HTF.o.final (f3.mono (λk _ e=>oM));have h6:=(HCW.o.any (S:=λk=>w.heap.size<=k)).trans (f3.mono (λk _ e=>oM));have h7:uN kQ rowR (((wr.setCell ⟨w.heap.size,0,none⟩ (.int .i64 W)).setCell ⟨w.heap.size,1,none⟩ (.slice va (yC LL).1.length vc)).setCell ⟨w.heap.size,2,none⟩ (.slice ua (yC LL).2.length uc)) w.heap.size (va,(yC LL).1.length,vc) (yC LL).1:=by
    obtain⟨X,q1,q2,q3⟩:=h4.lower (B':=w.heap.size) oM;obtain⟨q4,q5,q6⟩:=q1;exact⟨X,⟨q4,hle1,q6⟩,q2,q3⟩
   clear f3 h4
   generalize ((wr.setCell ⟨w.heap.size,0,none⟩ (.int .i64 W)).setCell ⟨w.heap.size,1,none⟩ (.slice va (yC LL).1.length vc)).setCell ⟨w.heap.size,2,none⟩ (.slice ua (yC LL).2.length uc)=WW at *
   exact bodyPost_ret (v:=.tuple #[.agg #[.int .i64 W,.slice va (yC LL).1.length vc,.slice ua (yC LL).2.length uc],.int .i64 0]) (by simp[results,Tryz.results122,go_sem,f0,f1,f2]) rfl (.inr ⟨HOKF.o,va,ua,vc,uc,rfl,h7,h5.lower oM,hle2,h6.fresh⟩)
theorem I.Row.putAt {w:World}{g k:Nat}{V:List Int}(h:I.Row w g V) (hk:k<V.length) {x:Int}(hx:I.Byte x):I.Row (w.setCell ⟨g,k,none⟩ (.int .i64 x)) g (V.set k x):=by
 refine⟨λj a hj=>?_,λj=>(Az4 _ _ _ _).trans (h.z j),Ay9 h.lt (zA _ _ _ _).size,λa ha=>?_⟩
 .by_cases he:j=k
  .subst he
   rw[Av5 hk]at hj;obtain rfl:=Az3 hj;exact Az9 _ _ _ (h.c j _ (Az hk))
  .rw[Au3 (Ne.symm he)]at hj
   rw[Ay0 _ _ _ _ (by intro e;injection e with _ e;exact he e.symm)];exact h.c j a hj
 .rcases List.mem_or_eq_of_mem_set ha with h1|rfl
  .exact h.byte a h1
  .exact hx
theorem I.Row.cell {w:World}{g k:Nat}{V:List Int}(h:I.Row w g V) (hk:k<V.length):w.cell? ⟨g,k,none⟩=some (.int .i64 V[k]):=h.c k _ (Az hk)
theorem I.Row.of_eq {w:World}{g:Nat}{V U:List Int}(h:I.Row w g V) (e:V=U):I.Row w g U:=e ▸ h
theorem zMe (W j:Nat) (d:Int) (h:j<W):(List.replicate j d++List.replicate (W-j) 0).set j d=List.replicate (j+1) d++List.replicate (W-(j+1)) 0:=by
 obtain⟨n,rfl⟩:∃n,W=j+1+n:=⟨W-(j+1),oM⟩;rw[List.set_append_right _ _ sI];rw[show j+1+n-j=n+1 by omega,show j+1+n-(j+1)=n by omega];rw[Av3,Au0,List.replicate_succ (n:=n),List.set_cons_zero,List.replicate_succ' (n:=j),Az5]
 rfl
def zA3 (W:Nat) (d:Int) (X:List (Int×Int)) (j:Nat):List Int:=(X.take j).foldl (λvs c=>vs.set c.1.toNat c.2) (List.replicate W d)
theorem zBe (W:Nat) (d:Int) (X:List (Int×Int)) (j:Nat):(zA3 W d X j).length=W:=by
 unfold zA3;have key:∀(Y:List (Int×Int)) (V:List Int),(Y.foldl (λvs c=>vs.set c.1.toNat c.2) V).length=V.length:=by
  intro Y
  induction Y with
  | nil=>intro V;rfl
  | cons y Y ih=>intro V;rw[List.foldl_cons,ih,Au4]
 rw[key];simp
theorem zT9 (W:Nat) (d:Int) (X:List (Int×Int)):zA3 W d X 0=List.replicate W d:=rfl
theorem zHz (W:Nat) (d:Int) (X:List (Int×Int)) (j n:Nat) (p1:Int) (h:X[j]?=some ((n:Int),p1)):(zA3 W d X j).set n p1=zA3 W d X (j+1):=by
 unfold zA3;rw[Ay1,h];simp
theorem zEf (W:Nat) (d:Int) (X:List (Int×Int)):zA3 W d X X.length=bY W (d,X):=by
 unfold zA3 bY;rw[Ay5]
theorem zT1 {Z:List Int}(h:uS Z=false):(ofD Z,ofL Z)=rowL Z:=by
 simp[ofD,ofL,h,rowL]
theorem zEc {W:Nat}{d:Int}{X:List (Int×Int)}{j:Nat}{p:Int×Int}(h:X[j]?=some p) (hp:p.1<0\/(W:Int)<=p.1):vU W (d,X)=false:=by
 rw[<-Bool.not_eq_true,zA0];rintro ⟨h1,-⟩;have:=h1 p (Az2 h);omega
theorem zQg {W:Nat}{r:RowD}(h:uS (bY W r)=true):vU W r=false:=by
 rw[<-Bool.not_eq_true,zA0];rintro ⟨-,h1,-⟩;rw[qW.2 h1]at h;cases h
theorem zQh {W:Nat}{r:RowD}(h:rowL (bY W r)≠r):vU W r=false:=by
 rw[<-Bool.not_eq_true,zA0];rintro ⟨-,-,h1⟩;exact h h1
def zH6 (W:Nat) (X:List (Int×Int)) (j:Nat):Prop:=∀(i:Nat) p,i<j->X[i]?=some p->0<=p.1/\p.1<(W:Int)
def zPd (R:List RowD) (r:RowD) (j:Nat):Prop:=∀(i:Nat) y,i<j->R[i]?=some y->y≠r
theorem zKf (W:Int) (R:List RowD) (O:List Int) (ra oa:Option Addr) (rc oc B g o:Nat) (w:World) (hW:I.Byte W) (hR:uN kQ rowR w B (ra,R.length,rc) R) (hrl:R.length<=100000000) (hcl:∀r∈R,r.2.length<=1000000000)
  (hO:I.BytesAt w g o O) (ha:0<O.length->oa=some ⟨g,o,none⟩) (hol:O.length<=100000000) :
  Calls Tryz.prog 152 #[.agg #[.int .i64 W,.slice ra R.length rc,.slice oa O.length oc]] w λe w'=>e=.returned (.bool (mayL (W,R,O)))/\Cf w w':=by
 have HR:=jh hR;have HO:=jh hO;have HA:=jh ha;have HCL:=jh hcl;obtain⟨hW0,hW1⟩:=hW;obtain⟨wa,hwa⟩:∃x,x=w.alloc (.cells #[.int .i64 W,.slice ra R.length rc,.slice oa O.length oc] 194):=⟨_,rfl⟩;have HC0:Hd (Cf w wa):=jh (by rw[hwa];exact (Chg.refl _ _).alloc _);have HB0:Hd (∀wr,Cf wa wr->wr.cell? ⟨w.heap.size,0,none⟩=some (.int .i64 W)/\wr.cell? ⟨w.heap.size,1,none⟩=some (.slice ra R.length rc)/\wr.cell? ⟨w.heap.size,2,none⟩=some (.slice oa O.length oc)):=jh λwr hc=>by
  subst hwa;exact⟨hc.cellS sI iD,hc.cellS sI iD,hc.cellS sI iD⟩
 have HWA:=jh hwa;have HBD:Hd (w.heap.size<wa.heap.size):=jh (by rw[hwa];simp);clear hR hO ha hcl hwa;by_cases h1:0<=W
 .have d1:decide (W<0)=false:=by simp;omega
  by_cases h2:W<=65536
  .have d2:decide (65536<W)=false:=by simp;omega
   by_cases h3:O.length<=65536
   .have d3:decide (65536<(O.length:Int))=false:=by simp;omega
    obtain⟨WN,rfl⟩:=Aw8 h1;go_enter Tryz.func152,Tryz.ntmps152
    go_upto_region 3 with (fail)
    rw[<-HWA.o];go_wp2;clear d1 d2 d3;have HCI:Hd (Cf wa wa):=jh cR
    go_loopw [3,4] (λnv q wr=>∃(k:Nat) (next:Int),k<=O.length/\q=.int .i64 k/\nv=.int .i64 next/\(0<=next/\next<=k)/\rA 0 R.length O=rA next R.length (O.drop k)/\Cf wa wr) (λ_ q _=>O.length-(intOf q).toNat)
    case atStart=>first|exact⟨0,0,oM,rfl,rfl,oM,sI,by first|exact HCI.o|exact HCI.o.drew⟩
    case round =>
     clear HCI;obtain⟨k,next,hk,rfl,rfl,⟨n0,n1⟩,he,hc⟩:=hrel;have HE:=jh he;have HC:=jh hc;have HCW:=jh (HC0.o.trans hc);have HCD:=jh (hc.drew);obtain⟨b0,b1,b2⟩:=HB0.o wr hc;clear he hc;by_cases hkl:k<O.length
     .have b32:decide ((k:Int)<(O.length:Int))=true:=by simp;omega
      obtain⟨i,hi,c1,i0,i1⟩:=(HO.o.chg HCW.o iE).get hkl;have e1:=HA.o oM;subst e1;have HST:=jh (zD6 (next:=next) (m:=R.length) hi);clear hi;by_cases g1:i<0
      .have q1:decide (i<0)=true:=by simpa using g1
       have HF:Hd (mayL ((WN:Int),R,O)=false):=jh (nJ (by rw[HE.o,HST.o,if_pos (.inl g1)];simp));go_upto_region 7 with (fail)
       refine zW (λw'=>w'=wr.drew) kR kR ?_ ?_
       .rfl
       iterate 7 (refine rq ?_ (by intro _ w' _ hC;subst hC;go_simp;try with_reducible rfl))
       iterate 7 (refine sq ?_)
       iterate 2 (refine rq ?_ (by intro _ w' _ hC;subst hC;go_simp;try with_reducible rfl))
       iterate 9 (refine sq ?_)
       iterate 1 (refine rq ?_ (by intro _ w' _ hC;subst hC;go_simp;try with_reducible rfl))
       refine zQ ?_;rintro w' rfl;go_wp2;go_ret
       exact⟨by rw[HF.o];rfl,HCW.o.drew⟩
      .have q1:decide (i<0)=false:=by simpa using g1
       by_cases g2:next<i
       .have q2:decide (next<i)=true:=by simpa using g2
        have HF:Hd (mayL ((WN:Int),R,O)=false):=jh (nJ (by rw[HE.o,HST.o,if_pos (.inr (.inl g2))];simp));go_upto_region 7 with (fail)
        refine zW (λw'=>w'=wr.drew) kR kR ?_ ?_
        .rfl
        iterate 16 (refine rq ?_ (by intro _ w' _ hC;subst hC;go_simp;try with_reducible rfl))
        iterate 9 (refine sq ?_)
        iterate 1 (refine rq ?_ (by intro _ w' _ hC;subst hC;go_simp;try with_reducible rfl))
        refine zQ ?_;rintro w' rfl;go_wp2;go_ret
        exact⟨by rw[HF.o];rfl,HCW.o.drew⟩
       .have q2:decide (next<i)=false:=by simpa using g2
        by_cases g3:(R.length:Int)<=i
        .have q3:decide ((R.length:Int)<=i)=true:=by simpa using g3
         have HF:Hd (mayL ((WN:Int),R,O)=false):=jh (nJ (by rw[HE.o,HST.o,if_pos (.inr (.inr g3))];simp));go_upto_region 7 with (fail)
         refine zW (λw'=>w'=wr.drew) kR kR ?_ ?_
         .rfl
         iterate 26 (refine rq ?_ (by intro _ w' _ hC;subst hC;go_simp;try with_reducible rfl))
         refine zQ ?_;rintro w' rfl;go_wp2;go_ret
         exact⟨by rw[HF.o];rfl,HCW.o.drew⟩
        .have q3:decide ((R.length:Int)<=i)=false:=by simpa using g3
         have HEN:Hd (rA 0 R.length O=rA (if i=next then next+1 else next) R.length (O.drop (k+1))):=jh (by rw[HE.o,HST.o,if_neg oM]);clear HE HST;by_cases g4:i=next
         .subst g4
          rw[if_pos rfl]at HEN;have q4:(i == i)=true:=sI;go_upto_region 7 with (fail)
          refine zW (λw'=>w'=wr.drew) kR kR ?_ ?_
          .rfl
          iterate 26 (refine rq ?_ (by intro _ w' _ hC;subst hC;go_simp;try with_reducible rfl))
          refine zQ ?_;rintro w' rfl;go_wp2;go_roundw
          case rel=>first|exact⟨k+1,i+1,oM,by go_num,rfl,oM,HEN.o,HCD.o⟩|((repeat apply Ay7);exact⟨⟨k+1,i+1,oM,rfl,rfl,oM,HEN.o,HCD.o⟩,by (repeat' apply And.intro) <;> first|rfl|go_num⟩)
          case measure=>simp[intOf];omega
         .have q4:(i == next)=false:=by simpa using g4
          rw[if_neg g4]at HEN;go_upto_region 7 with (fail)
          refine zW (λw'=>w'=wr.drew) kR kR ?_ ?_
          .rfl
          iterate 26 (refine rq ?_ (by intro _ w' _ hC;subst hC;go_simp;try with_reducible rfl))
          refine zQ ?_;rintro w' rfl;go_wp2;go_roundw
          case rel=>first|exact⟨k+1,next,oM,by go_num,rfl,oM,HEN.o,HCD.o⟩|((repeat apply Ay7);exact⟨⟨k+1,next,oM,rfl,rfl,oM,HEN.o,HCD.o⟩,by (repeat' apply And.intro) <;> first|rfl|go_num⟩)
          case measure=>simp[intOf];omega
     .obtain rfl:k=O.length:=oM
      have b32:decide ((O.length:Int)<(O.length:Int))=false:=sI;have HNX:Hd (rA 0 R.length O=some next):=jh (by rw[HE.o,List.drop_length];rfl);by_cases hnx:next=(R.length:Int)
      .have q1:(next != (R.length:Int))=false:=by simpa using hnx
       have HNE:Hd (rA 0 R.length O=some (R.length:Int)):=jh (by rw[HNX.o,hnx]);have HFT0:Hd (zJy (WN:Int) R 0):=jh ⟨λj r hj=>absurd hj (Ax _),sI⟩;clear hnx HNX HE;go_wp2
       go_loopw [5] (λq wx=>∃k:Nat,k<=R.length/\q=.int .i64 k/\zJy (WN:Int) R k/\Cf wa wx) (λq _=>R.length-(intOf q).toNat)
       case atStart=>exact⟨0,oM,rfl,HFT0.o,HC.o⟩
       case round =>
        clear HFT0 HC HCW b0 b1 b2 q1 HCD;obtain⟨k,hk,rfl,hft,hc⟩:=hrel;have HFT:=jh hft;have HC:=jh hc;have HCW:=jh (HC0.o.trans hc);obtain⟨b0,b1,b2⟩:=HB0.o wr hc;clear hft hc;by_cases hkl:k<R.length
        .have b79:decide ((k:Int)<(R.length:Int))=true:=by simp;omega
         obtain⟨r,g',o',xa,xc,hr,rfl,c0,c1,hrb,hin,-,-⟩:=(HR.o.same HCW.o).get rfl (λ_=>rfl) hkl;obtain⟨rd,rl⟩:=r;simp only at c0 c1 hin hrb;have HRK:=jh hr;have HRL:Hd (rl.length<=1000000000):=jh (HCL.o _ (Az2 hr));have HRB:=jh hrb;have HBAD:Hd (vU WN (rd,rl)=false->mayL ((WN:Int),R,O)=false):=jh (λh=>zGm (Az2 HRK.o) (by rw[Ay6];exact h));obtain⟨wb,hwb⟩:∃x,x=wr.alloc (.cells #[.int .i64 rd,.slice xa rl.length xc] 236):=⟨_,rfl⟩;have HWRB:Hd (Cf wr wb):=jh (by rw[hwb];exact (Chg.refl _ _).alloc _);have HCB:=jh (HC.o.trans HWRB.o);have HIN:=jh (hin.same HWRB.o);have HBX:Hd (∀wx,Cf wb wx->(wx.cell? ⟨w.heap.size,0,none⟩=some (.int .i64 WN)/\wx.cell? ⟨w.heap.size,1,none⟩=some (.slice (some ⟨g',o',none⟩) R.length rc))/\wx.cell? ⟨wr.heap.size,0,none⟩=some (.int .i64 rd)/\wx.cell? ⟨wr.heap.size,1,none⟩=some (.slice xa rl.length xc)):=jh λwx hx=>by
          obtain⟨q0,q1,-⟩:=HB0.o wx (HCB.o.trans hx);subst hwb;exact⟨⟨q0,q1⟩,hx.cellS sI iD,hx.cellS sI iD⟩
         have HWB:=jh hwb;have HSZ:Hd (wr.heap.size<wb.heap.size):=jh (by rw[hwb];simp);have c0':=HWRB.o.cellS c0 iD;clear hr hin hrb hwb b2;go_upto_region 17 with (fail)
         rw[<-HWB.o];clear c0 c1 b0 b1 c0';obtain⟨⟨b0,b1⟩,-,-⟩:=HBX.o wb cR;go_upto_region 18 with (at_make;refine I.zF0 rfl _ _ rfl _ _ _ _ WN WN rfl rfl rfl rfl (Ay _) oM ?_;intro w2 HV HCV)
         obtain⟨H,hH⟩:∃H,H=wb.heap.size:=⟨_,rfl⟩;rw[<-hH]at HV ⊢;have HH:=jh hH;have HCS:Hd (∀wx k v,Cf wb wx->Cf wb (wx.setCell ⟨H,k,none⟩ v)):=jh (λwx k v h=>((h.any (S:=λk=>wb.heap.size<=k)).trans ((zA wx H k v).mono (λk _ e=>by have:=HH.o;omega))).fresh);clear b0 b1 hH;go_wp2
         go_loopw [8] (λq wx=>∃j:Nat,j<=WN/\q=.int .i64 j/\I.Row wx H (List.replicate j rd++List.replicate (WN-j) 0)/\Cf wb wx) (λq _=>WN-(intOf q).toNat)
         case atStart=>exact⟨0,oM,rfl,by simpa using HV.o,HCV.o⟩
         case round =>
          clear HV HCV;obtain⟨j,hj,rfl,hv,hcx⟩:=hrel;have HV:=jh hv;have HX:=jh hcx;obtain⟨⟨b0,b1⟩,x0,x1⟩:=HBX.o wr hcx;clear hv hcx;by_cases hjl:j<WN
          .have b93:decide ((j:Int)<(WN:Int))=true:=by simp;omega
           have z:=HV.o.z j;have zc:=HV.o.cell (k:=j) sO;have HVN:=jh ((HV.o.putAt (k:=j) sO HRB.o).of_eq (zMe WN j rd hjl));have HXN:=jh (HCS.o _ j (.int .i64 rd) HX.o);go_wp2;go_roundw
           case rel=>first|exact⟨j+1,oM,by go_num,HVN.o,HXN.o⟩|((repeat apply Ay7);exact⟨⟨j+1,oM,rfl,HVN.o,HXN.o⟩,by (repeat' apply And.intro) <;> first|rfl|go_num⟩)
           case measure=>simp[intOf];omega
          .obtain rfl:WN=j:=oM
           have b93:decide ((WN:Int)<(WN:Int))=false:=sI;have HV0:Hd (I.Row wr H (zA3 WN rd rl 0)):=jh (HV.o.of_eq (by simp[zT9]));have HT0:Hd (zH6 WN rl 0):=jh (λi p h=>absurd h (Ax _));clear b0 b1 x0 x1;go_wp2
           go_loopw [9] (λq wx=>∃j:Nat,j<=rl.length/\q=.int .i64 j/\I.Row wx H (zA3 WN rd rl j)/\zH6 WN rl j/\Cf wb wx) (λq _=>rl.length-(intOf q).toNat)
           case atStart=>exact⟨0,oM,rfl,HV0.o,HT0.o,HX.o⟩
           case round =>
            clear HV0 HX HV HT0 b93;obtain⟨i,hi,rfl,hv,htt,hcx⟩:=hrel;have HV:=jh hv;have HX:=jh hcx;have HTT:=jh htt;obtain⟨⟨b0,b1⟩,x0,x1⟩:=HBX.o wr hcx;have HRW:=jh (HCW.o.trans (HWRB.o.trans hcx));clear hv hcx htt;by_cases hil:i<rl.length
            .have b105:decide ((i:Int)<(rl.length:Int))=true:=by simp;omega
             obtain⟨p,g5,o5,u,v,hp,rfl,he,c0,c1,hpb,-,-⟩:=(HIN.o.same HX.o).get2 rfl hil;obtain⟨rfl,rfl⟩:=zAn he;obtain⟨p0,p1⟩:=p;simp only at c0 c1 hpb;have hrl9:=HRL.o;have hpb2:I.Byte p1:=hpb.2;have HP:=jh hp;obtain⟨wc,hwc⟩:∃x,x=wr.alloc (.cells #[.int .i64 p0,.int .i64 p1] 238):=⟨_,rfl⟩;have HWC:Hd (Cf wr wc):=jh (by rw[hwc];exact (Chg.refl _ _).alloc _);have HCC:Hd (wc.cell? ⟨wr.heap.size,0,none⟩=some (.int .i64 p0)/\wc.cell? ⟨wr.heap.size,1,none⟩=some (.int .i64 p1)):=jh (by rw[hwc];exact⟨sI,sI⟩);have HWE:=jh hwc;have HCX:=jh (HX.o.trans HWC.o);have HVC:=jh (HV.o.chg HWC.o iD);clear hp he hwc;go_upto_region 26 with (fail)
             rw[<-HWE.o];clear b0 b1 x0 x1 c0 c1;obtain⟨⟨b0,b1⟩,-,-⟩:=HBX.o wc HCX.o;obtain⟨k0,k1⟩:=HCC.o;by_cases n1:p0<0
             .have q1:decide (p0<0)=true:=by simpa using n1
              have HF:=jh (HBAD.o (zEc HP.o (.inl n1)));go_wp2;go_ret
              exact⟨by rw[HF.o];rfl,HRW.o.trans HWC.o⟩
             .have q1:decide (p0<0)=false:=by simpa using n1
              by_cases n2:(WN:Int)<=p0
              .have q2:decide ((WN:Int)<=p0)=true:=by simpa using n2
               have HF:=jh (HBAD.o (zEc HP.o (.inr n2)));go_wp2;go_ret
               exact⟨by rw[HF.o];rfl,HRW.o.trans HWC.o⟩
              .have q2:decide ((WN:Int)<=p0)=false:=by simpa using n2
               obtain⟨m,rfl⟩:=Aw8 (show 0<=p0 by omega);have hm:m<WN:=oM;have z:=HVC.o.z m;have zc:=HVC.o.cell (k:=m) (by rw[zBe];exact hm);have HVN:=jh ((HVC.o.putAt (k:=m) (by rw[zBe];exact hm) hpb2).of_eq (zHz WN rd rl i m p1 HP.o));have HXN:=jh (HCS.o _ m (.int .i64 p1) HCX.o);have HTN:Hd (zH6 WN rl (i+1)):=jh (λi' p' h h'=>by
                by_cases he:i'=i
                .subst he;rw[HP.o]at h';obtain rfl:=Az3 h';exact⟨by show (0:Int)<=m;omega,by show (m:Int)<WN;omega⟩
                .exact HTT.o i' p' oM h')
               clear hpb hpb2 n1 n2;go_wp2;go_roundw
               case rel=>first|exact⟨i+1,oM,by go_num,HVN.o,HTN.o,HXN.o⟩|((repeat apply Ay7);exact⟨⟨i+1,oM,rfl,HVN.o,HTN.o,HXN.o⟩,by (repeat' apply And.intro) <;> first|rfl|go_num⟩)
               case measure=>simp[intOf];omega
            .obtain rfl:i=rl.length:=oM
             have b105:decide ((rl.length:Int)<(rl.length:Int))=false:=sI;obtain⟨Z,hZ⟩:∃Z,Z=bY WN (rd,rl):=⟨_,rfl⟩;have HVZ:Hd (I.Row wr H Z):=jh (HV.o.of_eq (by rw[zEf,hZ]));have hZl:Z.length=WN:=(by rw[hZ,<-zEf,zBe]);have HFV:Hd (uS Z=true->vU WN (rd,rl)=false):=jh (λh=>zQg (by rw[<-hZ];exact h));have HFR:Hd (rowL Z≠(rd,rl)->vU WN (rd,rl)=false):=jh (λh=>zQh (by rw[<-hZ];exact h));have HFG:Hd (uS Z=false->rowL Z=(rd,rl)->vU WN (rd,rl)=true):=jh (λh h'=>zA0.2 ⟨λc hc=>by
              obtain⟨i,hi,he⟩:=Av9 hc;exact HTT.o i c hi (by rw[<-he];exact Az hi),by rw[<-hZ];exact qW.1 h,by rw[<-hZ];exact h'⟩)
             have hof:=zGd Z (some ⟨H,0,none⟩) H 0 WN wr (HVZ.o.bytes (Aw6 _)) (λ_=>rfl) oM;rw[hZl]at hof;have HOF:=jh hof;have HLE:=jh (zRa Z);have HZL:=jh hZl;clear hof hZ hZl b0 b1 x0;go_wp2_with fail
             refine HOF.o.mono ?_;rintro e w3 ⟨⟨sa,sn,sc⟩,rfl,hin3,hc3⟩;obtain rfl:sn=(ofL Z).length:=hin3.1;unfold ofV slV;simp only;clear x1;have HC3:=jh (HX.o.trans hc3);have HRW3:=jh (HRW.o.trans hc3);have HIN3:=jh hin3;have hl9:(ofL Z).length<=1000000000:=(by have:=HLE.o;have:=HZL.o;omega);obtain⟨⟨b0,b1⟩,x0,x1⟩:=HBX.o w3 HC3.o;clear hin3 hc3;by_cases hnv:uS Z=true
             .have HF:=jh (HBAD.o (HFV.o hnv))
              have hE:ofE Z=1:=(by simp[ofE,hnv]);rw[hE];go_wp2;go_ret
              exact⟨by rw[HF.o];rfl,HRW3.o.alloc _⟩
             .have hnv:uS Z=false:=by simpa using hnv
              have hE:ofE Z=0:=(by simp[ofE,hnv]);rw[hE];have HRE:=jh (zT1 hnv);obtain⟨D,hD⟩:∃D,ofD Z=D:=⟨_,rfl⟩;obtain⟨X,hX⟩:∃X,ofL Z=X:=⟨_,rfl⟩;rw[hD,hX]at HRE ⊢;rw[hX]at HIN3 hl9;clear hD hX hE HLE;obtain⟨wd,hwd⟩:∃x,x=w3.alloc (.cells #[.int .i64 D,.slice sa X.length sc] 236):=⟨_,rfl⟩;have HWD:Hd (Cf w3 wd):=jh (by rw[hwd];exact (Chg.refl _ _).alloc _);have HDD:Hd (wd.cell? ⟨w3.heap.size,0,none⟩=some (.int .i64 D)/\wd.cell? ⟨w3.heap.size,1,none⟩=some (.slice sa X.length sc)):=jh (by rw[hwd];exact⟨sI,sI⟩);have HWE:=jh hwd;clear hwd;go_upto_region 30 with (fail)
              rw[<-HWE.o];clear b0 b1 x0 x1;obtain⟨-,x0,x1⟩:=HBX.o wd (HC3.o.trans HWD.o);obtain⟨y0,y1⟩:=HDD.o;go_wp2_with fail
              refine (fN D rd X rl sa xa sc xc _ _ wd (HIN3.o.same HWD.o) (HIN.o.same (HC3.o.trans HWD.o)) hl9).mono ?_;rintro e w4 ⟨rfl,hc4⟩;have HC4:=jh ((HC3.o.trans HWD.o).trans hc4);have HRW4:=jh ((HRW3.o.trans HWD.o).trans hc4);clear hc4 x0 x1 y0 y1;by_cases hre:(D,X)=(rd,rl)
              .have HFI:=jh (HFG.o hnv (HRE.o ▸ hre))
               rw[show vY (D,X) (rd,rl)=true by simp[vY,hre]];have HND0:Hd (zPd R (rd,rl) 0):=jh (λi y h=>absurd h (Ax _));clear hre HFG HFR HFV HBAD HOF HVZ HV HTT HCS;go_wp2
               go_loopw [13] (λq wx=>∃i:Nat,i<=k/\q=.int .i64 i/\zPd R (rd,rl) i/\Cf wb wx) (λq _=>k-(intOf q).toNat)
               case atStart=>exact⟨0,oM,rfl,HND0.o,HC4.o⟩
               case round =>
                clear HND0 HC4 HRW4 HRW HRW3 HC3;obtain⟨i,hi,rfl,hnt,hcx⟩:=hrel;have HNT:=jh hnt;have HX:=jh hcx;have HRW:=jh (HCW.o.trans (HWRB.o.trans hcx));clear hnt hcx;by_cases hik:i<k
                .have b144:decide ((i:Int)<(k:Int))=true:=by simp;omega
                 obtain⟨r5,g5,o5,ya,yc,hr5,e5,k0,k1,-,hin5,-,-⟩:=(HR.o.same HRW.o).get rfl (λ_=>rfl) (show i<R.length by omega);injection e5 with e5;injection e5 with e5 e6;subst e5 e6;obtain⟨yd,yl⟩:=r5;simp only at k0 k1 hin5;have HR5:=jh hr5;have HIN5:=jh hin5;have HK:=jh (And.intro k0 k1);have HYL:Hd (yl.length<=1000000000):=jh (HCL.o _ (Az2 hr5));have HANS:∃b,vY (yd,yl) (rd,rl)=b:=⟨_,rfl⟩;obtain⟨b,hb⟩:=HANS;have HBV:=jh hb;have hir:i<R.length:=oM;clear hr5 hin5 k0 k1 hb;go_upto_region 35 with (fail)
                 refine ws (λw'=>Cf wr w') ?_;(iterate 2 (refine rq ?_ (by intro _ w' _ hC;obtain⟨⟨q0,q1⟩,-,-⟩:=HBX.o w' (HX.o.trans hC);go_simp;try with_reducible rfl)));(iterate 2 (refine rq ?_));(refine rq ?_ (by intro _ w' _ hC;have q0:=hC.cellS HK.o.1 iD;have q1:=hC.cellS HK.o.2 iD;go_simp;try with_reducible rfl));(refine rq ?_ (by intro _ w' _ hC;obtain⟨-,q0,q1⟩:=HBX.o w' (HX.o.trans hC);go_simp;try with_reducible rfl))
                 refine yS rfl (Value.bool b )  164  ( #[.agg #[.int .i64 yd,.slice ya yl.length yc],.agg #[.int .i64 rd,.slice xa rl.length xc]]) (λw'=>by go_simp) (λ_ w' _ hC=>?_) (λK hK=>?_)
                 .refine (fN yd rd yl rl ya xa yc xc _ _ w' (HIN5.o.same hC) (HIN.o.same (HX.o.trans hC)) HYL.o).mono ?_
                  rintro e w4 ⟨rfl,hc⟩;exact⟨by rw[HBV.o],hC.trans hc⟩
                 ((try go_simp);refine hK _ ?_;clear hK K)
                 refine zQ ?_;intro w5 hC5;have HX5:=jh (HX.o.trans hC5);have HRW5:=jh (HRW.o.trans hC5);clear hC5;cases b with
                 | true =>
                  have HF:Hd (mayL ((WN:Int),R,O)=false):=jh (zD7 (λhn=>by
                   have he:(yd,yl)=(rd,rl):=(by simpa [vY] using HBV.o);have h1:=HR5.o;rw[he]at h1;have h2:=(List.getElem?_inj (i:=i) (j:=k) hir hn).1 (by rw[h1,HRK.o]);omega))
                  go_wp2;go_ret
                  exact⟨by rw[HF.o];rfl,HRW5.o⟩
                 | false =>
                  have HNT2:Hd (zPd R (rd,rl) (i+1)):=jh (λi' y h h'=>by
                   by_cases he:i'=i
                   .subst he;rw[HR5.o]at h';obtain rfl:=Az3 h';intro e;have:=HBV.o;rw[e]at this;simp[vY]at this
                   .exact HNT.o i' y oM h')
                  go_wp2;go_roundw
                  case rel=>first|exact⟨i+1,oM,by go_num,HNT2.o,HX5.o⟩|((repeat apply Ay7);exact⟨⟨i+1,oM,rfl,HNT2.o,HX5.o⟩,by (repeat' apply And.intro) <;> first|rfl|go_num⟩)
                  case measure=>simp[intOf];omega
                .obtain rfl:i=k:=oM
                 have b144:decide ((i:Int)<(i:Int))=false:=sI;have HFTN:Hd (zJy (WN:Int) R (i+1)):=jh ⟨λj r hj hr=>by
                  by_cases he:j=i
                  .subst he;rw[HRK.o]at hr;obtain rfl:=Az3 hr;rw[Ay6];exact HFI.o
                  .exact HFT.o.1 j r oM hr,by
                  rw[Ay1,HRK.o,List.nodup_append];refine⟨HFT.o.2,sI,λa ha b hb=>?_⟩;simp at hb
                  subst hb;obtain⟨j,hj,he⟩:=Av9 ha;rw[Ax1]at hj;refine HNT.o j a oM ?_;rw[<-he,List.getElem_take];exact Az _⟩
                 have HCN:=jh (HCB.o.trans HX.o);go_wp2;go_roundw
                 case rel=>first|exact⟨i+1,oM,by go_num,HFTN.o,HCN.o⟩|((repeat apply Ay7);exact⟨⟨i+1,oM,rfl,HFTN.o,HCN.o⟩,by (repeat' apply And.intro) <;> first|rfl|go_num⟩)
                 case measure=>simp[intOf];omega
              .have HF:=jh (HBAD.o (HFR.o (by rw[<-HRE.o];exact hre)))
               rw[show vY (D,X) (rd,rl)=false by simpa [vY] using hre];clear hre;go_wp2;go_ret
               exact⟨by rw[HF.o];rfl,HRW4.o⟩
        .obtain rfl:k=R.length:=oM
         have b79:decide ((R.length:Int)<(R.length:Int))=false:=sI;have HF:Hd (mayL ((WN:Int),R,O)=true):=jh (by
          rw[zCn ⟨h1,h2,h3⟩ (λr hr=>by
           obtain⟨j,hj,he⟩:=Av9 hr;exact HFT.o.1 j r hj (by rw[Az hj,he])) (by have:=HFT.o.2;rwa [Ay5]at this),HNE.o]
          simp)
         go_wp2;go_ret
         exact⟨by rw[HF.o];rfl,HCW.o⟩
      .have q1:(next != (R.length:Int))=true:=by simpa using hnx
       have HF:Hd (mayL ((WN:Int),R,O)=false):=jh (nJ (by rw[HNX.o];simpa using hnx));go_wp2;go_ret
       exact⟨by rw[HF.o];rfl,HCW.o⟩
   .have d3:decide (65536<(O.length:Int))=true:=by simp;omega
    have HF:Hd (mayL (W,R,O)=false):=jh (mS oM);obtain⟨b0,b1,b2⟩:=HB0.o wa cR;go_enter Tryz.func152,Tryz.ntmps152
    go_upto_region 1 with (fail)
    rw[<-HWA.o];go_wp2;go_ret
    exact⟨by rw[HF.o];rfl,HC0.o⟩
  .have d2:decide (65536<W)=true:=by simp;omega
   have HF:Hd (mayL (W,R,O)=false):=jh (mS oM);obtain⟨b0,b1,b2⟩:=HB0.o wa cR;go_enter Tryz.func152,Tryz.ntmps152
   go_upto_region 1 with (fail)
   rw[<-HWA.o];go_wp2;go_ret
   exact⟨by rw[HF.o];rfl,HC0.o⟩
 .have d1:decide (W<0)=true:=by simp;omega
  have HF:Hd (mayL (W,R,O)=false):=jh (mS oM);obtain⟨b0,b1,b2⟩:=HB0.o wa cR;go_enter Tryz.func152,Tryz.ntmps152
  go_upto_region 1 with (fail)
  rw[<-HWA.o];go_wp2;go_ret
  exact⟨by rw[HF.o];rfl,HC0.o⟩
end Go.Proofs.YtgnpmceimpjheaaGreat
