/- A part of the proof: CodB CodX CodY CodK CodH Class Step Apt MayT. -/
import Derived.Test.YtgnpmceimpjheaaGreatGG6
set_option maxRecDepth 100000
set_option maxHeartbeats 16000000
namespace Go.Proofs.YtgnpmceimpjheaaGreat
open Go.RowKit Go.Proofs.Tryz
variable {a b c d e f g h i j k l m n o p q r:Nat}{w v u t s:World}{X Y W L T:List Int}{A B C E Z:Value}{x y z:Int}{N R:Bool}{F Q:Option Addr}{S P:Nat->Prop}
theorem OfIn.at (c:OfIn w a F X):∃b,I.BytesAt w b 0 X/\(0<X.length->F=some ⟨b,0,none⟩/\a<=b):=by
 rcases c with ⟨rfl,_⟩|⟨b,d,e,f⟩
 .exact⟨0,⟨λh i g=>by simp at g,λc=>(c D).elim⟩,λc=>absurd c sI⟩
 exact⟨b,e.bytes (Aw8 _),λ_=>⟨d,f⟩⟩
theorem jG (t:TabD):(tU t).length=t.2.2.length:=by simp[tU]
theorem ol (a:TabD) {b:Nat}(c:b<a.2.2.length):(tU a)[b]?=some ((List.range a.1.toNat).map (λ(d:Nat)=>eQ a b d)):=by simp[tU,c]
theorem hq (f:qA X vQ=true):∃(h e:Nat) (b:List RowD) (a:List Int),xQ X vQ=(((h:Int),b,a),e,false)/\mayL ((h:Int),b,a)=true/\h<=65536/\a.length<=65536/\e<=X.length:=by
 unfold qA at f;rw[Ay6,Aw2]at f;obtain⟨c,d⟩:=f;have g:=(wg (M:=[]) c).2
 generalize m:xQ X vQ=p at c d g
 obtain⟨⟨j,b,a⟩,e,l⟩:=p;simp only at c d g;obtain⟨⟨i,n,k⟩,-⟩:=jY d;refine⟨j.toNat,e,b,a,?_,?_,H,k,g⟩
 .rw[Int.toNat_of_nonneg i,<-c]
 rw[Int.toNat_of_nonneg i];exact d
theorem vW.chgB {h:Elt (Int×Int)}{i:Elt (Int×Sl)}{n:Sl}{j:List RowD}(p:vW h i w a n j) (l:J S w v) (m:∀k,a<=k->¬S k):vW h i v a n j:=by
 obtain⟨o,q,r,b⟩:=p;exact⟨o,q.chgB l m,r,λe g f d c=>⟨(b e g f d c).1,(b e g f d c).2.1,(b e g f d c).2.2.chgB l m⟩⟩
theorem om :∀{c:List (Int×Int)}{e:Int},yS x y e c=true->∀b∈c,kE b.2
 | [],_,_,b,a=>by cases a
 | f :: c,e,d,b,a=>by
  simp only[yS,Ay6,decide_eq_true_eq]at d;rcases Ax5.1 a with rfl|a
  .exact d.1.1.2
  exact om d.2 b a
theorem yg {e:RowD}(g:a<=65536) (b:uC a e=true) (j:Int):kE (af e j):=by
 have h:=(mU g b).1;have d:∀c∈e.2,kE c.2:=by
  by_cases f:a=0
  .subst f
   simp only[uC,if_true,Ay6,decide_eq_true_eq]at b;rw[b.2];intro c d;cases d
  simp only[uC,if_neg f,Ay6,decide_eq_true_eq]at b
  exact om b.1.1.1
 unfold af
 split
 .rename_i c i
  exact d c (List.mem_of_find?_eq_some i)
 exact h
theorem hw {c:List RowD}(e:mayL ((a:Int),c,X)=true) (h d:Int):kE (eQ ((a:Int),c,X) h d):=by
 obtain⟨⟨j,k,l⟩,-,f,-⟩:=jY e;have b:kE (-1):=dE
 simp only[eQ]
 split
 .exact b
 split
 .exact b
 split
 .exact b
 split
 .exact b
 rename_i i g
 exact yg H (f i (Az1 g)) d
def oo (g j:Nat) (i:World) (d:List Int) (f:Ending) (c:World):Prop :=
 J (·=g) i c/\((qL d=none/\f=sW)\/∃(a:List (List Int)) (b:Nat) (h:List Int) (e:Option Addr),qL d=some ((a,(b:Int)),h)/\f=.returned (.tuple #[.slice e a.length a.length,.int .i64 b])/\zL pW (inR intE) c (λk=>i.heap.size<=k) (e,a.length,a.length) a/\GetSt g j c h/\a.length<=65536/\b<=65536/\∀l∈a,l.length=b)
structure TVar (b:Nat) (w:World) (m:Nat) (R:List RowD) (O:List Int) (ra oa:Option Addr) (B g:Nat):Prop where
 c0:w.cell? ⟨b,0,none⟩=some (.int .i64 m)
 c1:w.cell? ⟨b,1,none⟩=some (.slice ra R.length R.length)
 c2:w.cell? ⟨b,2,none⟩=some (.slice oa O.length O.length)
 r:vW vU rowE w B (ra,R.length,R.length) R
 o:I.BytesAt w g 0 O
theorem TVar.fresh {g:List RowD}(e:TVar a w b g X F Q c d) (f:Cf w v):TVar a v b g X F Q c d :=
 ⟨f.cellS e.c0 iD,f.cellS e.c1 iD,f.cellS e.c2 iD,e.r.same f,e.o.chg f iE⟩
theorem oq (n:World) (i:List Int) (k:GetSt a b n i):Calls prog 142 #[.pointer (some ⟨a,0,none⟩)] n (oo a b n i):=by
 obtain⟨a4,z,O,Q,a0⟩:=k.c;have L:=V (yf i (some ⟨b,a4,none⟩) b a4 z n a0 (λ_=>rfl) Q (λk=>by cases k) (by have:=k.len;omega));have a8:=V k;cases A:qA i vQ with
 | false =>
  have dM:G (qL i=none):=V (by unfold qL;rw[A];rfl);rw[A]at L;clear Q a0 A k;go_enter func142,ntmps142
  go_wp2_with fail
  refine L.o.mono ?_;rintro l u (⟨aM,_⟩|⟨-,rfl,r⟩)
  .cases aM
  have dF:=V r;clear r O L;go_wp2_with fail
  refine (kQ _).mono ?_;rintro l bH ⟨rfl,rfl⟩;exact⟨D,dF.o.any.trans (rT),.inl ⟨dM.o,D⟩⟩
 | true =>
  obtain⟨c,q,h,e,b5,cS,cT,cV,b6⟩:=hq A;have aB:G (qL i=if (e.length:Int) * (c:Int)<=4194304 then some ((tU ((c:Int),h,e),(c:Int)),i.drop q) else none):=V (by unfold qL;rw[A,b5];rfl);rw[A,b5]at L;have bX:=V cS;have bO:G (∀v,Cf n v->v.cell? ⟨a,0,none⟩=some (.slice (some ⟨b,a4,none⟩) i.length z)/\v.frozen? ⟨a,0,none⟩=false/\GetSt a b (v.setCell ⟨a,0,none⟩ (cutV b a4 z i.length q)) (i.drop q)) :=
   V λv r=>⟨r.cellS O iD,(r.frozen (p:=⟨a,0,none⟩) k.lt iD).trans k.z,(k.fresh r).cut (r.cellS O iD) Q (a0.chg r iE) b6⟩
  have dP:G (i.length<=z):=V Q;have f9:q<=10000000:=by have:=k.len;omega
  have f1:=V b6;clear Q a0 A k b5 cS b6;go_enter func142,ntmps142
  go_wp2_with fail
  refine L.o.mono ?_;rintro l u (⟨-,aT,aR,rfl,d2,cZ,r⟩|⟨aM,_⟩)
  rotate_left
  .cases aM
  obtain⟨bD,cD,cF⟩:=cZ.at;obtain⟨v,T⟩:=rK (u.alloc (.cells #[.int .i64 c,.slice aT h.length h.length,.slice aR e.length e.length] 201));have aH:Cf u v:=by rw[T];exact rT
  have c5:G (TVar u.heap.size v c h e aT aR n.heap.size bD):=V (by
   refine⟨?_,?_,?_,d2.same aH,cD.chg aH iE⟩ <;> · rw[T,Az5];rfl)
  have c1:=V cF;have e4:G (n.heap.size<=u.heap.size/\v.heap.size=u.heap.size+1):=V ⟨r.size,by rw[T];simp⟩;have aX:=V (r.trans aH);clear d2 cZ cD cF r aH L O;simp only at *;go_wp2_with fail
  rw[<-T];clear T;refine (bW _).mono ?_;rintro l bH ⟨rfl,rfl⟩;by_cases R:z=q
  all_goals
   have hcut:=bO.o bH aX.o;have bB:z=q->i.length-q=0:=λl=>by have:=dP.o;omega
   first|rw[cutV,if_pos R]at hcut|rw[cutV,if_neg R]at hcut
   obtain⟨eO,eZ,f⟩:=hcut;obtain⟨fF,cM,cI,a3,d3⟩:∃aF,GetSt a b aF (i.drop q)/\J (·=a) n aF/\TVar u.heap.size aF c h e aT aR n.heap.size bD/\aF=_:=⟨_,f,aX.o.any.trans (zA _ _ _ _),by
    have B:=zA bH a 0 (cutV b a4 z i.length q)
    first|rw[cutV,if_pos R]at B|rw[cutV,if_neg R]at B
    have f8:=a8.o.lt;have T:=e4.o;have a2:=c5.o;refine⟨B.cellS a2.c0 (by show ¬u.heap.size=a;omega),B.cellS a2.c1 (by show ¬u.heap.size=a;omega),B.cellS a2.c2 (by show ¬u.heap.size=a;omega),?_,?_⟩
    .exact a2.r.chgB B (λj f l=>H)
    refine a2.o.chg B (λeH l=>?_)
    have:=(c1.o (List.length_pos_iff.2 eH)).2;omega,D⟩
   first|have bB:=bB R|skip
   go_upto_region 4 with fail
   rw[<-d3];clear R d3 f eO eZ bB;obtain⟨dO,bI,e3⟩:=rZ cM cI a3;have U:=a3.c0;have d8:=a3.c1;have d9:=a3.c2;clear cM cI a3 c5 bO aX;have d0:e.length * c<=4294967296:=Nat.mul_le_mul cV cT;have eM:wrap64 ((e.length:Int) * (c:Int))=(e.length:Int) * (c:Int):=by
    rw[<-Int.natCast_mul]
    generalize e.length * c=P at d0
    simp only[wrap64];omega
   clear d0;by_cases S:(e.length:Int) * (c:Int)<=4194304
   .rw[if_pos S]at aB
    have cA:decide ((e.length:Int) * (c:Int)<=4194304)=true:=decide_eq_true S;clear S;go_wp2_with fail
    refine (bW _).mono ?_;rintro l C ⟨rfl,rfl⟩;have bT:G (LSt pW (inR intE) (C0 a) (T0 a b) (S0 (List Int) a b) n C (.slice none 0 0) [] (i.drop q) []):=V (LSt.start (cy a b) (show S0 (List Int) a b n [] i from a8.o) dO.o bI.o);clear cA eM;go_wp2;clear U d8 d9
    go_loopw [2,42] (λa6 t wr=>∃(g:Nat) (bF:Value) (Z:List Sl),bF=a6/\g<=e.length/\t=.int .i64 g/\LSt pW (inR intE) (C0 a) (T0 a b) (S0 (List Int) a b) n wr bF ((tU ((c:Int),h,e)).take g) (i.drop q) Z/\Cf C wr/\∀j,bF.ownBlock=some j->C.heap.size<=j) (λ_ t _=>e.length-(intOf t).toNat)
    .exact⟨0,_,[],D,H,D,bT.o,J.refl _ _,λj f=>by cases f⟩
    clear bT;obtain⟨g,a6,Z,rfl,aM,rfl,x,b4,cX⟩:=hrel;obtain⟨w,dK,c2,aD⟩:=sB x b4 cX (e3.o.fresh b4);clear b4 cX;by_cases eF:g<e.length
    .have e9:=rO g e.length
     have f7:g<65536:=H;have c4:G ((tU ((c:Int),h,e))[g]?=some ((List.range c).map (λ(d:Nat)=>eQ ((c:Int),h,e) g d))):=V (ol ((c:Int),h,e) eF);obtain⟨a5,aP⟩:=rM ((List.range c).map (λ(d:Nat)=>eQ ((c:Int),h,e) g d));have dZ:G (∀d,d<c->a5[d]?=some (eQ ((c:Int),h,e) g d)):=V (λd cP=>by rw[<-aP];simp[cP]);have e0:G (a5.length=c):=V (by rw[<-aP];simp);rw[aP]at c4;clear aP x;have U:=aD.o.c0;go_wp2_with (at_make;refine intE.wpList_make D _ _ _ D D _ _ _ _ c c D D D H H H ?_;intro eT c3 bM)
     obtain⟨o,rfl⟩:=rK wr;have bZ:G (intE.Own eT o.heap.size (.slice (some ⟨o.heap.size,0,none⟩) c c) (List.replicate c 0)):=V (.inr ⟨o.heap.size,List.replicate c 0,sI,Ay1 _,c3.o,Aw8 _,by simp[maxLen];omega⟩);clear c3 U
     go_loopw [50] (λt wr=>∃(d:Nat) (s:List Int),d<=c/\t=.int .i64 d/\s.length=c/\(∀m,m<d->s[m]?=a5[m]?)/\intE.Own wr o.heap.size (.slice (some ⟨o.heap.size,0,none⟩) c c) s/\Cf o wr) (λt _=>c-(intOf t).toNat)
     .exact⟨0,_,H,D,sI,λm aI=>absurd aI (Ax1 _),bZ.o,bM.o⟩
     clear bZ bM;obtain⟨d,s,cP,rfl,d6,d5,d7,b3⟩:=hrel;obtain⟨Y,aZ,b0,K,X⟩:=sD d6 d5 d7 b3 (aD.o.fresh b3);clear d6 d5 d7 b3;by_cases aK:d<c
     .have e8:=rO d c
      have f6:d<65536:=H;have U:=X.o.c0;have d8:=X.o.c1;have d9:=X.o.c2;obtain⟨F,b8⟩:=rM (eQ ((c:Int),h,e) g d);have b1:=vw (c:Int) (g:Int) (d:Int) h e aT aR h.length e.length n.heap.size bD 0 wr ⟨H,H⟩ ⟨H,H⟩ ⟨H,H⟩ X.o.r (λeP d1=>by have:=(mU H ((jY bX.o).2.2.1 eP d1)).2.1;omega) X.o.o (λk=>(c1.o k).1) H;rw[b8]at b1;have dD:=V b1;have c7:=V b8;clear b1 b8;go_wp2_with fail
      refine dD.o.mono ?_;rintro l eV ⟨rfl,b2⟩;have c0:=V (b0.o.chg b2 (λ_ _ _ k=>k));obtain⟨f4,fH,-,-,a1,-,f2,f3,-⟩:=rU c0.o (k:=d) (by rw[Y.o];exact aK);injection a1 with a1;injection a1 with a1;subst a1;have b9:=hw bX.o (g:Int) (d:Int);rw[c7.o]at b9;have d4:I.Byte F:=⟨by have:=b9.1;omega,by have:=b9.2;omega⟩;have dU:=V (gk c0.o (k:=d) (by rw[Y.o];exact aK) d4);have dH:=V ((K.o.trans b2).trans2 (zA eV o.heap.size d (.int .i64 F)) (λj f l=>absurd l (Nat.ne_of_lt f)));have e6:G (∀m,m<d+1->(s.set d F)[m]?=a5[m]?):=V (λm aI=>by
       by_cases cO:m=d
       .subst cO
        rw[Aw7 (by rw[Y.o];exact aK),dZ.o m aK,c7.o]
       rw[Av5 (Ne.symm cO)]
       exact aZ.o m H)
      clear b2 d4;go_wp2;go_roundw
      .exact⟨d+1,_,H,GN,by rw[Av9];exact Y.o,e6.o,dU.o,dH.o⟩
      simp[intOf];omega
     obtain rfl:d=c:=H
     have e8:=rP d;have eD:s=a5:=List.ext_getElem? (λm=>by
      by_cases aI:m<d
      .exact aZ.o m aI
      rw[List.getElem?_eq_none (by rw[Y.o];omega),List.getElem?_eq_none (by rw[e0.o];omega)])
     subst eD;have c6:G (o.heap.size<=wr.heap.size/\n.heap.size<=o.heap.size):=V ⟨K.o.size,w.o.chg.size⟩;have dV:G (pW.Own wr n.heap.size a6 Z):=V (w.o.own.chg K.o (λ_ _ _ k=>k));have e5:G (Z.length<=65536):=V (by rw[w.o.len,Ay8];omega);have e1:G (inR intE wr (λj=>o.heap.size<=j/\¬T0 a b wr j) (some ⟨o.heap.size,0,none⟩,d,d) s):=V (by
      have O:=Elt.In.inS (b0.o.in' (c':=d) (Ay1 _));refine O.mono (λj _ f=>⟨f,λeI=>?_⟩);have Q:=a8.o.lt;have a0:=a8.o.lb;have f5:=c6.o;rcases eI with rfl|rfl <;> omega)
     have e2:G (S0 (List Int) a b wr ((tU ((d:Int),h,e)).take g++[s]) (i.drop q)):=V (w.o.st.fresh K.o);have aY:G ((tU ((d:Int),h,e)).take (g+1)=(tU ((d:Int),h,e)).take g++[s]):=V (by rw[Ay3,c4.o];rfl);have c8:G (∀F∈[((some ⟨o.heap.size,0,none⟩,d,d):Sl)],pW.ok F):=V (λ_ _=>trivial);have bK:G (Cf C wr):=V (dK.o.trans K.o);clear aZ b0;go_wp2_with (at_builtin;refine Elt.wpList_append2 pW D _ _ 26 26 D D n.heap.size a6 Z [(some ⟨o.heap.size,0,none⟩,d,d)] (.slice (some ⟨wr.heap.size,0,none⟩) 1 1) D D (dV.o.chg ((FR _).alloc _) (λ_ _ _ k=>k)) (by have:=c6.o;simp;omega) (pW.srcLit (Y:=[(some ⟨o.heap.size,0,none⟩,d,d)]) 1 c8.o) c8.o (by have:=e5.o;simp;omega) ?_;intro eR eX dR f0 aV)
     have bV:=V (LSt.step inR.good (cy a b) _ w.o e1.o e2.o K.o.any (λj f=>.inl f) (λj f=>.inl f) dR.o aV.o);have dI:G (Cf C eX):=V ((bK.o.alloc _).trans2 aV.o.1 (λj f l=>absurd (c2.o j l) (Nat.not_le.2 f)));have dT:G (∀j,eR.ownBlock=some j->C.heap.size<=j):=V (λj f=>by
      rcases aV.o.2 with l|l
      .rw[l]at f;exact c2.o j f
      rw[l]at f;injection f with f;have:=bK.o.size;simp at f;omega)
     rw[<-aY.o]at bV;go_roundw
     .exact⟨g+1,_,_,D,H,GN,bV.o,dI.o,dT.o⟩
     simp[intOf];omega
    obtain rfl:g=e.length:=H
    have e9:=rP e.length;have aY:G ((tU ((c:Int),h,e)).take e.length=tU ((c:Int),h,e)):=V (Ax8 (by rw[jG];exact Ay1 _));rw[aY.o]at x w;obtain⟨N,c9,eK,cH,cK⟩:=x.final inR.good;subst eK;have bP:=V cK;obtain⟨y,aO⟩:=rM ((tU ((c:Int),h,e)).length);have a9:=V aO;rw[aO]at cH bP;have U:=aD.o.c0;clear cK x;go_upto_region 16 with fail
    simp only[aO];clear aO;obtain⟨E,b7⟩:=rM wr.drew;have a7:G (Cf wr E):=V (by rw[<-b7];exact (J.refl _ _).drew);refine zC (λF=>F=E) (λ_=>false) M ?_;show yC _ _ _ _ _ _ 6 (Array.replicate 6 false) _ wr.drew;rw[b7];clear b7;have U:=a7.o.cellS aD.o.c0 iD;have W:G (E=E):=V D;refine lq 0 W.o ?_;refine lq 2 W.o ?_;(refine lq 3 W.o ?_ (hr:=by intro fD eB;subst eB;go_simp;try with_reducible rfl));refine zY (i:=1) M D D 169 #[.slice N y c9] (λt dB=>t=.slice N y y/\E=dB) (by go_simp) ?_ ?_
    .refine (xc E N y c9 cH).mono ?_
     rintro l v ⟨rfl,rfl⟩;exact⟨_,D,λ_=>rfl,D,D⟩
    rintro t dB-⟨rfl,rfl⟩ e7 cB;(try go_simp)
    refine cB _ ?_;clear cB e7;refine lq 4 W.o ?_;refine lq 5 W.o ?_;refine zQ M ?_ _;have dX:G (oo a b n i (.returned (.tuple #[.slice N y y,.int .i64 c])) E):=V (by
     refine⟨w.o.chg.trans a7.o.any,.inr ⟨_,c,i.drop q,N,aB.o,by rw[a9.o],?_,w.o.st.fresh a7.o,by rw[a9.o,<-a9.o,jG];exact cV,cT,λfB x=>?_⟩⟩
     .rw[a9.o]
      exact (zL.good inR.good).mono ((zL.good inR.good).chg bP.o a7.o iF) (λj _ f=>f.1)
     simp only[tU,Au,Ay5]at x
     obtain⟨m,_,rfl⟩:=x;simp)
    go_wp2;exact bodyPost_ret (v:=.tuple #[.slice N y y,.int .i64 c]) (by simp[results,results142,go_sem]) D dX.o
   rw[if_neg S]at aB
   have cA:decide ((e.length:Int) * (c:Int)<=4194304)=false:=decide_eq_false S;clear S;go_wp2_with fail
   refine (kQ _).mono ?_;rintro l C ⟨rfl,rfl⟩;exact⟨D,bI.o,.inl ⟨aB.o,D⟩⟩
def maxI:List Int->Int
 | []=>0
 | x :: l=>l.foldl max x
theorem yh (a:Int) (b:X≠[]):maxI (X++[a])=max (maxI X) a:=by
 cases X with
 | nil=>exact absurd D b
 | cons d c=>simp[maxI,List.foldl_append]
theorem yi (b:X[a]?=some x) (f:0<a):maxI (X.take (a+1))=max (maxI (X.take a)) x:=by
 rw[Ay3,b,Option.toList_some];refine yh x (λc=>?_);have d:=(Az0.1 b).1;have e:min a X.length=0:=by have:=congrArg List.length c;rwa [Ay8]at this
 omega
theorem ot:∀(b:List Int) (a:Int),(b.foldl max a=a\/b.foldl max a∈b)/\a<=b.foldl max a/\∀e∈b,e<=b.foldl max a
 | [],a=>⟨.inl D,Int.le_refl _,λ_ c=>by cases c⟩
 | g :: b,a=>by
  obtain⟨d,i,h⟩:=ot b (max a g);simp only[List.foldl_cons];refine⟨?_,H,λe f=>?_⟩
  .rcases d with d|d
   .rw[d]
    rcases Int.le_total a g with c|c
    .rw[Int.max_eq_right c];exact .inr (List.mem_cons_self)
    rw[Int.max_eq_left c];exact .inl D
   exact .inr (List.mem_cons_of_mem _ d)
  rcases Ax5.1 f with rfl|f
  .omega
  exact h e f
theorem fh (f:X≠[]):maxI X∈X/\∀b∈X,b<=maxI X:=by
 cases X with
 | nil=>exact absurd D f
 | cons e d =>
  obtain⟨a,g,h⟩:=ot d e;refine⟨?_,λb c=>?_⟩
  .rcases a with a|a
   .show d.foldl max e∈e :: d
    rw[a];exact List.mem_cons_self
   exact List.mem_cons_of_mem _ a
  rcases Ax5.1 c with rfl|c
  .exact g
  exact h b c
theorem yj (c:X≠[]) (d:∀a∈X,0<=a):vC X=maxI X+1:=by
 obtain⟨b,e⟩:=fh c;have g:=uw b;have h:=cE (m:=maxI X+1) (by have:=d _ b;omega) (λa f=>by have:=e a f;omega);omega
theorem ou (a:List Int) (k:Option Addr) (l q:Nat) (e:World) (g:intE.In e q (k,a.length,l) a) (P:a.length<=1000000000) (B:0<a.length) :
  Calls prog 86 #[.slice k a.length l] e λw E=>w=.returned (.int .i64 (maxI a))/\E=e:=by
 have r:=V g;obtain⟨F,N,R,o,rfl,m,-,-,-,-⟩:=g.getI B;rw[Nat.add_zero]at m;have t:decide (a.length<1)=false:=decide_eq_false H;have u:decide ((a.length:Int)<1)=false:=decide_eq_false H;have j:G (maxI (a.take 1)=F):=V (by rw[Ay3,o];simp[maxI]);clear g o;go_enter func86,ntmps86
 go_wp2
 go_loopw [3,4] (λC i wr=>∃(b:Nat) (c:Int),0<b/\b<=a.length/\i=.int .i64 b/\C=.int .i64 c/\maxI (a.take b)=c/\wr=e) (λ_ i _=>a.length-(intOf i).toNat)
 .exact⟨1,_,H,H,D,D,j.o,D⟩
 clear j m t u;obtain⟨b,c,z,O,rfl,rfl,d,rfl⟩:=hrel;have f:=V d;clear d;by_cases A:b<a.length
 .have v:=rO b a.length
  obtain⟨p,L,Q,n,h,K,-,-,-,-⟩:=r.o.getI A;injection h with h;injection h with x y;subst x y;have s:G (maxI (a.take (b+1))=if c<p then p else c):=V (by rw[yi n z,f.o];split <;> omega);clear n;go_wp2;go_roundw
  .exact⟨b+1,_,H,H,GN,D,s.o,by trivial⟩
  simp[intOf];omega
 obtain rfl:b=a.length:=H
 have v:=rP a.length;rw[Ay7]at f;have d:=f.o;subst d;go_wp2;go_ret
 exact⟨D,D⟩
theorem hy (a:List Int) (z w o e:Option Addr) (B A y x q p f h:Nat) (c:World) (k:intE.In c h (e,a.length,f) a) (u:a.length<=1000000000) (g:∀d∈a,0<=d/\d<=1000000000) :
  Calls prog 64 #[.agg #[.slice z B A,.slice e a.length f,.slice w y x,.slice o q p]] c λj C=>j=.returned (.int .i64 (vC a))/\Cf c C:=by
 by_cases b:a=[]
 .subst b
  go_enter func64,ntmps64
  go_wp2;go_ret
  exact⟨D,(J.refl _ c).alloc _⟩
 have v:0<a.length:=List.length_pos_iff.2 b
 have E:((a.length:Int) == 0)=false:=by simp;omega
 have F:(a.length == 0)=false:=by simp;omega
 have n:=V k;obtain⟨l,-⟩:=fh b;obtain⟨r,s⟩:=g _ l;have i:G (vC a=maxI a+1):=V (yj b (λd t=>(g d t).1));clear k l g;have K:¬a=[]:=b;go_enter func64,ntmps64
 go_wp2_with fail
 refine (ou a e f h _ (n.o.same (rT)) u v).mono ?_;rintro j L ⟨rfl,rfl⟩;obtain⟨M,m⟩:=rM (maxI a);rw[m]at r s i ⊢;clear m;go_wp2;go_ret
 exact⟨by rw[i.o];rfl,(J.refl _ c).alloc _⟩
structure XSt (pg gb b:Nat) (w wr:World) (vr vc:Value) (Rs:List (Int×Int)) (Cs:List Int) (Z:List Int):Prop where
 g:GetSt pg gb wr Z
 lt:pg<w.heap.size/\gb<w.heap.size/\w.heap.size<=b
 r:Fld rngE b 0 wr vr Rs
 c:Fld intE b 1 wr vc Cs
 n:wr.cell? ⟨b,2,none⟩=some (.slice none 0 0)
 e:wr.cell? ⟨b,3,none⟩=some (.slice none 0 0)
 z:∀j,wr.frozen? ⟨b,j,none⟩=false
 ne:∀g,vr.ownBlock=some g->vc.ownBlock=some g->False
 chg:J (·=pg) w wr
theorem XSt.call {k wr h:World}{i:List (Int×Int)}(d:XSt a b c k wr A B i X Y) (g:GetSt a b h W) (e:J (·=a) wr h):XSt a b c k h A B i X W:=by
 have n:=d.lt;have f:¬c=a:=H
 exact⟨g,d.lt,d.r.chg e (λm g _ l=>H),d.c.chg e (λm g _ l=>H),e.cellS d.n f,e.cellS d.e f,λj=>(e.frozen (p:=⟨c,j,none⟩) d.r.lt f).trans (d.z j),d.ne,d.chg.trans e⟩
theorem XSt.fresh {g wr h:World}{d:List (Int×Int)}(e:XSt a b c g wr A B d X Y) (f:Cf wr h):XSt a b c g h A B d X Y:=e.call (e.g.fresh f) f.any
theorem XSt.setR {w wr i:World}{x t:List (Int×Int)}(e:XSt a b c w wr A C x X Y) (E:rngE.Own i (c+1) B t) (j:J (λh=>A.ownBlock=some h) wr i) (y:B.ownBlock=A.ownBlock\/B.ownBlock=some wr.heap.size) :
  (i.cell? ⟨c,0,none⟩=some A/\i.frozen? ⟨c,0,none⟩=false)/\XSt a b c w (i.setCell ⟨c,0,none⟩ B) B C t X Y:=by
 have K:=e.lt;have l:∀h,A.ownBlock=some h->c+1<=h:=λh q=>(e.r.own.blk q).1
 have o:¬A.ownBlock=some c:=λd=>by have:=l c d;omega
 have u:=j.cellS e.r.c o;have n:∀f,i.frozen? ⟨c,f,none⟩=false:=λf=>(j.frozen (p:=⟨c,f,none⟩) e.r.lt o).trans (e.z f)
 have m:=zA i c 0 B;have r:∀f s,f≠0->wr.cell? ⟨c,f,none⟩=some s->(i.setCell ⟨c,0,none⟩ B).cell? ⟨c,f,none⟩=some s:=λf s z F=>by
  rw[Ay0 _ _ _ _ (by intro d;injection d with _ d;exact z d.symm)];exact j.cellS F o
 refine⟨⟨u,n 0⟩,⟨(e.g.chg j (λd=>by have:=l _ d;omega) (λd=>by have:=l _ d;omega)).chg m H H,e.lt,⟨Az9 _ _ _ u,(Az3 _ _ _ _).trans (n 0),E.chg m (λk g _ d=>H)⟩,⟨r 1 _ dE e.c.c,(Az3 _ _ _ _).trans (n 1),((e.c.own.chgB j (λk g d=>e.ne k d g)).chg m (λk g _ d=>H))⟩,r 2 _ dE e.n,r 3 _ dE e.e,λf=>(Az3 _ _ _ _).trans (n f),λk g v=>?_,(e.chg.trans2 j (λh q d=>absurd (l h d) H)).trans2 m (λh q d=>H)⟩⟩;rcases y with d|d
 .rw[d]at g;exact e.ne k g v
 rw[d]at g;injection g with g
 have:=(e.c.own.blk v).2;omega
theorem XSt.setC {w wr h:World}{u:List (Int×Int)}(e:XSt a b c w wr A B u X W) (z:intE.Own h (c+1) C Y) (i:J (λg=>B.ownBlock=some g) wr h) (x:C.ownBlock=B.ownBlock\/C.ownBlock=some wr.heap.size) :
  (h.cell? ⟨c,1,none⟩=some B/\h.frozen? ⟨c,1,none⟩=false)/\XSt a b c w (h.setCell ⟨c,1,none⟩ C) A C u Y W:=by
 have F:=e.lt;have m:∀g,B.ownBlock=some g->c+1<=g:=λg r=>(e.c.own.blk r).1
 have q:¬B.ownBlock=some c:=λd=>by have:=m c d;omega
 have v:=i.cellS e.c.c q;have o:∀f,h.frozen? ⟨c,f,none⟩=false:=λf=>(i.frozen (p:=⟨c,f,none⟩) e.r.lt q).trans (e.z f)
 have n:=zA h c 1 C;have s:∀f t,f≠1->wr.cell? ⟨c,f,none⟩=some t->(h.setCell ⟨c,1,none⟩ C).cell? ⟨c,f,none⟩=some t:=λf t y E=>by
  rw[Ay0 _ _ _ _ (by intro d;injection d with _ d;exact y d.symm)];exact i.cellS E q
 refine⟨⟨v,o 1⟩,⟨(e.g.chg i (λd=>by have:=m _ d;omega) (λd=>by have:=m _ d;omega)).chg n H H,e.lt,⟨s 0 _ dE e.r.c,(Az3 _ _ _ _).trans (o 0),((e.r.own.chgB i (λk j d=>e.ne k j d)).chg n (λk j _ d=>H))⟩,⟨Az9 _ _ _ v,(Az3 _ _ _ _).trans (o 1),z.chg n (λk j _ d=>H)⟩,s 2 _ dE e.n,s 3 _ dE e.e,λf=>(Az3 _ _ _ _).trans (o f),λk j l=>?_,(e.chg.trans2 i (λg r d=>absurd (m g d) H)).trans2 n (λg r d=>H)⟩⟩;rcases x with d|d
 .rw[d]at l;exact e.ne k j l
 rw[d]at l;injection l with l
 have:=(e.r.own.blk j).2;omega
structure YSt (pg gb b:Nat) (w7 wr:World) (vr vc vn ve:Value) (Es:List Int) (Z:List Int):Prop where
 g:GetSt pg gb wr Z
 lt:pg<b/\gb<b/\b<w7.heap.size
 c0:wr.cell? ⟨b,0,none⟩=some vr
 c1:wr.cell? ⟨b,1,none⟩=some vc
 c2:wr.cell? ⟨b,2,none⟩=some vn
 c3:wr.cell? ⟨b,3,none⟩=some ve
 own:intE.Own wr w7.heap.size ve Es
 z:∀j,wr.frozen? ⟨b,j,none⟩=false
 chg:J (λk=>k=pg\/k=b) w7 wr
theorem YSt.call {k wr g:World}(d:YSt a b c k wr A B C E X Y) (i:GetSt a b g W) (e:J (·=a) wr g):YSt a b c k g A B C E X W:=by
 have n:=d.lt;have f:¬c=a:=H
 have l:=Az8 _ _ d.c0;exact⟨i,d.lt,e.cellS d.c0 f,e.cellS d.c1 f,e.cellS d.c2 f,e.cellS d.c3 f,d.own.chg e (λm i _ h=>H),λj=>(e.frozen (p:=⟨c,j,none⟩) l f).trans (d.z j),d.chg.trans (e.mono (λo _ h=>.inl h))⟩
theorem YSt.fresh {g wr f:World}(d:YSt a b c g wr A B C E X Y) (e:Cf wr f):YSt a b c g f A B C E X Y:=d.call (d.g.fresh e) e.any
theorem YSt.setE {i wr g:World}(e:YSt a b c i wr A B C E X W) (t:intE.Own g i.heap.size Z Y) (h:J (λm=>i.heap.size<=m) wr g) :
  (g.cell? ⟨c,3,none⟩=some E/\g.frozen? ⟨c,3,none⟩=false)/\YSt a b c i (g.setCell ⟨c,3,none⟩ Z) A B C Z Y W:=by
 have y:=e.lt;have j:¬i.heap.size<=c:=H
 have o:=h.cellS e.c3 j;have r:=Az8 _ _ e.c0;have q:∀d,g.frozen? ⟨c,d,none⟩=false:=λd=>(h.frozen (p:=⟨c,d,none⟩) r j).trans (e.z d)
 have l:=zA g c 3 Z;have k:∀d n,d≠3->wr.cell? ⟨c,d,none⟩=some n->(g.setCell ⟨c,3,none⟩ Z).cell? ⟨c,d,none⟩=some n:=λd n s u=>by
  rw[Ay0 _ _ _ _ (by intro f;injection f with _ f;exact s f.symm)];exact h.cellS u j
 exact⟨⟨o,q 3⟩,⟨(e.g.chg h H H).chg l H H,e.lt,k 0 _ dE e.c0,k 1 _ dE e.c1,k 2 _ dE e.c2,Az9 _ _ _ o,t.chg l (λv w _ f=>H),λd=>(Az3 _ _ _ _).trans (q d),(e.chg.trans2 h (λm x f=>absurd f H)).trans (l.mono (λm _ f=>.inr f))⟩⟩
def ov (f i:Nat) (h:World) (c:List Int) (d:Ending) (b:World):Prop :=
 J (·=f) h b/\((lexG c=none/\d=sW)\/∃a g e,lexG c=some (a,g)/\d=.returned (cq e)/\LexIn b (λj=>h.heap.size<=j) e a/\GetSt f i b g/\a.r.length<=16777215/\a.n.length<=65536/\∀k∈a.n,k.length<=65536)
theorem yk (f:World) (a1:List Int) (p:GetSt a b f a1):Calls prog 107 #[.pointer (some ⟨a,0,none⟩)] f (ov a b f a1):=by
 have dH:=V p;clear p;go_enter func107,ntmps107
 go_upto_region 1 with fail
 obtain⟨d5,c4⟩:=rK (f.alloc (.cells #[.slice none 0 0,.slice none 0 0,.slice none 0 0,.slice none 0 0] 28));rw[<-c4];have cM:G (XSt a b f.heap.size f d5 (.slice none 0 0) (.slice none 0 0) [] [] a1):=V (by
  have A:Cf f d5:=by rw[c4];exact (J.refl _ f).alloc _
  have r:∀g,d5.frozen? ⟨f.heap.size,g,none⟩=false:=λg=>by rw[c4];exact Az6 _ _ _ _
  refine⟨dH.o.fresh A,⟨dH.o.lt,dH.o.lb,Ay1 _⟩,⟨?_,r 0,.nil _ _⟩,⟨?_,r 1,.nil _ _⟩,?_,?_,r,(λo k=>by cases k),A.any⟩ <;> · rw[c4,Az5];rfl)
 clear c4;go_wp2_with fail
 refine (cN d5 cM.o.g).mono ?_;rintro e hP ⟨e6,⟨z,rfl⟩|⟨B,d4,z,rfl,hO,fK⟩⟩
 .exact⟨D,cM.o.chg.trans e6,.inl ⟨by simp only[lexG,vN,z],D⟩⟩
 have f2:G (vN rcG a1=repG rcG B [] d4):=V (by simp only[vN,z,Ay5]);have f5:=V (cM.o.call fK e6);clear z e6 fK cM;go_wp2
 go_loopw [6] (λv wr=>∃(c:Nat) (gH gD:Value) (m:List ((Int×Int)×Int)) (aH:List Int),c<=B/\v=.int .i64 c/\m.length=c/\repG rcG (B-c) m aH=repG rcG B [] d4/\XSt a b f.heap.size f wr gH gD (m.map (·.1)) (m.map (·.2)) aH/\∀i∈m,0<=i.2/\i.2<=1000000000) (λv _=>B-(intOf v).toNat)
 .exact⟨0,_,_,[],d4,H,D,D,D,f5.o,λi a0=>by cases a0⟩
 clear f5;obtain⟨c,gH,gD,m,aH,hM,rfl,f9,c1,a0,fZ⟩:=hrel;obtain⟨t,c8,T,rfl⟩:=a0.r.own.shape3;obtain⟨q,aY,K,rfl⟩:=a0.c.own.shape3;obtain⟨R,dP,aD,f3⟩:=sB a0 c1 f9 fZ;clear a0 c1 f9 fZ;by_cases hN:c<B
 .have h7:=rO c B
  obtain⟨a8,fT⟩:∃a8,B-c=a8+1:=⟨B-c-1,H⟩;have dK:G (B-c=a8+1/\B-(c+1)=a8):=V ⟨fT,H⟩;have dM:G (∀(p:rcG aH=none),lexG a1=none):=V (λp=>by simp only[lexG,f2.o,<-dP.o,dK.o.1,repG,p]);have eO:G ((m.map (·.1)).length<=16777215/\(m.map (·.2)).length<=16777215):=V (by simp only[Ax4,aD.o];omega);have aF:=V R.o.lt;have hF:=V R.o.chg;clear fT;go_upto_region 3 with fail
  obtain⟨h,O⟩:=rM wr.drew;have W:G (XSt a b f.heap.size f h (.slice t c8 T) (.slice q aY K) (m.map (·.1)) (m.map (·.2)) aH):=V (R.o.fresh (by rw[<-O];exact (J.refl _ _).drew));refine zC (λi=>J (·=a) h i) (λu=>decide (10<=u)) M ?_;show yC _ _ _ _ _ _ 13 (Array.replicate 13 false) _ wr.drew;rw[O];clear O;have j:G (J (·=a) h h):=V cR;refine lq 0 j.o ?_;(refine lq 1 j.o ?_ (hr:=by intro c9 N;have v:=N.cellS W.o.r.c (by have:=aF.o;show ¬f.heap.size=a;omega);go_simp;try with_reducible rfl));refine lq 2 j.o ?_;refine lq 5 j.o ?_;refine sN (i:=3) M D D 139 #[.pointer (some ⟨a,0,none⟩)] (λZ C=>∃(i:Nat) (bK:List Int),anyG aH=some ((i:Int),bK)/\Z=.int .i64 i/\i<=16777215/\GetSt a b C bK/\J (·=a) h C) (by go_simp) ?_ ?_
  .refine (cN h W.o.g).mono ?_
   rintro e aV ⟨A,⟨X,rfl⟩|⟨i,bK,X,rfl,a0,k⟩⟩
   .refine .inr ⟨_,D,D,W.o.chg.trans A,.inl ⟨dM.o (by simp only[rcG,X]),D⟩⟩
   exact .inl ⟨_,D,λ_=>A,i,bK,X,D,a0,k,A⟩
  rintro Z aV-⟨i,bK,X,rfl,a0,fM,fB⟩ F n;(try go_simp)
  refine n _ ?_;clear n F j;obtain⟨f0,bO,d8⟩:=rZ fM fB X;have j:G (J (·=a) h aV):=bO;have c5:IntKind.i32.wrap (i:Int)=(i:Int):=(by rw[IntKind.wrap_i32];omega);clear fM fB X;refine lq 4 j.o ?_;clear c5;refine sN (i:=6) M D D 139 #[.pointer (some ⟨a,0,none⟩)] (λZ C=>∃(w:Nat) (aP:List Int),anyG bK=some ((w:Int),aP)/\Z=.int .i64 w/\w<=16777215/\GetSt a b C aP/\J (·=a) h C) (by go_simp) ?_ ?_
  .refine (cN aV f0.o).mono ?_
   rintro e bM ⟨A,⟨a2,rfl⟩|⟨w,aP,a2,rfl,bH,k⟩⟩
   .refine .inr ⟨_,D,D,W.o.chg.trans (bO.o.trans A),.inl ⟨dM.o (by simp only[rcG,d8.o,a2]),D⟩⟩
   exact .inl ⟨_,D,λ_=>bO.o.trans A,w,aP,a2,D,bH,k,bO.o.trans A⟩
  rintro Z bM-⟨w,aP,a2,rfl,bH,fO,fD⟩ F n;(try go_simp)
  refine n _ ?_;clear n F j f0;have f1:=V fO;have cF:=V fD;have eM:=V a2;have j:G (J (·=a) h bM):=cF;have c5:IntKind.i32.wrap (w:Int)=(w:Int):=(by rw[IntKind.wrap_i32];omega);clear fO fD a2;refine lq 7 j.o ?_;clear c5;refine lq 8 j.o ?_;have a4:G (∀U∈[((i:Int),(w:Int))],rngE.ok U):=V (λU r=>by
   rw[Ay]at r;rw[r];exact⟨⟨by show (-2147483648:Int)<=(i:Int);omega,by show (i:Int)<=2147483647;omega⟩,⟨by show (-2147483648:Int)<=(w:Int);omega,by show (w:Int)<=2147483647;omega⟩⟩)
  refine lt 9 (λ_=>cF.o.alloc _) ?_;obtain⟨cA,cX⟩:=rK (bM.alloc (.cells #[.int .i32 i,.int .i32 w] 117));have b4:G (Src prog rngE.sz rngE.sl (.slice (some ⟨bM.heap.size,0,none⟩) 1 1) 1 (rngE.encs [((i:Int),(w:Int))]) cA):=V (by rw[cX];exact rngE.srcLit (Y:=[((i:Int),(w:Int))]) 1 a4.o);have cO:G (XSt a b f.heap.size f cA (.slice t c8 T) (.slice q aY K) (m.map (·.1)) (m.map (·.2)) aP):=V ((W.o.call f1.o cF.o).fresh (by rw[cX];exact rT));rw[<-cX];clear cX R W f1 cF j bO;have eP:G (f.heap.size+1<=cA.heap.size):=V cO.o.r.lt;refine yQ (i:=10) M D D (.tmp 9) (.tmp 17) 24 24 D (.slice t c8 T) (.slice (some ⟨bM.heap.size,0,none⟩) 1 1) D D (λx E=>rngE.Own E (f.heap.size+1) x (m.map (·.1)++[((i:Int),(w:Int))])/\J (λc=>(Value.slice t c8 T).ownBlock=some c) cA E/\(x.ownBlock=(Value.slice t c8 T).ownBlock\/x.ownBlock=some cA.heap.size)/\∃bT B b7,x=.slice bT B b7) ?_ ?_
  .obtain⟨x,E,c2,z,X,⟨a2,L⟩,-⟩:=cO.o.r.own.append eP.o 24 (.slice (some ⟨bM.heap.size,0,none⟩) 1 1) [((i:Int),(w:Int))] b4.o a4.o (by have:=eO.o.1;simp at this ⊢;omega) 24
   exact⟨x,E,c2,(λp=>absurd p dE),z,a2,L,z.shape3⟩
  rintro x E-⟨aM,aO,c7,d1,d3,d2,rfl⟩ F n;obtain⟨⟨b0,c6⟩,g3⟩:=cO.o.setR aM aO c7;have P:=V g3;clear g3 aM aO c7;(try go_simp)
  refine n _ ?_;clear n F;refine lt 11 (λp=>absurd p dE) ?_;refine ld 12 ?_;refine zQ M ?_ _;obtain⟨gI,g2⟩:=rK (E.setCell ⟨f.heap.size,0,none⟩ (.slice d1 d3 d2));rw[<-g2]at P ⊢;clear g2 b0 c6 cO eP b4 a4;go_upto_region 4 with fail
  obtain⟨h,O⟩:=rM gI.drew;have W:G (XSt a b f.heap.size f h (.slice d1 d3 d2) (.slice q aY K) (m.map (·.1)++[((i:Int),(w:Int))]) (m.map (·.2)) aP):=V (P.o.fresh (by rw[<-O];exact (J.refl _ _).drew));refine zC (λi=>J (·=a) h i) (λu=>decide (5<=u)) M ?_;show yC _ _ _ _ _ _ 8 (Array.replicate 8 false) _ gI.drew;rw[O];clear O;have j:G (J (·=a) h h):=V cR;refine lq 0 j.o ?_;(refine lq 1 j.o ?_ (hr:=by intro c9 N;have v:=N.cellS W.o.c.c (by have:=aF.o;show ¬f.heap.size=a;omega);go_simp;try with_reducible rfl));refine lq 2 j.o ?_;refine sN (i:=3) M D D 139 #[.pointer (some ⟨a,0,none⟩)] (λZ C=>∃(l:Nat) (aR:List Int),anyG aP=some ((l:Int),aR)/\Z=.int .i64 l/\l<=16777215/\GetSt a b C aR/\J (·=a) h C) (by go_simp) ?_ ?_
  .refine (cN h W.o.g).mono ?_
   rintro e aV ⟨A,⟨L,rfl⟩|⟨l,aR,L,rfl,c3,k⟩⟩
   .refine .inr ⟨_,D,D,W.o.chg.trans A,.inl ⟨dM.o (by simp only[rcG,d8.o,eM.o,L]),D⟩⟩
   exact .inl ⟨_,D,λ_=>A,l,aR,L,D,c3,k,A⟩
  rintro Z y-⟨l,aR,L,rfl,c3,c0,aZ⟩ F n;(try go_simp)
  refine n _ ?_;clear n F j;have aX:=V aZ;have f6:=V (W.o.call c0 aZ);have dO:G (repG rcG (B-(c+1)) (m++[(((i:Int),(w:Int)),(l:Int))]) aR=repG rcG B [] d4):=V (by
   rw[<-dP.o,dK.o.1,dK.o.2]
   conv=>rhs;unfold repG
   simp only[rcG,d8.o,eM.o,L])
  have j:G (J (·=a) h y):=aX;have a4:G (∀U∈[(l:Int)],intE.ok U):=V (λU r=>by rw[Ay]at r;rw[r];exact⟨H,H⟩);have h3:G (∀U∈m++[(((i:Int),(w:Int)),(l:Int))],0<=U.2/\U.2<=1000000000):=V (λU r=>by
   rcases Aw9.1 r with r|r
   .exact f3.o U r
   rw[Ay]at r
   rw[r];exact⟨by show (0:Int)<=(l:Int);omega,by show (l:Int)<=1000000000;omega⟩)
  clear c0 aZ L;refine lt 4 (λ_=>aX.o.alloc _) ?_;obtain⟨b3,cZ⟩:=rK (y.alloc (.cells #[.int .i64 l] 3));have b4:G (Src prog intE.sz intE.sl (.slice (some ⟨y.heap.size,0,none⟩) 1 1) 1 (intE.encs [(l:Int)]) b3):=V (by rw[cZ];exact intE.srcLit (Y:=[(l:Int)]) 1 a4.o);have dR:G (XSt a b f.heap.size f b3 (.slice d1 d3 d2) (.slice q aY K) (m.map (·.1)++[((i:Int),(w:Int))]) (m.map (·.2)) aR):=V (f6.o.fresh (by rw[cZ];exact rT));rw[<-cZ];clear cZ P W f6 aX j;have gP:G (f.heap.size+1<=b3.heap.size):=V dR.o.r.lt;refine yQ (i:=5) M D D (.tmp 21) (.tmp 24) 25 25 D (.slice q aY K) (.slice (some ⟨y.heap.size,0,none⟩) 1 1) D D (λx E=>intE.Own E (f.heap.size+1) x (m.map (·.2)++[(l:Int)])/\J (λc=>(Value.slice q aY K).ownBlock=some c) b3 E/\(x.ownBlock=(Value.slice q aY K).ownBlock\/x.ownBlock=some b3.heap.size)/\∃bT B b7,x=.slice bT B b7) ?_ ?_
  .obtain⟨x,E,c2,z,X,⟨a2,L⟩,-⟩:=dR.o.c.own.append gP.o 25 (.slice (some ⟨y.heap.size,0,none⟩) 1 1) [(l:Int)] b4.o a4.o (by have:=eO.o.2;simp at this ⊢;omega) 25
   exact⟨x,E,c2,(λp=>absurd p dE),z,a2,L,z.shape3⟩
  rintro x a9-⟨aM,aO,c7,e0,e2,e1,rfl⟩ F n;obtain⟨⟨b0,c6⟩,g4⟩:=dR.o.setC aM aO c7;have h4:G (XSt a b f.heap.size f (a9.setCell ⟨f.heap.size,1,none⟩ (.slice e0 e2 e1)) (.slice d1 d3 d2) (.slice e0 e2 e1) ((m++[(((i:Int),(w:Int)),(l:Int))]).map (·.1)) ((m++[(((i:Int),(w:Int)),(l:Int))]).map (·.2)) aR):=V (by
   rw[List.map_append,List.map_append];exact g4)
  clear g4 aM aO c7;(try go_simp)
  refine n _ ?_;clear n F;refine lt 6 (λp=>absurd p dE) ?_;refine ld 7 ?_;refine zQ M ?_ _;clear b0 c6;go_wp2;go_roundw
  .exact⟨c+1,_,_,_,_,H,GN,by simp[aD.o],dO.o,h4.o,h3.o⟩
  simp[intOf];omega
 obtain rfl:c=B:=H
 have h7:=rP c;have cI:G (vN rcG a1=some (m,aH)):=V (by rw[f2.o,<-dP.o,Au4];rfl);obtain⟨hE,rfl⟩:=rK wr;obtain⟨_,_,aK,g0,a6⟩:=R.o.r.own.clip;rw[Ax4,aD.o]at aK g0 a6;injection aK with bV a5 bX;have a5:=a5.symm;subst bV a5 bX;obtain⟨_,_,aK,bB,e7⟩:=R.o.c.own.clip;rw[Ax4,aD.o]at aK bB e7;injection aK with bV a5 bX;have a5:=a5.symm;subst bV a5 bX;obtain⟨f4,eR,aF⟩:=rZ a6 e7 R.o.lt;clear a6 e7;go_wp2_with fail
 refine (oq hE aH R.o.g).mono ?_;rintro e E ⟨b9,⟨cS,rfl⟩|⟨d,a8,b1,Q,cS,rfl,f8,fP,fX,fV,g1⟩⟩
 .exact⟨D,R.o.chg.trans b9,.inl ⟨by simp only[lexG,cI.o,cS],D⟩⟩
 have P:=V (R.o.call fP b9);have d9:=V cS;have cH:G (d.length<=65536/\a8<=65536/\∀eH∈d,eH.length=a8):=V ⟨fX,fV,g1⟩;have bI:=P.o.n;have d7:=P.o.z 2;have a7:=zA E f.heap.size 2 (.slice Q d.length d.length);obtain⟨y,bD⟩:=rK (E.setCell ⟨f.heap.size,2,none⟩ (.slice Q d.length d.length));rw[<-bD]at a7;have cV:∀g aT,g≠2->E.cell? ⟨f.heap.size,g,none⟩=some aT->y.cell? ⟨f.heap.size,g,none⟩=some aT:=λg aT aI eF=>by
  rw[bD,Ay0 _ _ _ _ (by intro e;injection e with _ e;exact aI e.symm)];exact eF
 have b5:G (YSt a b f.heap.size y y (.slice t c T) (.slice q c K) (.slice Q d.length d.length) (.slice none 0 0) [] b1):=V (by
  have e5:=aF.o;have hI:=P.o.r.lt;refine⟨P.o.g.chg a7 H H,⟨H,H,by have:=a7.size;omega⟩,cV 0 _ dE P.o.r.c,cV 1 _ dE P.o.c.c,?_,cV 3 _ dE P.o.e,.nil _ _,λg=>?_,cR⟩
  .rw[bD];exact Az9 _ _ _ bI
  rw[bD];exact (Az3 _ _ _ _).trans (P.o.z g))
 have gZ:G (LexIn y (λo=>f.heap.size+1<=o/\o<y.heap.size) ⟨(t,c,c),(q,c,c),(Q,d.length,d.length),(none,0,0)⟩ ⟨m.map (·.1),m.map (·.2),d,[]⟩):=V (by
  have e5:=aF.o;have z:=R.o.r.lt;refine⟨(Elt.In.inS (((f4.o.chg b9 (λo k _ e=>H)).chg a7 (λo k _ e=>H)).in' (Ay1 _))).mono (λo k cT=>⟨cT,k⟩),(Elt.In.inS (((eR.o.chg b9 (λo k _ e=>H)).chg a7 (λo k _ e=>H)).in' (Ay1 _))).mono (λo k cT=>⟨cT,k⟩),(zL.good inR.good).mono ((zL.good inR.good).chg f8 a7 (λo k e=>H)) (λo k cT=>⟨H,k⟩),.nil _ _ _⟩)
 have dB:G (J (·=a) f y):=V (P.o.chg.trans2 a7 (λg aI e=>absurd e (Nat.ne_of_lt aI)));have gT:G (intE.In y (f.heap.size+1) (q,c,K) (m.map (·.2))):=V (by
  have e5:=aF.o;have z:=((R.o.c.own.chg b9 (λo k _ e=>H)).chg a7 (λo k _ e=>H)).in' (c':=K) bB;exact z)
 clear b9 cS f8 fP fX fV g1 a7 cV R P f4 eR;go_upto_region 8 with fail
 rw[<-bD];clear bD bI d7;have hB:=b5.o.c0;have hC:=b5.o.c1;have bI:=b5.o.c2;have hD:=b5.o.c3;have e8:=hy (m.map (·.2)) t Q none q c T d.length d.length 0 0 K (f.heap.size+1) y (by rw[Ax4,aD.o];exact gT.o) (by rw[Ax4,aD.o];omega) (λb7 A=>by
  obtain⟨i,a0,rfl⟩:=Au.1 A;exact f3.o i a0)
 rw[Ax4,aD.o]at e8;have eT:=V e8;clear e8;go_wp2_with fail
 refine eT.o.mono ?_;rintro e b3 ⟨rfl,fF⟩;have cP:G (YSt a b f.heap.size y b3 (.slice t c T) (.slice q c K) (.slice Q d.length d.length) (.slice none 0 0) [] b1):=V (b5.o.fresh fF);clear fF hB hC bI hD eT b5;obtain⟨eK,N⟩:=rM (vC (m.map (·.2)));have dD:=V N;rw[N];clear N;by_cases eB:(a8:Int)=eK
 .subst eB
  have h1:G (∀(e4:List Int) (eI:List Int),repG endG d.length [] b1=some (e4,eI)->lexG a1=some (⟨m.map (·.1),m.map (·.2),d,e4⟩,eI)):=V (λe4 eI p=>by simp only[lexG,cI.o,d9.o,dD.o,if_true,p]);have h0:G (repG endG d.length [] b1=none->lexG a1=none):=V (λp=>by simp only[lexG,cI.o,d9.o,dD.o,if_true,p]);go_wp2_with fail
  refine (bW _).mono ?_;rintro e a9 ⟨rfl,rfl⟩;have bI:=cP.o.c2;go_wp2;clear bI
  go_loopw [42] (λv wr=>∃(g:Nat) (gF:Value) (a3 b6:List Int),g<=d.length/\v=.int .i64 g/\a3.length=g/\repG endG (d.length-g) a3 b6=repG endG d.length [] b1/\YSt a b f.heap.size y wr (.slice t c T) (.slice q c K) (.slice Q d.length d.length) gF a3 b6) (λv _=>d.length-(intOf v).toNat)
  .exact⟨0,_,[],b1,H,D,D,D,cP.o⟩
  clear cP;obtain⟨g,gF,a3,b6,aI,rfl,fI,c1,bH⟩:=hrel;obtain⟨S,e3,b8,rfl⟩:=bH.own.shape3;obtain⟨bP,cK,dF⟩:=rZ bH c1 fI;clear bH c1 fI;by_cases hL:g<d.length
  .have h6:=rO g d.length
   have hK:g<65536:=(by have:=cH.o.1;omega);obtain⟨u,fR⟩:∃u,d.length-g=u+1:=⟨d.length-g-1,H⟩;have dI:G (d.length-g=u+1/\d.length-(g+1)=u):=V ⟨fR,H⟩;clear fR;go_upto_region 11 with fail
   obtain⟨h,O⟩:=rM wr.drew;have s:G (YSt a b f.heap.size y h (.slice t c T) (.slice q c K) (.slice Q d.length d.length) (.slice S e3 b8) a3 b6):=V (bP.o.fresh (by rw[<-O];exact (J.refl _ _).drew));have gS:G (J (·=a) f h):=V (dB.o.trans2 s.o.chg (λo k e=>by rcases e with e|e;exact e;omega));refine zC (λi=>J (·=a) h i) (λu=>decide (6<=u)) M ?_;show yC _ _ _ _ _ _ 9 (Array.replicate 9 false) _ wr.drew;rw[O];clear O;have j:G (J (·=a) h h):=V cR;refine lq 0 j.o ?_;(refine lq 1 j.o ?_ (hr:=by intro c9 N;have v:=N.cellS s.o.c3 (by have:=aF.o;show ¬f.heap.size=a;omega);go_simp;try with_reducible rfl));refine lq 2 j.o ?_;refine sN (i:=3) M D D 139 #[.pointer (some ⟨a,0,none⟩)] (λZ C=>∃(l:Nat) (b2:List Int),anyG b6=some ((l:Int),b2)/\Z=.int .i64 l/\l<=16777215/\GetSt a b C b2/\J (·=a) h C) (by go_simp) ?_ ?_
   .refine (cN h s.o.g).mono ?_
    rintro e aV ⟨A,⟨L,rfl⟩|⟨l,b2,L,rfl,c3,k⟩⟩
    .refine .inr ⟨_,D,D,gS.o.trans A,.inl ⟨h0.o (by rw[<-cK.o,dI.o.1];simp only[repG,endG,L]),D⟩⟩
    exact .inl ⟨_,D,λ_=>A,l,b2,L,D,c3,k,A⟩
   rintro Z a9-⟨l,b2,L,rfl,c3,c0,aZ⟩ F n;(try go_simp)
   refine n _ ?_;clear n F j;have aX:=V aZ;have f7:=V (s.o.call c0 aZ);have dO:G (repG endG (d.length-(g+1)) (a3++[(l:Int)-1]) b2=repG endG d.length [] b1):=V (by
    rw[<-cK.o,dI.o.1,dI.o.2]
    conv=>rhs;unfold repG
    simp only[endG,L])
   have j:G (J (·=a) h a9):=aX;have a4:G (∀U∈[(l:Int)-1],intE.ok U):=V (λU r=>by rw[Ay]at r;rw[r];exact⟨H,H⟩);have c5:IntKind.i64.wrap ((l:Int)-1)=(l:Int)-1:=(by rw[IntKind.wrap_i64];omega);clear c0 aZ L;refine lq 4 j.o ?_;clear c5;refine lt 5 (λ_=>aX.o.alloc _) ?_;obtain⟨d6,d0⟩:=rK (a9.alloc (.cells #[.int .i64 ((l:Int)-1)] 3));have b4:G (Src prog intE.sz intE.sl (.slice (some ⟨a9.heap.size,0,none⟩) 1 1) 1 (intE.encs [(l:Int)-1]) d6):=V (by rw[d0];exact intE.srcLit (Y:=[(l:Int)-1]) 1 a4.o);have dT:G (YSt a b f.heap.size y d6 (.slice t c T) (.slice q c K) (.slice Q d.length d.length) (.slice S e3 b8) a3 b2):=V (f7.o.fresh (by rw[d0];exact rT));rw[<-d0];clear d0 bP s f7 aX j;have gR:G (y.heap.size<=d6.heap.size):=V dT.o.chg.size;refine yQ (i:=6) M D D (.tmp 45) (.tmp 49) 25 25 D (.slice S e3 b8) (.slice (some ⟨a9.heap.size,0,none⟩) 1 1) D D (λx E=>intE.Own E y.heap.size x (a3++[(l:Int)-1])/\J (λc=>y.heap.size<=c) d6 E/\∃bT B b7,x=.slice bT B b7) ?_ ?_
   .obtain⟨x,E,c2,z,X,-,-⟩:=dT.o.own.append gR.o 25 (.slice (some ⟨a9.heap.size,0,none⟩) 1 1) [(l:Int)-1] b4.o a4.o (by rw[dF.o];simp;omega) 25
    exact⟨x,E,c2,(λp=>absurd p dE),z,X,z.shape3⟩
   rintro x hQ-⟨aM,aO,e0,e2,e1,rfl⟩ F n;obtain⟨⟨b0,c6⟩,g5⟩:=dT.o.setE aM aO;have h5:=V g5;clear g5 aM aO;(try go_simp)
   refine n _ ?_;clear n F;refine lt 7 (λp=>absurd p dE) ?_;refine ld 8 ?_;refine zQ M ?_ _;clear b0 c6;go_wp2;go_roundw
   .exact⟨g+1,_,_,_,H,GN,by simp[dF.o],dO.o,h5.o⟩
   simp[intOf];omega
  obtain rfl:g=d.length:=H
  have h6:=rP d.length;rw[Au4]at cK;have h2:=V (h1.o a3 b6 cK.o.symm);obtain⟨_,_,aK,fH,e9⟩:=bP.o.own.clip;rw[dF.o]at aK fH e9;injection aK with bV a5 bX;subst bV a5 bX;have gV:=V e9;clear e9;go_upto_region 13 with fail
  obtain⟨h,O⟩:=rM wr.drew;have eV:G (Cf wr h):=V (by rw[<-O];exact (J.refl _ _).drew);have s:=V (bP.o.fresh eV.o);refine zC (λi=>i=h) (λu=>decide (10<=u)) M ?_;show yC _ _ _ _ _ _ 15 (Array.replicate 15 false) _ wr.drew;rw[O];clear O;have j:G (h=h):=V D;refine lq 0 j.o ?_;(refine lq 1 j.o ?_ (hr:=by intro c9 N;subst N;have v:=s.o.c0;go_simp;try with_reducible rfl));refine lq 3 j.o ?_;(refine lq 4 j.o ?_ (hr:=by intro c9 N;subst N;have v:=s.o.c1;go_simp;try with_reducible rfl));refine lq 6 j.o ?_;(refine lq 7 j.o ?_ (hr:=by intro c9 N;subst N;have v:=s.o.c3;go_simp;try with_reducible rfl));refine zY (i:=2) M D D 143 #[.slice t c T] (λv C=>v=.slice t c c/\h=C) (by go_simp) ?_ ?_
  .refine (wx h t c T g0).mono ?_
   rintro e aV ⟨rfl,rfl⟩;exact⟨_,D,λ_=>rfl,D,D⟩
  rintro v C-⟨rfl,rfl⟩ F n;(try go_simp)
  refine n _ ?_;clear n F;refine lq 9 j.o ?_;refine zY (i:=5) M D D 144 #[.slice q c K] (λv C=>v=.slice q c c/\h=C) (by go_simp) ?_ ?_
  .refine (cn h q c K bB).mono ?_
   rintro e aV ⟨rfl,rfl⟩;exact⟨_,D,λ_=>rfl,D,D⟩
  rintro v C-⟨rfl,rfl⟩ F n;(try go_simp)
  refine n _ ?_;clear n F;refine zY (i:=8) M D D 144 #[.slice S d.length b8] (λv C=>v=.slice S d.length d.length/\h=C) (by go_simp) ?_ ?_
  .refine (cn h S d.length b8 fH).mono ?_
   rintro e aV ⟨rfl,rfl⟩;exact⟨_,D,λ_=>rfl,D,D⟩
  rintro v C-⟨rfl,rfl⟩ F n;(try go_simp)
  refine n _ ?_;clear n F;have dU:=s.o.c0;have dV:=s.o.c1;have dX:=s.o.c2;have dZ:=s.o.c3;have gK:=s.o.z 0;have gM:=s.o.z 1;have d7:=s.o.z 2;have gO:=s.o.z 3;refine ld 10 ?_;refine lt 11 (λp=>absurd p dE) ?_;refine ld 12 ?_;refine lt 13 (λp=>absurd p dE) ?_;refine ld 14 ?_;refine zQ M ?_ _;clear dU dV dX dZ gK gM d7 gO;obtain⟨aB,bF⟩:=rK (((h.setCell ⟨f.heap.size,0,none⟩ (.slice t c c)).setCell ⟨f.heap.size,1,none⟩ (.slice q c c)).setCell ⟨f.heap.size,3,none⟩ (.slice S d.length d.length));go_upto_region 14 with fail
  rw[<-bF];have eX:G ((aB.cell? ⟨f.heap.size,0,none⟩=some (.slice t c c)/\aB.cell? ⟨f.heap.size,1,none⟩=some (.slice q c c)/\aB.cell? ⟨f.heap.size,2,none⟩=some (.slice Q d.length d.length)/\aB.cell? ⟨f.heap.size,3,none⟩=some (.slice S d.length d.length))/\(∀g,aB.frozen? ⟨f.heap.size,g,none⟩=false)/\J (·=f.heap.size) h aB):=V (by
   obtain⟨h9,b0,hA⟩:=bw (.slice t c c) (.slice q c c) s.o.c0 s.o.c1;have eD:∀g aT,g≠3->((h.setCell ⟨f.heap.size,0,none⟩ (.slice t c c)).setCell ⟨f.heap.size,1,none⟩ (.slice q c c)).cell? ⟨f.heap.size,g,none⟩=some aT->aB.cell? ⟨f.heap.size,g,none⟩=some aT:=λg aT aI eF=>by
    rw[bF,Ay0 _ _ _ _ (by intro e;injection e with _ e;exact aI e.symm)];exact eF
   refine⟨⟨eD 0 _ dE h9,eD 1 _ dE b0,eD 2 _ dE ?_,?_⟩,λg=>?_,?_⟩
   .rw[Ay0 _ _ _ _ (by intro e;injection e with _ e;cases e),Ay0 _ _ _ _ (by intro e;injection e with _ e;cases e)]
    exact s.o.c2
   .rw[bF]
    refine Az9 _ _ _ (u:=.slice S d.length b8) ?_;rw[Ay0 _ _ _ _ (by intro e;injection e with _ e;cases e),Ay0 _ _ _ _ (by intro e;injection e with _ e;cases e)];exact s.o.c3
   .rw[bF]
    exact (Az3 _ _ _ _).trans ((Az3 _ _ _ _).trans ((Az3 _ _ _ _).trans (s.o.z g)))
   rw[bF]
   exact hA.trans (zA _ _ _ _))
  clear bF;obtain⟨⟨dU,dV,dX,dZ⟩,r,bZ⟩:=eX.o;have gK:=r 0;have gM:=r 1;have d7:=r 2;have gO:=r 3;obtain⟨cB,-,cD,-⟩:=vY f.heap.size [.slice t c c,.slice q c c,.slice Q d.length d.length,.slice S d.length d.length] 0 aB (λg aI=>by
   simp only[Ax2,Aw6]at aI;rcases (by omega:g=0\/g=1\/g=2\/g=3) with rfl|rfl|rfl|rfl
   .rw[dU];rfl
   .rw[dV];rfl
   .rw[dX];rfl
   rw[dZ];rfl)
  have g6:=cB 0 _ D;have g7:=cB 1 _ D;have g8:=cB 2 _ D;have g9:=cB 3 _ D;have eZ:G (ov a b f a1 (.returned (cq ⟨(t,c,c),(q,c,c),(Q,d.length,d.length),(S,d.length,d.length)⟩)) (xC f.heap.size 0 [.slice t c c,.slice q c c,.slice Q d.length d.length,.slice S d.length d.length] aB)):=V (by
   have e5:=aF.o;have hH:=bP.o.lt;have bB:=s.o.chg;refine⟨((dB.o.trans2 bB (λo k e=>by rcases e with e|e;exact e;omega)).trans2 bZ (λo k e=>H)).trans2 cD (λo k e=>H),.inr ⟨_,_,_,h2.o,D,?_,(s.o.g.chg bZ H H).chg cD H H,?_,?_,?_⟩⟩
   .have z:=LexIn.good.mono (LexIn.good.chg (LexIn.good.chg (LexIn.good.chg gZ.o bB (λo k e=>H)) bZ (λo k e=>H)) cD (λo k e=>H)) (S':=λc=>f.heap.size<=c) (λo _ k=>by show f.heap.size<=o;omega)
    refine⟨z.r,z.c,z.n,?_⟩;have X:=(((gV.o.chg eV.o (λ_ _ _ p=>p)).chg bZ (λo k _ e=>H)).chg cD (λo k _ e=>H)).in' (c':=d.length) (Ay1 _);exact (Elt.In.inS X).mono (λo _ k=>by show f.heap.size<=o;omega)
   .show (m.map (·.1)).length<=_
    rw[Ax4,aD.o];omega
   .exact cH.o.1
   exact λeH h8=>by rw[cH.o.2.2 eH h8];exact cH.o.2.1)
  simp only[xC,Ax]at g6 g7 g8 g9 eZ;clear cB cD bZ r eX;go_wp2;exact bodyPost_ret (v:=.agg #[.slice t c c,.slice q c c,.slice Q d.length d.length,.slice S d.length d.length]) (by simp[results,results107,go_sem,g6,g7,g8,g9]) D eZ.o
 have gX:G (lexG a1=none):=V (by simp only[lexG,cI.o,d9.o,dD.o,if_neg eB])
 have hG:((a8:Int) == eK)=false:=(by simpa using eB);go_wp2_with fail
 refine (kQ _).mono ?_;rintro e a9 ⟨rfl,rfl⟩;exact⟨D,dB.o.trans2 cP.o.chg (λo k e=>by rcases e with e|e;exact e;omega),.inl ⟨gX.o,D⟩⟩
theorem Elt.encs_of {j:Type}{b:Elt j}{c:List j}(d:(b.encs c)[a]?=some A):∃i,c[a / b.sz]?=some i/\(b.enc i)[a % b.sz]?=some A:=by
 have e:=(Az0.1 d).1;rw[b.encs_length]at e;have f:a / b.sz<c.length:=Nat.div_lt_of_lt_mul (by rw[Nat.mul_comm];exact e);have g:a % b.sz<(b.enc c[a / b.sz]).length:=by rw[b.len];exact Nat.mod_lt _ b.pos
 refine⟨c[a / b.sz],Az4 f,?_⟩;have h:=b.encs_at (Az4 f) (Az4 g);rw[Nat.div_add_mod' a b.sz,d]at h;rw[Az4 g];exact h.symm
theorem hz {h:List (Int×Sl×Sl)}(n:lsE.Own w a (.slice F b c) h) {e:Nat}{f:Int×Sl×Sl}(g:h[e]?=some f) :
  ∃d,F=some ⟨d,0,none⟩/\b=h.length/\w.cell? ⟨d,e * 3,none⟩=some (.int .u8 f.1)/\w.cell? ⟨d,e * 3+1,none⟩=some (slV f.2.1)/\w.cell? ⟨d,e * 3+2,none⟩=some (slV f.2.2)/\(∀x,w.frozen? ⟨d,x,none⟩=false)/\a<=d/\d<w.heap.size:=by
 have v:=(Az0.1 g).1;rcases n with ⟨n,rfl⟩|⟨d,y,r,s,i,t,z⟩
 .simp at v
 injection r with o p q
 subst o p q;have j:=i.at' t;have k:=j.get g (i:=0) (u:=.int .u8 f.1) D;have l:=j.get g (i:=1) (u:=slV f.2.1) D;have m:=j.get g (i:=2) (u:=slV f.2.2) D;rw[Ax]at k l m;exact⟨d,D,D,k,l,m,i.z,s,i.lt⟩
theorem ow {n:List (Int×Sl×Sl)}(p:lsE.Own w a (.slice (some ⟨b,0,none⟩) c d) n) {g:Nat}{h:Int×Sl×Sl}(x:n[g]?=some h) (f:Sl) :
  lsE.Own (w.setCell ⟨b,g * 3+2,none⟩ (slV f)) a (.slice (some ⟨b,0,none⟩) c d) (n.set g (h.1,h.2.1,f)):=by
 have t:=(Az0.1 x).1;rcases p with ⟨p,_⟩|⟨P,O,B,C,j,K,L⟩
 .cases p
 injection B with o z A
 injection o with o;injection o with o;subst o z A;obtain⟨r,rfl⟩:=K;have q:(n++r)[g]?=some h:=by rw[Ax0 t];exact x
 refine .inr ⟨b,(n++r).set g (h.1,h.2.1,f),by rw[Av9,Av9],C,⟨λe i N=>?_,λe=>(Az3 _ _ _ _).trans (j.z e),Ay9 j.lt (zA _ _ _ _).size,λy l=>?_⟩,?_,by rw[Av9];exact L⟩
 .obtain⟨y,l,m⟩:=Elt.encs_of N
  rw[show lsE.sz=3 from D]at l m;by_cases v:e / 3=g
  .subst v
   rw[Aw7 (by rw[Az];omega)]at l;obtain rfl:=Az2 l;by_cases F:e % 3=2
   .have u:e=e / 3 * 3+2:=H
    rw[F]at m;obtain rfl:slV f=i:=(by simpa [lsE,dq] using m);rw[<-u];refine Az9 _ _ _ (u:=slV h.2.2) ?_;have:=j.c (e / 3 * 3+2) (slV h.2.2) (Elt.encs_at (E:=lsE) q (i:=2) D);rw[<-u]at this;exact this
   rw[Ay0 _ _ _ _ (by intro f;injection f with _ f;omega)]
   refine j.c e i ?_;have k:=Elt.encs_at (E:=lsE) q (i:=e % 3) (u:=i) (by
    rcases (by omega:e % 3=0\/e % 3=1) with s|s <;> rw[s]at m ⊢ <;> exact m)
   rw[show lsE.sz=3 from D,show e / 3 * 3+e % 3=e by omega]at k;exact k
  rw[Av5 (Ne.symm v)]at l
  rw[Ay0 _ _ _ _ (by intro f;injection f with _ f;omega)];refine j.c e i ?_;have k:=Elt.encs_at (E:=lsE) l (i:=e % 3) (u:=i) m;rw[show lsE.sz=3 from D,show e / 3 * 3+e % 3=e by omega]at k;exact k
 .rcases List.mem_or_eq_of_mem_set l with k|rfl
  .exact j.ok y k
  exact j.ok h (Az1 q)
 rw[List.set_append_left _ _ t]
 exact List.prefix_append _ _
theorem cU:∀(X:List Int) (x k:Int),xG k (X++[x])=xG k X++(if 0<=x then [(k+X.length,x)] else [])
 | [],x,k=>by simp only[Av,xG,Aw6];split <;> simp
 | y :: X,x,k=>by
  have h:=cU X x (k+1);rw[At0];simp only[xG,Ax2];rw[h,show k+1+(X.length:Int)=k+((X.length+1:Nat):Int) by omega]
  split <;> simp
theorem ox (b:X[a]?=some x):xG (-1) (X.take (a+1))=xG (-1) (X.take a)++(if 0<=x then [((a:Int)-1,x)] else []):=by
 have c:=(Az0.1 b).1;rw[Ay3,b,Option.toList_some,cU,Ay8,Nat.min_eq_left H,show (-1:Int)+(a:Int)=(a:Int)-1 by omega]
theorem kS:∀(X:List Int) (k:Int),(xG k X).length<=X.length
 | [],_=>Ay1 _
 | x :: X,k=>by
  have h:=kS X (k+1);simp only[xG]
  split <;> simp <;> omega
theorem yl (d:World) (e:List Int) (f:GetSb a b c d e):Calls prog 148 #[.pointer (some ⟨a,0,none⟩),.func (.func 149) #[] #[.pointer (some ⟨c,0,none⟩)]] d (cQ lsG lsE ls2R (C0 a) (Tb a b c) (Sb (Int×List Int) a b c) d e):=by
 have g:=enters_of func149 M D;refine xg ls2R.good (xp a b c) _ #[] #[.pointer (some ⟨c,0,none⟩)] lsG g ?_ d e f;rw[Array.empty_append];exact xq ls2R.good (λd e f=>xr d e f)
structure KSt (B:Nat) (w7 wr:World) (a:Option Addr) (n:Nat) (X0 X:List (Int×Sl×Sl)) (LL:List (List Int)) (i:Nat):Prop where
 own:lsE.Own wr B (.slice a n n) X
 len:X.length=X0.length
 eq:∀(j:Nat) x0,X0[j]?=some x0->∃e,X[j]?=some (x0.1,x0.2.1,e)/\(j<i->∃l,LL[j]?=some l/\mN.InS wr (λg=>w7.heap.size<=g) e (qY l))/\(i<=j->e=(none,0,0))
 chg:J (λk=>(Value.slice a n n).ownBlock=some k) w7 wr
theorem zL.get1 {h l:Type}{i:Elt h}{m:Rp h l}{j:List l}(o:zL i m w S (F,a,b) j) (y:i.sz=1) {k:Nat}(x:k<j.length) {f:h->Value}(v:∀c,i.enc c=[f c]) :
  ∃(c:h) (e:l) (d g:Nat),j[k]?=some e/\m w S c e/\F=some ⟨d,g,none⟩/\S d/\d<w.heap.size/\w.cell? ⟨d,g+k,none⟩=some (f c):=by
 obtain⟨c,e,d,g,p,q,r,s,t,z,u⟩:=o.get x;refine⟨c,e,d,g,p,q,r,s,t,?_⟩;have n:=u 0 (f c) (by rw[v];rfl);rw[y,Nat.mul_one,Nat.add_zero]at n;exact n
theorem Elt.InS.getI (n:intE.InS w S (F,a,b) X) {c:Nat}(e:c<X.length) :
  ∃(g:Int) (d f:Nat),X[c]?=some g/\F=some ⟨d,f,none⟩/\w.cell? ⟨d,f+c,none⟩=some (.int .i64 g)/\-9223372036854775808<=g/\g<=9223372036854775807/\S d/\d<w.heap.size:=by
 obtain⟨r,s,d,f,h,o⟩:=n;have l:X[c]?=some X[c]:=Az4 e;have j:=h.get l (i:=0) (u:=.int .i64 X[c]) D;rw[Nat.add_zero,show intE.sz=1 from D,Nat.mul_one]at j;obtain⟨p,q⟩:=o H;have k:=h.ok _ (List.getElem_mem e);exact⟨X[c],d,f,l,p,j,k.1,k.2,q,h.lt (by intro m;rw[m]at e;simp at e)⟩
def oy (f j h:Nat) (i:World) (c:List Int) (e:Ending) (b:World):Prop :=
 J (·=f) i b/\((fW h c=none/\e=sW)\/∃a g d,fW h c=some (a,g)/\e=.returned (.agg #[.slice d a.length a.length])/\gG b (λk=>i.heap.size<=k) (d,a.length,a.length) a/\GetSt f j b g)
theorem ym (hS:c<=16777215) (A:World) (a6:List Int) (y:GetSt a b A a6):Calls prog 109 #[.pointer (some ⟨a,0,none⟩),.int .i64 c] A (oy a b c A a6):=by
 have bP:=V y;clear y;have hR:=mkfn;go_enter func109,ntmps109
 go_upto_region 1 with fail
 obtain⟨B,aY⟩:=rK ((A.alloc (.cells #[.pointer (some ⟨a,0,none⟩)] 132)).alloc (.cells #[.slice none 0 0] 63));rw[<-aY];have cA:G (Cf A B):=V (by rw[aY];exact ((J.refl _ A).alloc _).alloc _);have aB:G (B.heap.size=A.heap.size+2):=V (by rw[aY];simp);have e4:G (GetSb a b A.heap.size B a6):=V ⟨bP.o.fresh cA.o,by rw[aY];exact (FR (A.alloc _)).alloc _ |>.cellS (by rw[Az5];rfl) iD,by have:=bP.o.lt;omega⟩;obtain⟨o,c2⟩:=rK (A.heap.size+1);have bH:G (B.cell? ⟨o,0,none⟩=some (.slice none 0 0)/\∀m,B.frozen? ⟨o,m,none⟩=false):=V (by
  have h:o=(A.alloc (.cells #[.pointer (some ⟨a,0,none⟩)] 132)).heap.size:=by rw[c2];simp
  rw[h,aY];exact⟨by rw[Az5];rfl,λm=>Az6 _ _ _ _⟩)
 rw[<-c2];have T:G (o=A.heap.size+1):=V c2;have bX:G (a<A.heap.size/\b<A.heap.size):=V ⟨bP.o.lt,bP.o.lb⟩;clear aY c2;have h0:=e4.o.c;go_wp2_with fail
 refine (yl B a6 e4.o).mono ?_;rintro h dP ⟨aF,⟨z,rfl⟩|⟨Q,dM,x,z,rfl,e7,eZ,aH,-,-,P,c1,d0,eB,d1⟩⟩
 .exact⟨D,cA.o.any.trans aF,.inl ⟨by simp only[fW,z],D⟩⟩
 obtain⟨n,c4⟩:=rM Q.length;rw[c4]at e7 aH c1 d0 eB d1;simp only[c4];obtain⟨dU,b3,h8⟩:=rZ z c4 aF;have b8:¬o=a:=by have:=bX.o;have:=T.o;omega
 have bB:=aF.cellS bH.o.1 b8;have dT:=(aF.frozen (p:=⟨o,0,none⟩) (Az8 _ _ bH.o.1) b8).trans (bH.o.2 0);have a8:=zA dP o 0 (.slice x n n);obtain⟨L,c6⟩:=rK (dP.setCell ⟨o,0,none⟩ (.slice x n n));rw[<-c6]at a8;have c9:G (L.cell? ⟨o,0,none⟩=some (.slice x n n)/\L.frozen? ⟨o,0,none⟩=false):=V (by rw[c6];exact⟨Az9 _ _ _ bB,(Az3 _ _ _ _).trans dT⟩);have dZ:=V (GetSb.chg eZ a8 H (by have:=bX.o;have:=T.o;omega) (by have:=T.o;omega));have d3:∀g,(Value.slice x n n).ownBlock=some g->B.heap.size<=g/\g<dP.heap.size:=λg K=>c1.blk K
 have a5:G (lsE.Own L B.heap.size (.slice x n n) P/\P.length=n/\∀(m:Nat) t U,P[m]?=some t->Q[m]?=some U->ls2R L (λd=>B.heap.size<=d/\(Value.slice x n n).ownBlock≠some d/\d<L.heap.size) t U):=V (by
  have e6:=aB.o;have gK:=T.o;refine⟨c1.chg a8 (λg K _ h=>H),d0,λm t U N a1=>?_⟩;exact ls2R.good.mono (ls2R.good.chg (d1 m t U N a1) a8 (λg K h=>by have:=K.1;omega)) (λg d6 K=>⟨K.1,K.2.2,d6⟩))
 have b2:G (∀g,(Value.slice x n n).ownBlock=some g->B.heap.size<=g/\g<L.heap.size):=V (λg K=>⟨(d3 g K).1,Ay9 (d3 g K).2 a8.size⟩);have e0:G (J (·=a) A L):=V ((cA.o.any.trans aF).trans2 a8 (λg K h=>by have:=T.o;omega));have hA:G (n<=16777215):=V aH;have g2:G (B.heap.size<=L.heap.size):=V (Ay2 aF.size a8.size);clear z c4 aF a8 e7 eZ aH c1 d0 eB d1 d3 bH h0;have h1:=dZ.o.c;go_upto_region 2 with fail
 rw[<-c6];clear c6 bB dT;go_wp2_with fail
 refine (oq L dM dZ.o.g).mono ?_;rintro h W ⟨a7,⟨aT,rfl⟩|⟨e,aK,dO,f3,aT,rfl,e8,eI,eR,eP,f0⟩⟩
 .exact⟨D,e0.o.trans a7,.inl ⟨by simp only[fW,dU.o,aT],D⟩⟩
 have fD:=V aT;have bV:G (fW c a6=if (aK:Int)=c+1/\e.length=n then some (List.zipWith (λC j=>(C.1,C.2,qY j)) Q e,dO) else none):=V (by simp only[fW,dU.o,fD.o,b3.o]);have cB:G (J (·=a) A W):=V (e0.o.trans a7);have bI:G (W.cell? ⟨o,0,none⟩=some (.slice x n n)/\W.frozen? ⟨o,0,none⟩=false):=V ⟨a7.cellS c9.o.1 b8,(a7.frozen (p:=⟨o,0,none⟩) (Az8 _ _ c9.o.1) b8).trans c9.o.2⟩;have cO:G (lsE.Own W B.heap.size (.slice x n n) P/\∀(m:Nat) t U,P[m]?=some t->Q[m]?=some U->ls2R W (λd=>B.heap.size<=d/\(Value.slice x n n).ownBlock≠some d/\d<L.heap.size) t U):=V (by
  have e6:=aB.o;have gS:=bX.o;exact⟨a5.o.1.chg a7 (λg K _ h=>H),λm t U N a1=>ls2R.good.chg (a5.o.2.2 m t U N a1) a7 (λg K h=>by have:=K.1;omega)⟩)
 have fM:=V eI;have fT:G (zL pW (inR intE) W (λd=>L.heap.size<=d/\d<W.heap.size) (f3,e.length,e.length) e):=V ((zL.good inR.good).mono e8 (λg K gM=>⟨gM,K⟩));have cH:G (e.length<=65536/\aK<=65536/\∀j∈e,j.length=aK):=V ⟨eR,eP,f0⟩;have cM:G (L.heap.size<=W.heap.size):=V a7.size;clear a7 aT e8 eI eR eP f0 h1 b8;have h2:=bI.o.1;by_cases a2:(aK:Int)=c+1
 .by_cases c5:e.length=n
  .rw[if_pos ⟨a2,c5⟩]at bV
   subst c5;have cT:((aK:Int) == (c:Int)+1)=true:=(by simpa using a2);have h9:=V a2;have e3:G (KSt B.heap.size W W x e.length P P e 0):=V ⟨cO.o.1,D,λm s N=>by
    have hN:=(Az0.1 N).1;have gO:m<Q.length:=(by have:=b3.o;have:=a5.o.2.1;omega);have a1:Q[m]?=some Q[m]:=Az4 gO;obtain⟨-,-,-,b6⟩:=cO.o.2 m s _ N a1;exact⟨s.2.2,N,λy=>absurd y (Ax1 _),λ_=>b6⟩,cR⟩
   clear a2;go_wp2_with fail
   refine (bW _).mono ?_;rintro h a3 ⟨rfl,rfl⟩;clear cT h2;go_wp2
   go_loopw [35] (λO wr=>∃(i:Nat) (R:List (Int×Sl×Sl)),i<=e.length/\O=.int .i64 i/\KSt B.heap.size a3 wr x e.length P R e i) (λO _=>e.length-(intOf O).toNat)
   .exact⟨0,P,H,D,e3.o⟩
   clear e3;obtain⟨l,rfl⟩:=rK wr;obtain⟨i,R,hL,rfl,dB⟩:=hrel;have E:=V dB;have dX:G (l.cell? ⟨o,0,none⟩=some (.slice x e.length e.length)):=V (dB.chg.cellS bI.o.1 (λh=>by have:=(b2.o o h).1;have:=aB.o;have:=T.o;omega));clear dB;by_cases d7:i<e.length
   .have g7:=rO i e.length
    have hM:i<65536:=(by have:=cH.o.1;omega);have fX:G (zL pW (inR intE) l (λd=>L.heap.size<=d/\d<a3.heap.size) (f3,e.length,e.length) e):=V ((zL.good inR.good).chg fT.o E.o.chg (λg K h=>by have:=(b2.o g h).2;omega));obtain⟨⟨f6,hV,f7⟩,j,hF,hT,aH,d8,gR,-,-,cV⟩:=fX.o.get1 (f:=slV) D d7 (λ_=>rfl);subst gR;obtain⟨rfl,aX⟩:=Elt.InS.len d8;unfold slV at cV;simp only at cV;have fO:G (intE.InS l (λd=>L.heap.size<=d/\d<a3.heap.size) (f6,j.length,f7) j):=V d8;have fV:=V aH;have hQ:j.length<=65536:=(by rw[cH.o.2.2 j (Az1 aH)];exact cH.o.2.1);obtain⟨s,aZ⟩:∃s,P[i]?=some s:=⟨_,Az4 (by rw[a5.o.2.1];exact d7)⟩;obtain⟨hE,dF,-,d5⟩:=E.o.eq i s aZ;have d5:=d5 (Ay1 _);subst d5;obtain⟨g,rfl,-,-,-,-,-,hI,d6⟩:=hz E.o.own dF;have g4:=V aZ;have cP:=V dF;have bT:G (B.heap.size<=g/\g<L.heap.size):=V (b2.o g D);clear aH d8 aZ dF;go_wp2;clear cV
    go_loopw [42] (λO wr=>∃(d:Nat) (h:Sl),d<=j.length/\O=.int .i64 d/\lsE.Own wr B.heap.size (.slice (some ⟨g,0,none⟩) e.length e.length) (R.set i (s.1,s.2.1,h))/\mN.Own wr l.heap.size (slV h) (xG (-1) (j.take d))/\J (·=g) l wr) (λO _=>j.length-(intOf O).toNat)
    case atStart=>exact⟨0,(none,0,0),H,D,by
     rw[show R.set i (s.1,s.2.1,(none,0,0))=R from List.ext_getElem? (λm=>by
      by_cases eK:m=i
      .subst eK
       rw[Aw7 (Az0.1 cP.o).1,cP.o]
      rw[Av5 (Ne.symm eK)])]
     exact E.o.own,.nil _ _,cR⟩
    case round =>
     obtain⟨d,⟨F,q,a0⟩,hO,rfl,eV,eT,c3⟩:=hrel;have cI:=V eV;have b4:G (mN.Own wr l.heap.size (.slice F q a0) (xG (-1) (j.take d))):=V eT;have bM:=V c3;have e9:R.length=e.length:=(by rw[E.o.len,a5.o.2.1]);have f1:(R.set i (s.1,s.2.1,(F,q,a0)))[i]?=some (s.1,s.2.1,(F,q,a0)):=Aw7 (by rw[e9];exact d7);have c0:=V f1;have fP:G (intE.InS wr (λd=>L.heap.size<=d/\d<a3.heap.size) (f6,j.length,f7) j):=V (fO.o.chg c3 (λw k h=>by have:=bT.o.2;omega));have dV:G (wr.cell? ⟨o,0,none⟩=some (.slice (some ⟨g,0,none⟩) e.length e.length)):=V (c3.cellS dX.o (by have:=bT.o;have:=aB.o;have:=T.o;show ¬o=g;omega));clear eV eT c3 f1 e9;by_cases gP:d<j.length
     .have g6:=rO d j.length
      have hP:d<65536:=H;obtain⟨t,hG,hU,N,rfl,hD,h5,h6,-,-⟩:=fP.o.getI gP;have bZ:=V (ox N);clear N;by_cases c8:0<=t
      .have g5:decide (0<=t)=true:=by simpa using c8
       rw[if_pos c8]at bZ;go_upto_region 11 with fail
       obtain⟨r,aI⟩:=rM wr.drew;have Z:G (Cf wr r):=V (by rw[<-aI];exact (J.refl _ _).drew);have b5:=V (cI.o.chg Z.o (λ_ _ _ y=>y));have g1:=V (b4.o.chg Z.o (λ_ _ _ y=>y));have bO:G (J (·=g) l r):=V (bM.o.trans Z.o.any);have b0:=V (Z.o.cellS dV.o iD);have a4:G (r.cell? ⟨g,i * 3+2,none⟩=some (.slice F q a0)/\r.frozen? ⟨g,i * 3+2,none⟩=false):=V (by
        obtain⟨w,k,-,-,-,aD,cZ,-⟩:=hz b5.o c0.o;injection k with k;injection k with k;subst k;exact⟨aD,cZ _⟩)
       refine zC (λt=>J (λd=>l.heap.size<=d) r t) (λi=>decide (17<=i)) M ?_;have cF:G (¬l.heap.size<=g/\¬l.heap.size<=o):=V (by have:=E.o.chg.size;have:=T.o;have:=aB.o;have:=bT.o;have:=cM.o;omega);show yC _ _ _ _ _ _ 18 (Array.replicate 18 false) _ wr.drew;rw[aI];clear aI;have u:G (J (λd=>l.heap.size<=d) r r):=V cR;have gX:IntKind.i64.wrap ((d:Int)-1)=(d:Int)-1:=(by rw[IntKind.wrap_i64];omega);refine lq 0 u.o ?_;(refine lf 1 u.o (λ_ S=>S.cellS b0.o cF.o.2) ?_);refine lq 2 u.o ?_;refine lq 3 u.o ?_;(refine lf 4 u.o (λ_ S=>S.cellS b0.o cF.o.2) ?_);refine lq 5 u.o ?_;refine lq 6 u.o ?_;refine lq 7 u.o ?_;(refine lf 8 u.o (λ_ S=>S.cellS a4.o.1 cF.o.1) ?_);refine lq 9 u.o ?_;refine lq 10 u.o ?_;clear gX;refine lq 11 u.o ?_;refine lq 12 u.o ?_;have e5:G (∀fB∈[((d:Int)-1,t)],mN.ok fB):=V (λfB f2=>by rw[Ay]at f2;rw[f2];exact⟨⟨by show (-9223372036854775808:Int)<=(d:Int)-1;omega,by show (d:Int)-1<=9223372036854775807;omega⟩,⟨h5,h6⟩⟩);refine lt 13 (λ_=>rT) ?_;obtain⟨bF,c7⟩:=rK (r.alloc (.cells #[.int .i64 ((d:Int)-1),.int .i64 t] 149));have bK:G (Cf r bF):=V (by rw[c7];exact rT);have g3:G (Src prog mN.sz mN.sl (.slice (some ⟨r.heap.size,0,none⟩) 1 1) 1 (mN.encs [((d:Int)-1,t)]) bF):=V (by rw[c7];exact mN.srcLit (Y:=[((d:Int)-1,t)]) 1 e5.o);rw[<-c7];clear c7;have b1:G (l.heap.size<=bF.heap.size/\g<l.heap.size):=V ⟨Ay2 bO.o.size bK.o.size,d6⟩;have fZ:G (mN.Own bF l.heap.size (.slice F q a0) (xG (-1) (j.take d))):=V (g1.o.chg bK.o (λ_ _ _ y=>y));have fK:G ((xG (-1) (j.take d)).length<=65536):=V (by have:=kS (j.take d) (-1);rw[Ay8]at this;omega);refine yQ (i:=14) M D D (.tmp 57) (.tmp 62) 65 65 D (.slice F q a0) (.slice (some ⟨r.heap.size,0,none⟩) 1 1) D D (λbD X=>mN.Own X l.heap.size bD (xG (-1) (j.take d)++[((d:Int)-1,t)])/\J (λd=>l.heap.size<=d) bF X/\∃x n g8,bD=.slice x n g8) ?_ ?_
       .obtain⟨bD,X,gT,z,aR,-,-⟩:=fZ.o.append b1.o.1 65 (.slice (some ⟨r.heap.size,0,none⟩) 1 1) [((d:Int)-1,t)] g3.o e5.o (by have:=fK.o;simp;omega) 65
        exact⟨bD,X,gT,(λ_=>bK.o.any.trans aR),z,aR,z.shape3⟩
       rintro bD X-⟨f4,f5,aM,aP,aO,rfl⟩ cS b7;have aV:J (λd=>l.heap.size<=d) r X:=bK.o.any.trans f5;have dI:=aV.cellS a4.o.1 (by have:=b1.o.2;show ¬l.heap.size<=g;omega);have dK:=(aV.frozen (p:=⟨g,i * 3+2,none⟩) (Az8 _ _ a4.o.1) (by have:=b1.o.2;show ¬l.heap.size<=g;omega)).trans a4.o.2;have cK:G (lsE.Own (X.setCell ⟨g,i * 3+2,none⟩ (.slice aM aP aO)) B.heap.size (.slice (some ⟨g,0,none⟩) e.length e.length) (R.set i (s.1,s.2.1,(aM,aP,aO)))):=V (by
        have z:=ow (b5.o.chgB aV (λw k h=>by obtain rfl:g=w:=(by simpa [Value.ownBlock] using k);have:=b1.o.2;omega)) c0.o (aM,aP,aO);rw[List.set_set]at z;exact z)
       have a9:=zA X g (i * 3+2) (.slice aM aP aO);have g0:G (mN.Own (X.setCell ⟨g,i * 3+2,none⟩ (.slice aM aP aO)) l.heap.size (slV (aM,aP,aO)) (xG (-1) (j.take (d+1)))):=V (by
        rw[bZ.o];exact f4.chg a9 (λw k _ h=>by have:=b1.o.2;omega))
       have fF:G (J (·=g) l (X.setCell ⟨g,i * 3+2,none⟩ (.slice aM aP aO))):=V ((bO.o.trans2 aV (λw k h=>absurd h (Nat.not_le.2 k))).trans a9);have e1:=V aV;clear f4 f5 aV a9;(try go_simp)
       refine b7 _ ?_;clear b7 cS;refine lt 15 (λ_=>e1.o) ?_;refine lt 16 (λ_=>e1.o) ?_;refine ld 17 ?_;refine zQ M ?_ _;clear dI dK;go_wp2;go_roundw
       .exact⟨d+1,_,H,GN,cK.o,g0.o,fF.o⟩
       simp[intOf];omega
      have g5:decide (0<=t)=false:=by simpa using c8
      rw[if_neg c8,Av3]at bZ;rw[<-bZ.o]at b4;go_wp2;go_roundw
      .exact⟨d+1,_,H,GN,cI.o,b4.o,bM.o⟩
      simp[intOf];omega
     obtain rfl:d=j.length:=H
     have g6:=rP j.length;rw[Ay7]at b4;obtain⟨_,_,gV,eH,eF⟩:=b4.o.clip;injection gV with g9 cX gD;subst g9 gD;have fH:G (mN.Own wr l.heap.size (.slice F q q) (qY j)):=V (by rw[cX];exact eF);rw[<-cX]at eH;clear cX eF;go_upto_region 13 with fail
     obtain⟨r,aI⟩:=rM wr.drew;have Z:G (Cf wr r):=V (by rw[<-aI];exact (J.refl _ _).drew);have b5:=V (cI.o.chg Z.o (λ_ _ _ y=>y));have fI:=V (fH.o.chg Z.o (λ_ _ _ y=>y));have bO:G (J (·=g) l r):=V (bM.o.trans Z.o.any);have b0:=V (Z.o.cellS dV.o iD);have a4:G (r.cell? ⟨g,i * 3+2,none⟩=some (.slice F q a0)/\r.frozen? ⟨g,i * 3+2,none⟩=false):=V (by
      obtain⟨w,k,-,-,-,aD,cZ,-⟩:=hz b5.o c0.o;injection k with k;injection k with k;subst k;exact⟨aD,cZ _⟩)
     refine zC (λt=>t=r) (λi=>decide (12<=i)) M ?_;show yC _ _ _ _ _ _ 13 (Array.replicate 13 false) _ wr.drew;rw[aI];clear aI;have u:G (r=r):=V D;refine lq 0 u.o ?_;(refine lq 1 u.o ?_ (hr:=by intro f8 S;subst S;have O:=b0.o;go_simp;try with_reducible rfl));refine lq 2 u.o ?_;refine lq 3 u.o ?_;(refine lq 4 u.o ?_ (hr:=by intro f8 S;subst S;have O:=b0.o;go_simp;try with_reducible rfl));refine lq 5 u.o ?_;refine lq 6 u.o ?_;refine lq 7 u.o ?_;(refine lq 8 u.o ?_ (hr:=by intro f8 S;subst S;have O:=a4.o.1;go_simp;try with_reducible rfl));refine zY (i:=9) M D D 150 #[.slice F q a0] (λO f9=>O=.slice F q q/\r=f9) (by go_simp) ?_ ?_
     .refine (xa r F q a0 eH).mono ?_
      rintro h L ⟨rfl,rfl⟩;exact⟨_,D,λ_=>rfl,D,D⟩
     rintro O f9-⟨rfl,rfl⟩ cS b7;(try go_simp)
     refine b7 _ ?_;clear b7 cS;refine lt 10 (λ_=>rfl) ?_;refine lt 11 (λ_=>rfl) ?_;have dI:=a4.o.1;have dK:=a4.o.2;refine ld 12 ?_;refine zQ M ?_ _;clear dI dK;have a9:=zA r g (i * 3+2) (.slice F q q);obtain⟨dR,dD⟩:=rK (r.setCell ⟨g,i * 3+2,none⟩ (.slice F q q));have cK:G (lsE.Own dR B.heap.size (.slice (some ⟨g,0,none⟩) e.length e.length) (R.set i (s.1,s.2.1,(F,q,q)))):=V (by
      have z:=ow b5.o c0.o (F,q,q);rw[List.set_set]at z;rw[dD];exact z)
     rw[<-dD]at a9 ⊢;clear dD;have fR:G (KSt B.heap.size a3 dR (some ⟨g,0,none⟩) e.length P (R.set i (s.1,s.2.1,(F,q,q))) e (i+1)):=V (by
      have eD:J (·=g) l dR:=bO.o.trans a9;have hK:=bT.o;have gF:=cM.o;have gH:=E.o.chg.size;refine⟨cK.o,by rw[Av9];exact E.o.len,λm h7 dH=>?_,E.o.chg.trans (eD.mono (λd _ h=>by rw[h];rfl))⟩;by_cases eO:m=i
      .subst eO
       rw[g4.o]at dH;obtain rfl:=Az2 dH;refine⟨(F,q,q),Aw7 (Az0.1 cP.o).1,λ_=>⟨j,fV.o,?_⟩,λy=>absurd y H⟩;have z:=(fI.o.chg a9 (λw k _ h=>by have:=bM.o.size;omega)).in' (c':=q) (Ay1 _);exact (Elt.In.inS z).mono (λw _ k=>by show a3.heap.size<=w;omega)
      obtain⟨h,z,aR,aT⟩:=E.o.eq m h7 dH
      refine⟨h,by rw[Av5 (Ne.symm eO)];exact z,λy=>?_,λy=>aT H⟩;obtain⟨gZ,b6,aD⟩:=aR H;exact⟨gZ,b6,aD.chg eD (λw k h=>H)⟩)
     clear a9;go_wp2;go_roundw
     .exact⟨i+1,_,H,GN,fR.o⟩
     simp[intOf];omega
   obtain rfl:i=e.length:=H
   have g7:=rP e.length;have bB:=dX.o;have gI:o<l.heap.size:=Az8 _ _ bB;have dT:l.frozen? ⟨o,0,none⟩=false:=(E.o.chg.frozen (p:=⟨o,0,none⟩) (Az8 _ _ bI.o.1) (λh=>by have:=(b2.o o h).1;have:=aB.o;have:=T.o;omega)).trans bI.o.2;have h4:(l.setCell ⟨o,0,none⟩ (.slice x e.length e.length)).cell? ⟨o,0,none⟩=some (.slice x e.length e.length):=Az9 _ _ _ bB;have e2:G (oy a b c A a6 (.returned (.agg #[.slice x (List.zipWith (λ(C:Int×List Int) j=>(C.1,C.2,qY j)) Q e).length (List.zipWith (λ(C:Int×List Int) j=>(C.1,C.2,qY j)) Q e).length])) (l.setCell ⟨o,0,none⟩ (.slice x e.length e.length))):=V (by
    have aX:=zA l o 0 (.slice x e.length e.length);have e6:=aB.o;have gK:=T.o;have gS:=bX.o;have gF:=cM.o;have gH:=E.o.chg.size;have hH:=g2.o;have b9:(List.zipWith (λ(C:Int×List Int) j=>(C.1,C.2,qY j)) Q e).length=e.length:=(by rw[List.length_zipWith,b3.o,Nat.min_self]);have d2:=b2.o;have d4:J (λd=>(Value.slice x e.length e.length).ownBlock=some d) a3 l:=E.o.chg;refine⟨((cB.o.trans2 d4 (λw k h=>by have:=(d2 w h).1;omega)).trans2 aX (λw k h=>H)),.inr ⟨_,_,_,bV.o,D,?_,(fM.o.chg d4 (λh=>by have:=(d2 _ h).1;omega) (λh=>by have:=(d2 _ h).1;omega)).chg aX H H⟩⟩;refine⟨R,?_,?_,λm t U N a1=>?_⟩
    .rw[b9]
     exact (Elt.In.inS (((E.o.own.chg aX (λw k _ h=>H))).in' (c':=e.length) (Ay1 _))).mono (λw _ k=>by show A.heap.size<=w;omega)
    .rw[b9,E.o.len];exact a5.o.2.1
    have eM:=(Az0.1 N).1
    have d9:m<e.length:=(by rw[E.o.len,a5.o.2.1]at eM;exact eM);obtain⟨s,aZ⟩:∃s,P[m]?=some s:=⟨_,Az4 (by rw[a5.o.2.1];exact d9)⟩;obtain⟨h,z,aR,-⟩:=E.o.eq m s aZ;rw[N]at z;obtain rfl:=Az2 z;obtain⟨j,b6,aD⟩:=aR d9;obtain⟨C,eX⟩:∃C,Q[m]?=some C:=⟨_,Az4 (by rw[b3.o];exact d9)⟩;rw[List.getElem?_zipWith,eX,b6]at a1;simp only[Option.some.injEq]at a1;subst a1;obtain⟨dM,h3,dO,-⟩:=cO.o.2 m s C aZ eX;exact⟨dM,h3,((dO.chg d4 (λw k h=>k.2.1 h)).chg aX (λw k h=>by have:=k.1;omega)).mono (λw _ k=>by show A.heap.size<=w;have:=k.1;omega),(aD.chg aX (λw k h=>H)).mono (λw _ k=>by show A.heap.size<=w;omega)⟩)
   have b9:(List.zipWith (λ(C:Int×List Int) j=>(C.1,C.2,qY j)) Q e).length=e.length:=(by rw[List.length_zipWith,b3.o,Nat.min_self]);rw[b9]at e2;clear b9 gI;go_wp2;exact bodyPost_ret (v:=.agg #[.slice x e.length e.length]) (by simp[results,results109,go_sem,h4]) D e2.o
  have cD:G (fW c a6=none):=V (by rw[bV.o,if_neg (λy=>c5 y.2)])
  have cT:((aK:Int) == (c:Int)+1)=true:=(by simpa using a2);have hB:((e.length:Int) == (n:Int))=false:=sO;have hC:(e.length == n)=false:=(by simpa using c5);clear a2;go_wp2_with fail
  refine (kQ _).mono ?_;rintro h a3 ⟨rfl,rfl⟩;exact⟨D,cB.o,.inl ⟨cD.o,D⟩⟩
 have cD:G (fW c a6=none):=V (by rw[bV.o,if_neg (λy=>a2 y.1)])
 have cT:((aK:Int) == (c:Int)+1)=false:=by simpa using a2
 clear a2;go_wp2_with fail
 refine (kQ _).mono ?_;rintro h a3 ⟨rfl,rfl⟩;exact⟨D,cB.o,.inl ⟨cD.o,D⟩⟩
def ce (d:FuncId) (e:Array Value) (f:Int->Bool) (g:World):Prop:=∀(b:Int) (a:World),I.Byte b->Cf g a ->
 Calls prog d (#[.int .i64 b]++e) a λc h=>c=.returned (.bool (f b))/\Cf a h
theorem yn (k:FuncId) (C:Array Value) (f:Int->Bool) (a:List Int) (u:Option Addr) (w F:Nat) (d:World) (W:∀v d,(callFunc k v).run prog d=.ok (.enter k v) d) (l:intE.In d F (u,a.length,w) a) (A:ce k C f d) (a0:a.length<=1000000000) :
  Calls prog 131 #[.slice u a.length w,.func (.func k) #[] C] d λq Q=>q=.returned (.int .i64 (idxV f a))/\Cf d Q:=by
 have L:=V l;have N:=V A;clear l A;go_enter func131,ntmps131
 go_wp2
 go_loopw [8] (λs wr=>∃b:Nat,b<=a.length/\s=.int .i64 b/\(∀(c:Nat) e,c<b->a[c]?=some e->f e=false)/\Cf d wr) (λs _=>a.length-(intOf s).toNat)
 .exact⟨0,H,D,λc e l=>absurd l (Ax1 _),cR⟩
 obtain⟨b,Z,rfl,y,z⟩:=hrel;have m:=V y;have i:=V z;clear y z;by_cases P:b<a.length
 .have U:=rO b a.length
  obtain⟨E,X,a1,B,rfl,x,S,T,-,-⟩:=(L.o.same i.o).getI P;have t:=V B;clear B;have g:=N.o E wr ⟨S,T⟩ i.o;cases h:f E with
  | true =>
   rw[h]at g;have p:G (idxV f a=b):=V (tJ t.o h m.o);have o:=V g;clear g h;go_wp2_with fail
   refine o.o.mono ?_;rintro q R ⟨rfl,j⟩;have n:=V (i.o.trans j);clear j x;go_wp2;go_ret
   exact⟨by rw[p.o];rfl,n.o⟩
  | false =>
   rw[h]at g;have K:G (∀(c:Nat) e,c<b+1->a[c]?=some e->f e=false):=V (λc e Y r=>by
    by_cases O:c=b
    .subst O;rw[t.o]at r;obtain rfl:=Az2 r;exact h
    exact m.o c e H r)
   have o:=V g;clear g h;go_wp2_with fail
   refine o.o.mono ?_;rintro q R ⟨rfl,j⟩;have n:=V (i.o.trans j);clear j x;go_wp2;go_roundw
   .exact⟨b+1,H,GN,K.o,n.o⟩
   simp[intOf];omega
 obtain rfl:b=a.length:=H
 have p:G (idxV f a=-1):=V (qW m.o);go_wp2;go_ret
 exact⟨by rw[p.o];rfl,i.o⟩
theorem mC (c:FuncId) (i:Array Value) (d:Int->Bool) (a:List Int) (e:Option Addr) (f j:Nat) (b:World) (u:∀k b,(callFunc c k).run prog b=.ok (.enter c k) b) (m:intE.In b j (e,a.length,f) a) (o:ce c i d b) (v:a.length<=1000000000) :
  Calls prog 89 #[.slice e a.length f,.func (.func c) #[] i] b λl w=>l=.returned (.bool (a.any d))/\Cf b w:=by
 have r:=V m;have t:=V o;clear m o;rcases sG d a with ⟨x,z,-,-,g,-,h⟩|⟨g,-,h⟩
 all_goals
  have q:=V g;have s:=V h;clear g h;go_enter func89,ntmps89
  go_wp2_with fail
  refine (yn c i d a e f j _ u r.o t.o v).mono ?_;rintro l y ⟨rfl,n⟩;rw[q.o];have p:=V n;clear n;go_wp2;go_ret
  exact⟨by rw[s.o];rfl,p.o⟩
def hasB (x:Int) (Z:List Int):Bool:=Z.any (λy=>x == y)
theorem oz (x:Int) (Z:List Int):hasB x Z=Z.contains x:=by
 unfold hasB;rw[List.any_beq]
theorem yo (e:Int) (b:List Int) (n:Option Addr) (o u:Nat) (h:World) (g:intE.In h u (n,b.length,o) b) (N:b.length<=1000000000) :
  Calls prog 165 #[.slice n b.length o,.int .i64 e] h λx A=>x=.returned (.int .i64 (idxV (λa=>e == a) b))/\Cf h A:=by
 have w:=V g;clear g;go_enter func165,ntmps165
 go_wp2
 go_loopw [8] (λl wr=>∃c:Nat,c<=b.length/\l=.int .i64 c/\(∀(d:Nat) a,d<c->b[d]?=some a->(e == a)=false)/\Cf h wr) (λl _=>b.length-(intOf l).toNat)
 .exact⟨0,H,D,λd a g=>absurd g (Ax1 _),cR⟩
 obtain⟨c,L,rfl,q,r⟩:=hrel;have i:=V q;have f:=V r;clear q r;by_cases z:c<b.length
 .have C:=rO c b.length
  obtain⟨B,F,O,s,rfl,E,P,Q,-,-⟩:=(w.o.same f.o).getI z;have m:=V s;clear s;cases t:(e == B) with
  | true =>
   have j:G (idxV (λa=>e == a) b=c):=V (tJ (p:=λa=>e == a) m.o t i.o);go_wp2;go_ret
   exact⟨by rw[j.o];rfl,f.o⟩
  | false =>
   have v:G (∀(d:Nat) a,d<c+1->b[d]?=some a->(e == a)=false):=V (λd a K k=>by
    by_cases y:d=c
    .subst y;rw[m.o]at k;obtain rfl:=Az2 k;exact t
    exact i.o d a H k)
   go_wp2;go_roundw
   .exact⟨c+1,H,GN,v.o,f.o⟩
   simp[intOf];omega
 obtain rfl:c=b.length:=H
 have j:G (idxV (λa=>e == a) b=-1):=V (qW (p:=λa=>e == a) i.o);go_wp2;go_ret
 exact⟨by rw[j.o];rfl,f.o⟩
theorem pa (b:Int) (a:List Int) (c:Option Addr) (d h:Nat) (g:World) (j:intE.In g h (c,a.length,d) a) (p:a.length<=1000000000) :
  Calls prog 125 #[.slice c a.length d,.int .i64 b] g λi q=>i=.returned (.bool (hasB b a))/\Cf g q:=by
 have n:=V j;clear j;rcases sG (λr=>b == r) a with ⟨s,u,-,-,e,-,f⟩|⟨e,-,f⟩
 all_goals
  have m:=V e;have o:G (hasB b a=_):=V f;clear e f;go_enter func125,ntmps125
  go_wp2_with fail
  refine (yo b a c d h _ n.o p).mono ?_;rintro i t ⟨rfl,k⟩;rw[m.o];have l:=V k;clear k;go_wp2;go_ret
  exact⟨by rw[o.o];rfl,l.o⟩
structure Fair (t:LexD):Prop where
 r:t.r.length<=1000000000
 c:t.c.length<=1000000000
 n:t.n.length<=1000000000
 e:t.e.length<=1000000000
 l:∀l∈t.n,l.length<=1000000000
theorem pc {b:List (Int×Int)}(c:b[a]?=some (x,y)) (d:y<x):apOk b a=false:=by
 unfold apOk;rw[Aw5,c];simp only[Option.getD_some];rw[decide_eq_false H]
 rfl
theorem pd {a:List (Int×Int)}(b:a[0]?=some (x,y)) (c:x<=y):apOk a 0=true:=by
 unfold apOk;rw[Aw5,b];simp only[Option.getD_some];rw[decide_eq_true c]
 rfl
theorem pe {b:List (Int×Int)}{c d i e:Int}(f:b[a+1]?=some (c,d)) (g:b[a]?=some (i,e)) (h:c<=d):apOk b (a+1)=decide (e<c):=by
 unfold apOk;rw[Aw5,Aw5,f,Nat.add_sub_cancel,g];simp only[Option.getD_some];rw[decide_eq_true h,decide_eq_false (show ¬a+1=0 by omega)];simp
theorem aN (b:List (Int×Int)) (Z:Option Addr) (a0 a5:Nat) (t:World) (B:rngE.In t a5 (Z,b.length,a0) b) (aZ:b.length<=1000000000) :
  Calls prog 124 #[.slice Z b.length a0] t λaD c=>aD=.returned (.bool (fN b))/\Cf t c:=by
 have Y:=V B;clear B;go_enter func124,ntmps124
 go_wp2
 go_loopw [7] (λT wr=>∃a:Nat,a<=b.length/\T=.int .i64 a/\(∀d,d<a->apOk b d=true)/\Cf t wr) (λT _=>b.length-(intOf T).toNat)
 .exact⟨0,H,D,λd B=>absurd B (Ax1 _),cR⟩
 obtain⟨a,aY,rfl,a1,a2⟩:=hrel;have X:=V a1;have F:=V a2;clear a1 a2;by_cases R:a<b.length
 .have aP:=rO a b.length
  obtain⟨g,o,aR,b5,s,rfl,z,A,b2,b4,aV,aX⟩:=(Y.o.same F.o).getR R;have L:=V s;obtain⟨h,r⟩:=rK (wr.alloc (.cells #[.int .i32 g,.int .i32 o] 117));have m:h.cell? ⟨wr.heap.size,0,none⟩=some (.int .i32 g):=(by rw[r,Az5];rfl);have n:h.cell? ⟨wr.heap.size,1,none⟩=some (.int .i32 o):=(by rw[r,Az5];rfl);have p:G (Cf t h):=V (by rw[r];exact F.o.alloc _);have w:G (∀C,Cf h C->C.cell? ⟨wr.heap.size,0,none⟩=some (.int .i32 g)/\C.cell? ⟨wr.heap.size,1,none⟩=some (.int .i32 o)):=V (λC s=>⟨s.cellS m iD,s.cellS n iD⟩);have y:=V r;clear m n;clear s r;by_cases O:o<g
  .have a7:decide (o<g)=true:=by simpa using O
   have q:G (fN b=false):=V (fL R (pc L.o O));go_upto_region 4 with fail
   rw[<-y.o];clear z A;refine ws (λc=>Cf h c) ?_;(iterate 20 (first|refine sq ?_|refine rq ?_ (by intro _ c _ e;obtain⟨m,n⟩:=w.o c e;(try have k:=e.cellS u.o iD);(try have l:=v.o);(try have N:=x.o);go_simp;try with_reducible rfl)))
   refine zW ?_;intro U f;have i:=V (p.o.trans f);clear f;go_wp2;go_ret
   exact⟨by rw[q.o];rfl,i.o⟩
  have a7:decide (o<g)=false:=by simpa using O
  by_cases a3:a=0
  .have K:G (∀d,d<a+1->apOk b d=true):=V (λd aM=>by
    obtain rfl:d=a:=H;have aI:=L.o;subst a3;exact pd aI H)
   have a8:decide (0<(a:Int))=false:=sO;have a9:decide (0<a)=false:=sO;clear a3;go_upto_region 4 with fail
   rw[<-y.o];clear z A;refine ws (λc=>Cf h c) ?_;(iterate 20 (first|refine sq ?_|refine rq ?_ (by intro _ c _ e;obtain⟨m,n⟩:=w.o c e;(try have k:=e.cellS u.o iD);(try have l:=v.o);(try have N:=x.o);go_simp;try with_reducible rfl)))
   refine zW ?_;intro U f;have i:=V (p.o.trans f);clear f;go_wp2;go_roundw
   .exact⟨a+1,H,GN,K.o,i.o⟩
   simp[intOf];omega
  obtain⟨j,S⟩:∃j,a=j+1:=⟨a-1,H⟩
  obtain⟨b7,E,aT,b6,a4,Q,a6,k,-,b3,-,-⟩:=(Y.o.same p.o).getR (show j<b.length by omega);injection Q with Q;injection Q with aF aH;subst aF aH;have a8:decide (0<(a:Int))=true:=sO;have a9:decide (0<a)=true:=sO;have l:(a:Int)-1=(j:Int):=H;have b1:j<b.length:=H;have b0:(1:Int)<=a:=H;have aO:=V S;have v:=V l;have x:G (IntKind.i64.wrap (j:Int)=j):=V (IntWalk.i64_in _ H);have W:G (apOk b a=decide (E<g)):=V (by have:=L.o;rw[S]at this ⊢;exact pe this a4 H);have u:=V k;clear a4 S l a6 k;by_cases P:g<=E
  .have aB:decide (g<=E)=true:=by simpa using P
   have q:G (fN b=false):=V (fL R (by rw[W.o];simpa using P));go_upto_region 4 with fail
   rw[<-y.o];clear z A;refine ws (λc=>Cf h c) ?_;(iterate 20 (refine rq ?_ (by intro _ c _ e;obtain⟨m,n⟩:=w.o c e;(try have k:=e.cellS u.o iD);(try have l:=v.o);(try have N:=x.o);go_simp;try with_reducible rfl)))
   refine zW ?_;intro U f;have i:=V (p.o.trans f);clear f;go_wp2;go_ret
   exact⟨by rw[q.o];rfl,i.o⟩
  have aB:decide (g<=E)=false:=by simpa using P
  have K:G (∀d,d<a+1->apOk b d=true):=V (λd aM=>by
   by_cases aK:d=a
   .rw[aK,W.o];simp;omega
   exact X.o d H)
  go_upto_region 4 with fail
  rw[<-y.o];clear z A;refine ws (λc=>Cf h c) ?_;(iterate 20 (refine rq ?_ (by intro _ c _ e;obtain⟨m,n⟩:=w.o c e;(try have k:=e.cellS u.o iD);(try have l:=v.o);(try have N:=x.o);go_simp;try with_reducible rfl)))
  refine zW ?_;intro U f;have i:=V (p.o.trans f);clear f;go_wp2;go_roundw
  .exact⟨a+1,H,GN,K.o,i.o⟩
  simp[intOf];omega
 obtain rfl:a=b.length:=H
 have q:G (fN b=true):=V (kx X.o);go_wp2;go_ret
 exact⟨by rw[q.o];rfl,F.o⟩
def ia (g:FuncId) (h:Array Value) (i:List Int->Bool) (e:Nat) (j:World):Prop:=∀(a:List Int) (c:Option Addr) (d:Nat) (b:World),intE.In b e (c,a.length,d) a->a.length<=1000000000->Cf j b ->
 Calls prog g (#[.slice c a.length d]++h) b λf k=>f=.returned (.bool (i a))/\Cf b k
theorem rN.getIn {i:List (List Int)}(l:rN w a (F,b,c) i) {j:Nat}(u:j<i.length) :
  ∃(e:List Int) (d h:Nat) (f:Option Addr) (g:Nat),i[j]?=some e/\F=some ⟨d,h,none⟩/\w.cell? ⟨d,h+j,none⟩=some (.slice f e.length g)/\intE.In w a (f,e.length,g) e/\d<w.heap.size/\a<=d:=by
 obtain⟨e,d,h,f,g,k,v,m,n,o,p,q,r,s,t⟩:=l.get u;exact⟨e,d,h,f,g,m,n,o,⟨D,p,k,v,er.2 q,r⟩,s,t⟩
theorem yp (k:FuncId) (L:Array Value) (f:List Int->Bool) (a:List (List Int)) (x:Option Addr) (z v:Nat) (d:World) (a0:∀y d,(callFunc k y).run prog d=.ok (.enter k y) d) (l:rN d v (x,a.length,z) a) (K:ia k L f v d) (a4:a.length<=1000000000) (F:∀T∈a,T.length<=1000000000) :
  Calls prog 166 #[.slice x a.length z,.func (.func k) #[] L] d λq X=>q=.returned (.int .i64 (idxV f a))/\Cf d X:=by
 obtain⟨O,Q,P⟩:=rZ l K F;clear l K F;go_enter func166,ntmps166
 go_wp2
 go_loopw [8] (λt wr=>∃b:Nat,b<=a.length/\t=.int .i64 b/\(∀(c:Nat) e,c<b->a[c]?=some e->f e=false)/\Cf d wr) (λt _=>a.length-(intOf t).toNat)
 .exact⟨0,H,D,λc e l=>absurd l (Ax1 _),cR⟩
 obtain⟨b,a3,rfl,B,C⟩:=hrel;have m:=V B;have i:=V C;clear B C;by_cases S:b<a.length
 .have Z:=rO b a.length
  obtain⟨u,a1,a5,U,W,r,rfl,A,E,-,-⟩:=(O.o.same i.o).getIn S;have w:=V r;have g:=Q.o u U W wr E (P.o u (Az1 r)) i.o;clear r E;cases h:f u with
  | true =>
   rw[h]at g;have p:G (idxV f a=b):=V (tJ w.o h m.o);have o:=V g;clear g h;go_wp2_with fail
   refine o.o.mono ?_;rintro q Y ⟨rfl,j⟩;have n:=V (i.o.trans j);clear j A;go_wp2;go_ret
   exact⟨by rw[p.o];rfl,n.o⟩
  | false =>
   rw[h]at g;have N:G (∀(c:Nat) e,c<b+1->a[c]?=some e->f e=false):=V (λc e a2 s=>by
    by_cases R:c=b
    .subst R;rw[w.o]at s;obtain rfl:=Az2 s;exact h
    exact m.o c e H s)
   have o:=V g;clear g h;go_wp2_with fail
   refine o.o.mono ?_;rintro q Y ⟨rfl,j⟩;have n:=V (i.o.trans j);clear j A;go_wp2;go_roundw
   .exact⟨b+1,H,GN,N.o,n.o⟩
   simp[intOf];omega
 obtain rfl:b=a.length:=H
 have p:G (idxV f a=-1):=V (qW m.o);go_wp2;go_ret
 exact⟨by rw[p.o];rfl,i.o⟩
theorem yq (c:FuncId) (j:Array Value) (d:List Int->Bool) (a:List (List Int)) (f:Option Addr) (g e:Nat) (b:World) (w:∀k b,(callFunc c k).run prog b=.ok (.enter c k) b) (m:rN b e (f,a.length,g) a) (p:ia c j d e b) (x:a.length<=1000000000) (o:∀y∈a,y.length<=1000000000) :
  Calls prog 127 #[.slice f a.length g,.func (.func c) #[] j] b λl z=>l=.returned (.bool (a.any d))/\Cf b z:=by
 obtain⟨s,v,t⟩:=rZ m p o;clear m p o;rcases sG d a with ⟨A,C,-,-,h,-,i⟩|⟨h,-,i⟩
 all_goals
  have r:=V h;have u:=V i;clear h i;go_enter func127,ntmps127
  go_wp2_with fail
  refine (yp c j d a f g e _ w s.o v.o x t.o).mono ?_;rintro l B ⟨rfl,n⟩;rw[r.o];have q:=V n;clear n;go_wp2;go_ret
  exact⟨by rw[u.o];rfl,q.o⟩
def cf (e:Int):Bool:=decide (e < -1)
def bb (n:Nat) (s:Int):Bool:=decide (s < -1) || decide ((n:Int)<=s)
def cY (b:Int) (c:Nat) (a:List Int):Bool:=!decide ((a.length:Int)=b) || a.any (bb c)
theorem yr (c:Int) (a:Nat) (b:List Int):cY c a b=!rowB c a b:=by
 have e:(!b.all (inB (-1) a))=b.any (bb a):=by
  rw[List.not_all_eq_any_not]
  congr 1
  funext d
  unfold inB bb;by_cases f:d < -1 <;> by_cases g:(a:Int)<=d
  all_goals simp[f,g]
  all_goals omega
 unfold cY rowB;rw[Bool.not_and,e]
theorem ys (a:World):ce 126 #[] cf a:=by
 intro c b e d;show Calls prog 126 #[.int .i64 c] b _;go_enter func126,ntmps126
 go_wp2;go_ret
 exact⟨D,cR⟩
theorem yt (e b:Nat) (j:Option Addr) (k:Nat) (f:World) (h:f.cell? ⟨e,2,none⟩=some (.slice j b k)):ce 129 #[.pointer (some ⟨e,0,none⟩)] (bb b) f:=by
 intro a l n i;have m:=i.cellS h iD;show Calls prog 129 #[.int .i64 a,.pointer (some ⟨e,0,none⟩)] l _;by_cases c:a < -1
 .have d:G (bb b a=true):=V (by simp[bb,c])
  have g:decide (a < -1)=true:=by simpa using c
  go_enter func129,ntmps129
  go_wp2;go_ret
  exact⟨by rw[d.o];rfl,cR⟩
 have d:G (bb b a=decide ((b:Int)<=a)):=V (by simp[bb,c])
 have g:decide (a < -1)=false:=by simpa using c
 go_enter func129,ntmps129
 go_wp2;go_ret
 exact⟨by rw[d.o];rfl,cR⟩
theorem yu (g e c i:Nat) (b:Int) (r:Option Addr) (s:Nat) (h:World) (m:h.cell? ⟨g,0,none⟩=some (.int .i64 b)) (l:h.cell? ⟨e,2,none⟩=some (.slice r c s)):ia 128 #[.pointer (some ⟨g,0,none⟩),.pointer (some ⟨e,0,none⟩)] (cY b c) i h:=by
 intro a j k t q z o;have B:=o.cellS m iD;have n:=o.cellS l iD;have y:=enters_of func129 M D;have w:=V q;have v:=V (yt e c r s t n);clear q n l m;show Calls prog 128 #[.slice j a.length k,.pointer (some ⟨g,0,none⟩),.pointer (some ⟨e,0,none⟩)] t _;by_cases d:(a.length:Int)=b
 .have f:G (cY b c a=a.any (bb c)):=V (by simp[cY,d])
  have x:((a.length:Int) != b)=false:=by simpa using d
  clear d;go_enter func128,ntmps128
  go_wp2_with fail
  refine (mC _ _ (bb c) a j k i _ y w.o v.o z).mono ?_;rintro A C ⟨rfl,p⟩;have u:=V p;clear p;go_wp2;go_ret
  exact⟨by rw[f.o];rfl,u.o⟩
 have f:G (cY b c a=true):=V (by simp[cY,d])
 have x:((a.length:Int) != b)=true:=by simpa using d
 clear d;go_enter func128,ntmps128
 go_wp2;go_ret
 exact⟨by rw[f.o];rfl,cR⟩
theorem yv {b:LexD}(a:b.e.any cf=true):mayT b=false:=tW (λf=>by
 rw[Au8]at a;obtain⟨c,d,e⟩:=a;have:=f.eb c d;simp[cf]at e
 omega)
theorem yw {a:LexD}(i:fN a.r=true) (j:a.c.length=a.r.length) (k:0<a.n.length) (l:a.e.length=a.n.length) (m:∀e∈a.c,0<=e/\e<a.c.length) (n:bg a.c=true) (f:a.e.any cf=false) :
  mayT a=!a.n.any (cY (vC a.c) a.n.length):=by
 have b:a.n.all (rowB (vC a.c) a.n.length)=!a.n.any (cY (vC a.c) a.n.length):=by
  rw[List.not_any_eq_all_not]
  congr 1
  funext o
  rw[yr,Bool.not_not]
 have g:a.e.all (λb=>decide (-1<=b))=true:=by
  rw[Aw0];intro d c;rw[Aw4]at f;have:=f d c;simp[cf]at this
  simpa using this
 have h:a.c.all (inB 0 a.c.length)=true:=by
  rw[Aw0];intro d c;have:=m d c;simp[inB]
  exact this
 unfold mayT;rw[i,h,n,g,b,decide_eq_true (show a.c.length=a.r.length/\0<a.n.length/\a.e.length=a.n.length from ⟨j,k,l⟩)];simp
theorem pf (b:∀a:Nat,(a:Int)<vC X->hasB a X=true):bg X=true:=by
 unfold bg;rw[Aw0];intro a c;rw[<-oz];exact b a (by have:=At1.1 c;omega)
theorem ph {j:Nat}(b:(j:Int)<vC X) (a:hasB j X=false):bg X=false:=by
 unfold bg;rw[List.all_eq_false];exact⟨j,At1.2 H,by rw[<-oz,a];simp⟩
def MayW (a:World) (b:Nat) (f c e d:Sl) (g:Int) (wr:World):Prop :=
 (wr.cell? ⟨a.heap.size,0,none⟩=some (slV f)/\wr.cell? ⟨a.heap.size,1,none⟩=some (slV c)/\wr.cell? ⟨a.heap.size,2,none⟩=some (slV e)/\wr.cell? ⟨a.heap.size,3,none⟩=some (slV d))/\(wr.cell? ⟨b,0,none⟩=some (.int .i64 g)/\wr.frozen? ⟨b,0,none⟩=false)/\Cf a wr/\a.heap.size<b
theorem MayW.chg {h wr i:World}{g c f d:Sl}(j:MayW h a g c f d x wr) (b:Cf wr i):MayW h a g c f d x i:=by
 obtain⟨⟨k,l,m,n⟩,⟨e,o⟩,q,r⟩:=j;exact⟨⟨b.cellS k iD,b.cellS l iD,b.cellS m iD,b.cellS n iD⟩,⟨b.cellS e iD,(b.frozen (p:=⟨a,0,none⟩) (Az8 _ _ e) iD).trans o⟩,q.trans b,r⟩
theorem MayW.set {d wr:World}{i e h f:Sl}(j:MayW d a i e h f x wr) (c:Int):MayW d a i e h f c (wr.setCell ⟨a,0,none⟩ (.int .i64 c)):=by
 obtain⟨⟨k,l,m,n⟩,⟨o,p⟩,q,r⟩:=j;have b:=zA wr a 0 (.int .i64 c);exact⟨⟨b.cellS k (by simp only;omega),b.cellS l (by simp only;omega),b.cellS m (by simp only;omega),b.cellS n (by simp only;omega)⟩,⟨Az9 _ _ _ o,(Az3 _ _ _ _).trans p⟩,(q.any.trans (b.mono (T:=λg=>d.heap.size<=g) (λg _ s=>H))).fresh,r⟩
end Go.Proofs.YtgnpmceimpjheaaGreat
