/- A part of the proof: RMn RMc RefMayT RMt. -/
import Derived.Test.YtgnpmceimpjheaaGreatGG13
set_option maxRecDepth 100000
set_option maxHeartbeats 16000000
namespace Go.Proofs.YtgnpmceimpjheaaGreat
open Go.RowKit Go.Proofs.Tryz
variable {a b c d e f g h i j k l m n o p q r:Nat}{w v u t s:World}{X Y W L T:List Int}{A B C E Z:Value}{x y z:Int}{N R:Bool}{F Q:Option Addr}{S P:Nat->Prop}
theorem En (aI:NetD) (eK:NetS) (e2:Nat->Prop) (B:World) (d:DNetIn B e2 eK aI) (b3:FairN aI) (eF:∀a1∈aI.st,∀k∈a1.2.1,0<=k.1) :
  Calls prog 46 #[netV eK] B λk eP=>k=.returned (.bool (sY aI))/\Cf B eP:=by
 obtain⟨⟨cP,b7,c4⟩,⟨c1,i1,c5⟩,⟨cS,eM,cV⟩,⟨c2,eO,c6⟩,⟨aY,i2,c7⟩⟩:=eK;obtain⟨e7,E,a7,Z,b1⟩:=d;obtain⟨rfl,-⟩:=e7.len;obtain⟨rfl,-⟩:=E.len;obtain⟨rfl,-⟩:=a7.len;obtain⟨rfl,-⟩:=Z.len;obtain⟨rfl,-⟩:=b1.len;obtain⟨gV,gX,gZ,h0,h1,fP⟩:=b3;have f0:=V (zL.bnd e7 fP);have f1:=V E;have f2:=V a7;have f3:=V Z;have f4:=V b1;have fB:=V eF;have fF:=V (λ(d:sY aI=true->False)=>Dw d);have a6:=V (aW aI);clear e7 E a7 Z b1 fP eF;obtain⟨c,i,R,j,t⟩:=aI;simp only at gV gX gZ h0 h1 f0 f1 f2 f3 f4 fB a6 ⊢;obtain⟨s,fR⟩:=rM (sY ⟨c,i,R,j,t⟩);rw[fR]at fF a6 ⊢;clear fR;obtain⟨a8,b6⟩:=rK (B.alloc (.cells #[.slice cP c.length c4,.slice c1 i.length c5,.slice cS R.length cV,.slice c2 j.length c6,.slice aY t.length c7] 40));have y:G (Cf B a8):=V (by rw[b6];exact (J.refl _ B).alloc _);have bT:G (∀l,Cf a8 l->l.cell? ⟨B.heap.size,0,none⟩=some (.slice cP c.length c4)/\l.cell? ⟨B.heap.size,1,none⟩=some (.slice c1 i.length c5)/\l.cell? ⟨B.heap.size,2,none⟩=some (.slice cS R.length cV)/\l.cell? ⟨B.heap.size,3,none⟩=some (.slice c2 j.length c6)/\l.cell? ⟨B.heap.size,4,none⟩=some (.slice aY t.length c7)):=V (λl p=>by
  have E:∀a v,(#[.slice cP c.length c4,.slice c1 i.length c5,.slice cS R.length cV,.slice c2 j.length c6,.slice aY t.length c7]:Array Value)[a]?=some v->l.cell? ⟨B.heap.size,a,none⟩=some v:=λa v cA=>p.cellS (by rw[b6];exact zG _ D cA) iD
  exact⟨E 0 _ D,E 1 _ D,E 2 _ D,E 3 _ D,E 4 _ D⟩)
 obtain⟨aK,aM,aO,aP,aR⟩:=bT.o a8 cR;show Calls prog 46 #[.agg #[.slice cP c.length c4,.slice c1 i.length c5,.slice cS R.length cV,.slice c2 j.length c6,.slice aY t.length c7]] B _;by_cases b5:i.length=R.length
 rotate_left
 .have gS:((i.length:Int) != (R.length:Int))=true:=by simp;omega
  have hS:(i.length != R.length)=true:=by simpa using b5
  have q:G (s=false):=V (by cases s with
   | true=>exact (b5 (a6.o.1 D).1).elim
   | false=>rfl)
  clear b5;go_enter func46,ntmps46
  go_upto_region 1 with fail
  rw[<-b6];clear b6;go_wp2;go_ret
  exact⟨by rw[q.o];rfl,y.o⟩
 have gS:((i.length:Int) != (R.length:Int))=false:=by simp[b5]
 have dV:=V b5;have cM:G (∀e1:Prop,(s=true->e1)->¬e1->s=false):=V (λe1 d h9=>by cases s with
  | true=>exact (h9 (d D)).elim
  | false=>rfl)
 clear b5 fF;go_enter func46,ntmps46
 go_upto_region 1 with fail
 rw[<-b6];clear b6;go_wp2
 go_loopw [4] (λu wr=>∃m:Nat,m<=i.length/\u=.int .i64 m/\(∀(a:Nat) b,a<m->i[a]?=some b\/R[a]?=some b->xW c.length b=true)/\Cf a8 wr) (λu _=>i.length-(intOf u).toNat)
 .exact⟨0,H,D,λa cX d=>absurd d (Ax1 _),cR⟩
 clear aK aM aO aP aR;obtain⟨e,fZ,rfl,a9,a0⟩:=hrel;obtain⟨N,rfl⟩:∃b:World,b=wr:=⟨_,D⟩;have X:=V a9;have x:=V a0;obtain⟨aK,aM,aO,aP,aR⟩:=bT.o N a0;clear a9 a0;by_cases b4:e<i.length
 .have c3:=rO e i.length
  have h5:e<R.length:=(by rw[<-dV.o];exact b4);obtain⟨b,d2,dD,p,rfl,b0,-,-,-,-⟩:=(f1.o.chg (y.o.trans x.o) iF).getI b4;obtain⟨P,hV,i3,eI,rfl,e3,-,-,-,-⟩:=(f2.o.chg (y.o.trans x.o) iF).getI h5;have c0:=V p;have fM:=V eI;clear p eI;go_upto_region 7 with fail
  go_cut [60] from 22 to 60 (λv O=>v=.bool (!xW c.length b || !xW c.length P)/\O=N)
  .as_aux_lemma =>
   obtain⟨z,S⟩:=rM (decide (b<0));obtain⟨A,a4⟩:=rM (decide ((c.length:Int)<=b));obtain⟨aF,e5⟩:=rM (decide (P<0));obtain⟨aH,e6⟩:=rM (decide ((c.length:Int)<=P));have L:G ((!xW c.length b || !xW c.length P)=(z || (A || (aF || aH)))):=V (by
    rw[<-S,<-a4,<-e5,<-e6,Au7];simp[xW];omega)
   rcases lad4 z A aF aH with rfl|⟨rfl,rfl⟩|⟨rfl,rfl,rfl⟩|⟨rfl,rfl,rfl,rfl⟩|⟨rfl,rfl,rfl,rfl⟩ <;>
   (go_wp2_with fail;go_meet;exact⟨by rw[L.o];rfl,D⟩)
  as_aux_lemma =>
  obtain⟨rfl,rfl⟩:=hcut;obtain⟨aZ,h⟩:=rM (!xW c.length b || !xW c.length P);rw[h];have L:=V h;clear h;cases aZ with
  | true =>
   have q:G (s=false):=V (cM.o _ a6.o.1 (λ⟨_,d,_⟩=>by
    have h:=L.o;rw[d b (List.mem_append_left _ (Az1 c0.o)),d P (List.mem_append_right _ (Az1 fM.o))]at h;cases h))
   go_wp2;go_ret
   exact⟨by rw[q.o];rfl,y.o.trans x.o⟩
  | false =>
   have Y:G (∀(a:Nat) w,a<e+1->i[a]?=some w\/R[a]?=some w->xW c.length w=true):=V (λa w o r=>by
    by_cases c8:a=e
    .subst c8
     have h:=L.o;rw[Bool.or_eq_false_iff,Bool.not_eq_false',Bool.not_eq_false']at h;rw[c0.o,fM.o]at r;rcases r with r|r
     .rw[<-Az2 r];exact h.1
     rw[<-Az2 r];exact h.2
    exact X.o a w H r)
   go_wp2;go_roundw
   .first|exact⟨e+1,H,GN,Y.o,x.o⟩|((repeat apply Ay4);exact⟨⟨e+1,H,GN,Y.o,x.o⟩,D⟩)
   simp[intOf];omega
 obtain rfl:e=i.length:=H
 have c3:=rP i.length;have gF:G (∀b∈i++R,xW c.length b=true):=V (λb p=>by
  rcases Aw9.1 p with p|p
  .obtain⟨a,o⟩:=Aw1 p
   exact X.o a b (Az0.1 o).1 (.inl o)
  obtain⟨a,o⟩:=Aw1 p
  exact X.o a b (by rw[dV.o];exact (Az0.1 o).1) (.inr o))
 clear X;go_wp2_with fail
 obtain⟨hK,rfl⟩:∃b:World,b=N:=⟨_,D⟩
 go_loopw [5] (λu wr=>∃m:Nat,m<=j.length/\u=.int .i64 m/\(∀(a:Nat) b,a<m->j[a]?=some b->pJ c.length b=false)/\Cf a8 wr) (λu _=>j.length-(intOf u).toNat)
 .exact⟨0,H,D,λa cX d=>absurd d (Ax1 _),x.o⟩
 clear aK aM aO aP aR x;obtain⟨e,fZ,rfl,a9,a0⟩:=hrel;obtain⟨N,rfl⟩:∃b:World,b=wr:=⟨_,D⟩;have X:=V a9;have x:=V a0;obtain⟨aK,aM,aO,aP,aR⟩:=bT.o N a0;clear a9 a0;by_cases b4:e<j.length
 .have c3:=rO e j.length
  obtain⟨b,d2,dD,p,rfl,b0,-,-,-,-⟩:=(f3.o.chg (y.o.trans x.o) iF).getI b4;have c0:=V p;clear p;go_upto_region 12 with fail
  go_cut [83] from 61 to 83 (λv O=>v=.bool (pJ c.length b)/\O=N)
  .as_aux_lemma =>
   obtain⟨z,S⟩:=rM (decide (b<0));obtain⟨A,a4⟩:=rM (decide ((c.length:Int)-1<=b));have L:G (pJ c.length b=(z || A)):=V (by rw[<-S,<-a4];rfl);rcases lad2 z A with rfl|⟨rfl,rfl⟩|⟨rfl,rfl⟩ <;>
   (go_wp2_with fail;go_meet;exact⟨by rw[L.o];rfl,D⟩)
  as_aux_lemma =>
  obtain⟨rfl,rfl⟩:=hcut;obtain⟨aZ,h⟩:=rM (pJ c.length b);rw[h];have L:=V h;clear h;cases aZ with
  | true =>
   have q:G (s=false):=V (cM.o _ a6.o.1 (λ⟨_,_,d,_⟩=>by
    have h:=L.o;rw[d b (Az1 c0.o)]at h;cases h))
   go_wp2;go_ret
   exact⟨by rw[q.o];rfl,y.o.trans x.o⟩
  | false =>
   have Y:G (∀(a:Nat) w,a<e+1->j[a]?=some w->pJ c.length w=false):=V (λa w o r=>by
    by_cases c8:a=e
    .subst c8
     rw[c0.o]at r;rw[<-Az2 r];exact L.o
    exact X.o a w H r)
   go_wp2;go_roundw
   .first|exact⟨e+1,H,GN,Y.o,x.o⟩|((repeat apply Ay4);exact⟨⟨e+1,H,GN,Y.o,x.o⟩,D⟩)
   simp[intOf];omega
 obtain rfl:e=j.length:=H
 have c3:=rP j.length;have gH:G (∀b∈j,pJ c.length b=false):=V (λb p=>by
  obtain⟨a,o⟩:=Aw1 p;exact X.o a b (Az0.1 o).1 o)
 clear X;go_wp2_with fail
 obtain⟨hK,rfl⟩:∃b:World,b=N:=⟨_,D⟩
 go_loopw [6,7] (λhD u wr=>∃(e m:Nat),e<=c.length/\u=.int .i64 e/\hD=.int .i64 m/\(∀(a:Nat) a1,a<e->c[a]?=some a1->stOk c.length i.length j.length a1=true)/\DecsAt c t e m/\Cf a8 wr) (λ_ u _=>c.length-(intOf u).toNat)
 .exact⟨0,0,H,D,D,λa cX d=>absurd d (Ax1 _),DecsAt.start _ _,x.o⟩
 clear aK aM aO aP aR x;obtain⟨e,m,fZ,rfl,rfl,a9,eD,a0⟩:=hrel;obtain⟨N,rfl⟩:∃b:World,b=wr:=⟨_,D⟩;obtain⟨X,cI,x⟩:=rZ a9 eD a0;have eF:=eD.l;obtain⟨aK,aM,aO,aP,aR⟩:=bT.o N a0;clear a9 a0 eD;by_cases b4:e<c.length
 .have c3:=rO e c.length
  obtain⟨⟨a2,⟨cZ,hU,d0⟩,⟨dF,iA,dH⟩⟩,⟨i9,n,g⟩,d1,dB,d3,⟨⟨g2,⟨hM,hN⟩,d8,d9⟩,h3,h4⟩,rfl,-,hY,-,fT⟩:=((zL.good (bR.good dStR.good)).chg f0.o (y.o.trans x.o) iF).get3 (f:=hJ) D b4 D;simp only at g2 hM hN d8 d9 h3 h4;subst g2;obtain⟨rfl,-⟩:=d8.len;obtain⟨rfl,-⟩:=d9.len;obtain⟨hH,g3,g4⟩:=fT _ _ _ D;simp only[slV]at g3 g4;have cH:=V d3;have aD:G (stOk c.length i.length j.length (a2,n,g)=false->s=false):=V (λb3=>cM.o _ a6.o.1 (λ⟨_,_,_,d,_⟩=>by
   rw[d _ (Az1 d3)]at b3;cases b3))
  have gD:G (∀k∈n,0<=k.1):=V (fB.o _ (Az1 d3));have gI:G (∀l,Cf N l->zL nG eqR l e2 (cZ,n.length,d0) n):=V (λl p=>zL.of (d8.chg p iF));have gK:G (∀l,Cf N l->intE.InS l e2 (dF,g.length,dH) g):=V (λl p=>d9.chg p iF);obtain⟨cT,e9⟩:=rK N.heap.size;obtain⟨aV,d6⟩:=rK (N.alloc (.cells #[.int .i64 a2,.slice cZ n.length d0,.slice dF g.length dH] 121));have dM:G (Cf N aV):=V (by rw[d6];exact rT);have aX:G (Cf a8 aV):=V (x.o.trans dM.o);have cO:G (∀l,Cf aV l->l.cell? ⟨cT,0,none⟩=some (.int .i64 a2)/\l.cell? ⟨cT,1,none⟩=some (.slice cZ n.length d0)/\l.cell? ⟨cT,2,none⟩=some (.slice dF g.length dH)/\l.cell? ⟨B.heap.size,0,none⟩=some (.slice (some ⟨d1,dB,none⟩) c.length c4)/\l.cell? ⟨B.heap.size,1,none⟩=some (.slice c1 i.length c5)/\l.cell? ⟨B.heap.size,3,none⟩=some (.slice c2 j.length c6)/\l.cell? ⟨B.heap.size,4,none⟩=some (.slice aY t.length c7)):=V (λl p=>by
   have E:∀a v,(#[.int .i64 a2,.slice cZ n.length d0,.slice dF g.length dH]:Array Value)[a]?=some v->l.cell? ⟨cT,a,none⟩=some v:=λa v cA=>p.cellS (by rw[d6];exact zG _ e9 cA) iD
   obtain⟨hO,eV,g8,eX,eZ⟩:=bT.o l (aX.o.trans p);exact⟨E 0 _ D,E 1 _ D,E 2 _ D,hO,eV,eX,eZ⟩)
  clear d3 d8 d9 fT;go_upto_region 19 with fail
  rw[<-d6,<-e9];clear d6 e9 hH g3 g4 aK aM aO aP aR;obtain⟨b8,b9,bB,bD,bF,bH,bI⟩:=cO.o aV cR;obtain⟨z,S⟩:=rM (decide (a2<0));obtain⟨A,a4⟩:=rM (decide ((i.length:Int)<=a2));by_cases d4:0<=a2/\a2<(i.length:Int)
  rotate_left
  .have q:G (s=false):=V (aD.o (by
    simp only[stOk,Bool.and_eq_false_iff,decide_eq_false_iff_not];omega))
   have h:z=true\/z=false/\A=true:=by
    rcases lad2 z A with rfl|⟨rfl,rfl⟩|⟨rfl,rfl⟩
    .exact .inl D
    .exact .inr ⟨D,D⟩
    exact (d4 ⟨by simpa using S,by simpa using a4⟩).elim
   clear d4;rcases h with rfl|⟨rfl,rfl⟩ <;> (go_wp2;go_ret;exact⟨by rw[q.o];rfl,y.o.trans aX.o⟩)
  obtain rfl:z=false:=(by rw[<-S];exact decide_eq_false H);obtain rfl:A=false:=(by rw[<-a4];exact decide_eq_false H);have fH:=V d4;clear d4;go_wp2_with fail
  go_loopw [9] (λu wr=>∃(b:Nat),b<=n.length/\u=.int .i64 b/\(∀(a:Nat) k,a<b->n[a]?=some k->vL c.length i.length j.length k=false/\(0<g.length->pE k=false))/\Cf aV wr) (λu _=>n.length-(intOf u).toNat)
  .exact⟨0,H,D,λa cX d=>absurd d (Ax1 _),cR⟩
  clear b8 b9 bB bD bF bH bI;obtain⟨b,p,rfl,fV,b2⟩:=hrel;obtain⟨O,rfl⟩:∃b:World,b=wr:=⟨_,D⟩;have cK:=V fV;have a3:=V b2;obtain⟨b8,b9,bB,bD,bF,bH,bI⟩:=cO.o O b2;clear fV b2;by_cases hB:b<n.length
  .have gM:=rO b n.length
   obtain⟨⟨K,W,a5⟩,gR,hX,i5,eH,hA,rfl,-,hZ,⟨⟨eV,g8⟩,⟨eX,eZ⟩,⟨hP,hQ⟩⟩,b2⟩:=(gI.o O (dM.o.trans a3.o)).get3 (f:=de) D hB D;obtain rfl:(K,W,a5)=gR:=hA;obtain⟨b0,e3,e4⟩:=b2 _ _ _ D;simp only at b0 e3 e4 eV g8 eX eZ hP hQ;have h8:0<=K:=gD.o _ (Az1 eH);have fD:G (vL c.length i.length j.length (K,W,a5)=kneB c.length i.length j.length (K,W,a5)):=V (Dy h8);have dZ:=V eH;obtain⟨gP,e8⟩:=rK O.heap.size;obtain⟨cF,d7⟩:=rK (O.alloc (.cells #[.int .i64 K,.int .i64 W,.int .i64 a5] 123));have g9:G (Cf O cF):=V (by rw[d7];exact rT);have bV:G (Cf aV cF):=V (a3.o.trans g9.o);have g1:∀a v,(#[.int .i64 K,.int .i64 W,.int .i64 a5]:Array Value)[a]?=some v->cF.cell? ⟨gP,a,none⟩=some v:=λa v cA=>by rw[d7];exact zG _ e8 cA
   have dT:=V g1;clear eH b2 g1;go_upto_region 25 with fail
   rw[<-d7,<-e8];clear d7 e8 b0 e3 e4 b8 b9 bB bD bF bH bI;obtain⟨b8,b9,bB,bD,bF,bH,bI⟩:=cO.o cF bV.o;have i6:=dT.o 0 _ D;have i7:=dT.o 1 _ D;have i8:=dT.o 2 _ D
   go_cut [176] from 105 to 185 (λv O=>v=.bool (kneB c.length i.length j.length (K,W,a5))/\O=cF)
   .as_aux_lemma =>
    have hT:decide (K<0)=false:=decide_eq_false H;obtain⟨z,S⟩:=rM (decide (3<K));obtain⟨A,a4⟩:=rM (decide (W<0));obtain⟨aF,e5⟩:=rM (decide (a5<0));obtain⟨aH,e6⟩:=rM (decide ((c.length:Int)<=a5));obtain⟨C,b7⟩:=rM (K == 0);obtain⟨T,eM⟩:=rM (K == 2);obtain⟨U,eO⟩:=rM (K == 3);obtain⟨dI,hE⟩:=rM (W != 0);obtain⟨bO,hF⟩:=rM (decide ((i.length:Int)<=W));obtain⟨bP,hG⟩:=rM (decide ((j.length:Int)<=W));have L:G (kneB c.length i.length j.length (K,W,a5)=(z || (A || (aF || (aH || ((C && dI) || ((T && bO) || (U && bP)))))))):=V (by rw[<-S,<-a4,<-e5,<-e6,<-b7,<-eM,<-eO,<-hE,<-hF,<-hG];rfl);have g0:C=false/\T=false/\U=false\/C=true/\T=false/\U=false\/C=false/\T=true/\U=false\/C=false/\T=false/\U=true:=by
     rw[<-b7,<-eM,<-eO];simp only[beq_eq_false_iff_ne,beq_iff_eq];omega
    have h:z=true\/z=false/\(A=true\/A=false/\(aF=true\/aF=false/\(aH=true\/aH=false/\(C=false/\T=false/\U=false\/C=true/\T=false/\U=false/\dI=true\/C=true/\T=false/\U=false/\dI=false\/C=false/\T=true/\U=false/\bO=true\/C=false/\T=true/\U=false/\bO=false\/C=false/\T=false/\U=true/\bP=true\/C=false/\T=false/\U=true/\bP=false)))):=by
     rcases lad4 z A aF aH with rfl|⟨rfl,rfl⟩|⟨rfl,rfl,rfl⟩|⟨rfl,rfl,rfl,rfl⟩|⟨rfl,rfl,rfl,rfl⟩
     .exact .inl D
     .exact .inr ⟨D,.inl D⟩
     .exact .inr ⟨D,.inr ⟨D,.inl D⟩⟩
     .exact .inr ⟨D,.inr ⟨D,.inr ⟨D,.inl D⟩⟩⟩
     refine .inr ⟨D,.inr ⟨D,.inr ⟨D,.inr ⟨D,?_⟩⟩⟩⟩
     rcases g0 with ⟨rfl,rfl,rfl⟩|⟨rfl,rfl,rfl⟩|⟨rfl,rfl,rfl⟩|⟨rfl,rfl,rfl⟩ <;> cases dI <;> cases bO <;> cases bP <;> simp
    clear g0;rcases h with rfl|⟨rfl,rfl|⟨rfl,rfl|⟨rfl,rfl|⟨rfl,⟨rfl,rfl,rfl⟩|⟨rfl,rfl,rfl,rfl⟩|⟨rfl,rfl,rfl,rfl⟩|⟨rfl,rfl,rfl,rfl⟩|⟨rfl,rfl,rfl,rfl⟩|⟨rfl,rfl,rfl,rfl⟩|⟨rfl,rfl,rfl,rfl⟩⟩⟩⟩⟩ <;>
    (go_wp2_with fail;go_meet;exact⟨by rw[L.o];rfl,D⟩)
   as_aux_lemma =>
   obtain⟨rfl,rfl⟩:=hcut;rw[<-fD.o];obtain⟨aZ,h⟩:=rM (vL c.length i.length j.length (K,W,a5));rw[h];have L:=V h;clear h fD;cases aZ with
   | true =>
    have q:G (s=false):=V (aD.o (by
     have:n.any (vL c.length i.length j.length)=true:=Au8.2 ⟨_,Az1 dZ.o,L.o⟩;simp[stOk,gJ,this]))
    go_wp2;go_ret
    exact⟨by rw[q.o];rfl,y.o.trans (aX.o.trans bV.o)⟩
   | false =>
    obtain⟨cB,u0⟩:=rM (decide ((0:Int)<(g.length:Int)));have g5:decide (0<g.length)=cB:=(by rw[<-u0];exact decide_eq_decide.2 H);obtain⟨C,b7⟩:=rM (K != 0);have h:cB=true/\C=true\/cB=false\/cB=true/\C=false:=(by cases cB <;> cases C <;> simp);rcases h with ⟨rfl,rfl⟩|h
    .have q:G (s=false):=V (aD.o (by
      have E:n.any pE=true:=Au8.2 ⟨_,Az1 dZ.o,by simpa [pE] using b7⟩;have a7:decide (g.length=0)=false:=decide_eq_false (by have:=of_decide_eq_true g5;omega);simp only[stOk,gJ,E,a7];simp))
     go_wp2;go_ret
     exact⟨by rw[q.o];rfl,y.o.trans (aX.o.trans bV.o)⟩
    have Y:G (∀(a:Nat) k,a<b+1->n[a]?=some k->vL c.length i.length j.length k=false/\(0<g.length->pE k=false)):=V (λa k o F=>by
     by_cases h6:a=b
     .subst h6
      rw[dZ.o]at F;rw[<-Az2 F];refine⟨L.o,λd=>?_⟩;rcases h with rfl|⟨rfl,rfl⟩
      .exact (of_decide_eq_false g5 d).elim
      simpa [pE] using b7
     exact cK.o a k H F)
    rcases h with rfl|⟨rfl,rfl⟩ <;>
    ( go_wp2
      go_roundw
      .first|exact⟨b+1,H,GN,Y.o,bV.o⟩|((repeat apply Ay4);exact⟨⟨b+1,H,GN,Y.o,bV.o⟩,D⟩)
      simp[intOf];omega )
  obtain rfl:b=n.length:=H
  have gM:=rP n.length;have dP:G (n.any (vL c.length i.length j.length)=false):=V (by
   rw[Aw4];intro k F;obtain⟨a,o⟩:=Aw1 F;rw[(cK.o a k (Az0.1 o).1 o).1];exact Au6)
  have f7:G (0<g.length->n.any pE=false):=V (λd=>by
   rw[Aw4];intro k F;obtain⟨a,o⟩:=Aw1 F;rw[(cK.o a k (Az0.1 o).1 o).2 d];exact Au6)
  have f8:G (stOk c.length i.length j.length (a2,n,g)=true->∀(a:Nat) a1,a<e+1->c[a]?=some a1->stOk c.length i.length j.length a1=true):=V (λb3 a a1 o c9=>by
   by_cases c8:a=e
   .subst c8
    rw[cH.o]at c9;rw[<-Az2 c9];exact b3
   exact X.o a a1 H c9)
  have Q:G (Cf a8 O):=V (aX.o.trans a3.o);clear cK;by_cases aB:g.length=0
  .have u1:((g.length:Int) == 0)=true:=by simp[aB]
   have hI:(g.length == 0)=true:=(by simp[aB]);have bZ:=V (f8.o (by
    have:=fH.o;simp[stOk,gJ,dP.o,aB,this.1,this.2]))
   have bX:=V (cI.o.skip cH.o aB);clear aB;go_wp2;go_roundw
   .first|exact⟨e+1,m,H,GN,D,bZ.o,bX.o,Q.o⟩|((repeat apply Ay4);exact⟨⟨e+1,m,H,GN,D,bZ.o,bX.o,Q.o⟩,D⟩)
   simp[intOf];omega
  have d5:0<g.length:=H;have u1:((g.length:Int) == 0)=false:=(by rw[beq_eq_false_iff_ne];omega);have hI:(g.length == 0)=false:=(by rw[beq_eq_false_iff_ne];omega);obtain⟨w,r⟩:∃w:Option Int,t[m]?=w:=⟨_,D⟩;have fO:=V r;obtain⟨bK,hL⟩:=rM (decide ((g.length:Int)<2));have g6:decide (g.length<2)=bK:=(by rw[<-hL];exact decide_eq_decide.2 H);obtain⟨bM,bO⟩:=rM ((g.length:Int) != (n.length:Int));have g7:(g.length != n.length)=bM:=(by rw[<-bO,bneC]);obtain⟨aT,bP⟩:=rM (decide ((t.length:Int)<=(m:Int)));have eT:decide (t.length<=m)=aT:=(by rw[<-bP];exact decide_eq_decide.2 H);obtain⟨cD,dK⟩:=rM (w.getD 0 != (e:Int));have dX:G (bK=true\/bM=true->stOk c.length i.length j.length (a2,n,g)=false):=V (λd=>by
   have a7:(decide (g.length=n.length) && decide (2<=g.length))=false:=by
    rw[<-g6,<-g7]at d;simp only[Bool.and_eq_false_iff,decide_eq_false_iff_not];simp only[decide_eq_true_eq,bne_iff_ne]at d;omega
   simp[stOk,gJ,aB,a7])
  have fK:G (bK=false/\bM=false->stOk c.length i.length j.length (a2,n,g)=!g.any (λe=>!xW c.length e)):=V (λd=>by
   have a7:(decide (g.length=n.length) && decide (2<=g.length))=true:=by
    rw[<-g6,<-g7]at d;simp only[Ay6,decide_eq_true_eq];simp only[decide_eq_false_iff_not,bne_eq_false_iff_eq]at d;omega
   have:=fH.o;simp[stOk,gJ,dP.o,f7.o d5,aB,a7,this.1,this.2])
  have dO:G (aT=true\/cD=true->s=false):=V (λd=>cM.o _ a6.o.1 (λ⟨_,_,_,_,F⟩=>cI.o.no cH.o d5 (by
   rw[fO.o];rintro rfl;rw[<-eT,<-dK]at d;have:=(Az0.1 fO.o).1;rcases d with d|d
   .have:=of_decide_eq_true d;omega
   simp at d) F))
  have bX:G (aT=false/\cD=false->DecsAt c t (e+1) (m+1)):=V (λ⟨Z,b1⟩=>cI.o.next cH.o d5 (by
   rw[<-eT]at Z;have Z:=of_decide_eq_false Z;rw[Az4 H]at r ⊢;rw[<-r]at dK;rw[<-dK]at b1;simpa using b1))
  have f5:G (aT=false->∃b d1 dB,w=some b/\aY=some ⟨d1,dB,none⟩/\O.cell? ⟨d1,dB+m,none⟩=some (.int .i64 b)/\m<t.length):=V (λZ=>by
   rw[<-eT]at Z;have Z:=of_decide_eq_false Z;obtain⟨b,d2,dD,p,h2,b0,-,-,-,-⟩:=(f4.o.chg (y.o.trans Q.o) iF).getI (show m<t.length by omega);exact⟨b,d2,dD,by rw[<-r,p],h2,b0,H⟩)
  clear r f7 dP aB d5;go_upto_region 30 with fail
  go_cut [218] from 84 to 242 (λv eP=>v=.bool (bK || (bM || (aT || cD)))/\eP=O)
  .as_aux_lemma =>
   rcases lad3 bK bM aT with rfl|⟨rfl,rfl⟩|⟨rfl,rfl,rfl⟩|⟨rfl,rfl,rfl⟩
   .go_wp2_with fail
    go_meet
    exact⟨D,D⟩
   .go_wp2_with fail
    go_meet
    exact⟨D,D⟩
   .go_wp2_with fail
    go_meet
    exact⟨D,D⟩
   obtain⟨b,hW,i4,rfl,rfl,hR,i0⟩:=f5.o D
   simp only[Option.getD_some]at dK;cases cD <;> (go_wp2_with fail;go_meet;exact⟨D,D⟩)
  as_aux_lemma =>
  obtain⟨rfl,rfl⟩:=hcut;rcases lad4 bK bM aT cD with rfl|⟨rfl,rfl⟩|⟨rfl,rfl,rfl⟩|⟨rfl,rfl,rfl,rfl⟩|⟨rfl,rfl,rfl,rfl⟩
  .have q:G (s=false):=V (aD.o (dX.o (.inl D)))
   simp only[Bool.true_or];go_wp2;go_ret
   exact⟨by rw[q.o];rfl,y.o.trans Q.o⟩
  .have q:G (s=false):=V (aD.o (dX.o (.inr D)))
   simp only[Bool.true_or,Au9];go_wp2;go_ret
   exact⟨by rw[q.o];rfl,y.o.trans Q.o⟩
  .have q:G (s=false):=V (dO.o (.inl D))
   simp only[Bool.true_or,Au9];go_wp2;go_ret
   exact⟨by rw[q.o];rfl,y.o.trans Q.o⟩
  .have q:G (s=false):=V (dO.o (.inr D))
   simp only[Au9];go_wp2;go_ret
   exact⟨by rw[q.o];rfl,y.o.trans Q.o⟩
  have dR:=V (fK.o ⟨D,D⟩);have f6:=V (bX.o ⟨D,D⟩);clear fK dX dO bX f5;simp only[Au9];go_wp2_with fail
  go_loopw [11] (λu wr=>∃(b:Nat),b<=g.length/\u=.int .i64 b/\(∀(a:Nat) k,a<b->g[a]?=some k->xW c.length k=true)/\Cf aV wr) (λu _=>g.length-(intOf u).toNat)
  .exact⟨0,H,D,λa cX d=>absurd d (Ax1 _),a3.o⟩
  clear b8 b9 bB bD bF bH bI a3 Q;obtain⟨P,eI,rfl,fX,eB⟩:=hrel;obtain⟨eR,rfl⟩:∃b:World,b=wr:=⟨_,D⟩;have f9:=V fX;have a3:=V eB;obtain⟨b8,b9,bB,bD,bF,bH,bI⟩:=cO.o eR eB;have Q:G (Cf a8 eR):=V (aX.o.trans a3.o);clear fX eB;by_cases hC:P<g.length
  .have gO:=rO P g.length
   obtain⟨w,d2,dD,r,rfl,e4,-,-,-,-⟩:=(gK.o eR (dM.o.trans a3.o)).getI hC;have e0:=V r;obtain⟨z,S⟩:=rM (decide (w<0));obtain⟨A,a4⟩:=rM (decide ((c.length:Int)<=w));have dU:G (xW c.length w=!(z || A)):=V (by rw[<-S,<-a4,Au7];simp[xW]);clear r;rcases lad2 z A with h|h|⟨rfl,rfl⟩
   .subst h
    have q:G (s=false):=V (aD.o (by
     rw[dR.o];have:g.any (λe=>!xW c.length e)=true:=Au8.2 ⟨_,Az1 e0.o,by rw[dU.o];rfl⟩;rw[this];rfl))
    go_wp2;go_ret
    exact⟨by rw[q.o];rfl,y.o.trans Q.o⟩
   .obtain⟨rfl,rfl⟩:=h
    have q:G (s=false):=V (aD.o (by
     rw[dR.o];have:g.any (λe=>!xW c.length e)=true:=Au8.2 ⟨_,Az1 e0.o,by rw[dU.o];rfl⟩;rw[this];rfl))
    go_wp2;go_ret
    exact⟨by rw[q.o];rfl,y.o.trans Q.o⟩
   have Y:G (∀(a:Nat) k,a<P+1->g[a]?=some k->xW c.length k=true):=V (λa k o F=>by
    by_cases h7:a=P
    .subst h7
     rw[e0.o]at F;rw[<-Az2 F,dU.o];rfl
    exact f9.o a k H F)
   go_wp2;go_roundw
   .first|exact⟨P+1,H,GN,Y.o,a3.o⟩|((repeat apply Ay4);exact⟨⟨P+1,H,GN,Y.o,a3.o⟩,D⟩)
   simp[intOf];omega
  obtain rfl:P=g.length:=H
  have gO:=rP g.length;have bZ:=V (f8.o (by
   rw[dR.o];have:g.any (λe=>!xW c.length e)=false:=by
    rw[Aw4];intro k F;obtain⟨a,o⟩:=Aw1 F;rw[f9.o a k (Az0.1 o).1 o];exact Au6
   rw[this];rfl))
  go_wp2;go_roundw
  .first|exact⟨e+1,m+1,H,GN,by go_num,bZ.o,f6.o,Q.o⟩|((repeat apply Ay4);exact⟨⟨e+1,m+1,H,GN,by go_num,bZ.o,f6.o,Q.o⟩,D⟩)
  simp[intOf];omega
 obtain rfl:e=c.length:=H
 have c3:=rP c.length;have fI:G (s=decide (m=t.length)):=V (by
  rw[cI.o.done,Au7,decide_eq_true_eq];refine⟨λd=>(a6.o.1 d).2.2.2.2,λd=>a6.o.2 ⟨dV.o,gF.o,gH.o,λa1 c9=>?_,d⟩⟩;obtain⟨a,o⟩:=Aw1 c9;exact X.o a a1 (Az0.1 o).1 o)
 have S:((m:Int) == (t.length:Int))=decide (m=t.length):=beqD _ _;have gT:(m == t.length)=decide (m=t.length):=(by rw[beqC,beqD]);obtain⟨aZ,h⟩:=rM (decide (m=t.length));rw[h]at fI S gT;clear h;go_wp2;go_ret
 exact⟨by rw[fI.o];rfl,y.o.trans x.o⟩
theorem te (a:LexD) (q:LexS) (R:Nat->Prop) (e:World) (U:LexIn e R q a) (a8:a.c.length<=1000000000) (A:∀b∈a.c,0<=b/\b<=1000000000) :
  Calls prog 45 #[cq q] e λT a4=>T=.returned (.int .i64 (vC a.c))/\Cf e a4:=by
 obtain⟨⟨K,N,L⟩,⟨l,a6,m⟩,⟨C,F,E⟩,⟨x,z,y⟩⟩:=q;obtain⟨W,n,X,Y⟩:=U;obtain⟨rfl,-⟩:=n.len;have P:=V n;have u:=V A
 clear W n X Y A;show Calls prog 45 #[.agg #[.slice K N L,.slice l a.c.length m,.slice C F E,.slice x z y]] e _;obtain⟨s,i⟩:=rK (e.alloc (.cells #[.slice K N L,.slice l a.c.length m,.slice C F E,.slice x z y] 37));have t:G (Cf e s):=V (by rw[i];exact (J.refl _ e).alloc _);have O:G (∀k,Cf s k->k.cell? ⟨e.heap.size,1,none⟩=some (.slice l a.c.length m)):=V (λk a1=>a1.cellS (by rw[i];exact zG _ D D) iD);go_enter func45,ntmps45
 go_upto_region 1 with fail
 rw[<-i];clear i;go_wp2
 go_loopw [3,4] (λa2 r wr=>∃c:Nat,c<=a.c.length/\r=.int .i64 c/\a2=.int .i64 (vC (a.c.take c))/\Cf s wr) (λ_ r _=>a.c.length-(intOf r).toNat)
 .exact⟨0,H,D,D,cR⟩
 obtain⟨c,a9,rfl,B,h⟩:=hrel;have f:=V h;clear h;obtain⟨d,g⟩:=rM (vC (a.c.take c));rw[g]at B;subst B;have j:=V g;have aD:0<=d:=by rw[<-g];exact tE _
 have aF:d<=1000000001:=by
  rw[<-g];refine cE H (λb h=>?_);have:=(u.o b (Av8 h)).2;omega
 clear g;have aI:=O.o wr f.o;by_cases a0:c<a.c.length
 .obtain⟨b,a7,aH,p,Z,a5,-,-,-,-⟩:=(P.o.chg (t.o.trans f.o) iF).getI a0
  subst Z;have S:=rO c a.c.length;have v:G (vC (a.c.take (c+1))=if d<b+1 then b+1 else d):=V (by
   rw[eu p,j.o];show max d (b+1)=_
   split <;> omega)
  obtain⟨aK,aM⟩:=u.o b (Az1 p);clear p j;obtain⟨a3,o⟩:=rM (if d<b+1 then b+1 else d);have w:G (vC (a.c.take (c+1))=a3):=V (by rw[v.o,o]);clear v;have aB:IntKind.i64.wrap (b+1)=b+1:=IntWalk.i64_in _ H;go_wp2;go_roundw
  .first|exact⟨c+1,H,GN,by rw[w.o,<-o],f.o⟩|((repeat apply Ay4);exact⟨⟨c+1,H,GN,by rw[w.o,<-o],f.o⟩,D⟩)
  simp[intOf];omega
 obtain rfl:c=a.c.length:=H
 have S:=rP a.c.length;have Q:G (vC a.c=d):=V (by rw[<-j.o,Ay7]);go_wp2;go_ret
 exact⟨by rw[Q.o];rfl,t.o.trans f.o⟩
theorem Eo (a:LexD) (d6 cB d2 cK:Sl) (e1:Nat) (A:World) (N:TabIn A e1 d6 cB d2 cK a) (eR:Fair a) :
  Calls prog 44 #[lexV d6 cB d2 cK] A λF f=>F=.returned (.bool (mayT a))/\Cf A f:=by
 obtain⟨bZ,gI,b6⟩:=d6;obtain⟨bM,f8,aI⟩:=cB;obtain⟨b4,g9,b5⟩:=d2;obtain⟨aP,f9,aR⟩:=cK;obtain⟨cT,k,cS,cP⟩:=N;obtain⟨fH,fB,fF,fD,dB⟩:=eR;obtain⟨rfl,g2⟩:=cT.len;obtain⟨rfl,fO⟩:=k.len;obtain⟨rfl,g1⟩:=cS.len;obtain⟨rfl,fP⟩:=cP.len;obtain⟨d9,d8,e9,e4,e8⟩:=sD cT k cS cP dB;obtain⟨a6,bV⟩:=rK (A.alloc (.cells #[.slice bZ a.r.length b6,.slice bM a.c.length aI,.slice b4 a.n.length b5,.slice aP a.e.length aR] 37));have p:G (Cf A a6):=V (by rw[bV];exact rT);have X:G (∀m,Cf a6 m->m.cell? ⟨A.heap.size,0,none⟩=some (.slice bZ a.r.length b6)/\m.cell? ⟨A.heap.size,1,none⟩=some (.slice bM a.c.length aI)/\m.cell? ⟨A.heap.size,2,none⟩=some (.slice b4 a.n.length b5)/\m.cell? ⟨A.heap.size,3,none⟩=some (.slice aP a.e.length aR)) :=
  V (λm y=>by subst bV;exact (ky A (bZ,a.r.length,b6) (bM,a.c.length,aI) (b4,a.n.length,b5) (aP,a.e.length,aR) 37).chg y iD)
 have bI:=V bV;clear cT k cS cP dB bV;obtain⟨u,v,w,x⟩:=X.o a6 cR;show Calls prog 44 #[.agg #[.slice bZ a.r.length b6,.slice bM a.c.length aI,.slice b4 a.n.length b5,.slice aP a.e.length aR]] A _;by_cases bO:a.c.length=a.r.length
 .have aK:((a.c.length:Int) != (a.r.length:Int))=false:=by simp[bO]
  have a2:=V bO;clear bO;by_cases dD:0<a.n.length
  .have aM:(a.n.length == 0)=false:=by rw[beq_eq_false_iff_ne];omega
   have eH:((a.n.length:Int) == 0)=false:=(by rw[beq_eq_false_iff_ne];omega);by_cases bP:a.e.length=a.n.length
   .have aO:((a.n.length:Int) != (a.e.length:Int))=false:=by simp[bP]
    have bB:=V bP;clear bP;go_enter func44,ntmps44
    go_upto_region 1 with fail
    rw[<-bI.o];go_wp2
    go_loopw [3,4] (λf6 q wr=>∃c:Nat,c<=a.r.length/\q=.int .i64 c/\f6=.int .i64 (vC (a.c.take c))/\(∀b,b<c->apOk a.r b=true)/\(∀(b:Nat) d,b<c->a.c[b]?=some d->0<=d/\d<a.r.length)/\Cf a6 wr) (λ_ q _=>a.r.length-(intOf q).toNat)
    .exact⟨0,H,D,by simp[vC],λb N=>absurd N (Ax1 _),λb Q N=>absurd N (Ax1 _),cR⟩
    obtain⟨c,f0,rfl,dO,dI,O,r⟩:=hrel;obtain⟨c1,B,g⟩:=rZ dI O r;clear dI O r u v w x;obtain⟨s,b0⟩:=rM (vC (a.c.take c));rw[b0]at dO;subst dO;have bD:=V b0;have g4:0<=s:=(by rw[<-b0];exact tE _);have g5:s<=a.r.length:=by
     rw[<-b0];refine cE H (λd r=>?_);obtain⟨b,n⟩:=Aw1 r;have eX:=(Az0.1 n).1;rw[Ay8]at eX;rw[List.getElem?_take_of_lt H]at n;exact (B.o b d H n).2
    clear b0;obtain⟨u,v,w,x⟩:=X.o wr g.o;by_cases a5:c<a.r.length
    .obtain⟨j,Q,cO,d5,y,f3,R,S,g6,g8,-,-⟩:=(d9.o.same (p.o.trans g.o)).getR a5
     obtain⟨d,cM,d4,b1,cX,C,dZ,e0,-,-⟩:=(d8.o.same (p.o.trans g.o)).getI (show c<a.c.length by rw[a2.o];exact a5);subst f3 cX;obtain⟨c7,a3,E⟩:=rZ y b1 (λ(m:World) (y:Cf wr m)=>(⟨X.o m (g.o.trans y),y.cellS R iD,y.cellS S iD,y.cellS C iD⟩:(m.cell? ⟨A.heap.size,0,none⟩=some (.slice (some ⟨cO,d5,none⟩) a.r.length b6)/\m.cell? ⟨A.heap.size,1,none⟩=some (.slice (some ⟨cM,d4,none⟩) a.c.length aI)/\m.cell? ⟨A.heap.size,2,none⟩=some (.slice b4 a.n.length b5)/\m.cell? ⟨A.heap.size,3,none⟩=some (.slice aP a.e.length aR))/\m.cell? ⟨cO,d5+c * 2,none⟩=some (.int .i32 j)/\m.cell? ⟨cO,d5+c * 2+1,none⟩=some (.int .i32 Q)/\m.cell? ⟨cM,d4+c,none⟩=some (.int .i64 d)));clear y b1 R S C u v w x;have cA:=rO c a.r.length;have fT:c<a.c.length:=(by rw[a2.o];exact a5);obtain⟨⟨u,v,w,x⟩,-,-,-⟩:=E.o wr cR;by_cases Z:Q<j
     .have aK:decide (Q<j)=true:=by simpa using Z
      have i:G (mayT a=false):=V (tW (λh=>by
       have a4:=h.ap;rw[fL a5 (pc c7.o Z)]at a4;cases a4))
      go_upto_region 7 with fail
      refine ws (λf=>Cf wr f) ?_;(iterate 52 (first|refine sq ?_|refine rf E.o ?_))
      refine zW ?_;intro K e;have o:=V (g.o.trans e);have W:=V e;clear e;go_wp2;go_ret
      exact⟨by rw[i.o];rfl,p.o.trans o.o⟩
     have aK:decide (Q<j)=false:=by simpa using Z
     by_cases dM:c=0
     .have c2:G (∀b,b<c+1->apOk a.r b=true):=V (λb n=>by
       obtain rfl:b=c:=H;have bT:=c7.o;subst dM;exact pd bT H)
      have aM:decide (0<(c:Int))=false:=sO;have aO:decide (0<c)=false:=sO;clear dM;by_cases aT:d<0
      .have cF:decide (d<0)=true:=by simpa using aT
       have i:G (mayT a=false):=V (tW (λh=>by have:=h.cb d (Az1 a3.o);omega));go_upto_region 7 with fail
       refine ws (λf=>Cf wr f) ?_;(iterate 52 (first|refine sq ?_|refine rf E.o ?_))
       refine zW ?_;intro K e;have o:=V (g.o.trans e);have W:=V e;clear e;go_wp2;go_ret
       exact⟨by rw[i.o];rfl,p.o.trans o.o⟩
      have cF:decide (d<0)=false:=by simpa using aT
      by_cases aV:(a.r.length:Int)<=d
      .have cH:decide ((a.r.length:Int)<=d)=true:=by simpa using aV
       have i:G (mayT a=false):=V (tW (λh=>by have:=h.cb d (Az1 a3.o);have:=a2.o;omega));go_upto_region 7 with fail
       refine ws (λf=>Cf wr f) ?_;(iterate 52 (first|refine sq ?_|refine rf E.o ?_))
       refine zW ?_;intro K e;have o:=V (g.o.trans e);have W:=V e;clear e;go_wp2;go_ret
       exact⟨by rw[i.o];rfl,p.o.trans o.o⟩
      have cH:decide ((a.r.length:Int)<=d)=false:=by simpa using aV
      have U:G (∀(b:Nat) d,b<c+1->a.c[b]?=some d->0<=d/\d<a.r.length):=V (λb Q n P=>by
       by_cases t:b=c
       .subst t;rw[a3.o]at P;obtain rfl:=Az2 P;omega
       exact B.o b Q H P)
      have aF:G (vC (a.c.take (c+1))=if s<d+1 then d+1 else s):=V (by
       rw[eu a3.o,bD.o];show max s (d+1)=_
       split <;> omega)
      go_upto_region 7 with fail
      refine ws (λf=>Cf wr f) ?_;(iterate 52 (first|refine sq ?_|refine rf E.o ?_))
      refine zW ?_;intro K e;have o:=V (g.o.trans e);have W:=V e;clear e;obtain⟨⟨u,v,w,x⟩,R,S,C⟩:=E.o K W.o;clear R S;obtain⟨d3,aZ⟩:=rM (if s<d+1 then d+1 else s);have c5:G (vC (a.c.take (c+1))=d3):=V (by rw[aF.o,aZ]);clear aF;go_wp2;go_roundw
      .exact⟨c+1,H,GN,by rw[c5.o,<-aZ],c2.o,U.o,o.o⟩
      simp[intOf];omega
     obtain⟨a1,h⟩:∃a1,c=a1+1:=⟨c-1,H⟩
     obtain⟨gP,c0,fI,gD,dR,cV,C,a9,-,g7,-,-⟩:=(d9.o.same (p.o.trans g.o)).getR (show a1<a.r.length by omega);injection cV with cV;injection cV with eK eM;subst eK eM;have aM:decide (0<(c:Int))=true:=sO;have aO:decide (0<c)=true:=sO;have aB:(c:Int)-1=(a1:Int):=H;have g0:a1<a.r.length:=H;have fZ:(1:Int)<=c:=H;have b9:=V aB;have bH:G (IntKind.i64.wrap (a1:Int)=a1):=V (IntWalk.i64_in _ H);have b7:G (apOk a.r c=decide (c0<j)):=V (by have:=c7.o;rw[h]at this ⊢;exact pe this dR H);have b8:=V a9;clear dR h aB C a9;by_cases a4:j<=c0
     .have cD:decide (j<=c0)=true:=by simpa using a4
      have i:G (mayT a=false):=V (tW (λh=>by
       have dF:=h.ap;rw[fL a5 (by rw[b7.o];simpa using a4)]at dF;cases dF))
      go_upto_region 7 with fail
      refine ws (λf=>Cf wr f) ?_;(iterate 52 (first|refine sq ?_|refine rq ?_ (by intro _ f _ k;obtain⟨⟨u,v,w,x⟩,R,S,C⟩:=E.o f k;have a9:=k.cellS b8.o iD;have aB:=b9.o;have cI:=bH.o;go_simp;try with_reducible rfl)))
      refine zW ?_;intro K e;have o:=V (g.o.trans e);have W:=V e;clear e;go_wp2;go_ret
      exact⟨by rw[i.o];rfl,p.o.trans o.o⟩
     have cD:decide (j<=c0)=false:=by simpa using a4
     have c2:G (∀b,b<c+1->apOk a.r b=true):=V (λb n=>by
      by_cases t:b=c
      .rw[t,b7.o];simp;omega
      exact c1.o b H)
     by_cases aT:d<0
     .have cF:decide (d<0)=true:=by simpa using aT
      have i:G (mayT a=false):=V (tW (λh=>by have:=h.cb d (Az1 a3.o);omega));go_upto_region 7 with fail
      refine ws (λf=>Cf wr f) ?_;(iterate 52 (first|refine sq ?_|refine rq ?_ (by intro _ f _ k;obtain⟨⟨u,v,w,x⟩,R,S,C⟩:=E.o f k;have a9:=k.cellS b8.o iD;have aB:=b9.o;have cI:=bH.o;go_simp;try with_reducible rfl)))
      refine zW ?_;intro K e;have o:=V (g.o.trans e);have W:=V e;clear e;go_wp2;go_ret
      exact⟨by rw[i.o];rfl,p.o.trans o.o⟩
     have cF:decide (d<0)=false:=by simpa using aT
     by_cases aV:(a.r.length:Int)<=d
     .have cH:decide ((a.r.length:Int)<=d)=true:=by simpa using aV
      have i:G (mayT a=false):=V (tW (λh=>by have:=h.cb d (Az1 a3.o);have:=a2.o;omega));go_upto_region 7 with fail
      refine ws (λf=>Cf wr f) ?_;(iterate 52 (refine rq ?_ (by intro _ f _ k;obtain⟨⟨u,v,w,x⟩,R,S,C⟩:=E.o f k;have a9:=k.cellS b8.o iD;have aB:=b9.o;have cI:=bH.o;go_simp;try with_reducible rfl)))
      refine zW ?_;intro K e;have o:=V (g.o.trans e);have W:=V e;clear e;go_wp2;go_ret
      exact⟨by rw[i.o];rfl,p.o.trans o.o⟩
     have cH:decide ((a.r.length:Int)<=d)=false:=by simpa using aV
     have U:G (∀(b:Nat) d,b<c+1->a.c[b]?=some d->0<=d/\d<a.r.length):=V (λb Q n P=>by
      by_cases t:b=c
      .subst t;rw[a3.o]at P;obtain rfl:=Az2 P;omega
      exact B.o b Q H P)
     have aF:G (vC (a.c.take (c+1))=if s<d+1 then d+1 else s):=V (by
      rw[eu a3.o,bD.o];show max s (d+1)=_
      split <;> omega)
     go_upto_region 7 with fail
     refine ws (λf=>Cf wr f) ?_;(iterate 52 (refine rq ?_ (by intro _ f _ k;obtain⟨⟨u,v,w,x⟩,R,S,C⟩:=E.o f k;have a9:=k.cellS b8.o iD;have aB:=b9.o;have cI:=bH.o;go_simp;try with_reducible rfl)))
     refine zW ?_;intro K e;have o:=V (g.o.trans e);have W:=V e;clear e;obtain⟨⟨u,v,w,x⟩,R,S,C⟩:=E.o K W.o;clear R S;obtain⟨d3,aZ⟩:=rM (if s<d+1 then d+1 else s);have c5:G (vC (a.c.take (c+1))=d3):=V (by rw[aF.o,aZ]);clear aF;go_wp2;go_roundw
     .exact⟨c+1,H,GN,by rw[c5.o,<-aZ],c2.o,U.o,o.o⟩
     simp[intOf];omega
    obtain rfl:c=a.r.length:=H
    have cA:=rP a.r.length;have bF:G (vC a.c=s):=V (by rw[<-bD.o,<-a2.o,Ay7]);have b7:G (fN a.r=true):=V (kx c1.o);have e2:G (∀d∈a.c,0<=d/\d<a.c.length):=V (λd r=>by
     obtain⟨b,n⟩:=Aw1 r;rw[a2.o];exact B.o b d (by rw[<-a2.o];exact (Az0.1 n).1) n)
    clear bD c1 B;go_wp2;obtain⟨gK,rfl⟩:∃a7:World,a7=wr:=⟨_,D⟩
    go_loopw [5] (λq wr=>∃c:Nat,(c:Int)<=s/\q=.int .i64 c/\(∀(b:Nat),b<c->hasB b a.c=true)/\Cf a6 wr) (λq _=>s.toNat-(intOf q).toNat)
    .exact⟨0,H,D,λb N=>absurd N (Ax1 _),g.o⟩
    clear g u v w x;obtain⟨c,f0,rfl,O,r⟩:=hrel;have B:=V O;have g:=V r;clear O r;by_cases a5:(c:Int)<s
    .have cA:decide ((c:Int)<s)=true:=by simpa using a5
     go_wp2;obtain⟨gM,rfl⟩:∃a7:World,a7=wr:=⟨_,D⟩
     go_loopw [6,7] (λz q wr=>∃b:Nat,b<=a.c.length/\q=.int .i64 b/\z=.bool (hasB c (a.c.take b))/\Cf a6 wr) (λ_ q _=>a.c.length-(intOf q).toNat)
     .exact⟨0,H,D,D,g.o⟩
     clear g;obtain⟨b,n,rfl,rfl,r⟩:=hrel;have g:=V r;clear r;obtain⟨u,v,w,x⟩:=X.o wr g.o;by_cases aD:b<a.c.length
     .have eB:=rO b a.c.length
      obtain⟨d,cM,d4,b1,cX,C,dZ,e0,-,-⟩:=(d8.o.same (p.o.trans g.o)).getI aD;subst cX;have aH:G (hasB c (a.c.take (b+1))=(hasB c (a.c.take b) || ((c:Int) == d))):=V (by unfold hasB;rw[Ay3,b1,List.any_append];simp);clear b1;cases a0:hasB c (a.c.take b) with
      | true =>
       rw[a0]at aH;clear a0;go_wp2;go_roundw
       .exact⟨b+1,H,GN,by rw[aH.o];rfl,g.o⟩
       .simp[intOf];omega
      | false =>
       rw[a0]at aH;clear a0;by_cases aX:d=(c:Int)
       .have eI:(d == (c:Int))=true:=by simpa using aX
        have c6:G (hasB c (a.c.take (b+1))=true):=V (by rw[aH.o,aX];simp);clear aX;go_wp2;go_roundw
        .exact⟨b+1,H,GN,by rw[c6.o],g.o⟩
        simp[intOf];omega
       have eI:(d == (c:Int))=false:=by simpa using aX
       have c6:G (hasB c (a.c.take (b+1))=false):=V (by rw[aH.o];simp;omega);clear aX;go_wp2;go_roundw
       .exact⟨b+1,H,GN,by rw[c6.o],g.o⟩
       simp[intOf];omega
     obtain rfl:b=a.c.length:=H
     have eB:=rP a.c.length;rw[Ay7];cases a0:hasB c a.c with
     | true =>
      have U:G (∀(b:Nat),b<c+1->hasB b a.c=true):=V (λb n=>by
       by_cases t:b=c
       .subst t;exact a0
       exact B.o b H)
      clear a0;go_wp2;go_roundw
      .exact⟨c+1,H,GN,U.o,g.o⟩
      .simp[intOf];omega
     | false =>
      have i:G (mayT a=false):=V (tW (λh=>by
       have Z:=h.fill;rw[ph (j:=c) (by rw[bF.o];exact a5) a0]at Z;cases Z))
      clear a0;go_wp2;go_ret
      exact⟨by rw[i.o];rfl,p.o.trans g.o⟩
    obtain rfl:(c:Int)=s:=H
    have cA:=rP c;have e6:G (bg a.c=true):=V (pf (λb n=>B.o b (by rw[bF.o]at n;omega)));go_wp2;obtain⟨gO,rfl⟩:∃a7:World,a7=wr:=⟨_,D⟩
    go_loopw [8] (λq wr=>∃z:Nat,z<=a.n.length/\q=.int .i64 z/\(∀(b:Nat) F l,b<z->a.e[b]?=some F->a.n[b]?=some l->-1<=F/\rowB (c:Int) a.n.length l=true)/\Cf a6 wr) (λq _=>a.n.length-(intOf q).toNat)
    .exact⟨0,H,D,λb F l N=>absurd N (Ax1 _),g.o⟩
    clear g B;obtain⟨z,g3,rfl,O,r⟩:=hrel;have B:=V O;have g:=V r;clear O r;obtain⟨u,v,w,x⟩:=X.o wr g.o;by_cases dP:z<a.n.length
    .have eD:=rO z a.n.length
     have f4:z<a.e.length:=(by rw[bB.o];exact dP);obtain⟨F,fK,gF,dT,eP,C,dZ,e0,-,-⟩:=(e4.o.same (p.o.trans g.o)).getI f4;subst eP;obtain⟨l,eO,f7,f5,dV,d1,f2,b3,cZ,-,-⟩:=(e9.o.same (p.o.trans g.o)).getIn dP;subst f2;obtain⟨c8,bK,e7⟩:=rZ dT d1 cZ;have fV:l.length<=dV:=cZ.2.1;have fX:=e8.o l (Az1 d1);clear dT d1 cZ;by_cases Z:F < -1
     .have aK:decide (F < -1)=true:=by simpa using Z
      have i:G (mayT a=false):=V (tW (λh=>by have:=h.eb F (Az1 c8.o);omega));go_wp2;go_ret
      exact⟨by rw[i.o];rfl,p.o.trans g.o⟩
     have aK:decide (F < -1)=false:=by simpa using Z
     by_cases a4:l.length=c
     .have e5:G (∀Y,a.e[z]?=some Y->-1<=Y):=V (λY t=>by rw[c8.o]at t;obtain rfl:=Az2 t;omega)
      subst a4;have aM:((l.length:Int) != (l.length:Int))=false:=sI;go_wp2;clear C u v x c8;have E:=V (λ(m:World) (y:Cf a6 m)=>X.o m y);obtain⟨dX,rfl⟩:∃a7:World,a7=wr:=⟨_,D⟩;have c4:G (∀m,Cf dX m->m.cell? ⟨eO,f7+z,none⟩=some (.slice f5 l.length dV)):=V (λm y=>y.cellS b3 iD);clear b3 w
      go_loopw [9] (λq wr=>∃T:Nat,T<=l.length/\q=.int .i64 T/\(∀(b:Nat) j,b<T->l[b]?=some j->-1<=j/\j<a.n.length)/\Cf dX wr) (λq _=>l.length-(intOf q).toNat)
      .exact⟨0,H,D,λb j N=>absurd N (Ax1 _),cR⟩
      have a8:=g;clear g;obtain⟨T,fR,rfl,O,r⟩:=hrel;have d7:=V O;have L:=V r;clear O r;by_cases eT:T<l.length
      .have eF:=rO T l.length
       obtain⟨j,fM,gH,dU,f1,b2,gR,gS,-,-⟩:=(e7.o.same L.o).getI eT;subst f1;have c9:=V dU;have c3:=V b2;clear dU b2;by_cases bT:j < -1
       .have aO:decide (j < -1)=true:=by simpa using bT
        have i:G (mayT a=false):=V (tW (λh=>by have:=(h.row l (Az1 bK.o)).2 j (Az1 c9.o);omega));go_upto_region 28 with fail
        refine ws (λf=>Cf wr f) ?_;(iterate 23 (first|refine sq ?_|refine rq ?_ (by intro _ f _ k;obtain⟨u,v,w,x⟩:=X.o f (a8.o.trans (L.o.trans k));have b3:=c4.o f (L.o.trans k);have b2:=k.cellS c3.o iD;go_simp;try with_reducible rfl)))
        refine zW ?_;intro K e;have o:=V (L.o.trans e);clear e;go_wp2;go_ret
        exact⟨by rw[i.o];rfl,p.o.trans (a8.o.trans o.o)⟩
       have aO:decide (j < -1)=false:=by simpa using bT
       by_cases dH:(a.n.length:Int)<=j
       .have cD:decide ((a.n.length:Int)<=j)=true:=by simpa using dH
        have i:G (mayT a=false):=V (tW (λh=>by have:=(h.row l (Az1 bK.o)).2 j (Az1 c9.o);omega));go_upto_region 28 with fail
        refine ws (λf=>Cf wr f) ?_;(iterate 23 (refine rq ?_ (by intro _ f _ k;obtain⟨u,v,w,x⟩:=X.o f (a8.o.trans (L.o.trans k));have b3:=c4.o f (L.o.trans k);have b2:=k.cellS c3.o iD;go_simp;try with_reducible rfl)))
        refine zW ?_;intro K e;have o:=V (L.o.trans e);clear e;go_wp2;go_ret
        exact⟨by rw[i.o];rfl,p.o.trans (a8.o.trans o.o)⟩
       have cD:decide ((a.n.length:Int)<=j)=false:=by simpa using dH
       have U:G (∀(b:Nat) j,b<T+1->l[b]?=some j->-1<=j/\j<a.n.length):=V (λb Q n P=>by
        by_cases t:b=T
        .subst t;rw[c9.o]at P;obtain rfl:=Az2 P;omega
        exact d7.o b Q H P)
       go_upto_region 28 with fail
       refine ws (λf=>Cf wr f) ?_;(iterate 23 (refine rq ?_ (by intro _ f _ k;obtain⟨u,v,w,x⟩:=X.o f (a8.o.trans (L.o.trans k));have b3:=c4.o f (L.o.trans k);have b2:=k.cellS c3.o iD;go_simp;try with_reducible rfl)))
       refine zW ?_;intro K e;have o:=V (L.o.trans e);clear e;go_wp2;go_roundw
       .exact⟨T+1,H,GN,U.o,o.o⟩
       simp[intOf];omega
      obtain rfl:T=l.length:=H
      have eF:=rP l.length;have U:G (∀(b:Nat) Y bX,b<z+1->a.e[b]?=some Y->a.n[b]?=some bX->-1<=Y/\rowB (l.length:Int) a.n.length bX=true):=V (λb Y bX n t aY=>by
       by_cases eZ:b=z
       .subst eZ
        rw[bK.o]at aY;obtain rfl:=Az2 aY;refine⟨e5.o Y t,?_⟩;unfold rowB;rw[decide_eq_true D,Au1,Aw0];intro j y;obtain⟨a1,h⟩:=Aw1 y;have:=d7.o a1 j (Az0.1 h).1 h;simp[inB]
        exact this
       exact B.o b Y bX H t aY)
      have e3:=V (a8.o.trans L.o);go_wp2;go_roundw
      .exact⟨z+1,H,GN,U.o,e3.o⟩
      simp[intOf];omega
     have aM:((l.length:Int) != (c:Int))=true:=by simp;omega
     have i:G (mayT a=false):=V (tW (λh=>by have:=(h.row l (Az1 bK.o)).1;rw[bF.o]at this;omega));go_wp2;go_ret
     exact⟨by rw[i.o];rfl,p.o.trans g.o⟩
    obtain rfl:z=a.n.length:=H
    have eD:=rP a.n.length;have i:G (mayT a=true):=V (dL.2 ⟨b7.o,a2.o,dD,bB.o,e2.o,e6.o,λF t=>by
     obtain⟨b,n⟩:=Aw1 t;have aD:=(Az0.1 n).1;have dK:b<a.n.length:=(by rw[<-bB.o];exact aD);exact (B.o b F _ dK n (Az4 dK)).1,λl aY=>by
     obtain⟨b,n⟩:=Aw1 aY;have aD:=(Az0.1 n).1;have eV:b<a.e.length:=(by rw[bB.o];exact aD);have d0:=(B.o b _ l aD (Az4 eV) n).2;unfold rowB at d0;simp only[Ay6,decide_eq_true_eq,Aw0,inB]at d0;rw[bF.o];exact d0⟩)
    go_wp2;go_ret
    exact⟨by rw[i.o];rfl,p.o.trans g.o⟩
   have aO:((a.n.length:Int) != (a.e.length:Int))=true:=by simp;omega
   have i:G (mayT a=false):=V (tW (λh=>bP h.el));go_enter func44,ntmps44
   go_upto_region 1 with fail
   rw[<-bI.o];go_wp2;go_ret
   exact⟨by rw[i.o];rfl,p.o⟩
  have aM:(a.n.length == 0)=true:=by rw[beq_iff_eq];omega
  have eH:((a.n.length:Int) == 0)=true:=(by rw[beq_iff_eq];omega);have i:G (mayT a=false):=V (tW (λh=>dD h.nl));go_enter func44,ntmps44
  go_upto_region 1 with fail
  rw[<-bI.o];go_wp2;go_ret
  exact⟨by rw[i.o];rfl,p.o⟩
 have aK:((a.c.length:Int) != (a.r.length:Int))=true:=by simp;omega
 have i:G (mayT a=false):=V (tW (λh=>bO h.cl));go_enter func44,ntmps44
 go_upto_region 1 with fail
 rw[<-bI.o];go_wp2;go_ret
 exact⟨by rw[i.o];rfl,p.o⟩
theorem Ep {f:TabsD}(a:MayP f):yE f=true:=by
 have c:∀{g:Type}{e:g->Bool}{d:List g},(∀b∈d,e b=true)->d.any (λb=>!e b)=false:=λa=>by
  rw[Aw4];intro b i;rw[a b i];simp
 unfold yE;simp only[Ay6,decide_eq_true_eq,Aw2];exact⟨⟨⟨⟨⟨⟨⟨⟨⟨⟨⟨⟨a.rl1,a.rl⟩,a.tk⟩,a.dr⟩,c a.rn⟩,c a.tn⟩,a.lx⟩,a.nt⟩,a.sl⟩,a.st⟩,a.ll⟩,a.lk⟩,Aw4.2 (λj h=>by rw[a.tb j h];simp)⟩
theorem Er {s:Str}:qE s=(!(decide (s.size=0) || decide (64<s.size))):=by
 rw[Au7];simp only[qE,Ay6,decide_eq_true_eq,Aw2,Bool.or_eq_false_iff,decide_eq_false_iff_not];omega
theorem Et {s:Str}:(s.toList == ([]:List UInt8))=decide (s.size=0):=by
 have:s.toList.length=s.size:=by rw[ByteArray.toList_eq,Array.length_toList];rfl
 rw[Au7,beq_iff_eq,decide_eq_true_eq,<-this,Av1]
theorem Eu (a:TabsD) (g3:TabsS) (c3:Nat->Prop) (bB:World) (c:DocIn bB c3 g3 a) (aF:FairTabs a) (hT:∀e∈a.nt.st,∀s∈e.2.1,0<=s.1) :
  Calls prog 13 #[kN g3] bB λs l=>s=.returned (.bool (yE a))/\Cf bB l:=by
 obtain⟨⟨c4,aX,c6⟩,⟨c5,eR,c7⟩,⟨d8,hY,dD⟩,⟨⟨R,hZ,W⟩,⟨S,dT,X⟩,⟨T,lC,Y⟩,⟨U,lD,Z⟩⟩,⟨⟨b3,lE,b5⟩,⟨bP,lF,bZ⟩,⟨bT,lG,c0⟩,⟨bM,l9,bV⟩,⟨bO,lA,bX⟩⟩,⟨d7,lB,dB⟩⟩:=g3;have h1:=V c;have i1:=V hT;have bK:=V aF;obtain⟨hC,m,o,⟨dF,dH,hG,hH⟩,⟨hI,hK,hL,hD,hE⟩,hF⟩:=c;obtain⟨rfl,-⟩:=hC.len;obtain⟨rfl,-⟩:=m.len;obtain⟨rfl,-⟩:=o.len;obtain⟨rfl,-⟩:=dF.len;obtain⟨rfl,-⟩:=dH.len;obtain⟨rfl,-⟩:=hG.len;obtain⟨rfl,-⟩:=hH.len;obtain⟨rfl,-⟩:=hI.len;obtain⟨rfl,-⟩:=hK.len;obtain⟨rfl,-⟩:=hL.len;obtain⟨rfl,-⟩:=hD.len;obtain⟨rfl,-⟩:=hE.len;obtain⟨rfl,-⟩:=hF.len;clear hC m o dF dH hG hH hI hK hL hD hE hF;have iY:=aF.rl;have l8:=aF.tk;have l0:=aF.dr;have l3:=aF.lk;have l5:=aF.lx.r;have l1:=aF.lx.c;have l4:=aF.lx.n;have l2:=aF.lx.e;have l7:=aF.nt.st;have l6:=aF.nt.s;have iX:=aF.nt.d;clear aF hT;obtain⟨N,e8⟩:=rM (yE a);have a6:G ((MayP a->False)->N=false):=V (λiO=>by
  cases aO:N with
  | true=>exact (iO (qQ (by rw[e8,aO]))).elim
  | false=>rfl)
 have i8:G (MayP a->N=true):=V (λiN=>by rw[<-e8];exact Ep iN);rw[e8];clear e8;obtain⟨h4,fI⟩:=rK bB.heap.size;obtain⟨a5,eK⟩:=rK (bB.alloc (.cells #[.slice c4 a.rl.length c6,.slice c5 a.tk.length c7,.slice d8 a.dr.length dD,.slice R a.lx.r.length W,.slice S a.lx.c.length X,.slice T a.lx.n.length Y,.slice U a.lx.e.length Z,.slice b3 a.nt.st.length b5,.slice bP a.nt.s.length bZ,.slice bT a.nt.p.length c0,.slice bM a.nt.q.length bV,.slice bO a.nt.d.length bX,.slice d7 a.lk.length dB] 43));have a0:G (Cf bB a5):=V (by rw[eK];exact (J.refl _ bB).alloc _);have z:G (∀d,Cf a5 d->∀b x,([.slice c4 a.rl.length c6,.slice c5 a.tk.length c7,.slice d8 a.dr.length dD,.slice R a.lx.r.length W,.slice S a.lx.c.length X,.slice T a.lx.n.length Y,.slice U a.lx.e.length Z,.slice b3 a.nt.st.length b5,.slice bP a.nt.s.length bZ,.slice bT a.nt.p.length c0,.slice bM a.nt.q.length bV,.slice bO a.nt.d.length bX,.slice d7 a.lk.length dB]:List Value)[b]?=some x->d.cell? ⟨h4,b,none⟩=some x):=V (λd p b x cA=>p.cellS (by
  rw[eK];exact zG _ fI (by rw[<-Aw];exact cA)) iD)
 have b2:G (∀d,Cf a5 d->DocIn d c3 ⟨(c4,a.rl.length,c6),(c5,a.tk.length,c7),(d8,a.dr.length,dD),⟨(R,a.lx.r.length,W),(S,a.lx.c.length,X),(T,a.lx.n.length,Y),(U,a.lx.e.length,Z)⟩,⟨(b3,a.nt.st.length,b5),(bP,a.nt.s.length,bZ),(bT,a.nt.p.length,c0),(bM,a.nt.q.length,bV),(bO,a.nt.d.length,bX)⟩,(d7,a.lk.length,dB)⟩ a):=V (λd p=>DocIn.good.chg h1.o (a0.o.trans p) iF);clear h1;show Calls prog 13 #[.agg #[.slice c4 a.rl.length c6,.slice c5 a.tk.length c7,.slice d8 a.dr.length dD,.slice R a.lx.r.length W,.slice S a.lx.c.length X,.slice T a.lx.n.length Y,.slice U a.lx.e.length Z,.slice b3 a.nt.st.length b5,.slice bP a.nt.s.length bZ,.slice bT a.nt.p.length c0,.slice bM a.nt.q.length bV,.slice bO a.nt.d.length bX,.slice d7 a.lk.length dB]] bB _;have g8:=z.o a5 cR 0 _ D;have eT:=z.o a5 cR 1 _ D;have jK:=z.o a5 cR 2 _ D;go_enter func13,ntmps13
 go_upto_region 1 with fail
 rw[<-eK,<-fI];clear eK fI;obtain⟨j,O⟩:=rM (decide ((a.rl.length:Int)<1));obtain⟨r,a1⟩:=rM (decide ((64:Int)<(a.rl.length:Int)));obtain⟨a8,b6⟩:=rM (decide ((64:Int)<(a.tk.length:Int)));obtain⟨e3,h9⟩:=rM ((a.dr.length:Int) != (a.tk.length:Int));have aT:decide (a.rl.length<1)=j:=by rw[<-O];exact decide_eq_decide.2 H
 have a9:decide (64<a.rl.length)=r:=by rw[<-a1];exact decide_eq_decide.2 H
 have c8:decide (64<a.tk.length)=a8:=by rw[<-b6];exact decide_eq_decide.2 H
 have fF:(a.dr.length != a.tk.length)=e3:=by rw[<-h9,bneC]
 by_cases b9:(1<=a.rl.length/\a.rl.length<=64)/\(a.tk.length<=64/\a.dr.length=a.tk.length)
 rotate_left
 .have q:G (N=false):=V (a6.o (λc=>b9 ⟨⟨c.rl1,c.rl⟩,c.tk,c.dr⟩))
  have t:j=true\/j=false/\r=true\/j=false/\r=false/\a8=true\/j=false/\r=false/\a8=false/\e3=true:=by
   rcases lad4 j r a8 e3 with c|c|c|c|⟨rfl,rfl,rfl,rfl⟩
   .exact .inl c
   .exact .inr (.inl c)
   .exact .inr (.inr (.inl c))
   .exact .inr (.inr (.inr c))
   exfalso
   apply b9
   have m:=of_decide_eq_false aT;have o:=of_decide_eq_false a9;have dF:=of_decide_eq_false c8;simp at fF
   omega
  clear b9;rcases t with rfl|⟨rfl,rfl⟩|⟨rfl,rfl,rfl⟩|⟨rfl,rfl,rfl,rfl⟩ <;> (go_wp2;go_ret;exact⟨by rw[q.o];rfl,a0.o⟩)
 obtain⟨⟨j4,j5⟩,j6,cD⟩:=b9;obtain rfl:j=false:=by rw[<-aT];exact decide_eq_false H
 obtain rfl:r=false:=by rw[<-a9];exact decide_eq_false H
 obtain rfl:a8=false:=by rw[<-c8];exact decide_eq_false H
 obtain rfl:e3=false:=by rw[<-fF];simp[cD]
 have gX:=V (show _/\_ from ⟨cD,j4⟩);clear cD;go_upto_region 3 with fail
 clear O a1 b6 h9 aT a9 c8 fF g8 eT jK;obtain⟨K,fZ⟩:=rM a5.drew;have e2:G (Cf a5 K):=V (by rw[<-fZ];exact (J.refl _ _).drew);refine zC (λh=>J (λaD=>K.heap.size<=aD) K h) (λ_=>false) M ?_;show yC _ _ _ _ _ _ 7 (Array.replicate 7 false) _ a5.drew;rw[fZ];clear fZ;have cT:G (J (λaD=>K.heap.size<=aD) K K):=V cR;have e1:G (∀h,J (λaD=>K.heap.size<=aD) K h->∀b x,([.slice c4 a.rl.length c6,.slice c5 a.tk.length c7,.slice d8 a.dr.length dD,.slice R a.lx.r.length W,.slice S a.lx.c.length X,.slice T a.lx.n.length Y,.slice U a.lx.e.length Z,.slice b3 a.nt.st.length b5,.slice bP a.nt.s.length bZ,.slice bT a.nt.p.length c0,.slice bM a.nt.q.length bV,.slice bO a.nt.d.length bX,.slice d7 a.lk.length dB]:List Value)[b]?=some x->h.cell? ⟨h4,b,none⟩=some x):=V (λh p b x cA=>z.o h (e2.o.trans p.fresh) b x cA);(refine lf 0 cT.o (λ_ k=>e1.o _ k 0 _ D) ?_);(refine lf 1 cT.o (λ_ k=>e1.o _ k 0 _ D) ?_);(refine lf 3 cT.o (λ_ k=>e1.o _ k 1 _ D) ?_);(refine lf 4 cT.o (λ_ k=>e1.o _ k 1 _ D) ?_);have f6:=V (b2.o K e2.o);refine yQ (i:=2) M D D (.const (.slice none 0 0)) (.tmp 39) 22 22 D (.slice none 0 0) (.slice c4 a.rl.length c6) D D (λcF bF=>strE.Own bF K.heap.size cF a.rl/\J (λaD=>K.heap.size<=aD) K bF) ?_ ?_
 .obtain⟨cF,bF,fX,m,o,-,-⟩:=Elt.Own.append (E:=strE) (w:=K) (B:=K.heap.size) (v:=.slice none 0 0) (X:=[]) (.inl ⟨D,D⟩) (Ay1 _) 22 (.slice c4 a.rl.length c6) a.rl f6.o.rl.srcS (λh p=>f6.o.rl.oks h p) (by have:=iY;simp;omega) 22
  exact⟨cF,bF,fX,λ_=>o,by simpa using m,o⟩
 rintro jZ k0 u ⟨hV,hM⟩ a7 A;have gT:=V hV;have d5:=V hM;clear hV hM u;(try go_simp)
 refine A _ ?_;clear A a7;have f7:=V (b2.o k0 (e2.o.trans d5.o.fresh));refine yQ (i:=5) M D D (.tmp 40) (.tmp 42) 22 22 D jZ (.slice c5 a.tk.length c7) D D (λcF bF=>strE.Own bF K.heap.size cF (a.rl++a.tk)/\J (λaD=>K.heap.size<=aD) K bF) ?_ ?_
 .obtain⟨cF,bF,fX,m,o,-,-⟩:=gT.o.append d5.o.size 22 (.slice c5 a.tk.length c7) a.tk f7.o.tk.srcS (λh p=>f7.o.tk.oks h p) H 22
  exact⟨cF,bF,fX,λ_=>d5.o.trans o,m,d5.o.trans o⟩
 rintro lP g9 u ⟨eI,aM⟩ a7 A;obtain⟨aK,e7⟩:=rK (a.rl++a.tk);rw[<-e7]at eI;have kT:aK.length<=128:=by rw[e7,Az];omega
 have dZ:=V e7;clear e7;obtain⟨iZ,j0,iP,kP,-⟩:=eI.clip;subst iP;have gM:G (strE.InS g9 (λaD=>K.heap.size<=aD) (iZ,aK.length,j0) aK):=V eI.inC.inS;have i0:=V aM;have f3:G (Cf a5 g9):=V (e2.o.trans aM.fresh);clear eI aM u gT d5 f7 f6;(try go_simp)
 refine A _ ?_;clear A a7;have cT:=i0;refine lq 6 cT.o ?_;refine zQ M ?_ _;have gS:G (∀e∈aK,e.size<=1000000000000):=V (λe u=>by
  rw[dZ.o]at u;rcases Aw9.1 u with c|c
  .exact bK.o.rs e c
  exact bK.o.ts e c)
 go_wp2
 go_loopw [4] (λw wr=>∃v:Nat,v<=aK.length/\w=.int .i64 v/\(∀(b:Nat) e,b<v->aK[b]?=some e->qE e=true)/\Cf g9 wr) (λw _=>aK.length-(intOf w).toNat)
 .exact⟨0,H,D,λb e6 c=>absurd c (Ax1 _),cR⟩
 obtain⟨g,eD,rfl,a4,n⟩:=hrel;obtain⟨i,rfl⟩:∃h:World,h=wr:=⟨_,D⟩;have F:=V a4;have cO:=V n;clear a4 n;by_cases aV:g<aK.length
 .have b4:=rO g aK.length
  obtain⟨e,j8,aD,j2,u,iT,rfl,-,-,-,hO⟩:=(zL.of (gM.o.chg cO.o iF)).get1' (f:=λe=>[.string e]) D aV D;obtain rfl:e=j8:=iT;have k9:=hO _ D;have kX:=gS.o e (Az1 u);have fB:=V u;clear u hO;obtain⟨j,O⟩:=rM (decide (e.size=0));have aT:(e.toList == ([]:List UInt8))=j:=(by rw[Et,O]);have kD:(e.toList == (⟨#[]⟩:Str).toList)=j:=(by rw[show (⟨#[]⟩:Str).toList=[] from by rw[ByteArray.toList_eq]];exact aT);have kF:e.toList.isEmpty=j:=(by rw[<-aT];cases e.toList <;> rfl);obtain⟨r,a1⟩:=rM (decide ((64:Int)<(e.size:Int)));have a9:decide (64<e.size)=r:=(by rw[<-a1];exact decide_eq_decide.2 H);have bI:G (qE e=!(j || r)):=V (by rw[Er,O,a9]);clear O;rcases lad2 j r with t|t|⟨rfl,rfl⟩
  .subst t
   have q:G (N=false):=V (a6.o (λc=>by
    have t:=bI.o;have:e∈a.rl++a.tk:=by rw[<-dZ.o];exact Az1 fB.o
    rcases Aw9.1 this with o|o
    .rw[c.rn e o]at t;cases t
    rw[c.tn e o]at t;cases t))
   go_wp2;go_ret
   exact⟨by rw[q.o];rfl,a0.o.trans (f3.o.trans cO.o)⟩
  .obtain⟨rfl,rfl⟩:=t
   have q:G (N=false):=V (a6.o (λc=>by
    have t:=bI.o;have:e∈a.rl++a.tk:=by rw[<-dZ.o];exact Az1 fB.o
    rcases Aw9.1 this with o|o
    .rw[c.rn e o]at t;cases t
    rw[c.tn e o]at t;cases t))
   go_wp2;go_ret
   exact⟨by rw[q.o];rfl,a0.o.trans (f3.o.trans cO.o)⟩
  have L:G (∀(b:Nat) eZ,b<g+1->aK[b]?=some eZ->qE eZ=true):=V (λb eZ y g2=>by
   by_cases b8:b=g
   .subst b8
    rw[fB.o]at g2;rw[<-Az2 g2];exact bI.o
   exact F.o b eZ H g2)
  go_wp2;go_roundw
  .first|exact⟨g+1,H,GN,L.o,cO.o⟩|((repeat apply Ay4);exact⟨⟨g+1,H,GN,L.o,cO.o⟩,D⟩)
  simp[intOf];omega
 obtain rfl:g=aK.length:=H
 have b4:=rP aK.length;have gO:G (∀e∈a.rl++a.tk,qE e=true):=V (λe u=>by
  rw[<-dZ.o]at u;obtain⟨b,y⟩:=Aw1 u;exact F.o b e (Az0.1 y).1 y)
 have d4:G (Cf a5 i):=V (f3.o.trans cO.o);clear F gM gS;have jM:=z.o i d4.o 3 _ D;have jO:=z.o i d4.o 4 _ D;have jP:=z.o i d4.o 5 _ D;have jR:=z.o i d4.o 6 _ D;obtain⟨d9,fK⟩:=rK i.heap.size;obtain⟨aY,eM⟩:=rK (i.alloc (.cells #[.slice R a.lx.r.length W,.slice S a.lx.c.length X,.slice T a.lx.n.length Y,.slice U a.lx.e.length Z] 37));have aH:G (Cf a5 aY):=V (d4.o.trans (by rw[eM];exact rT));have aR:G (∀d,Cf aY d->d.cell? ⟨d9,0,none⟩=some (.slice R a.lx.r.length W)/\d.cell? ⟨d9,1,none⟩=some (.slice S a.lx.c.length X)/\d.cell? ⟨d9,2,none⟩=some (.slice T a.lx.n.length Y)/\d.cell? ⟨d9,3,none⟩=some (.slice U a.lx.e.length Z)):=V (λd p=>by
  have m:∀b x,(#[.slice R a.lx.r.length W,.slice S a.lx.c.length X,.slice T a.lx.n.length Y,.slice U a.lx.e.length Z]:Array Value)[b]?=some x->d.cell? ⟨d9,b,none⟩=some x:=λb x cA=>p.cellS (by rw[eM];exact zG _ fK cA) iD
  exact⟨m 0 _ D,m 1 _ D,m 2 _ D,m 3 _ D⟩)
 go_upto_region 10 with fail
 rw[<-eM,<-fK];clear eM fK jM jO jP jR;have d6:G (∀d,Cf aY d->Calls prog 44 #[.agg #[.slice R a.lx.r.length W,.slice S a.lx.c.length X,.slice T a.lx.n.length Y,.slice U a.lx.e.length Z]] d λs l=>s=.returned (.bool (mayT a.lx))/\Cf d l):=V (λd p=>Eo a.lx (R,a.lx.r.length,W) (S,a.lx.c.length,X) (T,a.lx.n.length,Y) (U,a.lx.e.length,Z) 0 d (LexIn.tab (LexIn.good.mono (b2.o d (aH.o.trans p)).lx (λ_ _ _=>Ax9 _))) bK.o.lx);obtain⟨j,b7⟩:=rM (mayT a.lx);rw[b7]at d6;cases j with
 | false =>
  have q:G (N=false):=V (a6.o (λc=>by
   have:=(uS c.lx).m;rw[dL.2 this]at b7;cases b7))
  clear b7;refine ws (λl=>Cf aY l) ?_;refine rf aR.o ?_;refine xA D (Value.bool false )  44  ( #[.agg #[.slice R a.lx.r.length W,.slice S a.lx.c.length X,.slice T a.lx.n.length Y,.slice U a.lx.e.length Z]]) (λl=>by go_simp) (λ_ l _ k=>?_) (λa7 A=>?_)
  .refine (d6.o l k).mono ?_
   rintro s bD ⟨rfl,n⟩;exact⟨D,k.trans n⟩
  ((try go_simp);refine A _ ?_;clear A a7)
  (iterate 16 (first|(refine rq ?_)|(refine sq ?_)))
  refine zW ?_;intro eX a3;have b1:=V a3;clear a3;go_wp2;go_ret
  exact⟨by rw[q.o];rfl,a0.o.trans (aH.o.trans b1.o)⟩
 | true =>
  have eH:=dL.1 b7;have dX:=V eH;have gH:G (∀cX∈a.lx.c,0<=cX/\cX<=1000000000):=V (λcX n=>by have:=eH.cb cX n;omega);have f1:G (∀d,Cf aY d->Calls prog 45 #[.agg #[.slice R a.lx.r.length W,.slice S a.lx.c.length X,.slice T a.lx.n.length Y,.slice U a.lx.e.length Z]] d λs l=>s=.returned (.int .i64 (vC a.lx.c))/\Cf d l):=V (λd p=>te a.lx ⟨(R,a.lx.r.length,W),(S,a.lx.c.length,X),(T,a.lx.n.length,Y),(U,a.lx.e.length,Z)⟩ c3 d (b2.o d (aH.o.trans p)).lx bK.o.lx.c gH.o);have fO:=tE a.lx.c;have hN:vC a.lx.c<=1000000000:=cE H (λcX n=>by have:=eH.cb cX n;omega);obtain⟨h5,fP⟩:=rM (vC a.lx.c);rw[fP]at f1 fO hN;have f4:=V fP;clear b7 eH fP;obtain⟨r,a1⟩:=rM (decide ((65536:Int)<(a.lx.n.length:Int)));have a9:decide (65536<a.lx.n.length)=r:=(by rw[<-a1];exact decide_eq_decide.2 H);cases r with
  | true =>
   have q:G (N=false):=V (a6.o (λc=>by
    have:=(uS c.lx).nl;have:=of_decide_eq_true a9;omega))
   refine ws (λl=>Cf aY l) ?_;refine rf aR.o ?_;refine xA D (Value.bool true )  44  ( #[.agg #[.slice R a.lx.r.length W,.slice S a.lx.c.length X,.slice T a.lx.n.length Y,.slice U a.lx.e.length Z]]) (λl=>by go_simp) (λ_ l _ k=>?_) (λa7 A=>?_)
   .refine (d6.o l k).mono ?_
    rintro s bD ⟨rfl,n⟩;exact⟨D,k.trans n⟩
   ((try go_simp);refine A _ ?_;clear A a7)
   (iterate 16 (first|(refine rf aR.o ?_)|(refine sq ?_)))
   refine zW ?_;intro eX a3;have b1:=V a3;clear a3;go_wp2;go_ret
   exact⟨by rw[q.o];rfl,a0.o.trans (aH.o.trans b1.o)⟩
  | false =>
   have kV:a.lx.n.length<=65536:=(by have:=of_decide_eq_false a9;omega);obtain⟨dU,dM⟩:=rM ((a.lx.n.length:Int) * h5);have iR:0<=dU:=(by rw[<-dM];exact Int.mul_nonneg H fO);have iS:dU<=65536 * 1000000000:=(by rw[<-dM];exact Int.mul_le_mul H hN fO H);have e0:=V dM;have fT:IntKind.i64.wrap dU=dU:=IntWalk.i64_in _ H;have gV:=V fT;obtain⟨a8,b6⟩:=rM (decide ((4194304:Int)<dU));clear dM fT
   go_cut [82] from 65 to 82 (λx aZ=>x=.bool a8/\Cf aY aZ)
   .refine ws (λl=>Cf aY l) ?_;refine rf aR.o ?_;refine xA D (Value.bool true )  44  ( #[.agg #[.slice R a.lx.r.length W,.slice S a.lx.c.length X,.slice T a.lx.n.length Y,.slice U a.lx.e.length Z]]) (λl=>by go_simp) (λ_ l _ k=>?_) (λa7 A=>?_)
    .refine (d6.o l k).mono ?_
     rintro s bD ⟨rfl,n⟩;exact⟨D,k.trans n⟩
    ((try go_simp);refine A _ ?_;clear A a7)
    (iterate 12 (first|(refine rf aR.o ?_)|(refine sq ?_)))
    refine xA D (Value.int .i64 h5 )  45  ( #[.agg #[.slice R a.lx.r.length W,.slice S a.lx.c.length X,.slice T a.lx.n.length Y,.slice U a.lx.e.length Z]]) (λl=>by go_simp) (λ_ l _ k=>?_) (λa7 A=>?_)
    .refine (f1.o l k).mono ?_
     rintro s bD ⟨rfl,n⟩;exact⟨D,k.trans n⟩
    ((try go_simp);refine A _ ?_;clear A a7)
    (iterate 3 (first|(refine rq ?_ (by intro _ l _ k;have fT:=gV.o;have dM:=e0.o;go_simp;try with_reducible rfl))|(refine sq ?_)))
    refine zW ?_;intro eX a3;have b1:=V a3;clear a3;go_wp2_with fail
    go_meet
    exact⟨D,b1.o⟩
   obtain⟨rfl,aM⟩:=hcut;have C:=V aM;clear aM;cases a8 with
   | true =>
    have q:G (N=false):=V (a6.o (λc=>by
     have m:=(uS c.lx).pr;have o:=of_decide_eq_true b6;rw[f4.o,e0.o]at m;omega))
    go_wp2;go_ret
    exact⟨by rw[q.o];rfl,a0.o.trans (aH.o.trans C.o)⟩
   | false =>
    have f8:G (a.lx.n.length<=65536/\(a.lx.n.length:Int) * vC a.lx.c<=4194304):=V (by
     have o:=of_decide_eq_false b6;rw[f4.o,e0.o];omega)
    clear a1 a9 b6 gV e0 iR iS f1 d6 gH;obtain⟨cH,cI,cK,cM⟩:=aR.o _ C.o;obtain⟨gD,rfl⟩:∃h:World,h=wc:=⟨_,D⟩;go_wp2
    go_loopw [6] (λw wr=>∃v:Nat,v<=a.lx.r.length/\w=.int .i64 v/\(∀(b:Nat) P,b<v->a.lx.r[b]?=some P->qC P=false)/\Cf aY wr) (λw _=>a.lx.r.length-(intOf w).toNat)
    .exact⟨0,H,D,λb e6 c=>absurd c (Ax1 _),C.o⟩
    clear cH cI cK cM C;obtain⟨g,eD,rfl,a4,n⟩:=hrel;obtain⟨i,rfl⟩:∃h:World,h=wr:=⟨_,D⟩;have F:=V a4;have C:=V n;obtain⟨cH,cI,cK,cM⟩:=aR.o i n;clear a4 n;by_cases aV:g<a.lx.r.length
    .have b4:=rO g a.lx.r.length
     obtain⟨hX,hR,kK,lK,p,rfl,lN,d2,⟨lQ,lR⟩,⟨lS,lT⟩,-,-⟩:=(LexIn.tab (LexIn.good.mono (b2.o i (aH.o.trans C.o)).lx (S':=(0<=·)) (λ_ _ _=>Ax9 _))).r.getR aV;have cV:=V p;clear p;obtain⟨j,O⟩:=rM (decide (hX<0));obtain⟨r,a1⟩:=rM (decide ((1114111:Int)<hR));have bI:G (qC (hX,hR)=(j || r)):=V (by rw[<-O,<-a1];rfl);rcases lad2 j r with t|t|⟨rfl,rfl⟩
     .subst t
      have q:G (N=false):=V (a6.o (λc=>by
       have m:=(uS c.lx).rs _ (Az1 cV.o);have:=of_decide_eq_true O;simp only at m;omega))
      go_wp2;go_ret
      exact⟨by rw[q.o];rfl,a0.o.trans (aH.o.trans C.o)⟩
     .obtain⟨rfl,rfl⟩:=t
      have q:G (N=false):=V (a6.o (λc=>by
       have m:=(uS c.lx).rs _ (Az1 cV.o);have:=of_decide_eq_true a1;simp only at m;omega))
      go_wp2;go_ret
      exact⟨by rw[q.o];rfl,a0.o.trans (aH.o.trans C.o)⟩
     have L:G (∀(b:Nat) P,b<g+1->a.lx.r[b]?=some P->qC P=false):=V (λb P y aO=>by
      by_cases b8:b=g
      .subst b8
       rw[cV.o]at aO;rw[<-Az2 aO];exact bI.o
      exact F.o b P H aO)
     go_wp2;go_roundw
     .first|exact⟨g+1,H,GN,L.o,C.o⟩|((repeat apply Ay4);exact⟨⟨g+1,H,GN,L.o,C.o⟩,D⟩)
     simp[intOf];omega
    obtain rfl:g=a.lx.r.length:=H
    have b4:=rP a.lx.r.length;have h0:G (a.lx.r.any qC=false):=V (by
     rw[Aw4];intro P aO;obtain⟨b,y⟩:=Aw1 aO;rw[F.o b P (Az0.1 y).1 y];exact Au6)
    clear F;go_wp2_with fail
    obtain⟨gD,rfl⟩:∃h:World,h=i:=⟨_,D⟩
    go_loopw [7] (λw wr=>∃v:Nat,v<=a.lx.e.length/\w=.int .i64 v/\(∀(b:Nat) P,b<v->a.lx.e[b]?=some P->P<(a.tk.length:Int))/\Cf aY wr) (λw _=>a.lx.e.length-(intOf w).toNat)
    .exact⟨0,H,D,λb e6 c=>absurd c (Ax1 _),C.o⟩
    clear cH cI cK cM C;obtain⟨g,eD,rfl,a4,n⟩:=hrel;obtain⟨i,rfl⟩:∃h:World,h=wr:=⟨_,D⟩;have F:=V a4;have C:=V n;obtain⟨cH,cI,cK,cM⟩:=aR.o i n;clear a4 n;by_cases aV:g<a.lx.e.length
    .have b4:=rO g a.lx.e.length
     obtain⟨h,iG,j3,p,rfl,cZ,-,-,-,-⟩:=(b2.o i (aH.o.trans C.o)).lx.e.getI aV;have cV:=V p;have cS:=V (show _/\_ from ⟨cZ,z.o i (aH.o.trans C.o) 1 _ D⟩);clear p cZ;obtain⟨j,O⟩:=rM (decide ((a.tk.length:Int)<=h));go_upto_region 20 with fail
     clear cH cI cK cM
     go_cut [121] from 106 to 121 (λx aZ=>x=.bool j/\Cf i aZ)
     .refine ws (λl=>Cf i l) ?_;(iterate 9 (first|(refine rq ?_ (by intro _ l _ k;obtain⟨cH,cI,cK,cM⟩:=aR.o _ (C.o.trans k);have cZ:=k.cellS cS.o.1 iD;have eT:=k.cellS cS.o.2 iD;go_simp;try with_reducible rfl))|(refine sq ?_)));refine zW ?_;intro eX a3;have b1:=V a3;clear a3;go_wp2_with fail
      go_meet
      exact⟨D,b1.o⟩
     obtain⟨rfl,aM⟩:=hcut;have b0:=V (C.o.trans aM);clear aM;cases j with
     | true =>
      have q:G (N=false):=V (a6.o (λc=>by
       have m:=(uS c.lx).eb _ (Az1 cV.o);have:=of_decide_eq_true O;omega))
      go_wp2;go_ret
      exact⟨by rw[q.o];rfl,a0.o.trans (aH.o.trans b0.o)⟩
     | false =>
      have L:G (∀(b:Nat) P,b<g+1->a.lx.e[b]?=some P->P<(a.tk.length:Int)):=V (λb P y aO=>by
       by_cases b8:b=g
       .subst b8
        rw[cV.o]at aO;rw[<-Az2 aO];have:=of_decide_eq_false O;omega
       exact F.o b P H aO)
      go_wp2;go_roundw
      .first|exact⟨g+1,H,GN,L.o,b0.o⟩|((repeat apply Ay4);exact⟨⟨g+1,H,GN,L.o,b0.o⟩,D⟩)
      simp[intOf];omega
    obtain rfl:g=a.lx.e.length:=H
    have b4:=rP a.lx.e.length;have i2:G (pG a.lx a.tk.length=true):=V (by
     unfold pG;have iQ:a.lx.e≠[]:=λs=>by
      have m:=dX.o.el;have o:=dX.o.nl;rw[s]at m;simp at m
      omega
     have m:=(fh iQ).1;obtain⟨b,y⟩:=Aw1 m;have o:=F.o b _ (Az0.1 y).1 y;rw[dL.2 dX.o,h0.o,decide_eq_true f8.o.1,decide_eq_true f8.o.2,decide_eq_true o]
     rfl)
    have cP:G (Cf a5 i):=V (aH.o.trans C.o);clear F h0 dX f8 aR f4;clear C;have jT:=z.o i cP.o 7 _ D;have jV:=z.o i cP.o 8 _ D;have jX:=z.o i cP.o 9 _ D;have jH:=z.o i cP.o 10 _ D;have jI:=z.o i cP.o 11 _ D;obtain⟨iA,fH⟩:=rK i.heap.size;obtain⟨aP,eO⟩:=rK (i.alloc (.cells #[.slice b3 a.nt.st.length b5,.slice bP a.nt.s.length bZ,.slice bT a.nt.p.length c0,.slice bM a.nt.q.length bV,.slice bO a.nt.d.length bX] 40));have b0:G (Cf a5 aP):=V (cP.o.trans (by rw[eO];exact rT));have aI:G (∀d,Cf aP d->∀b x,([.slice b3 a.nt.st.length b5,.slice bP a.nt.s.length bZ,.slice bT a.nt.p.length c0,.slice bM a.nt.q.length bV,.slice bO a.nt.d.length bX]:List Value)[b]?=some x->d.cell? ⟨iA,b,none⟩=some x):=V (λd p b x cA=>p.cellS (by
     rw[eO];exact zG _ fH (by rw[<-Aw];exact cA)) iD)
    go_upto_region 23 with fail
    rw[<-eO,<-fH];clear eO fH jT jV jX jH jI cH cI cK cM;have aX:=aI.o aP cR 0 _ D;have eR:=aI.o aP cR 1 _ D;have hY:=aI.o aP cR 2 _ D;have hZ:=aI.o aP cR 3 _ D;have dT:=aI.o aP cR 4 _ D;have gP:=V (En a.nt ⟨(b3,a.nt.st.length,b5),(bP,a.nt.s.length,bZ),(bT,a.nt.p.length,c0),(bM,a.nt.q.length,bV),(bO,a.nt.d.length,bX)⟩ c3 aP (b2.o aP b0.o).nt bK.o.nt i1.o);go_wp2_with fail
    refine gP.o.mono ?_;rintro s d3 ⟨rfl,fM⟩;have a2:=V fM;have Q:=V (b0.o.trans fM);clear fM gP aX eR hY hZ dT;obtain⟨j1,d0⟩:=rM (sY a.nt);rw[d0];cases j1 with
    | false =>
     have q:G (N=false):=V (a6.o (λc=>by
      rw[c.nt]at d0;cases d0))
     clear d0;go_wp2;go_ret
     exact⟨by rw[q.o];rfl,a0.o.trans Q.o⟩
    | true =>
     have gR:=V d0;clear d0;have aX:=aI.o d3 a2.o 0 _ D;have eR:=aI.o d3 a2.o 1 _ D;have dT:=aI.o d3 a2.o 4 _ D;have g8:=z.o d3 Q.o 0 _ D;have eV:=z.o d3 Q.o 12 _ D;obtain⟨j,O⟩:=rM ((a.nt.s.length:Int) != (a.rl.length:Int));obtain⟨r,a1⟩:=rM (decide ((65536:Int)<(a.nt.st.length:Int)));obtain⟨a8,b6⟩:=rM ((a.lk.length:Int) != (a.nt.d.length:Int));have aT:(a.nt.s.length != a.rl.length)=j:=(by rw[<-O,bneC]);have a9:decide (65536<a.nt.st.length)=r:=(by rw[<-a1];exact decide_eq_decide.2 H);have c8:(a.lk.length != a.nt.d.length)=a8:=(by rw[<-b6,bneC]);by_cases b9:a.nt.s.length=a.rl.length/\a.nt.st.length<=65536/\a.lk.length=a.nt.d.length
     rotate_left
     .have q:G (N=false):=V (a6.o (λc=>b9 ⟨c.sl,c.st,c.ll⟩))
      have t:j=true\/j=false/\r=true\/j=false/\r=false/\a8=true:=by
       rcases lad3 j r a8 with c|c|c|⟨rfl,rfl,rfl⟩
       .exact .inl c
       .exact .inr (.inl c)
       .exact .inr (.inr c)
       exfalso
       apply b9
       have o:=of_decide_eq_false a9;simp at aT c8
       omega
      clear b9;rcases t with rfl|⟨rfl,rfl⟩|⟨rfl,rfl,rfl⟩ <;> (go_wp2;go_ret;exact⟨by rw[q.o];rfl,a0.o.trans Q.o⟩)
     obtain⟨cD,j7,g4⟩:=b9;obtain rfl:j=false:=(by rw[<-aT];simp[cD]);obtain rfl:r=false:=(by rw[<-a9];exact decide_eq_false H);obtain rfl:a8=false:=(by rw[<-c8];simp[g4]);have gZ:=V (show _/\_ from ⟨cD,g4⟩);clear cD g4;go_wp2;obtain⟨gD,rfl⟩:∃h:World,h=d3:=⟨_,D⟩;clear O a1 b6 aT a9 c8
     go_loopw [9] (λw wr=>∃v:Nat,v<=a.nt.st.length/\w=.int .i64 v/\(∀(b:Nat) e,b<v->a.nt.st[b]?=some e->e.2.1.any (qJ a.tk.length)=false)/\Cf aP wr) (λw _=>a.nt.st.length-(intOf w).toNat)
     .exact⟨0,H,D,λb e6 c=>absurd c (Ax1 _),a2.o⟩
     clear aX eR dT g8 eV a2 Q;obtain⟨g,eD,rfl,a4,n⟩:=hrel;obtain⟨i,rfl⟩:∃h:World,h=wr:=⟨_,D⟩;obtain⟨F,a2,Q⟩:=rZ a4 n (b0.o.trans n);have aX:=aI.o i n 0 _ D;clear a4 n;by_cases aV:g<a.nt.st.length
     .have b4:=rO g a.nt.st.length
      have i4:G (∀d,Cf i d->zL dStE dStR d c3 (b3,a.nt.st.length,b5) a.nt.st):=V (λd p=>(b2.o d (Q.o.trans p)).nt.st);obtain⟨⟨k1,⟨hA,iC,hB⟩,⟨jB,jF,jD⟩⟩,⟨j9,aB,c1⟩,aD,j2,fR,⟨dP,-,cB,d1⟩,rfl,-,kM,-,dI⟩:=(i4.o i cR).get3 (f:=hJ) D aV D;simp only at dP cB d1;subst dP;obtain⟨rfl,-⟩:=cB.len;obtain⟨-,d2,-⟩:=dI _ _ _ D;simp only[slV]at d2;have gI:=V fR;have i3:=V d2;have hP:=(bK.o.nt.e _ (Az1 fR)).1;simp only at hP;have i7:G (∀d,Cf i d->zL nG eqR d c3 (hA,aB.length,hB) aB):=V (λd p=>zL.of (cB.chg p iF));clear fR cB d1 dI;go_wp2;clear d2 aX
      go_loopw [10] (λw wr=>∃v:Nat,v<=aB.length/\w=.int .i64 v/\(∀(b:Nat) s,b<v->aB[b]?=some s->qJ a.tk.length s=false)/\Cf i wr) (λw _=>aB.length-(intOf w).toNat)
      .exact⟨0,H,D,λb e6 c=>absurd c (Ax1 _),cR⟩
      obtain⟨h,p,rfl,hQ,c9⟩:=hrel;obtain⟨aZ,rfl⟩:∃h:World,h=wr:=⟨_,D⟩;have gK:=V hQ;have cS:=V c9;have aX:=aI.o aZ (a2.o.trans c9) 0 _ D;have d2:=c9.cellS i3.o iD;clear hQ c9;by_cases iW:h<aB.length
      .have i9:=rO h aB.length
       obtain⟨⟨dR,dV,g5⟩,iB,iG,j3,hW,iV,rfl,-,kO,⟨⟨k2,k3⟩,⟨k4,k5⟩,⟨k6,k7⟩⟩,c9⟩:=(i7.o aZ cS.o).get3 (f:=de) D iW D;obtain rfl:(dR,dV,g5)=iB:=iV;obtain⟨cZ,h6,h7⟩:=c9 _ _ _ D;simp only at cZ h6 h7 k2 k3 k4 k5 k6 k7;have h2:=V hW;obtain⟨h3,eB⟩:=rK aZ.heap.size;obtain⟨bD,dO⟩:=rK (aZ.alloc (.cells #[.int .i64 dR,.int .i64 dV,.int .i64 g5] 123));have c2:G (Cf i bD):=V (cS.o.trans (by rw[dO];exact rT));have lL:bD.cell? ⟨h3,0,none⟩=some (.int .i64 dR):=(by rw[dO];exact zG _ eB D);have lM:bD.cell? ⟨h3,1,none⟩=some (.int .i64 dV):=(by rw[dO];exact zG _ eB D);have eT:=z.o bD (Q.o.trans c2.o) 1 _ D;clear hW c9;go_upto_region 32 with fail
       rw[<-dO,<-eB];clear dO eB cZ h6 h7 aX d2;obtain⟨j,O⟩:=rM (dR == 1);obtain⟨r,a1⟩:=rM (decide ((a.tk.length:Int)<=dV));have bI:G (qJ a.tk.length (dR,dV,g5)=(j && r)):=V (by rw[<-O,<-a1];rfl);have t:j=true/\r=true\/j=false\/j=true/\r=false:=(by cases j <;> cases r <;> simp);rcases t with ⟨rfl,rfl⟩|t
       .have q:G (N=false):=V (a6.o (λc=>by
         have m:=c.tb _ (Az1 gI.o);have o:aB.any (qJ a.tk.length)=true:=Au8.2 ⟨_,Az1 h2.o,by rw[bI.o];rfl⟩;simp only at m;rw[o]at m;cases m))
        go_wp2;go_ret
        exact⟨by rw[q.o];rfl,a0.o.trans (Q.o.trans c2.o)⟩
       have L:G (∀(b:Nat) s,b<h+1->aB[b]?=some s->qJ a.tk.length s=false):=V (λb s y dK=>by
        by_cases iM:b=h
        .subst iM
         rw[h2.o]at dK;rw[<-Az2 dK,bI.o];rcases t with rfl|⟨rfl,rfl⟩ <;> rfl
        exact gK.o b s H dK)
       rcases t with rfl|⟨rfl,rfl⟩ <;>
       ( go_wp2
         go_roundw
         .first|exact⟨h+1,H,GN,L.o,c2.o⟩|((repeat apply Ay4);exact⟨⟨h+1,H,GN,L.o,c2.o⟩,D⟩)
         simp[intOf];omega )
      obtain rfl:h=aB.length:=H
      have i9:=rP aB.length;have L:G (∀(b:Nat) e,b<g+1->a.nt.st[b]?=some e->e.2.1.any (qJ a.tk.length)=false):=V (λb e y u=>by
       by_cases b8:b=g
       .subst b8
        rw[gI.o]at u;rw[<-Az2 u];show aB.any _=false;rw[Aw4];intro s dK;obtain⟨b,y⟩:=Aw1 dK;rw[gK.o b s (Az0.1 y).1 y];exact Au6
       exact F.o b e H u)
      have c2:=V (a2.o.trans cS.o);go_wp2;go_roundw
      .first|exact⟨g+1,H,GN,L.o,c2.o⟩|((repeat apply Ay4);exact⟨⟨g+1,H,GN,L.o,c2.o⟩,D⟩)
      simp[intOf];omega
     obtain rfl:g=a.nt.st.length:=H
     have b4:=rP a.nt.st.length;have i5:G (∀e∈a.nt.st,e.2.1.any (qJ a.tk.length)=false):=V (λe u=>by
      obtain⟨b,y⟩:=Aw1 u;exact F.o b e (Az0.1 y).1 y)
     clear F;go_wp2_with fail
     obtain⟨gD,rfl⟩:∃h:World,h=i:=⟨_,D⟩;have hU:a.lk.length=a.nt.d.length:=gZ.o.2;have f9:=V hU;have kZ:a.nt.d.length<=1000000000:=iX;clear hU
     go_loopw [12] (λw wr=>∃v:Nat,v<=a.lk.length/\w=.int .i64 v/\(∀(b:Nat),b<v->xY (a.lk.getD b []) ((a.nt.st.getD (a.nt.d.getD b 0).toNat (0,[],[])).2.2.length:Nat) a.tk.length=true)/\Cf aP wr) (λw _=>a.lk.length-(intOf w).toNat)
     .exact⟨0,H,D,λb c=>absurd c (Ax1 _),a2.o⟩
     clear aX a2 Q;obtain⟨g,eD,rfl,a4,n⟩:=hrel;obtain⟨i,rfl⟩:∃h:World,h=wr:=⟨_,D⟩;obtain⟨F,a2,Q⟩:=rZ a4 n (b0.o.trans n);have eV:=z.o i Q.o 12 _ D;clear a4 n;by_cases aV:g<a.lk.length
     .have b4:=rO g a.lk.length
      have hS:g<a.nt.d.length:=(by rw[<-f9.o];exact aV);have e9:=b2.o i Q.o;obtain⟨⟨g6,lO,g7⟩,bH,gA,lH,eP,fV,iJ,-,-,e4⟩:=e9.lk.get1 (f:=slV) D aV (λ_=>rfl);obtain⟨rfl,-⟩:=zL.len fV;simp only[slV]at e4;obtain⟨h8,kH,lI,g0,iK,fD,-,-,-,-⟩:=e9.nt.d.getI hS;obtain⟨kB,iH,iI⟩:∃b:Nat,h8=(b:Int)/\b<a.nt.st.length:=by
       have m:=(aW a.nt).1 gR.o;obtain⟨b,o,dF⟩:=jJ a.nt.st 0 h8 (by
        have dH:=m.2.2.2.2;unfold vA at dH;rw[dH];exact Az1 g0)
       exact⟨b,by rw[o,Ax],dF⟩
      subst iH;obtain⟨⟨k1,⟨hA,iC,hB⟩,⟨jB,jF,jD⟩⟩,⟨j9,aB,c1⟩,kI,lJ,g1,⟨dP,-,cB,d1⟩,iL,-,-,-,dI⟩:=e9.nt.st.get3 (f:=hJ) D iI D;simp only at dP cB d1;obtain⟨rfl,-⟩:=d1.len;obtain⟨-,-,e5⟩:=dI _ _ _ D;simp only[slV]at e5;have f2:=V (show _/\_/\_ from ⟨e4,fD,e5⟩);have k8:=V eP;have i6:=V (show _/\_/\_ from ⟨iJ,iK,iL⟩);have eF:=bK.o.la bH (Az1 eP);have iU:c1.length<=1000000000:=(bK.o.nt.e _ (Az1 g1)).2;have gF:G (∀d,Cf i d->Calls prog 47 #[.agg #[.slice g6 bH.length g7],.int .i64 c1.length,.int .i64 a.tk.length] d λs l=>s=.returned (.bool (xY bH c1.length a.tk.length))/\Cf d l):=V (λd p=>Dv bH g6 g7 c1.length a.tk.length c3 d (uJ.good.chg fV p iF) eF.1 eF.2 iU H);have f5:G (xY (a.lk.getD g []) ((a.nt.st.getD (a.nt.d.getD g 0).toNat (0,[],[])).2.2.length:Nat) a.tk.length=xY bH c1.length a.tk.length):=V (by
       rw[Aw5,Aw5,Aw5,eP,g0];simp only[Option.getD_some,Ay5];rw[g1]
       rfl)
      have hP:bH.length<=1000000000:=eF.1;clear eP fV g0 g1 cB d1 dI e4 fD e5 eF e9 dP;obtain⟨rfl,rfl,rfl⟩:=i6.o;obtain⟨j,b7⟩:=rM (xY bH c1.length a.tk.length);rw[b7]at gF f5;clear b7;go_upto_region 37 with fail
      clear eV
      go_cut [216] from 189 to 216 (λx aZ=>x=.bool (!j)/\Cf i aZ)
      .refine ws (λl=>Cf i l) ?_;(iterate 19 (first|(refine rq ?_ (by intro _ l _ k;have aX:=aI.o _ (a2.o.trans k) 0 _ D;have dT:=aI.o _ (a2.o.trans k) 4 _ D;have eV:=z.o _ (Q.o.trans k) 12 _ D;have eT:=z.o _ (Q.o.trans k) 1 _ D;have e4:=k.cellS f2.o.1 iD;have fD:=k.cellS f2.o.2.1 iD;have e5:=k.cellS f2.o.2.2 iD;go_simp;try with_reducible rfl))|(refine sq ?_)))
       refine xA D (Value.bool j )  47  ( #[.agg #[.slice g6 bH.length g7],.int .i64 c1.length,.int .i64 a.tk.length]) (λl=>by go_simp) (λ_ l _ k=>?_) (λa7 A=>?_)
       .refine (gF.o l k).mono ?_
        rintro s bD ⟨rfl,n⟩;exact⟨D,k.trans n⟩
       ((try go_simp);refine A _ ?_;clear A a7)
       (iterate 1 (first|(refine rq ?_)|(refine sq ?_)))
       refine zW ?_;intro eX a3;have b1:=V a3;clear a3;go_wp2_with fail
       go_meet
       exact⟨D,b1.o⟩
      obtain⟨rfl,aM⟩:=hcut;have f0:=V (a2.o.trans aM);clear aM;cases j with
      | false =>
       have q:G (N=false):=V (a6.o (λc=>by
        have m:=c.lk;unfold fU at m;have o:=Aw0.1 m g (At1.2 hS);rw[f5.o]at o;cases o))
       go_wp2;go_ret
       exact⟨by rw[q.o];rfl,a0.o.trans (b0.o.trans f0.o)⟩
      | true =>
       have L:G (∀(b:Nat),b<g+1->xY (a.lk.getD b []) ((a.nt.st.getD (a.nt.d.getD b 0).toNat (0,[],[])).2.2.length:Nat) a.tk.length=true):=V (λb y=>by
        by_cases b8:b=g
        .subst b8
         exact f5.o
        exact F.o b H)
       go_wp2;go_roundw
       .first|exact⟨g+1,H,GN,L.o,f0.o⟩|((repeat apply Ay4);exact⟨⟨g+1,H,GN,L.o,f0.o⟩,D⟩)
       simp[intOf];omega
     obtain rfl:g=a.lk.length:=H
     have b4:=rP a.lk.length;have q:G (N=true):=V (i8.o ⟨gX.o.2,j5,j6,gX.o.1,λe u=>gO.o e (List.mem_append_left _ u),λe u=>gO.o e (List.mem_append_right _ u),i2.o,gR.o,gZ.o.1,j7,f9.o,by
      unfold fU;rw[Aw0];intro b y;exact F.o b (by rw[f9.o];exact At1.1 y),i5.o⟩)
     go_wp2;go_ret
     exact⟨by rw[q.o];rfl,a0.o.trans Q.o⟩
end Go.Proofs.YtgnpmceimpjheaaGreat
