/- A part of the proof: RowsQ TakeP TakeQ RowsV CodP CodG BackP MakeL BackL EncL EncD. -/
import Derived.Test.YtgnpmceimpjheaaGreatGG3
set_option maxRecDepth 100000
set_option maxHeartbeats 16000000
namespace Go.Proofs.YtgnpmceimpjheaaGreat
open Go.RowKit Go.Proofs.Tryz
variable {a b c d e f g h i j k l m n o p q r:Nat}{w v u t s:World}{X Y W L T:List Int}{A B C E Z:Value}{x y z:Int}{N R:Bool}{F Q:Option Addr}{S P:Nat->Prop}
theorem aJ:∀(a b:List (Int×Int)) (c:Int),yG c (a++b)=yG c a++yG (kY c a) b
 | [],b,c=>rfl
 | d :: a,b,c=>by
  have:=aJ a b d.1;simp only[At0,yG,this]
  rfl
theorem lp (i:a<=65536):∀(d:List (Int×Int)) (lf e:Int),yS a x lf d=true->e<=lf+1->0<=e->∀c∈yG e d,0<=c/\c<4294967296
 | [],_,_,_,_,_,c,b=>by cases b
 | f :: d,lf,e,g,m,n,c,b=>by
  simp only[yS,Ay6,decide_eq_true_eq]at g;obtain⟨⟨⟨⟨j,k⟩,l⟩,-⟩,h⟩:=g;simp only[yG,Ax5]at b;rcases b with rfl|rfl|b
  .omega
  .omega
  exact lp i d f.1 f.1 h H H c b
theorem mU {d:RowD}(k:a<=65536) (f:uC a d=true):kE d.1/\d.2.length<=a/\∀c∈xS d,0<=c/\c<4294967296:=by
 obtain⟨g,e⟩:=d;by_cases h:a=0
 .subst h
  simp only[uC,if_true,Ay6,decide_eq_true_eq]at f;obtain⟨rfl,rfl⟩:=f;refine⟨dE,Ay1 _,λc b=>?_⟩;simp[xS,yG]at b
  subst b;omega
 simp only[uC,if_neg h,Ay6,decide_eq_true_eq]at f
 obtain⟨⟨⟨i,-⟩,j⟩,l⟩:=f;refine⟨j,by show e.length<=a;omega,λc b=>?_⟩;simp only[xS,Ax5]at b;rcases b with rfl|rfl|b
 .show 0<=g+1/\g+1<4294967296
  omega
 .show 0<=(e.length:Int)/\(e.length:Int)<4294967296
  omega
 exact lp k e (-1) 0 i H H c b
theorem du:∀(d:List Int) (g e f:Int),qN g e d=some f->∀b∈d,0<=b/\b<e
 | [],_,_,_,_,b,a=>by cases a
 | h :: d,g,e,f,c,b,a=>by
  simp only[qN]at c
  split at c
  .cases c
  rcases Ax5.1 a with rfl|a
  .omega
  exact du d _ e f c b a
theorem eA {b:List RowD}(e:mayL (x,b,X)=true):(∀c∈vE (x,b,X),0<=c/\c<4294967296)/\b.length<=X.length:=by
 obtain⟨i,d,f,j⟩:=jY e;have k:=gh X 0 b.length _ d;refine⟨λc a=>?_,H⟩;simp only[vE,Ax5,Aw9,List.mem_flatMap]at a;rcases a with rfl|rfl|⟨h,g,a⟩|rfl|a
 .omega
 .omega
 .exact (mU H (f h g)).2.2 c a
 .omega
 have:=du X 0 b.length _ d c a
 omega
theorem lr {W:Int}{b:List RowD}{O:List Int}{c:RowD}(d:b[a]?=some c):vE (W,b,O)=(W :: (b.length:Int) :: (b.take a).flatMap xS)++(xS c++((b.drop (a+1)).flatMap xS++(O.length:Int) :: O)):=by
 have e:=(Az0.1 d).1;have f:b=b.take a++c :: b.drop (a+1):=by
  rw[<-(Az0.1 d).2,<-Av7 e,List.take_append_drop]
 simp only[vE];rw[show b.flatMap xS=(b.take a++c :: b.drop (a+1)).flatMap xS by rw[<-f]];simp
theorem lu {d:Int}{b:List (Int×Int)}{c:Int×Int}(e:b[a]?=some c):xS (d,b)=((d+1) :: (b.length:Int) :: yG 0 (b.take a))++((c.1-kY 0 (b.take a)) :: (c.2+1) :: yG c.1 (b.drop (a+1))):=by
 have f:=(Az0.1 e).1;have g:b=b.take a++c :: b.drop (a+1):=by
  rw[<-(Az0.1 e).2,<-Av7 f,List.take_append_drop]
 simp only[xS];rw[show yG 0 b=yG 0 (b.take a++c :: b.drop (a+1)) by rw[<-g],aJ];simp[yG]
theorem vk {W:Int}{R:List RowD}(b:X[a]?=some x):vE (W,R,X)=((W :: (R.length:Int) :: R.flatMap xS)++[(X.length:Int)]++X.take a)++(x :: X.drop (a+1)):=by
 have c:=(Az0.1 b).1;simp only[vE];rw[<-(Az0.1 b).2,<-Av7 c];simp
structure Apart1 (bo:Nat) (w:World) (v:Value) (b:Nat):Prop where
 ne:b≠bo
 lt:b<w.heap.size
 out:∀g,v.ownBlock=some g->g≠b
theorem Apart1.next (d:Apart1 a w A b) {f:Nat->Prop}(i:J f w v) (h:∀c,B.ownBlock=some c->A.ownBlock=some c\/w.heap.size<=c):Apart1 a v B b :=
 ⟨d.ne,Ay9 d.lt i.size,λc j g=>by
  rcases h c j with e|e
  .exact d.out c e g
  have:=d.lt;omega⟩
theorem Apart1.keep (d:Apart1 a w A b) (h:J (λf=>f=a\/A.ownBlock=some f) w v) {e:Nat}{g:Value}(i:w.cell? ⟨b,e,none⟩=some g):v.cell? ⟨b,e,none⟩=some g :=
 h.cellS i (λc=>by rcases c with c|c;(exact d.ne c);exact d.out _ c D)
structure PutSt (w0:World) (bo:Nat) (w:World) (v:Value) (N:List Int):Prop where
 fld:Fld8 bo w v (gL N)
 chg:J (λk=>bo<=k) w0 w
theorem PutSt.put {d v':Value}(c:PutSt w a v d X) (f:Fld8 a u v' (gL X++putL x.toNat)) (e:J (λk=>k=a\/d.ownBlock=some k) v u):PutSt w a u v' (X++[x]) :=
 ⟨by rw[lm];exact f,c.chg.trans (e.mono (λk _ b=>by
  rcases b with b|b
  .omega
  have:=(gx c.fld.own b).1;omega))⟩
theorem PutSt.alloc (b:PutSt w a v A X) (c:Obj):PutSt w a (v.alloc c) A X :=
 ⟨b.fld.chg ((FR v).alloc c) (λ_ _ _ b=>b),b.chg.alloc c⟩
theorem PutSt.fresh (b:PutSt w a v A X) (d:Obj):Apart1 a (v.alloc d) A v.heap.size :=
 ⟨by have:=b.fld.lt;omega,sI,λf c e=>by have:=(gx b.fld.own c).2;omega⟩
theorem vm (u:List Int) (e:Int) (a:List RowD) (b:List Int) (P O aK:Option Addr) (Q W b4 b6 bO bZ b5 bM:Nat) (j:World) (e8:I.Byte e) (cM:vW vU rowE j bZ (P,a.length,Q) a) (eO:a.length<=100000000) (cV:∀bP∈a,bP.2.length<=1000000000)
  (cK:I.BytesAt j b5 bM b) (aO:0<b.length->O=some ⟨b5,bM,none⟩) (eK:b.length<=100000000) (aP:mayL (e,a,b)=true)
  (cS:BytesAt j b6 bO u) (cP:0<u.length->aK=some ⟨b6,bO,none⟩) (g0:u.length<=1000000) (cI:(vE (e,a,b)).length<=10000000) :
  Calls prog 117 #[.slice aK u.length b4,.agg #[.int .i64 e,.slice P a.length Q,.slice O b.length W]] j λn dF=>∃U,n=.returned (.tuple #[.slice (some ⟨U,0,none⟩) (u++kW (e,a,b)).length (u++kW (e,a,b)).length,.int .i64 0])/\j.heap.size<=U/\Row dF U (u++kW (e,a,b))/\Cf j dF:=by
 have aX:=V ((FR j).alloc (.cells #[.int .i64 e,.slice P a.length Q,.slice O b.length W] 201));have c3:G (∀wr,Cf (j.alloc (.cells #[.int .i64 e,.slice P a.length Q,.slice O b.length W] 201)) wr->wr.cell? ⟨j.heap.size,0,none⟩=some (.int .i64 e)/\wr.cell? ⟨j.heap.size,1,none⟩=some (.slice P a.length Q)/\wr.cell? ⟨j.heap.size,2,none⟩=some (.slice O b.length W)/\j.heap.size<wr.heap.size):=V λwr F =>
  ⟨F.cellS sI iD,F.cellS sI iD,F.cellS sI iD,by have:=F.size;simp at this;omega⟩
 obtain⟨c8,c6,c1,c4,dX,dK,dI⟩:=sH cM cK aO cV aP cS cP;have E:=V (eA aP).1;have f9:=V (eA aP).2;have f7:=V cI;have B:G (∀(aH cD:List Int),vE (e,a,b)=aH++cD->(gL aH).length<=100000000):=V λaH cD U=>by
  have:=gw aH (λeT eH=>E.o eT (by rw[U];simp[eH]));have b7:=congrArg List.length U;simp only[Az]at b7;omega
 obtain⟨e4,e2,dZ⟩:=rZ (E.o e (by simp[vE])) (E.o a.length (by simp[vE])) (E.o b.length (by simp[vE]));clear cM cK aO cV aP cS cP cI;go_enter func117,ntmps117
 go_wp2_with fail
 refine (gj e a b P O Q W bZ b5 bM _ e8 (c8.o.same aX.o) eO c4.o (c6.o.chg aX.o iE) c1.o eK).mono ?_;rintro n i ⟨rfl,b9⟩;rw[dX.o];obtain⟨v,w,x,fR⟩:=c3.o i b9;have aY:=V (aX.o.trans b9);have Z:G (PutSt i i.heap.size (i.alloc (.cells #[.slice none 0 0] 45)) (.slice none 0 0) []):=V ⟨⟨by rw[Az5];rfl,Az6 _ _ _ _,.inl ⟨D,D⟩⟩,rT⟩;have R:G (∀wr,J (λf=>i.heap.size<=f) i wr->wr.cell? ⟨j.heap.size,0,none⟩=some (.int .i64 e)/\wr.cell? ⟨j.heap.size,1,none⟩=some (.slice P a.length Q)/\wr.cell? ⟨j.heap.size,2,none⟩=some (.slice O b.length W)):=V λwr F =>
  ⟨F.cellS v (by show ¬i.heap.size<=j.heap.size;omega),F.cellS w (by show ¬i.heap.size<=j.heap.size;omega),F.cellS x (by show ¬i.heap.size<=j.heap.size;omega)⟩
 obtain⟨gD,aT⟩:=rK (i.alloc (.cells #[.slice none 0 0] 45));have e3:=V aT;rw[<-aT]at Z;obtain⟨v,w,x⟩:=R.o (i.alloc (.cells #[.slice none 0 0] 45)) (rT);rw[aT]at Z;clear b9 c3 aT e3;go_wp2_with fail
 refine (mY (e) _ _ _ _ Z.o.fld (e4.o) (Ay2 (B.o _ (vE (e,a,b)) (rfl)) H)).mono ?_;rintro n f2 ⟨g6,rfl,h,c,k⟩;have aB:=V (Z.o.put h c);clear h c k;obtain⟨v,w,x⟩:=R.o f2 aB.o.chg;clear Z;go_wp2_with fail
 refine (mY ((a.length:Int)) _ _ _ _ aB.o.fld (e2.o) (Ay2 (B.o _ (a.length :: (a.flatMap xS++(b.length:Int) :: b)) (rfl)) H)).mono ?_;rintro n bV ⟨bT,rfl,h,c,k⟩;have K:=V (aB.o.put h c);clear h c k;obtain⟨v,w,x⟩:=R.o bV K.o.chg;clear aB;go_wp2_with fail
 go_loopw [31] (λr wr=>∃(f:Nat) (p:Value),f<=a.length/\r=.int .i64 f/\PutSt i i.heap.size wr p (e :: (a.length:Int) :: (a.take f).flatMap xS)) (λr _=>a.length-(intOf r).toNat)
 .exact⟨0,bT,H,D,by simpa using K.o⟩
 clear K v w x;obtain⟨f,p,bH,rfl,o⟩:=hrel;have m:=V o;obtain⟨v,w,x⟩:=R.o wr o.chg;have aZ:=V (aY.o.trans (o.chg.fresh));clear o;by_cases bI:f<a.length
 .have e6:=rO f a.length
  obtain⟨bP,fM,g3,a7,a8,a1,rfl,T,N,d6,bF,-,-⟩:=c8.o.get D (λ_=>rfl) bI;obtain⟨rd,g⟩:=bP;simp only at T N bF d6;have T:=aZ.o.cellS T iD;have N:=aZ.o.cellS N iD;obtain⟨f8,dT,e0,s⟩:=sB a1 bF (c4.o _ (Az1 a1)) (lr (W:=e) (O:=b) a1);have e9:=E.o (rd+1) (by rw[s.o];simp[xS]);have d0:=E.o (g.length:Int) (by rw[s.o];simp[xS]);have b2:G (a.take (f+1)=a.take f++[(rd,g)]):=V (by rw[Ay3,a1];rfl);obtain⟨eB,eD⟩:=e9;obtain⟨dP,dU,L,z⟩:=sB (And.intro eB eD) d0 (m.o.alloc (.cells #[.int .i64 rd,.slice a7 g.length a8] 241)) (m.o.fresh (.cells #[.int .i64 rd,.slice a7 g.length a8] 241));have a2:(wr.alloc (.cells #[.int .i64 rd,.slice a7 g.length a8] 241)).cell? ⟨wr.heap.size,0,none⟩=some (.int .i64 rd):=(by rw[Az5];rfl);have a4:(wr.alloc (.cells #[.int .i64 rd,.slice a7 g.length a8] 241)).cell? ⟨wr.heap.size,1,none⟩=some (.slice a7 g.length a8):=(by rw[Az5];rfl);obtain⟨f1,eM⟩:=rK wr.heap.size;clear a1 bF d6 d0;go_wp2_with fail
  refine (mY (rd+1) _ _ _ _ L.o.fld (dP.o) (Ay2 (B.o _ (_) (by exact s.o)) H)).mono ?_;rintro n dH ⟨dB,rfl,h,c,k⟩;have C:=V (L.o.put h c);have A:=V (z.o.next c k);have a3:=z.o.keep c a2;have a5:=z.o.keep c a4;clear h c k;clear L z a2 a4;go_wp2_with fail
  refine (mY ((g.length:Int)) _ _ _ _ C.o.fld (dU.o) (Ay2 (B.o _ ((g.length:Int) :: yG 0 g++((a.drop (f+1)).flatMap xS++(b.length:Int) :: b)) (by rw[s.o];simp[xS])) H)).mono ?_;rintro n f3 ⟨dD,rfl,h,c,k⟩;have aD:=V (C.o.put h c);have c2:=V (A.o.next c k);have d8:=A.o.keep c a3;have d9:=A.o.keep c a5;clear h c k;clear C A a3 a5;go_wp2_with fail
  have e1:G (g.length<=1000000000):=e0;clear v w x d8 d9 c2 T N e6 eM f1;obtain⟨a6,rfl⟩:∃a6:World,a6=wr:=⟨_,D⟩
  go_loopw [10,48] (λeR r wr=>∃(l:Nat) (p:Value),l<=g.length/\r=.int .i64 l/\eR=.int .i64 (kY 0 (g.take l))/\PutSt i i.heap.size wr p ((e :: (a.length:Int) :: (a.take f).flatMap xS)++[rd+1]++[(g.length:Int)]++yG 0 (g.take l))) (λ_ r _=>g.length-(intOf r).toNat)
  .exact⟨0,dD,H,D,D,by simpa [yG] using aD.o⟩
  clear aD m;obtain⟨l,p,fT,rfl,rfl,o⟩:=hrel;have m:=V o;have S:=V (aY.o.trans (o.chg.fresh));have fZ:=e1.o;clear o;by_cases eF:l<g.length
  .have fB:=rO l g.length
   obtain⟨f4,fO,g4,g5,g8,aV,rfl,d3,T,N,eI,-,-⟩:=(dT.o.same S.o).get2 D eF;obtain⟨rfl,rfl⟩:=az d3;obtain⟨q,y⟩:=f4;obtain⟨⟨eV,eX⟩,⟨eZ,f0⟩⟩:=eI;simp only at T N eV eX eZ f0;have Y:=V (lu (d:=rd) aV);have c9:G (yG 0 (g.take (l+1))=yG 0 (g.take l)++[q-kY 0 (g.take l),y+1]):=V (by rw[Ay3,aV];exact cG _ _ _);have dV:G (kY 0 (g.take (l+1))=q):=V (by rw[Ay3,aV];exact vi _ _ _);have bB:=E.o (q-kY 0 (g.take l)) (by rw[s.o,Y.o];simp);have cX:=E.o (y+1) (by rw[s.o,Y.o];simp);obtain⟨d7,d1⟩:=rM (kY 0 (g.take l));rw[d1]at c9 bB Y ⊢;have dM:=V bB;have dO:=V cX;obtain⟨fH,cF⟩:=bB;obtain⟨fI,fK⟩:=cX;have c7:G (vE (e,a,b)=((e :: (a.length:Int) :: (a.take f).flatMap xS)++[rd+1]++[(g.length:Int)]++yG 0 (g.take l))++((q-d7) :: (y+1) :: yG q (g.drop (l+1))++((a.drop (f+1)).flatMap xS++(b.length:Int) :: b))):=V (by rw[s.o,Y.o];simp);have L:=V (m.o.alloc (.cells #[.int .i64 q,.int .i64 y] 246));have z:=V (m.o.fresh (.cells #[.int .i64 q,.int .i64 y] 246));have a2:(wr.alloc (.cells #[.int .i64 q,.int .i64 y] 246)).cell? ⟨wr.heap.size,0,none⟩=some (.int .i64 q):=(by rw[Az5];rfl);have a4:(wr.alloc (.cells #[.int .i64 q,.int .i64 y] 246)).cell? ⟨wr.heap.size,1,none⟩=some (.int .i64 y):=(by rw[Az5];rfl);clear aV d3 d1 Y;go_wp2_with fail
   refine (mY (q-d7) _ _ _ _ L.o.fld (dM.o) (Ay2 (B.o _ (_) (by exact c7.o)) H)).mono ?_;rintro n dH ⟨dB,rfl,h,c,k⟩;have C:=V (L.o.put h c);have A:=V (z.o.next c k);have a3:=z.o.keep c a2;have a5:=z.o.keep c a4;clear h c k;clear L z a2 a4;go_wp2_with fail
   refine (mY (y+1) _ _ _ _ C.o.fld (dO.o) (Ay2 (B.o _ ((y+1) :: yG q (g.drop (l+1))++((a.drop (f+1)).flatMap xS++(b.length:Int) :: b)) (by rw[c7.o];simp)) H)).mono ?_;rintro n f3 ⟨dD,rfl,h,c,k⟩;have aD:=V (C.o.put h c);have c2:=V (A.o.next c k);have d8:=A.o.keep c a3;have d9:=A.o.keep c a5;clear h c k;clear C A a3 a5;go_wp2;go_roundw
   .exact⟨l+1,_,H,GN,by rw[dV.o],by rw[c9.o];simpa using aD.o⟩
   simp[intOf];omega
  obtain rfl:l=g.length:=H
  have t:G (PutSt i i.heap.size wr p (e :: (a.length:Int) :: (a.take (f+1)).flatMap xS)):=V (by
   have:=m.o;rw[Ay7]at this;rw[b2.o];simpa [xS] using this)
  clear m;go_wp2;go_roundw
  .exact⟨f+1,p,H,GN,t.o⟩
  simp[intOf];omega
 obtain rfl:f=a.length:=H
 have t:G (PutSt i i.heap.size wr p (e :: (a.length:Int) :: a.flatMap xS)):=V (by have:=m.o;rwa [Ay7]at this);clear m;go_wp2_with fail
 refine (mY ((b.length:Int)) _ _ _ _ t.o.fld (dZ.o) (Ay2 (B.o _ ((b.length:Int) :: b) (by simp[vE])) H)).mono ?_;rintro n bV ⟨bT,rfl,h,c,k⟩;have K:=V (t.o.put h c);clear h c k;obtain⟨v,w,x⟩:=R.o bV K.o.chg;clear t;go_wp2_with fail
 obtain⟨a6,rfl⟩:∃a6:World,a6=wr:=⟨_,D⟩;clear v w x aZ
 go_loopw [75] (λr wr=>∃(f:Nat) (p:Value),f<=b.length/\r=.int .i64 f/\PutSt i i.heap.size wr p ((e :: (a.length:Int) :: a.flatMap xS)++[(b.length:Int)]++b.take f)) (λr _=>b.length-(intOf r).toNat)
 .exact⟨0,bT,H,D,by simpa using K.o⟩
 clear K;obtain⟨f,p,bH,rfl,o⟩:=hrel;have m:=V o;have S:=V (aY.o.trans (o.chg.fresh));obtain⟨v,w,x⟩:=R.o wr o.chg;clear o;by_cases bI:f<b.length
 .have fD:=rO f b.length
  obtain⟨bK,bD,N,g1,g2⟩:=(c6.o.chg S.o iE).get bI;have cF:=c1.o H;subst cF;have s:=V (vk (W:=e) (R:=a) bD);have dR:=V (E.o bK (by rw[s.o];simp));have b2:G (b.take (f+1)=b.take f++[bK]):=V (by rw[Ay3,bD];rfl);clear bD;go_wp2_with fail
  refine (mY (bK) _ _ _ _ m.o.fld (dR.o) (Ay2 (B.o _ (_) (by exact s.o)) H)).mono ?_;rintro n dH ⟨dB,rfl,h,c,k⟩;have C:=V (m.o.put h c);clear h c k;clear m;go_wp2;go_roundw
  .exact⟨f+1,_,H,GN,by rw[b2.o,<-Az7];exact C.o⟩
  simp[intOf];omega
 obtain rfl:f=b.length:=H
 have t:G (PutSt i i.heap.size wr p (vE (e,a,b))):=V (by have:=m.o;rw[Ay7]at this;simpa [vE] using this);have cB:=V (B.o (vE (e,a,b)) [] sI);have aF:=V (vj (X:=vE (e,a,b)) (by simp[vE]));obtain⟨aI,b8⟩:=rM (gL (vE (e,a,b)));have cA:G (kW (e,a,b)=aI):=V b8;obtain⟨c5,b1,f6⟩:=rZ t.o.fld.c t.o.fld.own t.o.chg;rw[b8]at cB aF b1;obtain⟨cZ,c0,eP,e7,cO,d5,fV⟩:=b1.o.some (by intro n;have:=aF.o;rw[n]at this;simp at this);subst eP;have fF:=c5.o;have e5:=V (cO.bytes d5);have a9:=V ((FR wr).alloc (.cells #[.slice aK u.length b4,.slice (some ⟨cZ,0,none⟩) aI.length c0.length] 45));clear cO d5 e7 m t c5 b1 b8;go_wp2_with fail
 refine (gv u aI aK b6 bO b4 cZ c0.length wr.heap.size _ (dK.o.chg (S.o.trans a9.o) iE) dI.o (e5.o.chg a9.o iE) aF.o H cB.o sI sI).mono ?_;rintro n bX ⟨g7,rfl,d2,cT⟩;obtain⟨aM,f5,rfl,cH,a0,aR,fX⟩:=d2.some (by intro n;have fP:=aF.o;have b7:=congrArg List.length n;rw[Az,Aw6]at b7;omega);have b0:G (Row bX aM (u++aI)/\j.heap.size<=aM/\Cf j bX):=V ⟨⟨λf b3 bH=>by have:=(a0.bytes aR).c f b3 bH;rw[Ax]at this;exact this.1,a0.z,a0.lt,λb3 aO=>a0.byte b3 (aR.subset aO)⟩,Ay2 S.o.size (Ay2 a9.o.size cH),(S.o.trans a9.o).trans cT⟩;have d4:=aR.length_le;rw[Az]at d4;clear d2 cT a0 aR cH;go_wp2_with fail
 refine (ez bX aM _ _ d4).mono ?_;rintro n g9 ⟨rfl,rfl⟩;go_wp2;go_ret2
 exact⟨aM,by rw[cA.o];simp only[Az];rfl,b0.o.2.1,by rw[cA.o];exact b0.o.1,b0.o.2.2⟩
theorem aQ:∀{f:List Int}{b e d c:Nat},rY b e f=some (d,c)->b<c/\c<=b+f.length/\d<4294967296
 | [],b,e,d,c,a=>by simp[rY]at a
 | g :: k,b,e,d,c,a=>by
  unfold rY at a
  split at a
  .cases a
  split at a
  .have:=aQ a
   simp only[Ax2];omega
  split at a
  .cases a
  rename_i h
  injection a with a;injection a with i j;simp only[Ax2];omega
abbrev Rd:=Nat×Bool
def numP (Z:List Int) (m:Nat) (s:Rd):Nat×Rd:=match rY 0 0 (Z.drop s.1) with
 | some (n,k)=>if n<=m then (n,s.1+k,s.2) else (0,s.1,true)
 | none=>(0,s.1,true)
theorem ct (c:List Int) (e:Nat) (a:Rd):(∃b d,rY 0 0 (c.drop a.1)=some (b,d)/\b<=e/\b<4294967296/\0<d/\(a.1<=c.length->a.1+d<=c.length)/\numP c e a=(b,a.1+d,a.2))\/numP c e a=(0,a.1,true):=by
 unfold numP;cases g:rY 0 0 (c.drop a.1) with
 | none=>exact .inr D
 | some h =>
  obtain⟨b,d⟩:=h;simp only;by_cases f:b<=e
  .rw[if_pos f]
   have:=aQ g;rw[Av0]at this;exact .inl ⟨b,d,D,f,H,H,λi=>H,D⟩
  rw[if_neg f]
  exact .inr D
theorem yY {Z:List Int}{m:Nat}{s:Rd}(a:s.1<=Z.length):(numP Z m s).2.1<=Z.length/\(numP Z m s).1<=m/\(numP Z m s).1<4294967296/\s.1<=(numP Z m s).2.1/\(s.2=true->(numP Z m s).2.2=true)/\((numP Z m s).2.2=true\/s.1<(numP Z m s).2.1):=by
 rcases ct Z m s with ⟨h,c,_,d,e,g,f,b⟩|b
 .rw[b]
  have:=f a;exact⟨this,d,e,by show s.1<=s.1+c;omega,λa=>a,.inr (by show s.1<s.1+c;omega)⟩
 rw[b]
 exact⟨a,Ax9 _,H,Ay1 _,λ_=>rfl,.inl D⟩
def sL (b:List Int) (c e:Nat):Nat->Rd->Int->List (Int×Int)->List (Int×Int)×Rd
 | 0,a,_,d=>(d,a)
 | g+1,a,f,d=>if a.2 then (d,a) else
  sL b c e g (numP b e (numP b c a).2).2 (f+(numP b c a).1) (d++[(f+(numP b c a).1,((numP b e (numP b c a).2).1:Int)-1)])
theorem pA {e:Rd}{f:List (Int×Int)}(d:e.2=true\/c=0):sL X a b c e x f=(f,e):=by
 cases c with
 | zero=>rfl
 | succ c=>unfold sL;rw[if_pos (by rcases d with d|d;exact d;cases d)]
theorem rL {d:Rd}{e:List (Int×Int)}(f:d.2=false):sL X a b (c+1) d x e=sL X a b c (numP X b (numP X a d).2).2 (x+(numP X a d).1) (e++[(x+(numP X a d).1,((numP X b (numP X a d).2).1:Int)-1)]):=by
 conv=>lhs;unfold sL
 rw[if_neg (by rw[f];decide)]
def rowP (a:List Int) (c b:Nat) (d:Rd):RowD×Rd :=
 ((((numP a b d).1:Int)-1,(sL a c b (numP a c (numP a b d).2).1 (numP a c (numP a b d).2).2 0 []).1),(sL a c b (numP a c (numP a b d).2).1 (numP a c (numP a b d).2).2 0 []).2)
def mJ (c:List Int) (e d:Nat):Nat->Rd->List RowD->List RowD×Rd
 | 0,a,b=>(b,a)
 | f+1,a,b=>if a.2 then (b,a) else mJ c e d f (rowP c e d a).2 (b++[(rowP c e d a).1])
theorem mS {e:Rd}{f:List RowD}(d:e.2=true\/c=0):mJ X a b c e f=(f,e):=by
 cases c with
 | zero=>rfl
 | succ c=>unfold mJ;rw[if_pos (by rcases d with d|d;exact d;cases d)]
theorem nA {d:Rd}{e:List RowD}(f:d.2=false):mJ X a b (c+1) d e=mJ X a b c (rowP X a b d).2 (e++[(rowP X a b d).1]):=by
 conv=>lhs;unfold mJ
 rw[if_neg (by rw[f];decide)]
def ofP (c:List Int) (d:Nat):Nat->Rd->List Int->List Int×Rd
 | 0,a,b=>(b,a)
 | e+1,a,b=>if a.2 then (b,a) else ofP c d e (numP c d a).2 (b++[((numP c d a).1:Int)])
theorem eC {d:Rd}(c:d.2=true\/b=0):ofP X a b d Y=(Y,d):=by
 cases b with
 | zero=>rfl
 | succ b=>unfold ofP;rw[if_pos (by rcases c with c|c;exact c;cases c)]
theorem gY {c:Rd}(d:c.2=false):ofP X a (b+1) c Y=ofP X a b (numP X a c).2 (Y++[((numP X a c).1:Int)]):=by
 conv=>lhs;unfold ofP
 rw[if_neg (by rw[d];decide)]
structure Most where
 mm:Nat
 mv:Nat
 mw:Nat->Nat
def vQ:Most:=⟨65536,16777216,id⟩
def aa:Most:=⟨4294967295,4294967295,λ_=>4294967295⟩
def xQ (Z:List Int) (B:Most):TabD×Rd :=
 let p:=numP Z B.mm (0,false)
 let q:=numP Z B.mm p.2
 let r:=mJ Z (B.mw p.1) B.mv q.1 q.2 []
 let u:=numP Z B.mm r.2
 let v:=ofP Z B.mm u.1 u.2 []
 (((p.1:Int),r.1,v.1),v.2)
-- a wrong one stays wrong
theorem eE {Z:List Int}{m:Nat}{c:Rd}(a:(numP Z m c).2.2=false):c.2=false:=by
 rcases ct Z m c with ⟨i,h,_,d,e,f,g,b⟩|b
 .rw[b]at a;exact a
 rw[b]at a;cases a
theorem am :∀{h:Nat}{c:Rd}{f:Int}{e:List (Int×Int)},(sL X a b h c f e).2.2=false->c.2=false
 | 0,c,f,e,d=>d
 | h+1,c,f,e,d=>by
  cases g:c.2 with
  | false=>rfl
  | true=>rw[pA (.inl g)]at d;rw[<-g];exact d
theorem aS :∀{k:Nat}{c:Rd}{acc:List RowD},(mJ X a b k c acc).2.2=false->c.2=false
 | 0,c,acc,d=>d
 | k+1,c,acc,d=>by
  cases e:c.2 with
  | false=>rfl
  | true=>rw[mS (.inl e)]at d;rw[<-e];exact d
theorem ag {Z:List Int}{mm:Nat}:∀{k:Nat}{a:Rd}{acc:List Int},(ofP Z mm k a acc).2.2=false->a.2=false
 | 0,a,acc,b=>b
 | k+1,a,acc,b=>by
  cases c:a.2 with
  | false=>rfl
  | true=>rw[eC (.inl c)]at b;rw[<-c];exact b
-- what is right by a number is so by a greater one
theorem bk {a m':Nat}{b:Rd}(j:a<=m') (d:(numP X a b).2.2=false):numP X m' b=numP X a b:=by
 rcases ct X a b with ⟨l,k,e,f,g,h,i,c⟩|c
 .rw[c]
  unfold numP;rw[e];simp only;rw[if_pos H]
 rw[c]at d;cases d
theorem lv (j:a<=b) (k:c<=d):∀{i:Nat}{g:Rd}{h:Int}{e:List (Int×Int)},(sL X a c i g h e).2.2=false->sL X b d i g h e=sL X a c i g h e
 | 0,g,h,e,f=>rfl
 | i+1,g,h,e,f=>by
  have m:=am f;rw[rL m]at f ⊢;have l:=am f;have o:=bk k l;have n:=bk j (eE l);rw[rL m,n,o];exact lv j k f
theorem vo (g:a<=b) (h:c<=d) {e:Rd}(f:(rowP X a c e).2.2=false):rowP X b d e=rowP X a c e:=by
 have i:=am (show (sL X a c (numP X a (numP X c e).2).1 (numP X a (numP X c e).2).2 0 []).2.2=false from f);have k:=bk g i;have j:=bk h (eE i);unfold rowP;rw[j,k,lv g h f]
theorem gy {f mw' e mv':Nat}(g:f<=mw') (h:e<=mv'):∀{d:Nat}{c:Rd}{a:List RowD},(mJ X f e d c a).2.2=false->mJ X mw' mv' d c a=mJ X f e d c a
 | 0,c,a,b=>rfl
 | d+1,c,a,b=>by
  have i:=aS b;rw[nA i]at b ⊢;rw[nA i,vo g h (aS b)];exact gy g h b
theorem lw {e mm':Nat}(f:e<=mm'):∀{d:Nat}{c:Rd}{a:List Int},(ofP X e d c a).2.2=false->ofP X mm' d c a=ofP X e d c a
 | 0,c,a,b=>rfl
 | d+1,c,a,b=>by
  have g:=ag b;rw[gY g]at b ⊢;rw[gY g,bk f (ag b)];exact lw f b
theorem vp (k:(xQ X vQ).2.2=false):xQ X aa=xQ X vQ:=by
 have d:(ofP X 65536 (numP X 65536 (mJ X (numP X 65536 (0,false)).1 16777216 (numP X 65536 (numP X 65536 (0,false)).2).1 (numP X 65536 (numP X 65536 (0,false)).2).2 []).2).1 (numP X 65536 (mJ X (numP X 65536 (0,false)).1 16777216 (numP X 65536 (numP X 65536 (0,false)).2).1 (numP X 65536 (numP X 65536 (0,false)).2).2 []).2).2 []).2.2=false:=k;have c:=ag d;have a:=eE c;have b:=aS a;have l:=eE b;have e:(numP X 65536 (0,false)).1<=4294967295:=by
  have:=(yY (Z:=X) (m:=65536) (s:=(0,false)) (Ax9 _)).2.1;omega
 have f:=bk (m':=4294967295) H l;have g:=bk (m':=4294967295) H b;have n:=gy (mw':=4294967295) (mv':=16777216) e (Ay1 _) a;have h:=gy (mw':=4294967295) (mv':=4294967295) e H a;have i:=bk (m':=4294967295) H c;have j:=lw (mm':=4294967295) H d;unfold xQ;simp only[aa,vQ,id];rw[f,g,h,i,j]
theorem bm {m m':Nat}{a:Rd}(c:(numP X m' a).2.2=false) (d:(numP X m' a).1<=m):numP X m a=numP X m' a:=by
 rcases ct X m' a with ⟨k,j,e,f,g,h,i,b⟩|b
 .rw[b]at d ⊢
  unfold numP;rw[e];simp only;rw[if_pos d]
 rw[b]at c;cases c
theorem gz :∀{d:Nat}{e:Rd}{f:Int}{c:List (Int×Int)},(sL X a b d e f c).2.2=false->c <+: (sL X a b d e f c).1/\(sL X a b d e f c).1.length=c.length+d
 | 0,e,f,c,g=>⟨Aw8 _,D⟩
 | d+1,e,f,c,g=>by
  have j:=am g;rw[rL j]at g ⊢;obtain⟨h,i⟩:=gz g;exact⟨(List.prefix_append _ _).trans h,by rw[i];simp;omega⟩
theorem ha :∀{d:Nat}{e:Rd}{c:List RowD},(mJ X a b d e c).2.2=false->c <+: (mJ X a b d e c).1/\(mJ X a b d e c).1.length=c.length+d
 | 0,e,c,f=>⟨Aw8 _,D⟩
 | d+1,e,c,f=>by
  have i:=aS f;rw[nA i]at f ⊢;obtain⟨g,h⟩:=ha f;exact⟨(List.prefix_append _ _).trans g,by rw[h];simp;omega⟩
theorem hf :∀{c:Nat}{d:Rd}{b:List Int},(ofP X a c d b).2.2=false->b <+: (ofP X a c d b).1/\(ofP X a c d b).1.length=b.length+c
 | 0,d,b,e=>⟨Aw8 _,D⟩
 | c+1,d,b,e=>by
  have h:=ag e;rw[gY h]at e ⊢;obtain⟨f,g⟩:=hf e;exact⟨(List.prefix_append _ _).trans f,by rw[g];simp;omega⟩
theorem ly {ms d mv g:Nat}:∀{f:Nat}{a:Rd}{b:Int}{c:List (Int×Int)},0<=b->(sL X d g f a b c).2.2=false->(∀i∈(sL X d g f a b c).1,i.1<=ms/\i.2+1<=mv)->sL X ms mv f a b c=sL X d g f a b c
 | 0,a,b,c,_,_,_=>rfl
 | f+1,a,b,c,o,e,h=>by
  have k:=am e;rw[rL k]at e h ⊢;have j:=am e;have n:=h _ ((gz e).1.subset (List.mem_append_right _ (Ay.2 D)));simp only at n;have l:numP X ms a=numP X d a:=bm (eE j) H;have m:numP X mv (numP X d a).2=numP X g (numP X d a).2:=bm j H;rw[rL k,l,m];exact ly H e h
def hh (d c:Nat) (a:RowD):Prop:=a.1+1<=c/\a.2.length<=d/\∀b∈a.2,b.1<=d/\b.2+1<=c
theorem vq {e:Rd}(l:(rowP X b d e).2.2=false) (q:hh a c (rowP X b d e).1):rowP X a c e=rowP X b d e:=by
 have f:(sL X b d (numP X b (numP X d e).2).1 (numP X b (numP X d e).2).2 0 []).2.2=false:=l;obtain⟨m,n,o⟩:=q;have h:=am f;have p:=(gz f).2;have g:(sL X b d (numP X b (numP X d e).2).1 (numP X b (numP X d e).2).2 0 []).1.length<=a:=n;have r:((numP X d e).1:Int)-1+1<=c:=m;have i:numP X c e=numP X d e:=bm (eE h) H;have j:numP X a (numP X d e).2=numP X b (numP X d e).2:=bm h (by rw[p]at g;simp at g;exact g);have k:=ly (ms:=a) (mv:=c) (Int.le_refl 0) f o;unfold rowP;rw[i,j,k]
theorem lz {h mw' g mv':Nat}:∀{d:Nat}{b:Rd}{a:List RowD},(mJ X mw' mv' d b a).2.2=false->(∀j∈(mJ X mw' mv' d b a).1,hh h g j)->mJ X h g d b a=mJ X mw' mv' d b a
 | 0,b,a,_,_=>rfl
 | d+1,b,a,c,e=>by
  have f:=aS c;rw[nA f]at c e ⊢;have i:=e _ ((ha c).1.subset (List.mem_append_right _ (Ay.2 D)));rw[nA f,vq (aS c) i];exact lz c e
theorem ma {f mm':Nat}:∀{d:Nat}{b:Rd}{a:List Int},(ofP X mm' d b a).2.2=false->(∀h∈(ofP X mm' d b a).1,h<=(f:Int))->ofP X f d b a=ofP X mm' d b a
 | 0,b,a,_,_=>rfl
 | d+1,b,a,c,e=>by
  have g:=ag c;rw[gY g]at c e ⊢;have i:=e _ ((hf c).1.subset (List.mem_append_right _ (Ay.2 D)));rw[gY g,bm (m:=f) (ag c) H];exact ma c e
theorem mb :∀{c:List (Int×Int)}{e:Int},yS x y e c=true->∀a∈c,a.1<x/\a.2<=16777215
 | [],_,_,a,b=>by cases b
 | j :: c,e,d,a,b=>by
  simp only[yS,Ay6,decide_eq_true_eq]at d;obtain⟨⟨⟨⟨i,f⟩,g⟩,-⟩,h⟩:=d;rcases Ax5.1 b with rfl|b
  .exact⟨f,g.2⟩
  exact mb h a b
theorem vt {d:RowD}(j:a<=65536) (b:uC a d=true):hh a 16777216 d:=by
 obtain⟨h,i,_⟩:=mU j b;obtain⟨g,k⟩:=d;refine⟨by have:=h.2;show g+1<=_;simp only at this;omega,i,λf c=>?_⟩;by_cases e:a=0
 .subst e
  simp only[uC,if_true,Ay6,decide_eq_true_eq]at b;rw[b.2]at c;cases c
 simp only[uC,if_neg e,Ay6,decide_eq_true_eq]at b
 have:=mb b.1.1.1 f c;omega
theorem vu (n:(xQ X aa).2.2=false) (o:mayL (xQ X aa).1=true):xQ X vQ=xQ X aa:=by
 obtain⟨a,i⟩:=rK (numP X 4294967295 (0,false));obtain⟨b,d⟩:=rK (numP X 4294967295 a.2);obtain⟨h,e⟩:=rK (mJ X 4294967295 4294967295 b.1 b.2 []);obtain⟨c,f⟩:=rK (numP X 4294967295 h.2);obtain⟨j,g⟩:=rK (ofP X 4294967295 c.1 c.2 []);have v:xQ X aa=(((a.1:Int),h.1,j.1),j.2):=by
  unfold xQ;simp only[aa];rw[<-i,<-d,<-e,<-f,<-g]
 rw[v]at n o ⊢;simp only at n;obtain⟨N,C,E,-⟩:=jY o;have l:(ofP X 4294967295 c.1 c.2 []).2.2=false:=by rw[<-g];exact n
 have q:=ag l;have k:(mJ X 4294967295 4294967295 b.1 b.2 []).2.2=false:=by rw[<-e];exact eE (m:=4294967295) (by rw[<-f];exact q)
 have p:=aS k;have B:a.2.2=false:=eE (m:=4294967295) (by rw[<-d];exact p);have t:=(ha k).2;have u:=(hf l).2;rw[<-e]at t;rw[<-g]at u;simp only[Aw6,Ax]at t u;have O:=(eA o).2;have F:a.1<=65536:=H
 have w:numP X 65536 (0,false)=a:=(bm (m':=4294967295) (by rw[<-i];exact B) (by rw[<-i];exact F)).trans i.symm;have x:numP X 65536 a.2=b:=(bm (m':=4294967295) (by rw[<-d];exact p) (by rw[<-d];omega)).trans d.symm;have y:mJ X a.1 16777216 b.1 b.2 []=h:=(lz (mw':=4294967295) (mv':=4294967295) k (λL s=>by
  rw[<-e]at s;have:=vt H (E L s);rwa [Ay5]at this)).trans e.symm
 have z:numP X 65536 h.2=c:=(bm (m':=4294967295) (by rw[<-f];exact q) (by rw[<-f];omega)).trans f.symm;have A:ofP X 65536 c.1 c.2 []=j:=(ma (mm':=4294967295) l (λK r=>by
  rw[<-g]at r;have:=du j.1 0 h.1.length _ C K r;omega)).trans g.symm
 unfold xQ;simp only[vQ,id];rw[w,x,y,z,A]
def qA (Z:List Int) (B:Most):Bool:=!(xQ Z B).2.2 && mayL (xQ Z B).1
theorem vv (b:List Int):qA b vQ=qA b aa/\(qA b aa=true->xQ b vQ=xQ b aa):=by
 cases a:qA b aa with
 | true =>
  simp only[qA,Ay6,Aw2]at a;have c:=vu a.1 a.2;refine⟨?_,λ_=>c⟩;unfold qA;rw[c,a.1,a.2]
  rfl
 | false =>
  refine⟨?_,λe=>by cases e⟩;cases d:qA b vQ with
  | false=>rfl
  | true =>
   simp only[qA,Ay6,Aw2]at d;have c:=vp d.1;unfold qA at a;rw[c,d.1,d.2]at a;cases a
def eQ:TabD->Int->Int->Int
 | (W,R,O),l,i=>if l<0\/(O.length:Int)<=l\/i<0\/W<=i then -1 else match O[l.toNat]? with
  | none=>-1
  | some k=>if k<0\/(R.length:Int)<=k then -1 else match R[k.toNat]? with
   | none=>-1
   | some r=>af r i
theorem fJ {W l i:Int}{R:List RowD}{O:List Int}(h:l<0\/(O.length:Int)<=l\/i<0\/W<=i):eQ (W,R,O) l i=-1:=by simp only[eQ,if_pos h]
theorem mc {W i:Int}{l:Nat}{R:List RowD}(a:¬((l:Int)<0\/(X.length:Int)<=l\/i<0\/W<=i)) (b:X[l]?=some x):eQ (W,R,X) l i=if x<0\/(R.length:Int)<=x then -1 else match R[x.toNat]? with
  | none=>-1
  | some c=>af c i:=by simp only[eQ,if_neg a,Ay5,b]
theorem vw (d e b:Int) (a:List RowD) (c:List Int) (u s:Option Addr) (v N w y L:Nat) (k:World) (a5:I.Byte d) (a7:I.Byte e) (a6:I.Byte b) (A:vW vU rowE k w (u,a.length,v) a) (E:∀t∈a,t.2.length<=1000000000)
  (z:I.BytesAt k y L c) (B:0<c.length->s=some ⟨y,L,none⟩) (aP:c.length<=100000000) :
  Calls prog 168 #[.agg #[.int .i64 d,.slice u a.length v,.slice s c.length N],.int .i64 e,.int .i64 b] k λx a9=>x=.returned (.int .i64 (eQ (d,a,c) e b))/\Cf k a9:=by
 obtain⟨T,S,O,Q,g⟩:=sD A z B E ((FR k).alloc (.cells #[.int .i64 d,.slice u a.length v,.slice s c.length N] 201));obtain⟨_,_⟩:=a5;obtain⟨_,_⟩:=a7;obtain⟨_,_⟩:=a6;clear A z B E;by_cases m:e<0
 .have Y:decide (e<0)=true:=by simpa using m
  have h:=V (fJ (W:=d) (R:=a) (O:=c) (i:=b) (.inl m));go_enter func168,ntmps168
  go_wp2;go_ret
  exact⟨by rw[h.o];rfl,g.o⟩
 have Y:decide (e<0)=false:=by simpa using m
 obtain⟨f,rfl⟩:=Ax3 (show 0<=e by omega);by_cases aI:c.length<=f
 .have Z:decide ((c.length:Int)<=(f:Int))=true:=by simp;omega
  have h:=V (fJ (W:=d) (R:=a) (O:=c) (i:=b) (l:=(f:Int)) (.inr (.inl H)));go_enter func168,ntmps168
  go_wp2;go_ret
  exact⟨by rw[h.o];rfl,g.o⟩
 have Z:decide ((c.length:Int)<=(f:Int))=false:=by simp;omega
 by_cases n:b<0
 .have a0:decide (b<0)=true:=by simpa using n
  have h:=V (fJ (W:=d) (R:=a) (O:=c) (i:=b) (l:=(f:Int)) (.inr (.inr (.inl n))));go_enter func168,ntmps168
  go_wp2;go_ret
  exact⟨by rw[h.o];rfl,g.o⟩
 have a0:decide (b<0)=false:=by simpa using n
 by_cases o:d<=b
 .have a1:decide (d<=b)=true:=by simpa using o
  have h:=V (fJ (W:=d) (R:=a) (O:=c) (i:=b) (l:=(f:Int)) (.inr (.inr (.inr o))));go_enter func168,ntmps168
  go_wp2;go_ret
  exact⟨by rw[h.o];rfl,g.o⟩
 have a1:decide (d<=b)=false:=by simpa using o
 obtain⟨l,F,aF,aT,aV⟩:=(S.o.chg g.o iE).get (k:=f) H;have a4:=O.o H;subst a4;have i:=V (mc (W:=d) (R:=a) (i:=b) (l:=f) H F);have aM:f<c.length:=H;clear F;by_cases p:l<0
 .have a2:decide (l<0)=true:=by simpa using p
  rw[if_pos (.inl p)]at i;go_enter func168,ntmps168
  go_wp2;go_ret
  exact⟨by rw[i.o];rfl,g.o⟩
 have a2:decide (l<0)=false:=by simpa using p
 obtain⟨j,rfl⟩:=Ax3 (show 0<=l by omega);by_cases aK:a.length<=j
 .have a3:decide ((a.length:Int)<=(j:Int))=true:=by simp;omega
  rw[if_pos (.inr H)]at i;go_enter func168,ntmps168
  go_wp2;go_ret
  exact⟨by rw[i.o];rfl,g.o⟩
 have a3:decide ((a.length:Int)<=(j:Int))=false:=by simp;omega
 obtain⟨t,aH,aR,aB,aD,r,rfl,W,X,K,q,-,-⟩:=(T.o.same g.o).get D (λ_=>rfl) (show j<a.length by omega);obtain⟨rd,a8⟩:=t;simp only at W X q K;rw[if_neg H,Ay5,r]at i;have R:=V q;have U:=V (Q.o _ (Az1 r));have aO:j<a.length:=H;clear r q K;go_enter func168,ntmps168
 go_wp2_with fail
 refine (ud rd a8 aB aD w b _ R.o U.o).mono ?_;rintro x aX ⟨rfl,C⟩;have P:=V (g.o.trans C);clear C;go_wp2;go_ret
 exact⟨by rw[i.o];rfl,P.o⟩
abbrev Rdr (α:Type):=List Int->Option (α×List Int)
def numG (m:Nat):Rdr Int:=λb=>match rY 0 0 b with
 | none=>none
 | some (n,k)=>if n<=m then some ((n:Int),b.drop k) else none
def anyG:Rdr Int:=numG 16777215
def eS:Rdr Str:=λb=>match numG 64 b with
 | none=>none
 | some (n,r)=>if n<=r.length then some (strOfNums (r.take n.toNat),r.drop n.toNat) else none
def repG {c:Type}(d:Rdr c):Nat->List c->Rdr (List c)
 | 0,a,b=>some (a,b)
 | e+1,a,b=>match d b with
  | none=>none
  | some (g,f)=>repG d e (a++[g]) f
def vN {a:Type}(d:Rdr a):Rdr (List a):=λb=>match anyG b with
 | none=>none
 | some (c,e)=>repG d c.toNat [] e
def ah:Rdr sU:=λa=>match numG 3 a with
 | none=>none
 | some (e,b)=>match anyG b with
  | none=>none
  | some (g,c)=>match anyG c with
   | none=>none
   | some (f,d)=>some ((e,g,f),d)
def gU:Rdr StD:=λa=>match anyG a with
 | none=>none
 | some (g,b)=>match vN ah b with
  | none=>none
  | some (f,c)=>match vN anyG c with
   | none=>none
   | some (e,d)=>some ((g,f,e),d)
def tU (t:TabD):List (List Int):=(List.range t.2.2.length).map (λ(i:Nat)=>(List.range t.1.toNat).map (λ(k:Nat)=>eQ t i k))
def qL:Rdr (List (List Int)×Int):=λb =>
 if qA b vQ then if ((xQ b vQ).1.2.2.length:Int) * (xQ b vQ).1.1<=4194304 then some ((tU (xQ b vQ).1,(xQ b vQ).1.1),b.drop (xQ b vQ).2.1) else none else none
def rcG:Rdr ((Int×Int)×Int):=λa=>match anyG a with
 | none=>none
 | some (g,b)=>match anyG b with
  | none=>none
  | some (f,c)=>match anyG c with
   | none=>none
   | some (e,d)=>some (((g,f),e),d)
def endG:Rdr Int:=λb=>match anyG b with
 | none=>none
 | some (n,r)=>some (n-1,r)
def lexG:Rdr LexD:=λc=>match vN rcG c with
 | none=>none
 | some (a,d)=>match qL d with
  | none=>none
  | some ((b,h),e)=>if h=vC (a.map (·.2)) then match repG endG b.length [] e with
   | none=>none
   | some (g,f)=>some (⟨a.map (·.1),a.map (·.2),b,g⟩,f)
   else none
def yN:Nat->List StD->List Int
 | _,[]=>[]
 | k,s :: l=>if 0<s.2.2.length then (k:Int) :: yN (k+1) l else yN (k+1) l
def vA (l:List StD):List Int:=yN 0 l
def netG:Rdr NetD:=λb=>match vN gU b with
 | none=>none
 | some (a,c)=>match vN anyG c with
  | none=>none
  | some (i,d)=>match vN anyG d with
   | none=>none
   | some (g,e)=>match vN anyG e with
    | none=>none
    | some (h,f)=>some (⟨a,i,g,h,vA a⟩,f)
def lsG:Rdr (Int×List Int):=λa=>match numG 3 a with
 | none=>none
 | some (d,b)=>match vN anyG b with
  | none=>none
  | some (e,c)=>some ((d,e),c)
def xG:Int->List Int->List (Int×Int)
 | _,[]=>[]
 | k,x :: l=>if 0<=x then (k,x) :: xG (k+1) l else xG (k+1) l
def qY (l:List Int):List (Int×Int):=xG (-1) l
def fW (h:Nat):Rdr (List LsD):=λd=>match vN lsG d with
 | none=>none
 | some (c,e)=>match qL e with
  | none=>none
  | some ((a,i),f)=>if i=h+1/\a.length=c.length then some (List.zipWith (λb g=>(b.1,b.2,qY g)) c a,f) else none
def tokG:Rdr (Str×Bool):=λa=>match eS a with
 | none=>none
 | some (e,b)=>match numG 1 b with
  | none=>none
  | some (d,c)=>some ((e,decide (d=1)),c)
def tQ:List Int:=[72,66,84,49]
def ai:Rdr TabsD:=λc=>match vN eS c with
 | none=>none
 | some (k,d)=>match vN tokG d with
  | none=>none
  | some (a,e)=>match lexG e with
   | none=>none
   | some (j,f)=>match netG f with
    | none=>none
    | some (b,g)=>match repG (fW a.length) b.d.length [] g with
     | none=>none
     | some (i,h)=>some (⟨k,a.map (·.1),a.map (·.2),j,b,i⟩,h)
theorem hi (c:rY 0 0 X=some (a,b)):0<b/\b<=X.length/\a<4294967296:=by
 have:=aQ c;omega
theorem eG (b:numG a X=some (x,Y)):∃d c:Nat,rY 0 0 X=some (d,c)/\x=d/\d<=a/\d<4294967296/\Y=X.drop c/\0<c/\c<=X.length:=by
 unfold numG at b;cases e:rY 0 0 X with
 | none=>rw[e]at b;cases b
 | some i =>
  obtain⟨d,c⟩:=i;rw[e]at b;simp only at b;have:=hi e
  split at b
  .rename_i h
   injection b with b;injection b with f g;exact⟨d,c,D,f.symm,h,this.2.2,g.symm,this.1,this.2.1⟩
  cases b
theorem vx (b:numG a X=none):rY 0 0 X=none\/∃c d:Nat,rY 0 0 X=some (c,d)/\a<c/\c<4294967296:=by
 unfold numG at b;cases e:rY 0 0 X with
 | none=>exact .inl D
 | some f =>
  obtain⟨c,d⟩:=f;rw[e]at b;simp only at b
  split at b
  .cases b
  rename_i g
  exact .inr ⟨c,d,D,H,(hi e).2.2⟩
structure GetSt (pg gb:Nat) (w:World) (Z:List Int):Prop where
 c:∃o cc,w.cell? ⟨pg,0,none⟩=some (.slice (some ⟨gb,o,none⟩) Z.length cc)/\Z.length<=cc/\BytesAt w gb o Z
 z:w.frozen? ⟨pg,0,none⟩=false
 lt:pg<w.heap.size
 lb:gb<w.heap.size
 ne:gb≠pg
 len:Z.length<=10000000
 byte:∀a∈Z,Byte a
theorem GetSt.chg {f w':World}(c:GetSt a b f X) (d:J S f w') (e:¬S a) (k:¬S b):GetSt a b w' X:=by
 obtain⟨l,g,h,i,j⟩:=c.c;exact⟨⟨l,g,d.cellS h e,i,j.chg d (λ_=>k)⟩,(d.frozen (p:=⟨a,0,none⟩) c.lt e).trans c.z,Ay9 c.lt d.size,Ay9 c.lb d.size,c.ne,c.len,c.byte⟩
theorem GetSt.fresh (c:GetSt a b w X) (d:Cf w v):GetSt a b v X:=c.chg d iD iD
def cutV (c d b e a:Nat):Value:=if b=a then .slice (some ⟨c,d,none⟩) 0 0 else .slice (some ⟨c,d+a,none⟩) (e-a) (b-a)
theorem GetSt.cut (d:GetSt a b w X) {f e c:Nat}(m:w.cell? ⟨a,0,none⟩=some (.slice (some ⟨b,f,none⟩) X.length e)) (r:X.length<=e) (n:BytesAt w b f X) (s:c<=X.length) :
  GetSt a b (w.setCell ⟨a,0,none⟩ (cutV b f e X.length c)) (X.drop c):=by
 have h:=zA w a 0 (cutV b f e X.length c);refine⟨?_,(Az3 _ _ _ _).trans d.z,Ay9 d.lt h.size,Ay9 d.lb h.size,d.ne,by rw[Av0];have:=d.len;omega,λg p=>d.byte g (List.mem_of_mem_drop p)⟩;have j:(w.setCell ⟨a,0,none⟩ (cutV b f e X.length c)).cell? ⟨a,0,none⟩=some (cutV b f e X.length c):=Az9 _ _ _ m;by_cases k:e=c
 .have q:X.drop c=[]:=List.drop_eq_nil_of_le H
  rw[q];refine⟨f,0,?_,Ay1 _,⟨λl g i=>by simp at i,λd=>absurd D d⟩⟩;rw[j,cutV,if_pos k]
  rfl
 refine⟨f+c,e-c,?_,by rw[Av0];omega,⟨λl g i=>?_,λt=>Ay9 d.lb h.size⟩⟩
 .rw[j,cutV,if_neg k,Av0]
 rw[List.getElem?_drop]at i
 have o:=(n.chg h (λ_=>d.ne)).c (c+l) g i;rw[Au0];exact o
theorem hl (e:World) (i:GetSt a b e X) (m:numG c X=none) :
  Calls prog 106 #[.pointer (some ⟨a,0,none⟩),.int .i64 c] e λd r=>d=sW/\Cf e r:=by
 obtain⟨n,o,p,j,k⟩:=i.c;have h:=V (eU X (some ⟨b,n,none⟩) b n o e k (λ_=>rfl) j (by have:=i.len;omega));clear j k;rcases vx m with f|⟨q,w,f,u,v⟩
 all_goals
  rw[f]at h;clear f m;go_enter func106,ntmps106
  go_wp2_with fail
  refine h.o.mono ?_;rintro d x ⟨rfl,l⟩;simp only[ca];have g:=V l;clear l p
 .go_wp2_with fail
  refine (kQ _).mono ?_;rintro d s ⟨rfl,rfl⟩;exact⟨D,D,g.o⟩
 have t:decide (q<=c)=false:=decide_eq_false H
 go_wp2_with fail
 refine (kQ _).mono ?_;rintro d s ⟨rfl,rfl⟩;exact⟨D,D,g.o⟩
theorem fd (i:World) (e:GetSt a b i X) (w:numG c X=some (x,Y)) :
  Calls prog 106 #[.pointer (some ⟨a,0,none⟩),.int .i64 c] i λm y=>m=.returned (.int .i64 x)/\GetSt a b y Y/\J (·=a) i y:=by
 obtain⟨l,g,n,k,o⟩:=e.c;have r:=V (eU X (some ⟨b,l,none⟩) b l g i o (λ_=>rfl) k (by have:=e.len;omega));obtain⟨B,h,t,rfl,K,L,rfl,N,u⟩:=eG w;rw[t]at r;have E:=V e;have C:=V u;have P:h<=10000000:=by have:=e.len;omega
 have z:G (∀f,Cf i f->f.cell? ⟨a,0,none⟩=some (.slice (some ⟨b,l,none⟩) X.length g)/\f.frozen? ⟨a,0,none⟩=false/\GetSt a b (f.setCell ⟨a,0,none⟩ (cutV b l g X.length h)) (X.drop h)) :=
  V λf d=>⟨d.cellS n iD,(d.frozen (p:=⟨a,0,none⟩) e.lt iD).trans e.z,(e.fresh d).cut (d.cellS n iD) k (o.chg d iE) u⟩
 have A:G (X.length<=g):=V k;have O:decide ((B:Int)<=(c:Int))=true:=by simp;omega
 clear e k o t w;go_enter func106,ntmps106
 go_wp2_with fail
 refine r.o.mono ?_;rintro m f ⟨rfl,d⟩;simp only[ca];obtain⟨F,S,s⟩:=z.o f d;have q:=V d;have j:=V s;clear d n s;go_wp2_with fail
 refine (bW _).mono ?_;rintro m R ⟨rfl,rfl⟩;by_cases v:g=h
 .have Q:X.length-h=0:=by have:=A.o;omega
  rw[cutV,if_pos v]at j;go_wp2;go_ret
  exact⟨D,j.o,q.o.any.trans (zA _ _ _ _)⟩
 rw[cutV,if_neg v]at j
 go_wp2;go_ret
 exact⟨D,j.o,q.o.any.trans (zA _ _ _ _)⟩
theorem cu (c:World) (e:GetSt a b c X) (f:anyG X=none) :
  Calls prog 139 #[.pointer (some ⟨a,0,none⟩)] c λd i=>d=sW/\Cf c i:=by
 have g:=V (hl c e f);clear e f;go_enter func139,ntmps139
 go_wp2_with fail
 refine g.o.mono ?_;rintro d j ⟨rfl,h⟩;exact⟨D,D,h⟩
theorem cv (c:World) (e:GetSt a b c X) (h:anyG X=some (x,Y)) :
  Calls prog 139 #[.pointer (some ⟨a,0,none⟩)] c λd i=>d=.returned (.int .i64 x)/\GetSt a b i Y/\J (·=a) c i:=by
 have l:=V (fd c e h);clear e h;go_enter func139,ntmps139
 go_wp2_with fail
 refine l.o.mono ?_;rintro d m ⟨rfl,g,f⟩;have k:=V g;have j:=V f;clear g f;go_wp2;go_ret
 exact⟨D,k.o,j.o⟩
theorem mf (c:List Int):(numG 64 c=none/\eS c=none)\/∃(a:Nat) (b:List Int),a<=64/\numG 64 c=some ((a:Int),b)/\((b.length<a/\eS c=none)\/(a<=b.length/\eS c=some (strOfNums (b.take a),b.drop a))):=by
 unfold eS;cases d:numG 64 c with
 | none=>exact .inl ⟨D,D⟩
 | some g =>
  obtain⟨i,b⟩:=g;obtain⟨a,h,_,rfl,f,_⟩:=eG d;refine .inr ⟨a,b,f,D,?_⟩;simp only[Ay5];by_cases e:a<=b.length
  .exact .inr ⟨e,by rw[if_pos H]⟩
  exact .inl ⟨H,by rw[if_neg H]⟩
theorem vy (c:World) (e:GetSt a b c X) (i:eS X=none) :
  Calls prog 104 #[.pointer (some ⟨a,0,none⟩)] c λd r=>d=sW/\J (·=a) c r:=by
 rcases mf X with ⟨h,-⟩|⟨p,q,h,j,⟨o,-⟩|⟨o,k⟩⟩
 .have g:=V (hl c e h)
  clear e i h;go_enter func104,ntmps104
  go_wp2_with fail
  refine g.o.mono ?_;rintro d s ⟨rfl,f⟩;exact⟨D,D,f.any⟩
 .have g:=V (fd c e j)
  have v:decide (p<=q.length)=false:=decide_eq_false H;clear e i j;go_enter func104,ntmps104
  go_wp2_with fail
  refine g.o.mono ?_;rintro d s ⟨rfl,l,f⟩;obtain⟨w,u,t,n,-⟩:=l.c;have m:=V f;clear l f n;go_wp2_with fail
  refine (kQ _).mono ?_;rintro d x ⟨rfl,rfl⟩;exact⟨D,D,m.o⟩
 rw[i]at k;cases k
theorem vz {j h:Nat}{m z:List Int}{l:Str}(k:World) (w:GetSt j h k m) (i:eS m=some (l,z)) :
  Calls prog 104 #[.pointer (some ⟨j,0,none⟩)] k λp A=>p=.returned (.string l)/\GetSt j h A z/\J (·=j) k A:=by
 rcases mf m with ⟨E,e⟩|⟨f,s,E,e,⟨b,c⟩|⟨b,c⟩⟩
 .rw[i]at e;cases e
 .rw[i]at c;cases c
 rw[i]at c
 injection c with c;injection c with F K;subst F K;have v:=V (fd k w e);have Q:decide (f<=s.length)=true:=decide_eq_true b;clear w i e;go_enter func104,ntmps104
 go_wp2_with fail
 refine v.o.mono ?_;rintro p O ⟨rfl,d,x⟩;obtain⟨y,o,B,C,n⟩:=d.c;have u:=V x;have g:=V (d.cut B C n b);have W:=d.z;have R:=d.len;have t:G (BytesAt O h y (s.take f)):=V ⟨λN l r=>n.c N l (by rw[List.getElem?_take_of_lt (by have:=(Az0.1 r).1;rw[Ay8]at this;omega)]at r;exact r),λ_=>d.lb⟩;have L:=au o t.o (a:=some ⟨h,y,none⟩) (λ_=>rfl);rw[Ay8,Nat.min_eq_left b]at L;have S:f<=o:=H
 have P:=V b;clear d x n v t;go_wp2_with fail
 refine (bW _).mono ?_;rintro p U ⟨rfl,rfl⟩;by_cases q:o=f
 .have T:s.length-f=0:=H
  rw[cutV,if_pos q]at g;clear b;subst q;go_wp2;go_ret
  exact⟨D,g.o,u.o.trans (zA _ _ _ _)⟩
 rw[cutV,if_neg q]at g
 clear b;go_wp2;go_ret
 exact⟨D,g.o,u.o.trans (zA _ _ _ _)⟩
-- more bytes behind
theorem mg:∀{f:List Int}{c b:Nat}{d:Nat×Nat}(M:List Int),rY c b f=some d->rY c b (f++M)=some d
 | [],c,b,d,M,a=>by simp[rY]at a
 | h :: i,c,b,d,M,a=>by
  rw[At0];unfold rY at a ⊢
  split at a
  .cases a
  rename_i g;rw[if_neg g]
  split at a
  .rename_i e
   rw[if_pos e];exact mg M a
  rename_i e
  rw[if_neg e];exact a
theorem kA {b M:List Int}{c:Rd}(i:c.1<=b.length) (e:(numP b a c).2.2=false):numP (b++M) a c=numP b a c:=by
 rcases ct b a c with ⟨n,m,f,g,j,k,l,d⟩|d
 .have h:=mg M f
  rw[d];unfold numP;rw[List.drop_append_of_le_length i,h];simp only;rw[if_pos g]
 rw[d]at e;cases e
theorem mh {g M:List Int}:∀{h:Nat}{c:Rd}{f:Int}{d:List (Int×Int)},c.1<=g.length->(sL g a b h c f d).2.2=false->sL (g++M) a b h c f d=sL g a b h c f d
 | 0,c,f,d,_,e=>rfl
 | h+1,c,f,d,j,e=>by
  have k:=am e;rw[rL k]at e ⊢;have i:=am e;have l:=(yY (m:=a) j).1;have n:=kA (M:=M) j (eE i);have o:=kA (M:=M) l i;rw[rL k,n,o];exact mh (yY l).1 e
theorem mi :∀{h:Nat}{c:Rd}{f:Int}{e:List (Int×Int)},c.1<=X.length->(sL X a b h c f e).2.1<=X.length
 | 0,c,f,e,d=>d
 | h+1,c,f,e,d=>by
  cases g:c.2 with
  | true=>rw[pA (.inl g)];exact d
  | false=>rw[rL g];exact mi (yY (yY d).1).1
theorem mj {c:Rd}(d:c.1<=X.length):(rowP X a b c).2.1<=X.length:=mi (yY (yY d).1).1
theorem wd {c M:List Int}{d:Rd}(g:d.1<=c.length) (e:(rowP c a b d).2.2=false):rowP (c++M) a b d=rowP c a b d:=by
 have f:=am (show (sL c a b (numP c a (numP c b d).2).1 (numP c a (numP c b d).2).2 0 []).2.2=false from e);have h:=(yY (m:=b) g).1;have i:=kA (M:=M) g (eE f);have j:=kA (M:=M) h f;unfold rowP;rw[i,j,mh (yY h).1 e]
theorem ml {mw mv:Nat}:∀{k:Nat}{a:Rd}{acc:List RowD},a.1<=X.length->(mJ X mw mv k a acc).2.1<=X.length
 | 0,a,acc,b=>b
 | k+1,a,acc,b=>by
  cases c:a.2 with
  | true=>rw[mS (.inl c)];exact b
  | false=>rw[nA c];exact ml (mj b)
theorem mn {f M:List Int}:∀{g:Nat}{c:Rd}{d:List RowD},c.1<=f.length->(mJ f a b g c d).2.2=false->mJ (f++M) a b g c d=mJ f a b g c d
 | 0,c,d,_,e=>rfl
 | g+1,c,d,h,e=>by
  have i:=aS e;rw[nA i]at e ⊢;rw[nA i,wd h (aS e)];exact mn (mj h) e
theorem mp :∀{f:Nat}{b:Rd}{d:List Int},b.1<=X.length->(ofP X a f b d).2.1<=X.length
 | 0,b,d,c=>c
 | f+1,b,d,c=>by
  cases e:b.2 with
  | true=>rw[eC (.inl e)];exact c
  | false=>rw[gY e];exact mp (yY c).1
theorem mq {e M:List Int}:∀{f:Nat}{b:Rd}{c:List Int},b.1<=e.length->(ofP e a f b c).2.2=false->ofP (e++M) a f b c=ofP e a f b c
 | 0,b,c,_,d=>rfl
 | f+1,b,c,g,d=>by
  have h:=ag d;rw[gY h]at d ⊢;rw[gY h,kA g (ag d)];exact mq (yY g).1 d
theorem wg {b M:List Int}{a:Most}(r:(xQ b a).2.2=false):xQ (b++M) a=xQ b a/\(xQ b a).2.1<=b.length:=by
 have f:(ofP b a.mm (numP b a.mm (mJ b (a.mw (numP b a.mm (0,false)).1) a.mv (numP b a.mm (numP b a.mm (0,false)).2).1 (numP b a.mm (numP b a.mm (0,false)).2).2 []).2).1 (numP b a.mm (mJ b (a.mw (numP b a.mm (0,false)).1) a.mv (numP b a.mm (numP b a.mm (0,false)).2).1 (numP b a.mm (numP b a.mm (0,false)).2).2 []).2).2 []).2.2=false:=r;have e:=ag f;have d:=eE e;have c:=aS d;have t:=eE c;have g:=(yY (Z:=b) (m:=a.mm) (s:=(0,false)) (Ax9 _)).1;have h:=(yY (m:=a.mm) g).1;have i:=ml (mw:=a.mw (numP b a.mm (0,false)).1) (mv:=a.mv) (k:=(numP b a.mm (numP b a.mm (0,false)).2).1) (acc:=[]) h;have j:=(yY (m:=a.mm) i).1;have l:=kA (M:=M) (Ax9 _) t;have n:=kA (M:=M) g c;have o:=mn (M:=M) h d;have p:=kA (M:=M) i e;have q:=mq (M:=M) j f;refine⟨?_,mp j⟩;unfold xQ;simp only;rw[l,n,o,p,q]
-- numbers that were put
theorem fA {a m:Nat}{f:Bool}(b:X.drop a=gL (x :: Y)++W) (d:0<=x) (e:x<4294967296) (g:x<=m) :
  numP X m (a,f)=(x.toNat,a+(putL x.toNat).length,f)/\X.drop (a+(putL x.toNat).length)=gL Y++W:=by
 have c:gL (x :: Y)=putL x.toNat++gL Y:=rfl;rw[c,Az7]at b
 constructor
 .unfold numP
  rw[b,gs H];simp only;rw[if_pos H]
 rw[<-List.drop_drop,b,List.drop_left]
theorem rA (n:Int) (X:List Int):(gL (n :: X)).length=(putL n.toNat).length+(gL X).length:=by
 have e:gL (n :: X)=putL n.toNat++gL X:=rfl;rw[e,Az]
theorem mr (A:a<=65536):∀(d:List (Int×Int)) (g:Nat) (lf b:Int) (h:List (Int×Int)),yS a x lf d=true->b<=lf+1->0<=b->X.drop g=gL (yG b d++Y)++W ->
  sL X a 16777216 d.length (g,false) b h=(h++d,g+(gL (yG b d)).length,false)/\X.drop (g+(gL (yG b d)).length)=gL Y++W
 | [],g,lf,b,h,_,_,_,j=>⟨by simp[sL,yG,gL],by simpa [yG,gL] using j⟩
 | s :: d,g,lf,b,h,l,E,F,j=>by
  simp only[yS,Ay6,decide_eq_true_eq]at l;obtain⟨⟨⟨⟨w,y⟩,i⟩,-⟩,k⟩:=l;obtain⟨c,e⟩:=s;simp only at w y i k;have z:X.drop g=gL ((c-b) :: ((e+1) :: (yG c d++Y)))++W:=j;obtain⟨o,p⟩:=fA (m:=a) (f:=false) z H H H;obtain⟨q,r⟩:=fA (m:=16777216) (f:=false) p (by have:=i.1;omega) (by have:=i.2;omega) (by have:=i.2;omega);obtain⟨u,v⟩:=mr A d _ c c (h++[(c,e)]) k H H r;have C:b+((c-b).toNat:Int)=c:=H
  have B:(((e+1).toNat:Nat):Int)-1=e:=by have:=i.1;omega
  have n:(gL (yG b ((c,e) :: d))).length=(putL (c-b).toNat).length+((putL (e+1).toNat).length+(gL (yG c d)).length):=by
   have t:yG b ((c,e) :: d)=(c-b) :: (e+1) :: yG c d:=rfl;rw[t,rA,rA]
  refine⟨?_,?_⟩
  .rw[Ax2,rL D,o,q]
   simp only;rw[C,B,u,n,Az7];simp only[At0,Av,Au0]
  rw[n,<-Au0,<-Au0]
  exact v
theorem wh {e:RowD}(l:a<=65536) (h:uC a e=true) (s:X.drop b=gL (xS e++Y)++W) :
  rowP X a 16777216 (b,false)=(e,b+(gL (xS e)).length,false)/\X.drop (b+(gL (xS e)).length)=gL Y++W:=by
 obtain⟨g,u,v⟩:=mU l h;obtain⟨d,c⟩:=e;simp only at g u;have t:X.drop b=gL ((d+1) :: ((c.length:Int) :: (yG 0 c++Y)))++W:=s;obtain⟨p,q⟩:=fA (m:=16777216) (f:=false) t (by have:=g.1;omega) (by have:=g.2;omega) (by have:=g.2;omega);obtain⟨j,i⟩:=fA (m:=a) (f:=false) q H H H;have o:(gL (xS (d,c))).length=(putL (d+1).toNat).length+((putL c.length).length+(gL (yG 0 c)).length):=by
  have r:xS (d,c)=(d+1) :: (c.length:Int) :: yG 0 c:=rfl;rw[r,rA,rA,Ay5]
 rw[Ay5]at j i;have n:sL X a 16777216 c.length (b+(putL (d+1).toNat).length+(putL c.length).length,false) 0 []=([]++c,b+(putL (d+1).toNat).length+(putL c.length).length+(gL (yG 0 c)).length,false)/\X.drop (b+(putL (d+1).toNat).length+(putL c.length).length+(gL (yG 0 c)).length)=gL Y++W:=by
  by_cases k:a=0
  .subst k
   simp only[uC,if_true,Ay6,decide_eq_true_eq]at h;obtain⟨-,rfl⟩:=h;exact⟨by simp[sL,yG,gL],by simpa [yG,gL] using i⟩
  simp only[uC,if_neg k,Ay6,decide_eq_true_eq]at h
  exact mr l c _ (-1) 0 [] h.1.1.1 H H i
 refine⟨?_,?_⟩
 .unfold rowP
  rw[p];simp only;rw[j];simp only;rw[n.1,o];simp only[Av,Au0];have:(((d+1).toNat:Nat):Int)-1=d:=by have:=g.1;omega
  rw[this]
 rw[o,<-Au0,<-Au0]
 exact n.2
theorem hm (X Y:List Int):(gL (X++Y)).length=(gL X).length+(gL Y).length:=by rw[lj,Az]
theorem mu {f h g:List Int}{W:Nat}(i:W<=65536):∀(a:List RowD) (b:Nat) (d:List RowD),(∀c∈a,uC W c=true)->f.drop b=gL (a.flatMap xS++h)++g ->
  mJ f W 16777216 a.length (b,false) d=(d++a,b+(gL (a.flatMap xS)).length,false)/\f.drop (b+(gL (a.flatMap xS)).length)=gL h++g
 | [],b,d,_,e=>⟨by simp[mJ,gL],by simpa [gL] using e⟩
 | c :: a,b,d,j,e=>by
  have m:(c :: a).flatMap xS=xS c++a.flatMap xS:=rfl;rw[m]at e ⊢;rw[Az7]at e;obtain⟨k,l⟩:=wh i (j c (List.mem_cons_self)) e;obtain⟨n,o⟩:=mu i a _ (d++[c]) (λq p=>j q (List.mem_cons_of_mem _ p)) l;refine⟨?_,?_⟩
  .rw[Ax2,nA D,k,n,hm,Az7,Au0]
   rfl
  rw[hm,<-Au0]
  exact o
theorem mx :∀(a:List Int) (d:Nat) (b:List Int),(∀c∈a,0<=c/\c<=65536)->X.drop d=gL a++Y ->
  ofP X 65536 a.length (d,false) b=(b++a,d+(gL a).length,false)
 | [],d,b,_,e=>by simp[ofP,gL]
 | c :: a,d,b,h,e=>by
  obtain⟨g,o⟩:=h c (List.mem_cons_self);obtain⟨i,j⟩:=fA (m:=65536) (f:=false) e g H H;have k:=mx a _ (b++[c]) (λn l=>h n (List.mem_cons_of_mem _ l)) j;rw[Ax2,gY D,i];simp only;rw[Int.toNat_of_nonneg g,k,rA,Az7,Au0]
  rfl
theorem mz {a:List RowD}(g:mayL (x,a,X)=true) (M:List Int):xQ (kW (x,a,X)++M) vQ=((x,a,X),(kW (x,a,X)).length,false):=by
 obtain⟨⟨h,w,y⟩,p,q,-⟩:=jY g;have v:=(eA g).2;have t:(kW (x,a,X)++M).drop 0=gL (x :: ((a.length:Int) :: (a.flatMap xS++(X.length:Int) :: X)))++M:=rfl;obtain⟨i,j⟩:=fA (m:=65536) (f:=false) t h H H;obtain⟨b,k⟩:=fA (m:=65536) (f:=false) j H H H;obtain⟨c,l⟩:=mu (W:=x.toNat) H a _ [] q k;obtain⟨d,n⟩:=fA (m:=65536) (f:=false) l H H H;have e:=mx X _ [] (λu s=>by have:=du X 0 a.length _ p u s;omega) n;simp only[Ay5]at b c d e;have r:(kW (x,a,X)).length=(putL x.toNat).length+((putL a.length).length+((gL (a.flatMap xS)).length+((putL X.length).length+(gL X).length))):=by
  have o:kW (x,a,X)=gL (x :: ((a.length:Int) :: (a.flatMap xS++(X.length:Int) :: X))):=rfl;rw[o,rA,rA,hm,rA,Ay5,Ay5]
 unfold xQ;simp only[vQ,id];rw[i];simp only;rw[b];simp only;rw[c];simp only;rw[d];simp only;rw[e,r,Int.toNat_of_nonneg h];simp only[Av,Ax,Au0]
theorem wi {a:List RowD}(b:mayL (x,a,X)=true) (M:List Int):qA (kW (x,a,X)++M) vQ=true:=by
 unfold qA;rw[mz b M];simp[b]
theorem eJ (c:List (List Int)):∀b∈(yJ c).1,∃d∈c,b=rowL d:=by
 have i:∀(c:List (List Int)) (e:List RowD×List Int) (b:RowD),b∈(c.foldl (λe d=>addL e (rowL d)) e).1->b∈e.1\/∃d∈c,b=rowL d:=by
  intro c
  induction c with
  | nil=>intro e b a;exact .inl a
  | cons d c h =>
   intro e b a;rcases h (addL e (rowL d)) b a with a|⟨j,f,g⟩
   .unfold addL at a
    split at a
    .exact .inl a
    rcases Aw9.1 a with a|a
    .exact .inl a
    exact .inr ⟨d,sI,Ay.1 a⟩
   exact .inr ⟨j,by simp[f],g⟩
 intro b a;rcases i c ([],[]) b a with a|a
 .cases a
 exact a
theorem bU:∀(c b:List Int) (d a:Int),qN d a (c++b)=(qN d a c).bind (λe=>qN e a b)
 | [],b,d,a=>rfl
 | f :: c,b,d,a=>by
  simp only[At0,qN]
  split
  .rfl
  exact bU c b _ a
def Made (t:List RowD×List Int):Prop:=t.1.Nodup/\∀m:Int,(t.1.length:Int)<=m->qN 0 m t.2=some (t.1.length:Int)
theorem Made.add {e:List RowD×List Int}(k:Made e) (r:RowD):Made (addL e r):=by
 obtain⟨a,f⟩:=e;obtain⟨g,h⟩:=k;unfold addL;by_cases c:eN r a=true
 .rw[if_pos c]
  refine⟨g,λb d=>?_⟩;show qN 0 b (f++[idxV (uL r) a])=some (a.length:Int);rw[bU,h b d];rcases sG (uL r) a with ⟨p,v,o,-,l,-,-⟩|⟨-,-,m⟩
  .have t:=(Az0.1 o).1
   rw[l];simp only at d;show qN (a.length:Int) b [(p:Int)]=_;simp only[qN];rw[if_neg H,if_neg H]
  have:a.any (uL r)=true:=c
  rw[m]at this;cases this
 rw[if_neg c]
 refine⟨?_,λb d=>?_⟩
 .show (a++[r]).Nodup
  rw[List.nodup_append];refine⟨g,sI,λq n s i=>?_⟩;simp at i
  subst i;intro j;subst j;exact c (jQ.2 n)
 show qN 0 b (f++[(a.length:Int)])=some ((a++[r]).length:Int)
 have u:(a.length:Int)+1<=b:=(by simpa using d);rw[bU,h b (by show (a.length:Int)<=b;omega)];show qN (a.length:Int) b [(a.length:Int)]=_;simp only[qN];rw[if_neg H];simp
theorem made (a:List (List Int)):Made (yJ a):=by
 have f:∀(a:List (List Int)) (b:List RowD×List Int),Made b->Made (a.foldl (λb d=>addL b (rowL d)) b):=by
  intro a
  induction a with
  | nil=>intro b c;exact c
  | cons d a e=>intro b c;exact e _ (c.add _)
 exact f a ([],[]) ⟨sI,λh g=>rfl⟩
theorem fe {W:Int}{a:List (List Int)}(f:0<=W) (g:W<=65536) (n:a.length<=65536) (e:uQ W a=true):mayL (W,(yJ a).1,(yJ a).2)=true:=by
 obtain⟨j,k⟩:=made a;have m:=(sE a).2;rw[gi ⟨f,g,H⟩ (λl i=>?_) j,k _ (Int.le_refl _)]
 .simp
 obtain⟨b,h,rfl⟩:=eJ a l i
 have:=Aw0.1 e b h;simp only[nE,Ay6,Aw2,decide_eq_true_eq]at this;obtain⟨c,d⟩:=this;rw[<-d,Ay5];exact jw b (nC.1 c)
theorem na {b:RowD}{a:List RowD}(f:b∈a):∃e:Nat,idxV (uL b) a=e/\a[e]?=some b:=by
 have c:a.findIdx (uL b)<a.length:=by
  rw[List.findIdx_lt_length];exact⟨b,f,by simp[uL]⟩
 refine⟨a.findIdx (uL b),by unfold idxV;rw[if_pos c],?_⟩;have d:=List.findIdx_getElem (w:=c);rw[Az4 c];simp only[uL,decide_eq_true_eq]at d;rw[<-d]
theorem wj (b:List (List Int)):∀(a:Nat) (d:List Int),b[a]?=some d->∃e:Nat,(yJ b).2[a]?=some (e:Int)/\(yJ b).1[e]?=some (rowL d):=by
 have s:∀(c:Nat),c<=b.length->∀(a:Nat) (d:List Int),a<c->b[a]?=some d->∃e:Nat,(yJ (b.take c)).2[a]?=some (e:Int)/\(yJ (b.take c)).1[e]?=some (rowL d):=by
  intro c
  induction c with
  | zero=>intro _ a d u;omega
  | succ c n =>
   intro w a d v f;have l:b[c]?=some b[c]:=Az4 H;have o:b.take (c+1)=b.take c++[b[c]]:=(by rw[Ay3,l];rfl);have m:=(sE (b.take c)).2;rw[Ay8]at m;rw[o,et]
   generalize yJ (b.take c)=t at *
   obtain⟨g,j⟩:=t;simp only at m n;unfold addL;by_cases r:a<c
   .obtain⟨e,h,i⟩:=n H a d r f
    have k:=(Az0.1 h).1;have p:=(Az0.1 i).1;refine⟨e,?_⟩
    split
    .exact⟨by rw[Ax0 k];exact h,i⟩
    exact⟨by rw[Ax0 k];exact h,by rw[Ax0 p];exact i⟩
   obtain rfl:a=c:=H
   rw[l]at f;obtain rfl:=Az2 f
   split
   .rename_i q
    obtain⟨e,h,i⟩:=na (jQ.1 q);refine⟨e,?_,i⟩;show (j++[idxV (uL (rowL b[a])) g])[a]?=_;rw[h,Ax7 H,show a-j.length=0 by omega]
    rfl
   refine⟨g.length,?_,?_⟩
   .show (j++[(g.length:Int)])[a]?=_
    rw[Ax7 H,show a-j.length=0 by omega]
    rfl
   show (g++[rowL b[a]])[g.length]?=_
   simp
 intro a d f;have:=s b.length (Ay1 _) a d (Az0.1 f).1 f;rwa [Ay7]at this
theorem wk {c:List (List Int)}(f:c[a]?=some X) (g:X[b]?=some y) (j:(b:Int)<x):eQ (x,(yJ c).1,(yJ c).2) a b=y:=by
 obtain⟨k,d,e⟩:=wj c a X f;have h:=(Az0.1 d).1;have i:=(Az0.1 e).1;unfold eQ;simp only;rw[if_neg H,Ay5,d];simp only;rw[if_neg H,Ay5,e];exact jv X b y g
theorem nb:∀{e:List Int}{b f h d:Nat},(∀i∈e,Byte i)->rY b f e=some (h,d)->∃c:Nat,h=f+c * 128 ^ b/\e=putL c++e.drop (d-b)/\(c≠0\/b=0)
 | [],b,f,h,d,_,a=>by simp[rY]at a
 | g :: z,b,f,h,d,j,a=>by
  obtain⟨v,w⟩:=j g (List.mem_cons_self);unfold rY at a
  split at a
  .cases a
  split at a
  .rename_i n o
   obtain⟨c,k,l,m⟩:=nb (λi r=>j i (List.mem_cons_of_mem _ r)) a;have y:=(aQ a).1;have x:c≠0:=m.resolve_right H;refine⟨g.toNat % 128+128 * c,?_,?_,.inl H⟩
   .rw[k,Nat.add_mul,Au0]
    congr 2
    rw[Nat.pow_succ,Nat.mul_comm (128 ^ b) 128,<-Nat.mul_assoc,Nat.mul_comm c 128]
   rw[aw H,show d-b=(d-(b+1))+1 by omega,List.drop_succ_cons,At0,show (g.toNat % 128+128 * c) / 128=c by omega,<-l]
   congr 1
   omega
  rename_i n o
  split at a
  .cases a
  rename_i p
  injection a with a;injection a with q u;refine⟨g.toNat,?_,?_,?_⟩
  .rw[<-q]
   congr 2
   omega
  .rw[jL H,show d-b=1 by omega]
   simp only[List.drop_succ_cons,List.drop_zero,List.singleton_append]
   congr 1
   omega
  by_cases s:b=0
  .exact .inr s
  .left
   intro t;exact p (.inl ⟨H,H⟩)
theorem hn (g:∀e∈X,Byte e) (f:rY 0 0 X=some (a,b)):X=putL a++X.drop b:=by
 obtain⟨h,c,d,-⟩:=nb g f;simp only[Nat.pow_zero,Nat.mul_one,Ax,Nat.sub_zero]at c d;rw[c];exact d
theorem bn {b:Rd}(h:∀c∈X,Byte c) (e:(numP X a b).2.2=false):X.drop b.1=putL (numP X a b).1++X.drop (numP X a b).2.1:=by
 rcases ct X a b with ⟨n,m,f,i,j,k,l,d⟩|d
 .rw[d]
  have:=hn (λc g=>h c (List.mem_of_mem_drop g)) f;rw[List.drop_drop]at this;exact this
 rw[d]at e;cases e
theorem nc (i:∀k∈X,Byte k):∀(f:Nat) (c:Rd) (d:Int) (e:List (Int×Int)),(sL X a b f c d e).2.2=false ->
  ∃g:List (Int×Int),(sL X a b f c d e).1=e++g/\g.length=f/\X.drop c.1=gL (yG d g)++X.drop (sL X a b f c d e).2.1
 | 0,c,d,e,h=>⟨[],by simp[sL],D,by simp[sL,yG,gL]⟩
 | f+1,c,d,e,h=>by
  have s:=am h;rw[rL s]at h ⊢;have j:=am h;have q:=bn i (eE j);have r:=bn i j;obtain⟨g,l,m,n⟩:=nc i f _ _ _ h;refine⟨(d+(numP X a c).1,((numP X b (numP X a c).2).1:Int)-1) :: g,by rw[l];simp,by simp[m],?_⟩;rw[q,r,n];have o:(d+((numP X a c).1:Int)-d).toNat=(numP X a c).1:=H
  have p:(((numP X b (numP X a c).2).1:Int)-1+1).toNat=(numP X b (numP X a c).2).1:=H
  simp only[yG,gL,List.flatMap_cons,o,p,Az7]
theorem wl {c:Rd}(d:∀h∈X,Byte h) (n:(rowP X a b c).2.2=false):X.drop c.1=gL (xS (rowP X a b c).1)++X.drop (rowP X a b c).2.1:=by
 have g:(sL X a b (numP X a (numP X b c).2).1 (numP X a (numP X b c).2).2 0 []).2.2=false:=n;have f:=am g;have l:=bn d (eE f);have m:=bn d f;obtain⟨o,e,i,j⟩:=nc d _ _ _ _ g;show X.drop c.1=gL (xS (((numP X b c).1:Int)-1,(sL X a b (numP X a (numP X b c).2).1 (numP X a (numP X b c).2).2 0 []).1))++X.drop (sL X a b (numP X a (numP X b c).2).1 (numP X a (numP X b c).2).2 0 []).2.1;rw[Av]at e;have k:(((numP X b c).1:Int)-1+1).toNat=(numP X b c).1:=H
 rw[l,m,j,e];simp only[xS,gL,List.flatMap_cons,k,i,Ay5,Az7]
theorem nd (h:∀i∈X,Byte i):∀(e:Nat) (c:Rd) (d:List RowD),(mJ X a b e c d).2.2=false ->
  ∃g:List RowD,(mJ X a b e c d).1=d++g/\g.length=e/\X.drop c.1=gL (g.flatMap xS)++X.drop (mJ X a b e c d).2.1
 | 0,c,d,f=>⟨[],by simp[mJ],D,by simp[mJ,gL]⟩
 | e+1,c,d,f=>by
  have n:=aS f;rw[nA n]at f ⊢;have m:=wl h (aS f);obtain⟨g,j,k,l⟩:=nd h e _ _ f;refine⟨(rowP X a b c).1 :: g,by rw[j];simp,by simp[k],?_⟩;rw[m,l,List.flatMap_cons,lj,Az7]
theorem nf (g:∀h∈X,Byte h):∀(d:Nat) (b:Rd) (c:List Int),(ofP X a d b c).2.2=false ->
  ∃f:List Int,(ofP X a d b c).1=c++f/\f.length=d/\X.drop b.1=gL f++X.drop (ofP X a d b c).2.1
 | 0,b,c,e=>⟨[],by simp[ofP],D,by simp[ofP,gL]⟩
 | d+1,b,c,e=>by
  have m:=ag e;rw[gY m]at e ⊢;have l:=bn g (ag e);obtain⟨f,i,j,k⟩:=nf g d _ _ e;refine⟨((numP X a b).1:Int) :: f,by rw[i];simp,by simp[j],?_⟩;rw[l,k];simp only[gL,List.flatMap_cons,Ay5,Az7]
theorem wm {B:Most}(a:∀k∈X,Byte k) (n:(xQ X B).2.2=false):X=kW (xQ X B).1++X.drop (xQ X B).2.1:=by
 have f:(ofP X B.mm (numP X B.mm (mJ X (B.mw (numP X B.mm (0,false)).1) B.mv (numP X B.mm (numP X B.mm (0,false)).2).1 (numP X B.mm (numP X B.mm (0,false)).2).2 []).2).1 (numP X B.mm (mJ X (B.mw (numP X B.mm (0,false)).1) B.mv (numP X B.mm (numP X B.mm (0,false)).2).1 (numP X B.mm (numP X B.mm (0,false)).2).2 []).2).2 []).2.2=false:=n;have e:=ag f;have d:=eE e;have c:=aS d;have o:=eE c;have b:=bn a o;have l:=bn a c;obtain⟨s,i,q,j⟩:=nd a _ _ _ d;have m:=bn a e;obtain⟨r,g,p,h⟩:=nf a _ _ _ f;rw[Av]at i g;rw[List.drop_zero]at b;unfold xQ;simp only[kW,vE];rw[i,g,q,p];simp only[gL,List.flatMap_cons,List.flatMap_append,Ay5,Az7];simp only[gL]at j h;rw[<-h,<-m,<-j,<-l];exact b
theorem ng {a:List RowD}(l:mayL (x,a,X)=true) {d:Nat}{b:Int}(f:X[d]?=some b):0<=b/\∃e,a[b.toNat]?=some e/\(tU (x,a,X))[d]?=some (ac x.toNat e)/\rowL (ac x.toNat e)=e:=by
 obtain⟨⟨t,u,v⟩,m,n,-⟩:=jY l;have r:=du X 0 a.length _ m b (Az1 f);have q:=(Az0.1 f).1;have h:b.toNat<a.length:=H
 have i:a[b.toNat]?=some a[b.toNat]:=Az4 h;obtain⟨-,-,k,g⟩:=di (n _ (List.getElem_mem h));refine⟨r.1,a[b.toNat],i,?_,g⟩;have j:(tU (x,a,X))[d]?=some ((List.range x.toNat).map (λ(c:Nat)=>eQ (x,a,X) d c)):=by
  simp[tU,q]
 rw[j]
 congr 1
 refine List.ext_getElem (by simp[k]) (λc o p=>?_);simp only[List.getElem_map,List.getElem_range];have s:c<x.toNat:=by simpa using o
 unfold eQ;simp only;rw[if_neg H,Ay5,f];simp only;rw[if_neg H,i];simp only;have:=jv (ac x.toNat a[b.toNat]) c _ (Az4 p);rw[g]at this;exact this
theorem wn {b d a e:Int}(c:qN b d (a :: X)=some e):0<=a/\a<=b/\a<d/\qN (if a=b then b+1 else b) d X=some e:=by
 simp only[qN]at c
 split at c
 .cases c
 exact⟨H,H,H,c⟩
theorem wq {a:List RowD}(o:mayL (x,a,X)=true):yJ (tU (x,a,X))=(a,X):=by
 obtain⟨-,B,-,p⟩:=jY o;have a1:(tU (x,a,X)).length=X.length:=by simp[tU]
 have a0:∀b,b<=X.length->∃d:Nat,d<=a.length/\qN d a.length (X.drop b)=some (a.length:Int)/\yJ ((tU (x,a,X)).take b)=(a.take d,X.take b):=by
  intro b
  induction b with
  | zero=>intro _;exact⟨0,Ax9 _,by simpa using B,by simp[yJ]⟩
  | succ b Y =>
   intro a2;obtain⟨d,l,g,i⟩:=Y H;have h:X[b]?=some X[b]:=Az4 H;obtain⟨W,k,e,O,U⟩:=ng o h;rw[Av7 H]at g;obtain⟨r,s,t,f⟩:=wn g;obtain⟨c,E⟩:=Ax3 W;rw[E]at e h r s t f;simp only[Ay5]at e h r s t f;have z:(tU (x,a,X)).take (b+1)=(tU (x,a,X)).take b++[ac x.toNat k]:=(by rw[Ay3,O];rfl);have A:X.take (b+1)=X.take b++[(c:Int)]:=(by rw[Ay3,h];rfl);rw[z,et,i,U,A];by_cases F:c=d
   .subst F
    rw[if_pos D]at f;refine⟨c+1,H,by exact_mod_cast f,?_⟩;have Q:eN k (a.take c)=false:=by
     cases C:eN k (a.take c) with
     | false=>rfl
     | true =>
      exfalso
      obtain⟨j,K,n⟩:=List.mem_iff_getElem.1 (jQ.1 C);rw[Ay8]at K;rw[List.getElem_take]at n;have R:=(Az0.1 e);obtain⟨S,T⟩:=R;have:=(List.getElem_inj (i:=j) (j:=c) (h₀:=H) (h₁:=S) p).1 (by rw[n,T]);omega
    unfold addL;rw[if_neg (by rw[Q];decide)];simp only;rw[Ay3,e,Ay8,Nat.min_eq_left l]
    rfl
   have P:c<d:=H
   rw[if_neg H]at f;refine⟨d,l,f,?_⟩;have q:k∈a.take d:=Az1 (i:=c) (by rw[List.getElem?_take_of_lt P];exact e);obtain⟨j,Z,m⟩:=na q;have L:j=c:=by
    have N:=(Az0.1 m).1;rw[Ay8]at N;rw[List.getElem?_take_of_lt H]at m;obtain⟨u,v⟩:=Az0.1 m;obtain⟨w,y⟩:=Az0.1 e;exact (List.getElem_inj (h₀:=u) (h₁:=w) p).1 (by rw[v,y])
   unfold addL;rw[if_pos (jQ.2 q)];simp only;rw[Z,L]
 obtain⟨d,l,g,i⟩:=a0 X.length (Ay1 _);rw[List.drop_length]at g;simp only[qN,Option.some.injEq]at g;rw[Ax8 (by omega:(tU (x,a,X)).length<=X.length),Ax8 (Ay1 _),Ax8 H]at i;exact i
theorem wt {b:List (List Int)}(f:∀g∈b,g.length=a):tU ((a:Int),(yJ b).1,(yJ b).2)=b:=by
 refine List.ext_getElem (by simp[tU,(sE b).2]) (λi h c=>?_);simp only[tU,List.getElem_map,List.getElem_range,Ay5];have d:=f _ (List.getElem_mem c);refine List.ext_getElem (by simp[d]) (λj k e=>?_);simp only[List.getElem_map,List.getElem_range];exact wk (Az4 c) (Az4 e) (by rw[d]at e;omega)
def zJ (z:Int):List Int:=putL z.toNat
def xE (s:Str):List Int:=putL s.size++strB s
def zE {b:Type}(c:b->List Int) (a:List b):List Int:=putL a.length++a.flatMap c
def sQ (e:sU):List Int:=zJ e.1++(zJ e.2.1++zJ e.2.2)
def xU (s:StD):List Int:=zJ s.1++(zE sQ s.2.1++zE zJ s.2.2)
def vJ (b:Int) (a:List (List Int)):List Int:=kW (b,(yJ a).1,(yJ a).2)
def ptRc (x:(Int×Int)×Int):List Int:=zJ x.1.1++(zJ x.1.2++zJ x.2)
def nQ (e:Int):List Int:=zJ (e+1)
def gQ (t:LexD):List Int:=zE ptRc (t.r.zip t.c)++(vJ (vC t.c) t.n++t.e.flatMap nQ)
def dJ (n:NetD):List Int:=zE xU n.st++(zE zJ n.s++(zE zJ n.p++zE zJ n.q))
def ptLs (s:Int×List Int):List Int:=zJ s.1++zE zJ s.2
def yU (d:Nat) (b:List (Int×Int)):List Int:=b.foldl (λc a=>c.set (a.1+1).toNat a.2) (List.replicate (d+1) (-1))
def uA (c:Nat) (b:List LsD):List Int:=zE ptLs (b.map (λa=>(a.1,a.2.1)))++vJ ((c:Int)+1) (b.map (λa=>yU c a.2.2))
def sC (x:Str×Bool):List Int:=xE x.1++zJ (if x.2 then 1 else 0)
def jW (t:TabsD):List Int:=zE xE t.rl++(zE sC (t.tk.zip t.dr)++(gQ t.lx++(dJ t.nt++t.lk.flatMap (uA t.tk.length))))
def uG (t:TabsD):List Int:=tQ++jW t
end Go.Proofs.YtgnpmceimpjheaaGreat
