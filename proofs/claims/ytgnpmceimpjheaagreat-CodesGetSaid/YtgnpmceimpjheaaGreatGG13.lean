/- A part of the proof: DGt RefPut RMa RMl BdA BdB BdO GreP DGl DGf. -/
import Derived.Test.YtgnpmceimpjheaaGreatGG12
set_option maxRecDepth 100000
set_option maxHeartbeats 16000000
namespace Go.Proofs.YtgnpmceimpjheaaGreat
open Go.RowKit Go.Proofs.Tryz
variable {a b c d e f g h i j k l m n o p q r:Nat}{w v u t s:World}{X Y W L T:List Int}{A B C E Z:Value}{x y z:Int}{N R:Bool}{F Q:Option Addr}{S P:Nat->Prop}
section
variable {β δ:Type}{E:Elt β}{R:Rp β δ}{B:Nat}{A S:Nat->Prop}{w wa wb:World}{v v' u u':Value}{acc:List δ}{D D':List Int}{X:List β}{y:β}{d:δ}
theorem Gr.add (i:Good R) (o:X.length=acc.length) (p:∀(g:Nat) h d,X[g]?=some h->acc[g]?=some d->R w (λa=>B<=a/\A a/\v.ownBlock≠some a) h d)
  (k:Cf w wa) (x:R wa (λa=>B<=a/\A a/\v.ownBlock≠some a) y d) (s:E.Own wb B v' (X++[y])) (q:J (λa=>v.ownBlock=some a) wa wb) (u:v'.ownBlock=v.ownBlock\/v'.ownBlock=some wa.heap.size):Gr E R B A wb v' (acc++[d]):=by
 have F:=k.size;have m:∀{h:β}{d:δ},R wa (λa=>B<=a/\A a/\v.ownBlock≠some a) h d->R wb (λa=>B<=a/\A a/\v'.ownBlock≠some a) h d:=λb=>by
  have z:=i.mono b (S':=λa=>(B<=a/\A a/\v.ownBlock≠some a)/\a<wa.heap.size) (λa f t=>⟨t,f⟩);have C:=i.chg z q (λa f c=>f.1.2.2 c);refine i.mono C (λa _ f=>⟨f.1.1,f.1.2.1,λc=>?_⟩);rcases u with j|j
  .rw[j]at c;exact f.1.2.2 c
  rw[j]at c;injection c with c;omega
 refine⟨X++[y],s,by simp[o],λg h n b e=>?_⟩;rw[List.getElem?_append]at b e;by_cases l:g<X.length
 .rw[if_pos l]at b
  rw[if_pos H]at e;exact m (i.chg (p g h n b e) k iF)
 rw[if_neg l]at b
 rw[if_neg H]at e;have r:g-X.length=0:=by
  have:=(Az0.1 b).1;simp at this;omega
 rw[r]at b;rw[show g-acc.length=0 by omega]at e;simp at b e
 subst b e;exact m x
structure W3 (E:Elt β) (R:Rp β δ) (B:Nat) (w:World) (v u:Value) (acc:List δ) (D:List Int):Prop where
 a:Gr E R B (λk=>u.ownBlock≠some k) w v acc
 b:intE.Own w B u D
 ne:∀g,v.ownBlock=some g->u.ownBlock=some g->False
theorem W3.chg (g:Good R) (c:W3 E R B w v u acc D) (e:J S w wa) (d:∀a,S a->a<B):W3 E R B wa v u acc D :=
 ⟨c.a.chg g e (λa i _ b=>by have:=d a b;omega),c.b.chg e (λf h _ b=>by have:=d f b;omega),c.ne⟩
theorem W3.appD (h:Good R) (f:W3 E R B w v u acc D) (n:intE.Own wb B u' D') (o:J (λb=>u.ownBlock=some b) w wb) (j:u'.ownBlock=u.ownBlock\/u'.ownBlock=some w.heap.size):W3 E R B wb v u' acc D':=by
 refine⟨?_,n,λk i e=>?_⟩
 .have l:=f.a.avoid h (A':=λb=>u.ownBlock≠some b/\u'.ownBlock≠some b) (λb p g=>⟨g,λa=>by
   rcases j with c|c
   .rw[c]at a;exact g a
   rw[c]at a;injection a with a;omega⟩)
  have m:=l.chg h o (λb _ d a=>by
   rcases d with d|d
   .exact d.1 a
   exact f.ne b d a)
  exact m.avoid h (λb _ g=>g.2)
 rcases j with c|c
 .rw[c]at e;exact f.ne k i e
 rw[c]at e;injection e with e;have:=(f.a.blk i).2;omega
theorem W3.appS (p:Good R) (c:W3 E R B w v u acc D) (n:X.length=acc.length) (o:∀(k:Nat) l d,X[k]?=some l->acc[k]?=some d->R w (λa=>B<=a/\u.ownBlock≠some a/\v.ownBlock≠some a) l d)
  (g:Cf w wa) (r:R wa (λa=>B<=a/\u.ownBlock≠some a/\v.ownBlock≠some a) y d) (q:E.Own wb B v' (X++[y])) (h:J (λa=>v.ownBlock=some a) wa wb) (j:v'.ownBlock=v.ownBlock\/v'.ownBlock=some wa.heap.size):W3 E R B wb v' u (acc++[d]) D :=
 ⟨Gr.add p n o g r q h j,(c.b.chg g (λ_ _ _ c=>c)).chgB h (λf b m=>c.ne f m b),λf b i=>by
  rcases j with e|e
  .rw[e]at b;exact c.ne f b i
  rw[e]at b;injection b with b;have:=(c.b.blk i).2;have:=g.size;omega⟩
end
def dL2R:Rp (Int×Sl×Sl) (Int×List Int):=λw S x d=>x.1=d.1/\I.Byte d.1/\intE.InS w S x.2.1 d.2/\x.2.2=(none,0,0)
theorem dL2R.good:Good dL2R:=⟨λa c b=>⟨a.1,a.2.1,a.2.2.1.chg c b,a.2.2.2⟩,λa b=>⟨a.1,a.2.1,a.2.2.1.mono b,a.2.2.2⟩⟩
theorem R13.lt {a:Nat}{w:World}{v:Value}{c:List Value}(b:R13 a w (v :: c)):a<w.heap.size:=Az8 _ _ (b.c 0 v D)
theorem R13.put {S:Nat->Prop}{b:Nat}{w c:World}{v j:Value}{k:List Value}(l:R13 b w (j :: k)) (v':Value) (a:Nat) (i:(j :: k)[a]?=some v) (n:J S w c) (m:¬S b) :
  (c.cell? ⟨b,a,none⟩=some v/\c.frozen? ⟨b,a,none⟩=false)/\R13 b (c.setCell ⟨b,a,none⟩ v') ((j :: k).set a v')/\J (·=b) c (c.setCell ⟨b,a,none⟩ v'):=by
 have e:=l.chg n l.lt m;refine⟨⟨e.c a v i,e.z a⟩,⟨λd u f=>?_,λd=>(Az3 _ _ _ _).trans (e.z d)⟩,zA _ _ _ _⟩;by_cases g:d=a
 .subst g
  rw[Aw7 (Az0.1 i).1]at f;obtain rfl:=Az2 f;exact Az9 _ _ _ (e.c d v i)
 rw[Av5 (Ne.symm g)]at f
 rw[Ay0 _ _ _ _ (by intro h;injection h with _ h;exact g h.symm)];exact e.c d u f
theorem R13.made {w:World}(b:List Value) (a:TypeId):R13 w.heap.size (w.alloc (.cells b.toArray a)) b :=
 ⟨λd v c=>zG a D (by rw[<-Aw];exact c),λd=>Az6 _ _ _ _⟩
theorem sh {w:World}{B:Nat}{g:Option Addr}{l m:Nat}{X:List (Int×Sl×Sl)}(k:dLsE.Own w B (.slice g l m) X) {b:Nat}{c:Int×Sl×Sl}(d:X[b]?=some c) :
  ∃a,g=some ⟨a,0,none⟩/\l=X.length/\w.cell? ⟨a,b * 3,none⟩=some (.int .i64 c.1)/\w.cell? ⟨a,b * 3+1,none⟩=some (slV c.2.1)/\w.cell? ⟨a,b * 3+2,none⟩=some (slV c.2.2)/\(∀v,w.frozen? ⟨a,v,none⟩=false)/\B<=a/\a<w.heap.size:=by
 have t:=(Az0.1 d).1;rcases k with ⟨k,rfl⟩|⟨a,x,q,r,e,s,y⟩
 .simp at t
 injection q with n o p
 subst n o p;have f:=e.at' s;have h:=f.get d (i:=0) (u:=.int .i64 c.1) D;have i:=f.get d (i:=1) (u:=slV c.2.1) D;have j:=f.get d (i:=2) (u:=slV c.2.2) D;rw[Ax]at h i j;exact⟨a,D,D,h,i,j,e.z,r,e.lt⟩
theorem Ds {w:World}{B j:Nat}{t n:Nat}{X:List (Int×Sl×Sl)}(k:dLsE.Own w B (.slice (some ⟨j,0,none⟩) t n) X) {c:Nat}{d:Int×Sl×Sl}(s:X[c]?=some d) (b:Sl) :
  dLsE.Own (w.setCell ⟨j,c * 3+2,none⟩ (slV b)) B (.slice (some ⟨j,0,none⟩) t n) (X.set c (d.1,d.2.1,b)):=by
 have p:=(Az0.1 s).1;rcases k with ⟨k,_⟩|⟨O,N,z,A,e,F,K⟩
 .cases k
 injection z with i v x
 injection i with i;injection i with i;subst i v x;obtain⟨m,rfl⟩:=F;have l:(X++m)[c]?=some d:=by rw[Ax0 p];exact s
 refine .inr ⟨j,(X++m).set c (d.1,d.2.1,b),by rw[Av9,Av9],A,⟨λa u L=>?_,λa=>(Az3 _ _ _ _).trans (e.z a),Ay9 e.lt (zA _ _ _ _).size,λy g=>?_⟩,?_,by rw[Av9];exact K⟩
 .obtain⟨y,g,h⟩:=Elt.encs_of L
  rw[show dLsE.sz=3 from D]at g h;by_cases r:a / 3=c
  .subst r
   rw[Aw7 (by rw[Az];omega)]at g;obtain rfl:=Az2 g;by_cases C:a % 3=2
   .have q:a=a / 3 * 3+2:=H
    rw[C]at h;obtain rfl:slV b=u:=(by simpa [dLsE,hJ] using h);rw[<-q];refine Az9 _ _ _ (u:=slV d.2.2) ?_;have:=e.c (a / 3 * 3+2) (slV d.2.2) (Elt.encs_at (E:=dLsE) l (i:=2) D);rw[<-q]at this;exact this
   rw[Ay0 _ _ _ _ (by intro b;injection b with _ b;omega)]
   refine e.c a u ?_;have f:=Elt.encs_at (E:=dLsE) l (i:=a % 3) (u:=u) (by
    rcases (by omega:a % 3=0\/a % 3=1) with o|o <;> rw[o]at h ⊢ <;> exact h)
   rw[show dLsE.sz=3 from D,show a / 3 * 3+a % 3=a by omega]at f;exact f
  rw[Av5 (Ne.symm r)]at g
  rw[Ay0 _ _ _ _ (by intro b;injection b with _ b;omega)];refine e.c a u ?_;have f:=Elt.encs_at (E:=dLsE) g (i:=a % 3) (u:=u) h;rw[show dLsE.sz=3 from D,show a / 3 * 3+a % 3=a by omega]at f;exact f
 .rcases List.mem_or_eq_of_mem_set g with f|rfl
  .exact e.ok y f
  exact e.ok d (Az1 l)
 rw[List.set_append_left _ _ p]
 exact List.prefix_append _ _
structure DKSt (B:Nat) (w7 wr:World) (a:Option Addr) (n c:Nat) (X0 X:List (Int×Sl×Sl)) (LL:List (List Int)) (i:Nat):Prop where
 own:dLsE.Own wr B (.slice a n c) X
 len:X.length=X0.length
 eq:∀(j:Nat) x0,X0[j]?=some x0->∃e,X[j]?=some (x0.1,x0.2.1,e)/\(j<i->∃l,LL[j]?=some l/\dLeE.InS wr (λg=>w7.heap.size<=g) e (qY l))/\(i<=j->e=(none,0,0))
 chg:J (λk=>(Value.slice a n c).ownBlock=some k) w7 wr
structure NumSt (w0 w:World) (v:Value) (N:List Int):Prop where
 own:intE.Own w w0.heap.size v N
 chg:J (λk=>w0.heap.size<=k) w0 w
theorem NumSt.same (a:NumSt w v A X) (b:Cf v u):NumSt w u A X :=
 ⟨a.own.chg b (λ_ _ _ a=>a),a.chg.trans b.any⟩
theorem NumSt.add (a:NumSt w v A X) (c:intE.Own u w.heap.size B (X++Y)) (b:J (λd=>w.heap.size<=d) v u):NumSt w u B (X++Y):=⟨c,a.chg.trans b⟩
structure ApB (w:World) (v:Value) (b:Nat):Prop where
 lt:b<w.heap.size
 out:v.ownBlock≠some b
theorem ApB.next (d:ApB w A a) (e:J (λf=>A.ownBlock=some f) w v) (c:B.ownBlock=A.ownBlock\/B.ownBlock=some w.heap.size):ApB v B a :=
 ⟨Ay9 d.lt e.size,λb=>by
  rcases c with c|c
  .rw[c]at b;exact d.out b
  rw[c]at b;have:=d.lt;injection b with b;omega⟩
theorem ApB.same (b:ApB w A a) (c:Cf w v):ApB v A a:=⟨Ay9 b.lt c.size,b.out⟩
theorem ApB.keep (d:ApB w A a) (e:J (λg=>A.ownBlock=some g) w v) {b:Nat}{c:Value}(f:w.cell? ⟨a,b,none⟩=some c):v.cell? ⟨a,b,none⟩=some c:=e.cellS f d.out
theorem Dt (b:intE.Own w a A X):∃d f c,A=.slice d X.length f/\I.BytesAt w c 0 X/\(0<X.length->d=some ⟨c,0,none⟩)/\(0<X.length->a<=c/\c<w.heap.size):=by
 rcases b with ⟨rfl,rfl⟩|⟨c,k,g,h,e,i,l⟩
 .exact⟨none,0,0,D,⟨λm d j=>by simp at j,λb=>(b D).elim⟩,λb=>by simp at b,λb=>by simp at b⟩
 exact⟨_,_,c,g,(bY.1 e).bytes i,λ_=>rfl,λ_=>⟨h,e.lt⟩⟩
theorem Du (g:List Int) (f:Int) (b:List RowD) (e:List Int) (aH U bM:Option Addr) (aI Z c8 dK e5 cS c9 cO:Nat) (r:World) (fZ:I.Byte f) (dP:vW uW rowR r cS (aH,b.length,aI) b) (g4:b.length<=100000000) (dX:∀a1∈b,a1.2.length<=1000000000)
  (dO:I.BytesAt r c9 cO e) (dR:0<e.length->U=some ⟨c9,cO,none⟩) (g1:e.length<=100000000) (P:mayL (f,b,e)=true)
  (dV:BytesAt r dK e5 g) (dT:0<g.length->bM=some ⟨dK,e5,none⟩) (h5:g.length<=1000000) (dM:(vE (f,b,e)).length<=10000000) :
  Calls prog 123 #[.slice bM g.length c8,.agg #[.int .i64 f,.slice aH b.length aI,.slice U e.length Z]] r λb3 e6=>∃O,b3=.returned (.tuple #[O,.int .i64 0])/\Own e6 r.heap.size O (g++kW (f,b,e))/\Cf r e6:=by
 have c0:=V ((FR r).alloc (.cells #[.int .i64 f,.slice aH b.length aI,.slice U e.length Z] 194));have cX:G (∀wr,Cf (r.alloc (.cells #[.int .i64 f,.slice aH b.length aI,.slice U e.length Z] 194)) wr->wr.cell? ⟨r.heap.size,0,none⟩=some (.int .i64 f)/\wr.cell? ⟨r.heap.size,1,none⟩=some (.slice aH b.length aI)/\wr.cell? ⟨r.heap.size,2,none⟩=some (.slice U e.length Z)/\r.heap.size<wr.heap.size):=V λwr Y =>
  ⟨Y.cellS sI iD,Y.cellS sI iD,Y.cellS sI iD,by have:=Y.size;simp at this;omega⟩
 have bH:=V dP;have d4:=V dO;have cV:=V dR;have d1:=V dX;have eO:=V P;have d0:=V dV;have e9:=V dT;have a5:=V (eA P).1;have bD:=V dM;have eI:G (∀a1∈b,kE a1.1/\∀R∈xS a1,0<=R/\R<4294967296):=V (λa1 aD=>by
  obtain⟨g9,-,gD,-⟩:=jY P;have:=mU H (gD a1 aD);exact⟨this.1,this.2.2⟩)
 obtain⟨d7,gO,dF⟩:=rZ (a5.o b.length (by simp[vE])) (a5.o e.length (by simp[vE])) (a5.o f (by simp[vE]));have eZ:G (∀R∈vE (f,b,e),I.Byte R):=V (λR aB=>by have:=a5.o R aB;exact⟨H,H⟩);clear dP dO dR dX P dV dT dM;go_enter func123,ntmps123
 go_wp2_with fail
 refine (iw f b e aH U aI Z cS c9 cO _ fZ (bH.o.same c0.o) g4 d1.o (d4.o.chg c0.o iE) cV.o g1).mono ?_;rintro b3 i ⟨rfl,cD⟩;rw[eO.o];obtain⟨a6,a7,a8,gT⟩:=cX.o i cD;have bB:=V (c0.o.trans cD);have cZ:G (∀wr,J (λc=>i.heap.size<=c) i wr->wr.cell? ⟨r.heap.size,0,none⟩=some (.int .i64 f)/\wr.cell? ⟨r.heap.size,1,none⟩=some (.slice aH b.length aI)/\wr.cell? ⟨r.heap.size,2,none⟩=some (.slice U e.length Z)):=V λwr Y =>
  ⟨Y.cellS a6 (by show ¬i.heap.size<=r.heap.size;omega),Y.cellS a7 (by show ¬i.heap.size<=r.heap.size;omega),Y.cellS a8 (by show ¬i.heap.size<=r.heap.size;omega)⟩
 have d8:G (NumSt i (i.alloc (.cells #[.int .i64 f,.int .i64 b.length] 3)) (.slice (some ⟨i.heap.size,0,none⟩) 2 2) ([f,(b.length:Int)]++(b.take 0).flatMap xS)):=V ⟨.inr ⟨i.heap.size,[f,(b.length:Int)],D,Ay1 _,bY.2 (I.Row.alloc i [f,(b.length:Int)] 3 (by
  intro l v;rcases Ax5.1 v with rfl|v
  .exact⟨by have:=dF.o;omega,by have:=dF.o;omega⟩
  rcases Ax5.1 v with rfl|v
  .exact⟨by have:=d7.o;omega,by have:=d7.o;omega⟩
  cases v)),sI,by show (2:Nat)<=maxLen;decide⟩,rT⟩
 clear cD cX;go_wp2
 go_loopw [6,7] (λO A wr=>∃c:Nat,c<=b.length/\A=.int .i64 c/\NumSt i wr O ([f,(b.length:Int)]++(b.take c).flatMap xS)) (λ_ A _=>b.length-(intOf A).toNat)
 .exact⟨0,H,D,d8.o⟩
 clear d8 a6 a7 a8;obtain⟨c,cH,rfl,Q⟩:=hrel;have N:=V Q;obtain⟨a6,a7,a8⟩:=cZ.o wr Q.chg;have d2:=V (bB.o.trans Q.chg.fresh);obtain⟨C,F,E,b7⟩:=Q.own.shape3;subst b7;clear Q;by_cases cI:c<b.length
 .have fM:=rO c b.length
  obtain⟨a1,gR,hA,b9,W,aD,rfl,T,aP,e3,cF,-,-⟩:=bH.o.get D (λ_=>rfl) cI;obtain⟨rd,a⟩:=a1;simp only at T aP cF e3;have T:=d2.o.cellS T iD;have aP:=d2.o.cellS aP iD;obtain⟨g5,e4⟩:=eI.o _ (Az1 aD);simp only at g5;have c6:=V e4;have f5:G (a.length<=1000000000):=V (d1.o _ (Az1 aD));have bK:G (([f,(b.length:Int)]++(b.take (c+1)).flatMap xS)=([f,(b.length:Int)]++(b.take c).flatMap xS)++xS (rd,a)):=V (by rw[Ay3,aD];simp);have c7:=V (lr (W:=f) (O:=e) aD);obtain⟨m,a9⟩:=rM ([f,(b.length:Int)]++(b.take c).flatMap xS);have bF:G (m.length+(xS (rd,a)).length<=10000000):=V (by
   have b5:=congrArg List.length c7.o;have aR:=bD.o;have aT:=congrArg List.length a9;simp only[Az,Ax2,Aw6]at b5 aT;omega)
  rw[a9]at bK N;obtain⟨u,bT⟩:=rK wr.heap.size;obtain⟨K,b8⟩:=rK (wr.alloc (.cells #[.int .i64 rd,.slice b9 a.length W] 236));have fB:G (Cf wr K):=V (by rw[b8];exact rT);have c3:=V cF;have b2:G (K.cell? ⟨u,0,none⟩=some (.int .i64 rd)/\K.cell? ⟨u,1,none⟩=some (.slice b9 a.length W)):=V (by rw[b8,bT];exact⟨sI,sI⟩);obtain⟨f9,eF,d9⟩:=rZ b8 bT (N.o.same fB.o);have aM:G (ApB K (.slice C F E) u):=V ⟨by rw[b8,bT];simp,λb3=>by have:=(N.o.own.blk b3).2;omega⟩;have h3:=f5.o;clear aD cF e3 b8 e4 a9 bT;go_upto_region 8 with fail
  rw[<-f9.o]
  try rw[<-eF.o]
  clear T aP a6 a7 a8;obtain⟨a2,a3⟩:=b2.o;have w:=V (d9.o.same ((FR K).alloc (.cells #[.int .i64 (rd+1),.int .i64 a.length] 3)));have B:=V (aM.o.same ((FR K).alloc (.cells #[.int .i64 (rd+1),.int .i64 a.length] 3)));have S:G ((K.alloc (.cells #[.int .i64 (rd+1),.int .i64 a.length] 3)).cell? ⟨u,0,none⟩=some (.int .i64 rd)/\(K.alloc (.cells #[.int .i64 (rd+1),.int .i64 a.length] 3)).cell? ⟨u,1,none⟩=some (.slice b9 a.length W)):=V ⟨((FR K).alloc _).cellS a2 iD,((FR K).alloc _).cellS a3 iD⟩;have L:G (∀l∈[rd+1,(a.length:Int)],intE.ok l):=V (by
   intro l v
   have:=c6.o l (by simp only[xS,Ax5];rcases Ax5.1 v with s|s;(exact .inl s);exact .inr (.inl (Ay.1 s)))
   exact⟨H,H⟩)
  have X:G (i.heap.size<=(K.alloc (.cells #[.int .i64 (rd+1),.int .i64 a.length] 3)).heap.size):=V w.o.chg.size;have a4:G (m.length+2<=1000000000000):=V (by have:=bF.o;omega);go_upto_region 9 with (at_builtin;refine Elt.wpList_append2 intE rfl (.tmp 34) (.tmp 41) 25 25 rfl rfl i.heap.size (.slice C F E) m [rd+1,(a.length:Int)] (.slice (some ⟨K.heap.size,0,none⟩) 2 2) rfl rfl w.o.own X.o (intE.srcLit 2 L.o) L.o a4.o ?_;intro cP z k n j)
  obtain⟨aX,aZ,aY,aF⟩:=k.o.shape3;subst aF;have y:=V (w.o.add k.o n.o);have aK:=V (B.o.next j.o.1 j.o.2);have aO:G (z.cell? ⟨u,0,none⟩=some (.int .i64 rd)/\z.cell? ⟨u,1,none⟩=some (.slice b9 a.length W)):=V ⟨B.o.keep j.o.1 S.o.1,B.o.keep j.o.1 S.o.2⟩;have d5:G (m++[rd+1,(a.length:Int)]=m++([rd+1,(a.length:Int)]++yG 0 (a.take 0))):=V (by simp[yG]);rw[d5.o]at y;clear a2 a3 w B S d9 aM b2 d5 k n j N;go_wp2
  go_loopw [6,9] (λO A bZ=>∃h:Nat,h<=a.length/\A=.int .i64 h/\NumSt i bZ O (m++([rd+1,(a.length:Int)]++yG 0 (a.take h)))/\ApB bZ O u/\(bZ.cell? ⟨u,0,none⟩=some (.int .i64 rd)/\bZ.cell? ⟨u,1,none⟩=some (.slice b9 a.length W))) (λ_ A _=>a.length-(intOf A).toNat)
  .exact⟨0,H,D,y.o,aK.o,aO.o⟩
  clear y aK aO;obtain⟨h,gV,rfl,Q,dU,a2,a3⟩:=hrel;obtain⟨N,aM,b2,d3⟩:=sB Q dU (And.intro a2 a3) (bB.o.trans Q.chg.fresh);obtain⟨C,F,E,b7⟩:=Q.own.shape3;subst b7;clear Q dU;by_cases g0:h<a.length
  .have fO:=rO h a.length
   obtain⟨g8,bO,bV,gF,O,cM,rfl,b6,T,aP,g2,-,-⟩:=(c3.o.same d3.o).get2 D g0;obtain⟨rfl,rfl⟩:=az b6;obtain⟨q,x⟩:=g8;simp only at T aP g2;have dD:G (yG 0 (a.take (h+1))=yG 0 (a.take h)++[q-kY 0 (a.take h),x+1]):=V (by rw[Ay3,cM];exact cG _ _ _);have c2:=V (lu (d:=rd) cM);have e2:=c6.o (q-kY 0 (a.take h)) (by rw[c2.o];simp);have h2:=c6.o (x+1) (by rw[c2.o];simp);have a4:G ((m++([rd+1,(a.length:Int)]++yG 0 (a.take h))).length+2<=1000000000000):=V (by
    have b5:=congrArg List.length c2.o;have aR:=bF.o;simp only[Az,Ax2,Aw6]at b5 ⊢;omega)
   clear cM b6;rcases Ax6 h with bP|bP
   .have b0:G (q-kY 0 (a.take h)=q):=V (by rw[bP];simp[kY])
    rw[b0.o]at e2;have fP:decide (0<h)=false:=sO;clear bP
    have L:G (∀l∈[q,x+1],intE.ok l):=V (by
     intro l v;rcases Ax5.1 v with rfl|s
     .exact⟨H,H⟩
     rw[Ay.1 s];exact⟨H,H⟩)
    have w:=V (N.o.same ((FR wr).alloc (.cells #[.int .i64 (q),.int .i64 (x+1)] 3)));have B:=V (aM.o.same ((FR wr).alloc (.cells #[.int .i64 (q),.int .i64 (x+1)] 3)));have S:G ((wr.alloc (.cells #[.int .i64 (q),.int .i64 (x+1)] 3)).cell? ⟨u,0,none⟩=some (.int .i64 rd)/\(wr.alloc (.cells #[.int .i64 (q),.int .i64 (x+1)] 3)).cell? ⟨u,1,none⟩=some (.slice (some ⟨bO,bV,none⟩) a.length W)):=V ⟨((FR wr).alloc _).cellS a2 iD,((FR wr).alloc _).cellS a3 iD⟩;have X:G (i.heap.size<=(wr.alloc (.cells #[.int .i64 (q),.int .i64 (x+1)] 3)).heap.size):=V w.o.chg.size;go_wp2_with (at_builtin;refine Elt.wpList_append2 intE D (.tmp 67) (.tmp 76) 25 25 D D i.heap.size (.slice C F E) (m++([rd+1,(a.length:Int)]++yG 0 (a.take h))) [q,x+1] (.slice (some ⟨wr.heap.size,0,none⟩) 2 2) D D w.o.own X.o (intE.srcLit 2 L.o) L.o a4.o ?_;intro cP z k n j;obtain⟨aX,aZ,aY,aF⟩:=k.o.shape3;subst aF;have y:G (NumSt i z (.slice aX aZ aY) (m++([rd+1,(a.length:Int)]++yG 0 (a.take (h+1))))):=V (by have:=w.o.add k.o n.o;rw[dD.o,b0.o,<-Az7 [rd+1,(a.length:Int)],<-Az7 m];exact this);have aK:=V (B.o.next j.o.1 j.o.2);have aO:G (z.cell? ⟨u,0,none⟩=some (.int .i64 rd)/\z.cell? ⟨u,1,none⟩=some (.slice (some ⟨bO,bV,none⟩) a.length W)):=V ⟨B.o.keep j.o.1 S.o.1,B.o.keep j.o.1 S.o.2⟩;clear k n j)
    go_roundw
    .exact⟨h+1,H,GN,y.o,aK.o,aO.o⟩
    simp[intOf];omega
   obtain⟨p,P⟩:∃p,h=p+1:=⟨h-1,H⟩
   obtain⟨A,gS,hB,gF,O,aV,b4,b6,fT,dI,g3,-,-⟩:=(c3.o.same d3.o).get2 D (show p<a.length by omega);obtain⟨rfl,rfl⟩:=az b6;injection b4 with b4;injection b4 with b4 fX;subst b4 fX;obtain⟨a0,g9⟩:=A;simp only at fT dI g3;have b0:G (q-kY 0 (a.take h)=q-a0):=V (by rw[P,Ay3,aV];simp[kY]);rw[b0.o]at e2;have fP:decide (0<h)=true:=sO;have gX:wrap64 ((h:Int)-1)=(p:Int):=(by unfold wrap64;omega);have h0:p<a.length:=H;have gZ:(h:Int)-1=(p:Int):=H;clear aV b6 dI P bP;have L:G (∀l∈[q-a0,x+1],intE.ok l):=V (by
    intro l v;rcases Ax5.1 v with rfl|s
    .exact⟨H,H⟩
    rw[Ay.1 s];exact⟨H,H⟩)
   have w:=V (N.o.same ((FR wr).alloc (.cells #[.int .i64 (q-a0),.int .i64 (x+1)] 3)));have B:=V (aM.o.same ((FR wr).alloc (.cells #[.int .i64 (q-a0),.int .i64 (x+1)] 3)));have S:G ((wr.alloc (.cells #[.int .i64 (q-a0),.int .i64 (x+1)] 3)).cell? ⟨u,0,none⟩=some (.int .i64 rd)/\(wr.alloc (.cells #[.int .i64 (q-a0),.int .i64 (x+1)] 3)).cell? ⟨u,1,none⟩=some (.slice (some ⟨bO,bV,none⟩) a.length W)):=V ⟨((FR wr).alloc _).cellS a2 iD,((FR wr).alloc _).cellS a3 iD⟩;have X:G (i.heap.size<=(wr.alloc (.cells #[.int .i64 (q-a0),.int .i64 (x+1)] 3)).heap.size):=V w.o.chg.size;go_wp2_with (at_builtin;refine Elt.wpList_append2 intE D (.tmp 67) (.tmp 76) 25 25 D D i.heap.size (.slice C F E) (m++([rd+1,(a.length:Int)]++yG 0 (a.take h))) [q-a0,x+1] (.slice (some ⟨wr.heap.size,0,none⟩) 2 2) D D w.o.own X.o (intE.srcLit 2 L.o) L.o a4.o ?_;intro cP z k n j;obtain⟨aX,aZ,aY,aF⟩:=k.o.shape3;subst aF;have y:G (NumSt i z (.slice aX aZ aY) (m++([rd+1,(a.length:Int)]++yG 0 (a.take (h+1))))):=V (by have:=w.o.add k.o n.o;rw[dD.o,b0.o,<-Az7 [rd+1,(a.length:Int)],<-Az7 m];exact this);have aK:=V (B.o.next j.o.1 j.o.2);have aO:G (z.cell? ⟨u,0,none⟩=some (.int .i64 rd)/\z.cell? ⟨u,1,none⟩=some (.slice (some ⟨bO,bV,none⟩) a.length W)):=V ⟨B.o.keep j.o.1 S.o.1,B.o.keep j.o.1 S.o.2⟩;clear k n j)
   go_roundw
   .exact⟨h+1,H,GN,y.o,aK.o,aO.o⟩
   simp[intOf];omega
  obtain rfl:h=a.length:=H
  have fO:=rP a.length;have f7:G (NumSt i wr (.slice C F E) (([f,(b.length:Int)]++(b.take (c+1)).flatMap xS))):=V (by rw[bK.o];have:=N.o;rw[Ay7]at this;exact this);clear a2 a3;obtain⟨a2,a3⟩:=b2.o;clear N aM b2 c3;go_wp2;go_roundw
  .exact⟨c+1,H,GN,f7.o⟩
  simp[intOf];omega
 obtain rfl:c=b.length:=H
 have fM:=rP b.length;obtain⟨m,a9⟩:=rM ([f,(b.length:Int)]++b.flatMap xS);have c4:G (m++[(e.length:Int)]++e=vE (f,b,e)):=V (by rw[<-a9];simp[vE]);have c7:G (NumSt i wr (.slice C F E) m):=V (by have:=N.o;rw[Ay7,a9]at this;exact this);have a4:G (m.length+1+e.length<=10000000):=V (by
  have b5:=congrArg List.length c4.o;have aR:=bD.o;simp only[Az,Ax2,Aw6]at b5;omega)
 have L:G (∀l∈[(e.length:Int)],intE.ok l):=V (by intro l v;rw[Ay]at v;subst v;exact⟨H,H⟩);have w:=V (c7.o.same ((FR wr).alloc (.cells #[.int .i64 e.length] 3)));have X:G (i.heap.size<=(wr.alloc (.cells #[.int .i64 e.length] 3)).heap.size):=V w.o.chg.size;have f2:G (m.length+1<=1000000000000):=V (by have:=a4.o;omega);clear a9 N;go_upto_region 17 with (at_builtin;refine Elt.wpList_append2 intE rfl (.tmp 78) (.tmp 82) 25 25 rfl rfl i.heap.size (.slice C F E) m [(e.length:Int)] (.slice (some ⟨wr.heap.size,0,none⟩) 1 1) rfl rfl w.o.own X.o (intE.srcLit 1 L.o) L.o f2.o ?_;intro cP z k n j;obtain⟨aX,aZ,aY,aF⟩:=k.o.shape3;subst aF;have y:=V (w.o.add k.o n.o);clear k n j)
 have eH:=V (bB.o.trans y.o.chg.fresh);clear a6 a7 a8;obtain⟨a6,a7,a8⟩:=cZ.o z y.o.chg;have eX:=V (d4.o.chg eH.o iE);have f0:G (∀l∈e,intE.ok l):=V (λl v=>eZ.o l (by simp[vE,v]));have eB:G (i.heap.size<=z.heap.size):=V y.o.chg.size;have f1:G ((m++[(e.length:Int)]).length+e.length<=1000000000000):=V (by have:=a4.o;simp;omega);have dB:G (Src prog intE.sz 25 (.slice U e.length Z) e.length (intE.encs e) z):=V (by rw[dn];exact I.tS eX.o cV.o);clear w X;go_upto_region 18 with (at_builtin;refine Elt.wpList_append2 intE rfl (.tmp 84) (.tmp 86) 25 25 rfl rfl i.heap.size (.slice aX aZ aY) (m++[(e.length:Int)]) e (.slice U e.length Z) rfl rfl y.o.own eB.o dB.o f0.o f1.o ?_;intro hC t k n j;have bI:=V (y.o.add k.o n.o);clear k n j)
 have c1:=V (bB.o.trans bI.o.chg.fresh);rw[c4.o]at bI;obtain⟨o,cA⟩:=rM (vE (f,b,e));have f8:G (g++kW (f,b,e)=g++gL o):=V (by rw[<-cA];rfl);rw[cA]at bI a5 bD;obtain⟨h8,h9,g7,g6,e0,dZ,cK⟩:=Dt bI.o.own;subst g6;obtain⟨eR,eP,gM⟩:=rZ e0 dZ cK;have eT:G (0<o.length->g7<t.heap.size):=V (λs=>(cK s).2);have fF:=V (d0.o.chg c1.o iE);have fK:G (Src prog bC.sz 45 (.slice bM g.length c8) g.length (bC.encs g) t):=V (by rw[cJ];exact tS fF.o e9.o);have fI:G (∀l∈g,bC.ok l):=V (λl v=>d0.o.byte l v);have eV:G (bC.Own t t.heap.size (.slice none 0 0) []):=V (.inl ⟨D,D⟩);have fH:G (([]:List Int).length+g.length<=1000000000000):=V sO;have h1:=bD.o;clear e0 dZ cK cA y dB c4;go_upto_region 19 with (at_builtin;refine Elt.wpList_append2 bC rfl (.const (.slice none 0 0)) (.tmp 88) 45 45 rfl rfl t.heap.size (.slice none 0 0) [] g (.slice bM g.length c8) rfl rfl eV.o (Ay1 _) fK.o fI.o fH.o ?_;intro gH e7 k n j;have d6:G (bC.Own e7 t.heap.size gH (g++gL (o.take 0))/\J (λc=>t.heap.size<=c) t e7):=V ⟨by have:=k.o;rwa [show g++gL (o.take 0)=[]++g by simp[gL]],n.o⟩;clear k n j)
 clear a6 a7 a8;go_wp2
 go_loopw [11,12] (λO A wr=>∃c:Nat,c<=o.length/\A=.int .i64 c/\(bC.Own wr t.heap.size O (g++gL (o.take c))/\J (λc=>t.heap.size<=c) t wr)) (λ_ A _=>o.length-(intOf A).toNat)
 .exact⟨0,H,D,d6.o⟩
 clear d6;obtain⟨c,cH,rfl,aV⟩:=hrel;have b1:=V aV;obtain⟨C,F,E,b7⟩:=aV.1.shape3;subst b7;clear aV;by_cases cI:c<o.length
 .have fR:=rO c o.length
  obtain⟨R,aB,T,h6,h7⟩:=(eR.o.chg b1.o.2 (λ_ s=>by have:=eT.o H;omega)).get cI;have fV:=eP.o H;subst fV;have e1:=a5.o R (Az1 aB);obtain⟨p,rfl⟩:=Ax3 e1.1;have P:p<4294967296:=H;have h4:IntKind.u32.wrap (p:Int)=p:=(by rw[IntKind.wrap_u32];omega);have bK:G (g++gL (o.take (c+1))=g++gL (o.take c)++putL p):=V (by rw[Ay3,aB];show g++gL (o.take c++[(p:Int)])=_;rw[lm,Ay5,Az7]);have eM:G ((g++gL (o.take c)).length<=100000000):=V (by
   have:=gw (o.take c) (λR aB=>a5.o R (Av8 aB));rw[Az];rw[Ay8]at this;omega)
  rw[Ax]at T;clear aB e1;go_wp2_with fail
  refine (fb [] p none 0 0 0 wr ⟨λc gP cH=>by simp at cH,λs=>(s D).elim⟩ (λs=>by simp at s) sI P).mono ?_;rintro b3 bX ⟨s,cT,rfl,_,aR,aT⟩;rw[Av]at aR ⊢;have bH:=V aR;have gK:=V aT;obtain⟨dH,cB⟩:=rM ((putL p).length);have bF:=V cB;rw[cB];have c5:G (bC.Own bX t.heap.size (.slice C F E) (g++gL (o.take c))/\J (λc=>t.heap.size<=c) t bX):=V ⟨b1.o.1.chg aT (λ_ _ _ s=>s),b1.o.2.trans aT.any⟩;have eD:G (t.heap.size<=bX.heap.size):=V c5.o.2.size;have f6:G (Src prog bC.sz 45 (.slice (some ⟨s,0,none⟩) dH cT) (putL p).length (bC.encs (putL p)) bX):=V (by rw[cJ,<-bF.o];exact tS (bH.o.bytes (Aw8 _)) (λ_=>rfl));have eK:G ((g++gL (o.take c)).length+(putL p).length<=1000000000000):=V (by have:=eM.o;have:=rS P;omega);have fD:G (∀l∈putL p,bC.ok l):=V (bQ p);clear aR aT cB T;go_wp2_with (at_builtin;refine Elt.wpList_append2 bC D (.tmp 96) (.tmp 102) 45 45 D D t.heap.size (.slice C F E) (g++gL (o.take c)) (putL p) (.slice (some ⟨s,0,none⟩) dH cT) D D c5.o.1 eD.o f6.o fD.o eK.o ?_;intro gI e8 k n j;have f3:G (bC.Own e8 t.heap.size gI (g++gL (o.take (c+1)))/\J (λc=>t.heap.size<=c) t e8):=V ⟨by rw[bK.o];exact k.o,c5.o.2.trans n.o⟩;clear k n j)
  go_roundw
  .exact⟨c+1,H,GN,f3.o⟩
  simp[intOf];omega
 obtain rfl:c=o.length:=H
 have fR:=rP o.length;have f4:G (Own wr r.heap.size (.slice C F E) (g++kW (f,b,e))/\Cf r wr):=V ⟨by rw[f8.o];have:=b1.o.1;rw[Ay7]at this;exact fY.1 (this.lower c1.o.size),c1.o.trans b1.o.2.fresh⟩;go_wp2;go_ret2
 exact⟨_,D,f4.o⟩
theorem Elt.InS.srcS {d:Type}{c:Elt d}{b:List d}(e:c.InS w S (F,b.length,a) b):Src prog c.sz c.sl (.slice F b.length a) b.length (c.encs b) w:=by
 obtain⟨-,-,i,j,f,g⟩:=e;exact f.src (λh=>(g h).1)
structure RiseAt (l:List Int) (b most:Int) (k:Nat) (m:Int):Prop where
 lo:b<=m
 z:k=0->m=b
 s:∀p,k=p+1->l[p]?=some (m-1)
 e:vG (l.drop k) m most=vG l b most
theorem RiseAt.start (b:List Int) (a c:Int):RiseAt b a c 0 a:=⟨Int.le_refl _,λ_=>rfl,λ_ d=>H,D⟩
theorem RiseAt.cons {d b e c:Int}(f:RiseAt X d b a e) (i:X[a]?=some c):vG X d b=if c<e\/b<=c then false else vG (X.drop (a+1)) (c+1) b:=by
 obtain⟨g,h⟩:=Az0.1 i;rw[<-f.e,Av7 g,h,vG]
theorem RiseAt.step {e d g b:Int}(c:RiseAt X e d a g) (f:X[a]?=some b) (h:¬(b<g\/d<=b)):RiseAt X e d (a+1) (b+1) :=
 ⟨by have:=c.lo;omega,λc=>H,λi j=>by obtain rfl:a=i:=H;rw[f,show b+1-1=b by omega],by rw[c.cons f,if_neg h]⟩
theorem RiseAt.bad {d b e c:Int}(f:RiseAt X d b a e) (h:X[a]?=some c) (g:c<e\/b<=c):vG X d b=false:=by rw[f.cons h,if_pos g]
theorem RiseAt.done (a:RiseAt X x y X.length z):vG X x y=true:=by rw[<-a.e,List.drop_length];rfl
def dh (c d b:Int) (a:Int×Int):Bool:=aL c a || decide (a.1<b\/d<=a.1)
theorem Dv (a:List LsD) (bI:Option Addr) (bO i e:Nat) (cH:Nat->Prop) (a9:World) (a6:uJ a9 cH (bI,a.length,bO) a) (g7:a.length<=1000000000) (d:∀u∈a,lsB u) (_:i<=1000000000) (cT:e<=1000000000) :
  Calls prog 47 #[.agg #[.slice bI a.length bO],.int .i64 i,.int .i64 e] a9 λQ S=>Q=.returned (.bool (xY a i e))/\Cf a9 S:=by
 have eR:=V (zL.bnd a6 d);clear a6 d;by_cases e2:a.length<1
 .have f2:decide ((a.length:Int)<1)=true:=decide_eq_true H
  have f1:decide (a.length<1)=true:=decide_eq_true e2;have F:G (xY a i e=false):=V (by simp only[xY,decide_eq_false (show ¬1<=a.length by omega),Aw3]);go_enter func47,ntmps47
  go_wp2;go_ret
  exact⟨by rw[F.o];rfl,(J.refl _ a9).alloc _⟩
 have f1:decide (a.length<1)=false:=decide_eq_false e2;have f2:decide ((a.length:Int)<1)=false:=decide_eq_false H;by_cases e3:4096<a.length
 .have f3:decide (4096<a.length)=true:=decide_eq_true e3
  have f4:decide ((4096:Int)<(a.length:Int))=true:=decide_eq_true H;have F:G (xY a i e=false):=V (by simp only[xY,decide_eq_false (show ¬a.length<=4096 by omega),Av2,Aw3]);go_enter func47,ntmps47
  go_wp2;go_ret
  exact⟨by rw[F.o];rfl,(J.refl _ a9).alloc _⟩
 have f3:decide (4096<a.length)=false:=decide_eq_false e3;have f4:decide ((4096:Int)<(a.length:Int))=false:=decide_eq_false H;have dF:G (∀aD,(a.any (λfX=>!qG a.length i e fX))=aD->xY a i e=!aD):=V (λaD d=>by rw[xY,decide_eq_true (show 1<=a.length by omega),decide_eq_true (show a.length<=4096 by omega),d];rfl);have eT:G (∀u∈a,qG a.length i e u=false->xY a i e=false):=V (λu W cZ=>dF.o true (Au8.2 ⟨u,W,by rw[cZ];rfl⟩));obtain⟨aY,bV⟩:=rK (a9.alloc (.cells #[.slice bI a.length bO] 79));have aT:G (Cf a9 aY):=V (by rw[bV];exact (J.refl _ a9).alloc _);have d5:G (∀l,Cf aY l->l.cell? ⟨a9.heap.size,0,none⟩=some (.slice bI a.length bO)):=V (λl t=>t.cellS (by rw[bV];exact uE _ _ D) iD);have a1:=d5.o aY cR;go_enter func47,ntmps47
 go_upto_region 1 with fail
 rw[<-bV];clear bV;go_wp2
 go_loopw [8] (λX wr=>∃L:Nat,L<=a.length/\X=.int .i64 L/\(∀(g:Nat) u,g<L->a[g]?=some u->qG a.length i e u=true)/\Cf aY wr) (λX _=>a.length-(intOf X).toNat)
 .exact⟨0,H,D,λg u a6=>absurd a6 (Ax1 _),cR⟩
 clear a1;obtain⟨L,gD,rfl,e6,cX⟩:=hrel;have dB:=V e6;have c6:=V cX;have a1:=d5.o wr cX;clear e6 cX;by_cases fH:L<a.length
 .have eV:=rO L a.length
  obtain⟨⟨o,⟨bK,g4,bM⟩,⟨bP,g5,b4⟩⟩,⟨gF,h,c⟩,g6,gH,W,⟨⟨e8,e7,c1,c2⟩,f6,f7⟩,rfl,-,g8,-,e4⟩:=((zL.good (bR.good dLsR.good)).chg eR.o (aT.o.trans c6.o) iF).get3 (f:=hJ) D fH D;simp only at e8 e7 c1 c2 f6 f7;subst e8;obtain⟨rfl,-⟩:=c1.len;obtain⟨rfl,-⟩:=c2.len;obtain⟨eX,dT,dU⟩:=e4 _ _ _ D;simp only[slV]at dT dU;obtain⟨gX,gZ⟩:=e7;have eO:=V W;have bH:G (qG a.length i e (o,h,c)=false->xY a i e=false):=V (eT.o _ (Az1 W));have dP:G (∀l,Cf wr l->intE.InS l cH (bK,h.length,bM) h):=V (λl t=>c1.chg t iF);have dR:G (∀l,Cf wr l->zL dLeE eqR l cH (bP,c.length,b4) c):=V (λl t=>zL.of (c2.chg t iF));obtain⟨b3,cV⟩:=rK wr.heap.size;obtain⟨b9,bX⟩:=rK (wr.alloc (.cells #[.int .i64 o,.slice bK h.length bM,.slice bP c.length b4] 145));have aZ:G (Cf wr b9):=V (by rw[bX];exact rT);have b1:G (∀l,Cf b9 l->l.cell? ⟨b3,0,none⟩=some (.int .i64 o)/\l.cell? ⟨b3,1,none⟩=some (.slice bK h.length bM)/\l.cell? ⟨b3,2,none⟩=some (.slice bP c.length b4)):=V (λl t=>by
   have R:∀g A,(#[.int .i64 o,.slice bK h.length bM,.slice bP c.length b4]:Array Value)[g]?=some A->l.cell? ⟨b3,g,none⟩=some A:=λg A d2=>t.cellS (by rw[bX];exact zG _ cV d2) iD
   exact⟨R 0 _ D,R 1 _ D,R 2 _ D⟩)
  clear W c1 c2 e4;go_upto_region 8 with fail
  rw[<-bX,<-cV];clear bX cV eX dT dU;have c8:G (Cf aY b9):=V (c6.o.trans aZ.o);go_wp2_with fail
  go_loopw [10] (λX Y=>∃(b:Nat) (m:Int),b<=h.length/\X=.int .i64 b/\RiseAt h 0 i b m/\Cf b9 Y) (λX _=>h.length-(intOf X).toNat)
  .exact⟨0,0,H,D,RiseAt.start _ _ _,cR⟩
  obtain⟨b,m,f9,rfl,b7,a0⟩:=hrel;obtain⟨s,rfl⟩:∃q:World,q=wr:=⟨_,D⟩;have v:=V b7;have E:=V a0;obtain⟨a1,aO,aP⟩:=b1.o s a0;clear b7 a0;by_cases d0:b<h.length
  .have cI:=rO b h.length
   obtain⟨q,bT,c4,t,rfl,aF,C,N,-,-⟩:=(dP.o s (aZ.o.trans E.o)).getI d0;have b2:=V t;have fI:=v.o.lo;have cD:G (b=0->m=0):=V v.o.z;have cF:G (∀k,b=k+1->s.cell? ⟨bT,c4+k,none⟩=some (.int .i64 (m-1))/\m-1<=9223372036854775807):=V (λk a8=>by
    obtain⟨gV,f5,fT,c0,K,f0,-,d4,-⟩:=(dP.o s (aZ.o.trans E.o)).getI (show k<h.length by omega);injection K with K;injection K with a4 a5;subst a4 a5;rw[v.o.s k a8]at c0;obtain rfl:=Az2 c0;exact⟨f0,d4⟩)
   have d8:=V aF;clear t aF;go_upto_region 11 with fail
   clear a1 aO aP
   go_cut [72] from 33 to 72 (λA Y=>A=.bool (decide (q<m\/(i:Int)<=q))/\Cf s Y)
   .as_aux_lemma =>
    obtain⟨j,a4⟩:=rM (decide (q<0));obtain⟨n,a5⟩:=rM (decide ((i:Int)<=q));by_cases aR:b=0
    .have Z:G (decide (q<m\/(i:Int)<=q)=(j || n)):=V (by rw[<-a4,<-a5,cD.o aR,Bool.decide_or])
     have cO:decide ((0:Int)<(b:Int))=false:=decide_eq_false H;have cP:decide (0<b)=false:=decide_eq_false H;clear aR;have d:j=true\/j=false/\n=true\/j=false/\n=false:=(by cases j <;> cases n <;> simp);rcases d with rfl|⟨rfl,rfl⟩|⟨rfl,rfl⟩ <;>
     ( (refine ws (λS=>Cf s S) ?_;(iterate 33 (first|(refine rq ?_ (by intro _ S _ a7;obtain⟨a1,aO,aP⟩:=b1.o _ (E.o.trans a7);have aF:=a7.cellS d8.o iD;go_simp;try with_reducible rfl))|(refine sq ?_)));refine zW ?_;intro d3 U)
       have aB:=V U;clear U;go_wp2_with fail
       go_meet
       exact⟨by rw[Z.o];rfl,aB.o⟩ )
    obtain⟨k,a8⟩:∃k,b=k+1:=⟨b-1,H⟩
    obtain⟨b6,d1⟩:=cF.o k a8;have b0:=V b6;obtain⟨bD,b8⟩:=rK (m-1);rw[<-b8]at b0 d1;have fP:-1<=bD:=H;obtain⟨a3,cS⟩:=rM (decide (q<=bD));have Z:G (decide (q<m\/(i:Int)<=q)=(j || (n || a3))):=V (by
     rw[<-a4,<-a5,<-cS,<-Bool.decide_or,<-Bool.decide_or];exact decide_eq_decide.2 H)
    have cO:decide ((0:Int)<(b:Int))=true:=decide_eq_true H;have cP:decide (0<b)=true:=decide_eq_true H;have aH:(b:Int)-1=(k:Int):=H;have aI:IntKind.i64.wrap (k:Int)=k:=IntWalk.i64_in _ H;have fK:k<h.length:=H;have fB:(1:Int)<=b:=H;have c9:=V aH;have cA:=V aI;clear b6 a8 b8 aR aH aI;have d:j=true\/j=false/\n=true\/j=false/\n=false/\a3=true\/j=false/\n=false/\a3=false:=(by cases j <;> cases n <;> cases a3 <;> simp);rcases d with rfl|⟨rfl,rfl⟩|⟨rfl,rfl,rfl⟩|⟨rfl,rfl,rfl⟩ <;>
    ( (refine ws (λS=>Cf s S) ?_;(iterate 33 (first|(refine rq ?_ (by intro _ S _ a7;obtain⟨a1,aO,aP⟩:=b1.o _ (E.o.trans a7);have aF:=a7.cellS d8.o iD;have eZ:=a7.cellS b0.o iD;have aH:=c9.o;have aI:=cA.o;go_simp;try with_reducible rfl))|(refine sq ?_)));refine zW ?_;intro d3 U)
      have aB:=V U;clear U;go_wp2_with fail
      go_meet
      exact⟨by rw[Z.o];rfl,aB.o⟩ )
   as_aux_lemma =>
   obtain⟨rfl,b5⟩:=hcut;have B:=V (E.o.trans b5);clear b5;by_cases aX:q<m\/(i:Int)<=q
   .rw[decide_eq_true aX]
    have F:G (xY a i e=false):=V (bH.o (by simp[qG,v.o.bad b2.o aX]));clear aX;go_wp2;go_ret
    exact⟨by rw[F.o];rfl,aT.o.trans (c8.o.trans B.o)⟩
   rw[decide_eq_false aX]
   have P:=V (v.o.step b2.o aX);clear aX;go_wp2;go_roundw
   .first|exact⟨b+1,q+1,H,GN,P.o,B.o⟩|((repeat apply Ay4);exact⟨⟨b+1,q+1,H,GN,P.o,B.o⟩,D⟩)
   simp[intOf];omega
  obtain rfl:b=h.length:=H
  have cI:=rP h.length;have dK:=V v.o.done;clear v;go_wp2_with fail
  obtain⟨gT,rfl⟩:∃q:World,q=s:=⟨_,D⟩
  go_loopw [11] (λX Y=>∃(b:Nat) (m:Int),b<=c.length/\X=.int .i64 b/\(∀(g:Nat) Q,g<b->c[g]?=some Q->aL a.length Q=false)/\RiseAt (c.map (·.1)) (-1) e b m/\Cf b9 Y) (λX _=>c.length-(intOf X).toNat)
  .exact⟨0,-1,H,D,λg Q a6=>absurd a6 (Ax1 _),RiseAt.start _ _ _,E.o⟩
  clear a1 aO aP E;obtain⟨b,m,f9,rfl,aV,b7,a0⟩:=hrel;obtain⟨s,rfl⟩:∃q:World,q=wr:=⟨_,D⟩;obtain⟨v,c5,E⟩:=rZ b7 aV a0;obtain⟨a1,aO,aP⟩:=b1.o s a0;clear b7 a0 aV;by_cases d0:b<c.length
  .have cI:=rO b c.length
   obtain⟨⟨p,z⟩,cM,bT,c4,t,fM,rfl,-,g9,⟨⟨g0,d4⟩,g2,g3⟩,a0⟩:=(dR.o s (aZ.o.trans E.o)).get2 (f:=tY) D d0 D;obtain rfl:(p,z)=cM:=fM;obtain⟨aF,dV⟩:=a0 _ _ D;simp only at aF dV g0 d4 g2 g3;have b2:G ((c.map (·.1))[b]?=some p):=V (by rw[List.getElem?_map,t];rfl);have dO:=V t;have fI:=v.o.lo;have cD:G (b=0->m=-1):=V v.o.z;have cF:G (∀k,b=k+1->s.cell? ⟨bT,c4+k * 2,none⟩=some (.int .i64 (m-1))/\m-1<=9223372036854775807):=V (λk a8=>by
    obtain⟨⟨eK,fZ⟩,cM,f5,fT,c0,fO,K,-,-,⟨⟨-,g1⟩,-,-⟩,f8⟩:=(dR.o s (aZ.o.trans E.o)).get2 (f:=tY) D (show k<c.length by omega) D;obtain rfl:(eK,fZ)=cM:=fO;injection K with K;injection K with a4 a5;subst a4 a5;have R:=v.o.s k a8;rw[List.getElem?_map,c0]at R;obtain rfl:eK=m-1:=Az2 R;exact⟨(f8 _ _ D).1,g1⟩)
   obtain⟨cK,aV⟩:=rK s.heap.size;obtain⟨bB,bZ⟩:=rK (s.alloc (.cells #[.int .i64 p,.int .i64 z] 147));have c7:G (Cf s bB):=V (by rw[bZ];exact rT);have dI:G (∀l,Cf bB l->l.cell? ⟨cK,0,none⟩=some (.int .i64 p)/\l.cell? ⟨cK,1,none⟩=some (.int .i64 z)/\l.cell? ⟨b3,2,none⟩=some (.slice (some ⟨bT,c4,none⟩) c.length b4)):=V (λl t=>by
    have R:∀g A,(#[.int .i64 p,.int .i64 z]:Array Value)[g]?=some A->l.cell? ⟨cK,g,none⟩=some A:=λg A d2=>t.cellS (by rw[bZ];exact zG _ aV d2) iD
    exact⟨R 0 _ D,R 1 _ D,(b1.o l (E.o.trans (c7.o.trans t))).2.2⟩)
   clear t a0;go_upto_region 17 with fail
   rw[<-bZ,<-aV];clear bZ aV aF dV a1 aO aP
   go_cut [120] from 73 to 120 (λA Y=>A=.bool (dh a.length e m (p,z))/\Cf bB Y)
   .as_aux_lemma =>
    obtain⟨j,a4⟩:=rM (decide (p < -1));obtain⟨n,a5⟩:=rM (decide ((e:Int)<=p));obtain⟨T,dX⟩:=rM (decide (z<0));obtain⟨a2,dZ⟩:=rM (decide ((a.length:Int)<=z));by_cases aR:b=0
    .have Z:G (dh a.length e m (p,z)=(j || (n || (T || a2)))):=V (by
      rw[<-a4,<-a5,<-dX,<-dZ];show ((decide (z<0) || decide ((a.length:Int)<=z)) || decide (p<m\/(e:Int)<=p))=_;simp only[<-Bool.decide_or];exact decide_eq_decide.2 (by have:=cD.o aR;omega))
     have cO:decide ((0:Int)<(b:Int))=false:=decide_eq_false H;have cP:decide (0<b)=false:=decide_eq_false H;clear aR;have d:j=true\/j=false/\n=true\/j=false/\n=false/\T=true\/j=false/\n=false/\T=false/\a2=true\/j=false/\n=false/\T=false/\a2=false:=(by cases j <;> cases n <;> cases T <;> cases a2 <;> simp);rcases d with rfl|⟨rfl,rfl⟩|⟨rfl,rfl,rfl⟩|⟨rfl,rfl,rfl,rfl⟩|⟨rfl,rfl,rfl,rfl⟩ <;>
     ( (refine ws (λS=>Cf bB S) ?_;(iterate 36 (first|(refine rf dI.o ?_)|(refine sq ?_)));refine zW ?_;intro d3 U)
       have aB:=V U;clear U;go_wp2_with fail
       go_meet
       exact⟨by rw[Z.o];rfl,aB.o⟩ )
    obtain⟨k,a8⟩:∃k,b=k+1:=⟨b-1,H⟩
    obtain⟨b6,d1⟩:=cF.o k a8;have b0:=V b6;obtain⟨bD,b8⟩:=rK (m-1);rw[<-b8]at b0 d1;have fP:-2<=bD:=H;obtain⟨a3,cS⟩:=rM (decide (p<=bD));have Z:G (dh a.length e m (p,z)=(j || (n || (T || (a2 || a3))))):=V (by
     rw[<-a4,<-a5,<-dX,<-dZ,<-cS];show ((decide (z<0) || decide ((a.length:Int)<=z)) || decide (p<m\/(e:Int)<=p))=_;simp only[<-Bool.decide_or];exact decide_eq_decide.2 H)
    have cO:decide ((0:Int)<(b:Int))=true:=decide_eq_true H;have cP:decide (0<b)=true:=decide_eq_true H;have aH:(b:Int)-1=(k:Int):=H;have aI:IntKind.i64.wrap (k:Int)=k:=IntWalk.i64_in _ H;have fK:k<c.length:=H;have fB:(1:Int)<=b:=H;have c9:=V aH;have cA:=V aI;have eM:=V (c7.o.cellS b0.o iD);clear b6 a8 b8 aR aH aI;have d:j=true\/j=false/\n=true\/j=false/\n=false/\T=true\/j=false/\n=false/\T=false/\a2=true\/j=false/\n=false/\T=false/\a2=false/\a3=true\/j=false/\n=false/\T=false/\a2=false/\a3=false:=(by cases j <;> cases n <;> cases T <;> cases a2 <;> cases a3 <;> simp);rcases d with rfl|⟨rfl,rfl⟩|⟨rfl,rfl,rfl⟩|⟨rfl,rfl,rfl,rfl⟩|⟨rfl,rfl,rfl,rfl,rfl⟩|⟨rfl,rfl,rfl,rfl,rfl⟩ <;>
    ( (refine ws (λS=>Cf bB S) ?_;(iterate 36 (first|(refine rq ?_ (by intro _ S _ a7;obtain⟨a1,aO,aP⟩:=dI.o _ a7;have eZ:=a7.cellS eM.o iD;have aH:=c9.o;have aI:=cA.o;go_simp;try with_reducible rfl))|(refine sq ?_)));refine zW ?_;intro d3 U)
      have aB:=V U;clear U;go_wp2_with fail
      go_meet
      exact⟨by rw[Z.o];rfl,aB.o⟩ )
   as_aux_lemma =>
   obtain⟨rfl,b5⟩:=hcut;have B:=V (E.o.trans (c7.o.trans b5));clear b5;obtain⟨aD,d⟩:=rM (dh a.length e m (p,z));rw[d];have Z:=V d;clear d;cases aD with
   | true =>
    have F:G (xY a i e=false):=V (bH.o (by
     have d:=Z.o;rw[dh,At3]at d;rcases d with d|d
     .have:c.any (aL a.length)=true:=Au8.2 ⟨_,Az1 dO.o,d⟩
      simp[qG,this]
     simp[qG,v.o.bad b2.o (of_decide_eq_true d)]))
    go_wp2;go_ret
    exact⟨by rw[F.o];rfl,aT.o.trans (c8.o.trans B.o)⟩
   | false =>
    have P:G (aL a.length (p,z)=false/\RiseAt (c.map (·.1)) (-1) e (b+1) (p+1)):=V (by
     have d:=Z.o;rw[dh,Bool.or_eq_false_iff]at d;exact⟨d.1,v.o.step b2.o (of_decide_eq_false d.2)⟩)
    have d7:G (∀(g:Nat) Q,g<b+1->c[g]?=some Q->aL a.length Q=false):=V (λg Q aM K=>by
     by_cases fD:g=b
     .subst fD
      rw[dO.o]at K;obtain rfl:=Az2 K;exact P.o.1
     exact c5.o g Q H K)
    go_wp2;go_roundw
    .first|exact⟨b+1,p+1,H,GN,d7.o,P.o.2,B.o⟩|((repeat apply Ay4);exact⟨⟨b+1,p+1,H,GN,d7.o,P.o.2,B.o⟩,D⟩)
    simp[intOf];omega
  obtain rfl:b=c.length:=H
  have cI:=rP c.length;have dM:G (vG (c.map (·.1)) (-1) e=true):=V (by
   have a6:=v.o;rw[show c.length=(c.map (·.1)).length by simp]at a6;exact a6.done)
  have d6:G (c.any (aL a.length)=false):=V (by
   rw[Aw4];intro Q K;obtain⟨g,aM⟩:=Aw1 K;rw[c5.o g Q (Az0.1 aM).1 aM];exact Au6)
  have d9:G (qG a.length i e (o,h,c)=bc o h.length c.length):=V (by simp[qG,d6.o,dK.o,dM.o]);obtain⟨r,C,N,O,⟨gI,gK,eF⟩,⟨gM,gO,eH⟩,⟨gP,fV⟩,⟨gR,gS,eI⟩⟩:∃r C N O:Bool,(((h.length:Int) == 0)=r/\(h.length == 0)=r/\decide (h.length=0)=r)/\(((h.length:Int) == 1)=C/\(h.length == 1)=C/\decide (h.length=1)=C)/\(decide ((1:Int)<(h.length:Int))=N/\decide (1<h.length)=N)/\(((c.length:Int) == 0)=O/\(c.length == 0)=O/\decide (c.length=0)=O):=by
   refine⟨_,_,_,_,⟨?_,?_,D⟩,⟨?_,?_,D⟩,⟨?_,D⟩,⟨?_,?_,D⟩⟩
   all_goals first|rfl|(rw[Au7];simp <;> omega)
  have dH:G (bc o h.length c.length=if o=0 then r else if o=1 then C && O else if o=3 then N && O else decide (o=2) && r && O):=V (by rw[bc,eF,eH,fV,eI]);clear eF eH eI v c5 d6 dK dM;obtain⟨c3,fR⟩:=rM (o == 0);obtain⟨w,e9⟩:=rM (o == 1);obtain⟨x,eB⟩:=rM (o == 2);obtain⟨y,eD⟩:=rM (o == 3);have eP:G (w=false/\x=false/\y=false\/w=true/\x=false/\y=false\/w=false/\x=true/\y=false\/w=false/\x=false/\y=true):=V (by
   rw[<-e9,<-eB,<-eD];simp only[beq_eq_false_iff_ne,beq_iff_eq];omega)
  have bF:G (qG a.length i e (o,h,c)=((c3 && r) || (O && ((w && C) || ((y && N) || (x && r)))))):=V (by
   rw[d9.o,dH.o,<-fR,<-e9,<-eB,<-eD];by_cases e0:o=0
   .subst e0;cases O <;> cases r <;> rfl
   by_cases R:o=1
   .subst R;cases O <;> cases C <;> rfl
   by_cases cT:o=3
   .subst cT;cases O <;> cases N <;> rfl
   by_cases e1:o=2
   .subst e1;cases O <;> cases r <;> rfl
   simp[e0,R,e1,cT])
  clear dH d9;have dD:G (qG a.length i e (o,h,c)=true->∀(g:Nat) u,g<L+1->a[g]?=some u->qG a.length i e u=true):=V (λcZ g u aM W=>by
   by_cases fF:g=L
   .subst fF
    rw[eO.o]at W;obtain rfl:=Az2 W;exact cZ
   exact dB.o g u H W)
  have B:G (Cf aY s):=V (c8.o.trans E.o);go_upto_region 19 with fail
  go_cut [13] from 121 to 129 (λA Y=>A=.bool (c3 && r)/\Y=s)
  .as_aux_lemma =>
   cases c3 <;> cases r <;> (go_wp2_with fail;go_meet;exact⟨D,D⟩)
  as_aux_lemma =>
  obtain⟨rfl,rfl⟩:=hcut;obtain⟨aK,e5⟩:=rM (c3 && r);rw[e5]at bF ⊢;clear e5;cases O with
  | false =>
   cases aK with
   | true =>
    have P:=V (dD.o (by rw[bF.o];rfl));go_wp2;go_roundw
    .first|exact⟨L+1,H,GN,P.o,B.o⟩|((repeat apply Ay4);exact⟨⟨L+1,H,GN,P.o,B.o⟩,D⟩)
    .simp[intOf];omega
   | false =>
    have F:G (xY a i e=false):=V (bH.o (by rw[bF.o];rfl));go_wp2;go_ret
    exact⟨by rw[F.o];rfl,aT.o.trans B.o⟩
  | true =>
   go_upto_region 21 with fail
   go_cut [13] from 134 to 167 (λA Y=>A=.bool (aK || ((w && C) || ((y && N) || (x && r))))/\Y=wc)
   .as_aux_lemma =>
    have d:aK=true\/aK=false/\(w=false/\x=false/\y=false\/w=true/\x=false/\y=false/\C=true\/w=true/\x=false/\y=false/\C=false\/w=false/\x=true/\y=false/\r=true\/w=false/\x=true/\y=false/\r=false\/w=false/\x=false/\y=true/\N=true\/w=false/\x=false/\y=true/\N=false):=by
     rcases eP.o with ⟨rfl,rfl,rfl⟩|⟨rfl,rfl,rfl⟩|⟨rfl,rfl,rfl⟩|⟨rfl,rfl,rfl⟩ <;> cases aK <;> cases r <;> cases C <;> cases N <;> simp
    rcases d with rfl|⟨rfl,⟨rfl,rfl,rfl⟩|⟨rfl,rfl,rfl,rfl⟩|⟨rfl,rfl,rfl,rfl⟩|⟨rfl,rfl,rfl,rfl⟩|⟨rfl,rfl,rfl,rfl⟩|⟨rfl,rfl,rfl,rfl⟩|⟨rfl,rfl,rfl,rfl⟩⟩ <;> (go_wp2_with fail;go_meet;exact⟨D,D⟩)
   as_aux_lemma =>
   obtain⟨rfl,rfl⟩:=hcut;have cB:G (qG a.length i e (o,h,c)=(aK || ((w && C) || ((y && N) || (x && r))))):=V (by rw[bF.o,Au1]);obtain⟨aD,d⟩:=rM (aK || ((w && C) || ((y && N) || (x && r))));rw[d]at cB ⊢;clear d;cases aD with
   | true =>
    have P:=V (dD.o cB.o);go_wp2;go_roundw
    .first|exact⟨L+1,H,GN,P.o,B.o⟩|((repeat apply Ay4);exact⟨⟨L+1,H,GN,P.o,B.o⟩,D⟩)
    .simp[intOf];omega
   | false =>
    have F:G (xY a i e=false):=V (bH.o cB.o);go_wp2;go_ret
    exact⟨by rw[F.o];rfl,aT.o.trans B.o⟩
 obtain rfl:L=a.length:=H
 have eV:=rP a.length;have F:G (xY a i e=true):=V (dF.o false (by
  rw[Aw4];intro u W;obtain⟨g,aM⟩:=Aw1 W;rw[dB.o g u (Az0.1 aM).1 aM];exact Au6))
 go_wp2;go_ret
 exact⟨by rw[F.o];rfl,aT.o.trans c6.o⟩
theorem lad2 (a b:Bool):a=true\/a=false/\b=true\/a=false/\b=false:=by cases a <;> cases b <;> simp
theorem lad3 (a b c:Bool):a=true\/a=false/\b=true\/a=false/\b=false/\c=true\/a=false/\b=false/\c=false:=by cases a <;> cases b <;> cases c <;> simp
theorem lad4 (a b c d:Bool):a=true\/a=false/\b=true\/a=false/\b=false/\c=true\/a=false/\b=false/\c=false/\d=true\/a=false/\b=false/\c=false/\d=false:=by cases a <;> cases b <;> cases c <;> cases d <;> simp
theorem bneC (a b:Nat):(a != b)=((a:Int) != (b:Int)):=by rw[Au7,bne_iff_ne,bne_iff_ne];omega
theorem beqC (a b:Nat):(a == b)=((a:Int) == (b:Int)):=by rw[Au7,beq_iff_eq,beq_iff_eq];omega
theorem beqD (a b:Nat):((a:Int) == (b:Int))=decide (a=b):=by rw[Au7,beq_iff_eq,decide_eq_true_eq];omega
theorem aW (n:NetD):sY n=true↔n.s.length=n.p.length/\(∀x∈n.s++n.p,xW n.st.length x=true)/\(∀x∈n.q,pJ n.st.length x=false)/\(∀s∈n.st,stOk n.st.length n.s.length n.q.length s=true)/\vA n.st=n.d:=by
 simp only[sY,Ay6,decide_eq_true_eq,Aw2,Aw4,Bool.not_eq_true,Bool.not_eq_false,Aw0,and_assoc]
theorem Dw {a:NetD}(b:sY a=true->False):sY a=false:=by
 cases c:sY a with
 | true=>exact (b c).elim
 | false=>rfl
theorem ja {b:List StD}{c:StD}(d:b[a]?=some c):vA (b.take (a+1))=vA (b.take a)++(if 0<c.2.2.length then [(a:Int)] else []):=by
 have e:=(Az0.1 d).1;rw[vA,Ay3,d];show yN 0 (b.take a++[c])=_;rw[mA,Ay8,Nat.min_eq_left (Nat.le_of_lt e),Ax]
 rfl
theorem si:∀(X Y:List StD) (k:Nat),yN k (X++Y)=yN k X++yN (k+X.length) Y
 | [],Y,k=>by rw[Av,yN,Av,Aw6,Nat.add_zero]
 | x :: X,Y,k=>by
  have h:=si X Y (k+1);rw[At0];simp only[yN,Ax2];rw[h,show k+1+X.length=k+(X.length+1) by omega]
  split <;> rfl
theorem Dx (a:List StD) (b:Nat):vA (a.take b) <+: vA a:=by
 have c:=si (a.take b) (a.drop b) 0;rw[List.take_append_drop]at c;exact⟨_,c.symm⟩
structure DecsAt (st:List StD) (ds:List Int) (i k:Nat):Prop where
 e:ds.take k=vA (st.take i)
 l:k<=ds.length
theorem DecsAt.start (b:List StD) (a:List Int):DecsAt b a 0 0:=⟨D,Ax9 _⟩
theorem DecsAt.skip {c:List StD}{e:StD}(d:DecsAt c X a b) (f:c[a]?=some e) (g:e.2.2.length=0):DecsAt c X (a+1) b:=⟨by rw[ja f,if_neg H,Av3,d.e],d.l⟩
theorem DecsAt.next {c:List StD}{e:StD}(f:DecsAt c X a b) (h:c[a]?=some e) (g:0<e.2.2.length) (d:X[b]?=some (a:Int)):DecsAt c X (a+1) (b+1) :=
 ⟨by rw[ja h,if_pos g,Ay3,d,f.e];rfl,(Az0.1 d).1⟩
theorem DecsAt.no {c:List StD}{f:StD}(d:DecsAt c X a b) (j:c[a]?=some f) (g:0<f.2.2.length) (h:X[b]?≠some (a:Int)):vA c≠X:=by
 intro i;obtain⟨k,e⟩:=Dx c (a+1);rw[ja j,if_pos g,<-d.e,i]at e
 apply h
 rw[<-e,Az7,Ax7 (by rw[Ay8];exact Nat.min_le_left _ _),Ay8,Nat.min_eq_left d.l,Au4]
 rfl
theorem DecsAt.done {b:List StD}(d:DecsAt b X b.length a):decide (a=X.length)=decide (vA b=X):=by
 have c:=d.e;rw[Ay7]at c;rw[decide_eq_decide,<-c]
 constructor
 .rintro rfl;exact Ay7
 intro e
 have:=congrArg List.length e;rw[Ay8]at this;have:=d.l;omega
def kneB (c d b:Nat) (a:sU):Bool:=decide (3<a.1) || (decide (a.2.1<0) || (decide (a.2.2<0) || (decide ((c:Int)<=a.2.2) || ((a.1 == 0) && (a.2.1 != 0) || ((a.1 == 2) && decide ((d:Int)<=a.2.1) || (a.1 == 3) && decide ((b:Int)<=a.2.1))))))
theorem Dy {e:sU}(f:0<=e.1):vL a b c e=kneB a b c e:=by
 obtain⟨d,i,h⟩:=e;have f:0<=d:=f;rw[Au7];simp only[vL,kneB,xW,ax,At3,Ay6,decide_eq_true_eq,Aw2,Bool.and_eq_false_iff,decide_eq_false_iff_not,beq_iff_eq,bne_iff_ne];rcases (by omega:d=0\/d=1\/d=2\/d=3\/3<d) with rfl|rfl|rfl|rfl|g
 .simp <;> omega
 .simp <;> omega
 .simp <;> omega
 .simp <;> omega
 simp[g]
def Ap (f:Nat) (d:World) (c:Value) (g h:List Int) (i:Ending) (e:World):Prop :=
 ∃b,i=.returned b/\POwn e f b (g++h)/\J (λa=>c.ownBlock=some a) d e/\∀a,b.ownBlock=some a->c.ownBlock=some a\/d.heap.size<=a
theorem Ap.trans {d:Ending}(i:Ap a w A X Y (.returned B) v) (k:Ap a v B (X++Y) W d u):Ap a w A X (Y++W) d u:=by
 obtain⟨_,h,p,e,f⟩:=i;obtain rfl:=Ending.returned.inj h;obtain⟨o,rfl,l,m,n⟩:=k;exact⟨o,D,by rw[<-Az7];exact l,e.trans2 m (λb g j=>(f b j).resolve_right H),λb g=>by
  rcases n b g with c|c
  .exact f b c
  exact .inr (Ay2 e.size c)⟩
theorem Ap.nil (b:POwn w a A X):Ap a w A X [] (.returned A) w:=⟨A,D,by rw[Av3];exact b,J.refl _ _,λ_ b=>.inl b⟩
theorem Ap.own (c:Ap a w A X Y (.returned B) v):POwn v a B (X++Y):=by
 obtain⟨_,b,d,-⟩:=c;obtain rfl:=Ending.returned.inj b;exact d
theorem Ap.fresh {c:Ending}(d:Cf w v) (b:Ap a v A X Y c u):Ap a w A X Y c u:=by
 obtain⟨k,e,f,g,h⟩:=b;exact⟨k,e,f,d.any.trans g,λj i=>(h j i).imp id (λb=>Ay2 d.size b)⟩
theorem nN {z:Int}(h:0<=z/\z<4294967296):(zJ z).length<=5:=rS H
theorem xN (i:Int) (n:Value) (f:World) (b:POwn f a n X) (N:a<=f.heap.size) (s:0<=i/\i<4294967296) (O:X.length<=1000000000) :
  Calls prog 78 #[n,.int .i64 i] f (Ap a f n X (zJ i)):=by
 obtain⟨d,rfl⟩:=Ax3 s.1;have r:d<4294967296:=H
 rw[show zJ (d:Int)=putL d by unfold zJ;rw[Ay5]];clear s;obtain⟨t,v,u,rfl⟩:=b.shape3;have y:=V b;have P:IntKind.u32.wrap (d:Int)=d:=by rw[IntKind.wrap_u32];omega
 have z:=V (fb [] d none 0 0 0 f ⟨λC K e=>by simp at e,λb=>(b D).elim⟩ (λb=>by simp at b) sI r);clear b;go_enter func78,ntmps78
 go_wp2_with fail
 refine z.o.mono ?_;rintro h F ⟨b,o,rfl,-,m,l⟩;rw[Av]at m ⊢;have A:=V m;have j:=V l;have w:G (POwn F a (.slice t v u) X):=V (y.o.chgB l iF);obtain⟨B,k⟩:=rM ((putL d).length);have q:=V k;rw[k];clear m l k;have g:=tS (c:=o) (A.o.bytes (Aw8 _)) (λ_=>rfl);rw[q.o]at g;have g:=V g;have L:=rS r;go_wp2_with (at_builtin;refine pL D _ _ 45 D a (.slice t v u) X (putL d) (.slice (some ⟨b,0,none⟩) B o) D D w.o (by have:=j.o.size;omega) (by rw[q.o];exact g.o) (bQ d) H ?_;intro E Q x p)
 go_wp2;go_ret
 exact⟨E,D,x.o,j.o.any.trans p.o.1,λC e=>by
  rcases p.o.2 with h|h
  .rw[h]at e;exact .inl e
  rw[h]at e;have:=Az2 e;have:=j.o.size;exact .inr H⟩
theorem sj (b:Str) (f:Value) (d:World) (g:POwn d a f X) (w:a<=d.heap.size) (B:b.size<=1000000) (x:X.length<=1000000000) :
  Calls prog 79 #[f,.string b] d (Ap a d f X (xE b)):=by
 have s:=V (xN (b.size:Int) f d g w H x);obtain⟨K,N,L,rfl⟩:=g.shape3;have k:=V (rC b);clear g;go_enter func79,ntmps79
 go_wp2_with fail
 refine s.o.mono ?_;rintro e q i;obtain⟨F,rfl,h,l,v⟩:=id i;have r:=V i;have C:=l.size;obtain⟨n,p,o,rfl⟩:=h.shape3;have t:=V h;have A:=nN (z:=(b.size:Int)) H;clear h l v i;go_wp2_with (at_builtin;refine pL D _ _ 9 D a (.slice n p o) (X++zJ (b.size:Int)) (strB b) (.string b) D D t.o H (by rw[<-qk,k.o];exact Src.ofString q underlying9 b) (kz b) (by have:=k.o;rw[Az];omega) ?_;intro m y u j)
 go_wp2;go_ret
 have c:Ap a q (.slice n p o) (X++zJ (b.size:Int)) (strB b) (.returned m) y:=⟨m,D,u.o,j.o.1,λE c=>by
  rcases j.o.2 with e|e
  .rw[e]at c;exact .inl c
  rw[e]at c;have:=Az2 c;exact .inr H⟩
 have:=r.o.trans c;unfold xE;unfold zJ at this;rw[Ay5]at this;exact this
theorem mW (b:List Int) (x:Option Addr) (y:Nat) (p:Value) (e:World) (d:POwn e a p X) (T:a<=e.heap.size) (z:intE.InS e (·<a) (x,b.length,y) b) (C:∀c,p.ownBlock=some c->a<=c) (A:∀g∈b,U32 g) (a6:b.length<=100000000) (a9:X.length<=100000000) :
  Calls prog 81 #[p,.slice x b.length y] e (Ap a e p X (zE zJ b)):=by
 have j:=V (xN (b.length:Int) p e d T H H);obtain⟨a1,a3,a2,rfl⟩:=d.shape3;obtain⟨N,K,v⟩:=rZ C z A;clear d z A C;go_enter func81,ntmps81
 go_wp2_with fail
 refine j.o.mono ?_;rintro P aI f;obtain⟨aD,rfl,-⟩:=id f;have i:=V f;clear f j;go_wp2_with fail
 go_loopw [0,5] (λa0 o wr=>∃(c:Nat),c<=b.length/\o=.int .i64 c/\Ap a e (.slice a1 a3 a2) X (putL b.length++(b.take c).flatMap zJ) (.returned a0) wr) (λ_ o _=>b.length-(intOf o).toNat)
 case atStart=>exact⟨0,H,D,by
  have d:=i.o;unfold zJ at d;rw[Ay5]at d;rw[List.take_zero,List.flatMap_nil,Av3];exact d⟩
 case round =>
  clear i;obtain⟨c,a5,rfl,f⟩:=hrel;obtain⟨E,rfl⟩:∃q:World,q=wr:=⟨_,D⟩;obtain⟨aF,Q,l,m,S⟩:=id f;obtain rfl:=Ending.returned.inj Q;have i:=V f;have L:=V l;have a8:=m.size;have F:G (J (λk=>a<=k) e E):=V (m.mono (λk _ U=>N.o k U));clear f l m S;by_cases W:c<b.length
  .have O:=rO c b.length
   obtain⟨q,k,aB,s,rfl,a4,-,-,-,-⟩:=(K.o.chg F.o (λk R l=>H)).getI W;have Y:=v.o q (Az1 s);have w:=V s;have a7:(putL b.length++(b.take c).flatMap zJ).length<=500000010:=by
    have R:=rS (n:=b.length) H;have l:∀(h:List Int),(∀g∈h,U32 g)->(h.flatMap zJ).length<=5 * h.length:=by
     intro h
     induction h with
     | nil=>intro _;simp
     | cons o h Z =>
      intro B;rw[List.flatMap_cons,Az,Ax2];have:=nN (B o sI);have:=Z (λg t=>B g (by simp[t]));omega
    have m:=l (b.take c) (λg t=>v.o g (Av8 t));rw[Ay8]at m;rw[Az];omega
   have j:=V (xN q _ E L.o H Y (by rw[Az];omega));clear s;go_wp2_with fail
   refine j.o.mono ?_;rintro P aK r;obtain⟨aH,rfl,-⟩:=id r;have u:=V (i.o.trans r);clear r j;go_wp2;go_roundw
   .first|exact⟨c+1,H,GN,by rw[yA w.o,<-Az7];exact u.o⟩|((repeat apply Ay4);exact⟨⟨c+1,H,GN,by rw[yA w.o,<-Az7];exact u.o⟩,D⟩)
   simp[intOf];omega
  obtain rfl:c=b.length:=H
  have O:=rP b.length;go_wp2;go_ret
  have d:=i.o;rw[Ay7]at d;exact d
theorem sk (c:Nat) (b:List (List Int)) (e:Option Addr) (E:Nat) (T:Value) (l:World) (d:POwn l a T X) (b9:a<=l.heap.size) (a1:rN l 0 (e,b.length,E) b) (aY:c<=65536) (w:b.length<=65536) (v:uQ c b=true) (bB:b.length * c<=4194304)
  (f:X.length+(vJ c b).length<=1000000000) :
  Calls prog 80 #[T,.int .i64 c,.slice e b.length E] l (Ap a l T X (vJ c b)):=by
 have P:∀g∈b,g.length=c:=λg f=>by
  have:=Aw0.1 v g f;simp only[nE,Ay6,decide_eq_true_eq]at this;omega
 obtain⟨Y,Z,aP⟩:=rZ (fe (W:=c) H H w v) (Ce (c:Int) b e E 0 l a1 H H w (λg f=>by rw[P g f];exact aY)) d;have aV:(yJ b).2.length<=65536:=by rw[(sE b).2];exact w
 have aX:(yJ b).1.length<=65536:=Ay2 (sE b).1 w;have A:G (∀p∈(yJ b).1,p.2.length<=c):=V (λp N=>by
  obtain⟨g,f,rfl⟩:=eJ b p N;rw[<-P g f];exact tG _ _ _)
 have a0:G ((vE ((c:Int),(yJ b).1,(yJ b).2)).length<=10000000):=V (by
  have b8:=ih (O:=(yJ b).2) A.o;have F:(yJ b).1.length * c<=b.length * c:=Nat.mul_le_mul_right _ (sE b).1;omega)
 have B:G (vJ c b=kW ((c:Int),(yJ b).1,(yJ b).2)):=V D;have W:G (∀e∈vJ c b,Byte e):=V (ln _);obtain⟨n,a2⟩:=rM (vJ c b);rw[a2]at f B W ⊢;obtain⟨C,u⟩:=rM ((yJ b).1);obtain⟨h,t⟩:=rM ((yJ b).2);obtain⟨a9,aD,aB,rfl⟩:=d.shape3;rw[u]at aX A;rw[t]at aV;rw[u,t]at Y a0 B;clear d a1 P a2;go_enter func80,ntmps80
 go_wp2_with fail
 refine Z.o.mono ?_;rintro o m (⟨a3,-,-⟩|⟨-,R,y,S,Q,rfl,O,L,a6,a4⟩)
 .rw[v]at a3;cases a3
 rw[u]at O;rw[t]at L a6;simp only[u,t,tabV];have aR:=V O;have aH:=V a4;obtain⟨i,x,aO,aM⟩:∃(i x:Nat),G (I.BytesAt m i x h)/\G (0<h.length->y=some ⟨i,x,none⟩):=by
  rcases L with ⟨rfl,-⟩|⟨i,aZ,b1,-⟩
  .exact⟨0,0,V ⟨λb3 e j=>by simp at j,λd=>absurd D d⟩,V (λd=>absurd d sI)⟩
  exact⟨i,0,V (b1.bytes (Aw8 _)),V (λ_=>aZ)⟩
 clear O L a4 Z v a6;obtain⟨q,k⟩:=rK (m.alloc (.cells #[.int .i64 c,.slice R C.length S,.slice y h.length Q] 194));have z:G (Cf m q):=V (by rw[k];exact rT);have b4:q.cell? ⟨m.heap.size,0,none⟩=some (.int .i64 c):=by rw[k,Az5];rfl
 have b5:q.cell? ⟨m.heap.size,1,none⟩=some (.slice R C.length S):=by rw[k,Az5];rfl
 have b6:q.cell? ⟨m.heap.size,2,none⟩=some (.slice y h.length Q):=by rw[k,Az5];rfl
 have s:=V (Du [] (c:Int) C h R y none S Q 0 0 0 _ i x q ⟨H,H⟩ (aR.o.same z.o) H (λp N=>Ay2 (A.o p N) H) (aO.o.chg z.o iE) aM.o H Y.o ⟨λbD e b0=>by simp at b0,λd=>absurd D d⟩ (λd=>absurd d sI) sI a0.o);rw[Av,<-B.o]at s;simp only[Aw6]at s;go_upto_region 2 with fail
 rw[<-k];clear k;go_wp2_with fail
 refine s.o.mono ?_;rintro o aF ⟨bF,rfl,K,a5⟩;obtain⟨a7,a8,b2,-,-⟩:=(fY.2 K).clip;subst b2;have aT:G (Src prog 1 45 (.slice a7 n.length a8) n.length (zU n) aF):=V (by
  have d:=(fY.2 K).inC.inS;have F:=d.srcS;rw[cJ]at F;exact F)
 have r:=V (aH.o.trans (z.o.trans a5));have aI:G (POwn aF a (.slice a9 aD aB) X):=V (aP.o.chgB r.o iF);clear K a5 b4 b5 b6 s;go_wp2_with (at_builtin;refine pL D _ _ 45 D a (.slice a9 aD aB) X n (.slice a7 n.length a8) D D aI.o (by have:=r.o.size;omega) aT.o W.o H ?_;intro b7 bH aK U)
 go_wp2;go_ret
 exact⟨b7,D,aK.o,r.o.any.trans U.o.1,λb3 j=>by
  rcases U.o.2 with o|o
  .rw[o]at j;exact .inl j
  rw[o]at j;have:=Az2 j;have:=r.o.size;exact .inr H⟩
theorem Ap.chg {b w':World}{c:Ending}(d:Ap a b A X Y c w'):J (λf=>A.ownBlock=some f) b w':=by
 obtain⟨_,_,_,e,_⟩:=d;exact e
theorem Ap.nx (d:Ap a w A X Y (.returned B) v):∀b,B.ownBlock=some b->A.ownBlock=some b\/w.heap.size<=b:=by
 obtain⟨_,c,_,_,e⟩:=d;obtain rfl:=Ending.returned.inj c;exact e
theorem Ap.to {b c Y':List Int}{d:Ending}(e:Ap a w A b c d v) (f:c=Y'):Ap a w A b Y' d v:=f ▸ e
structure BdSt (B:Nat) (w0 w:World) (v:Value) (X:List Int):Prop where
 o:POwn w B v X
 c:J (λg=>B<=g) w0 w
 s:B<=w.heap.size
theorem BdSt.blk (b:BdSt a w v A X) {g:Nat}(c:A.ownBlock=some g):a<=g/\g<v.heap.size:=b.o.blk c
theorem BdSt.fresh (b:BdSt a w v A X) (c:Cf v u):BdSt a w u A X:=⟨b.o.chgB c iF,b.c.trans c.any,Ay2 b.s c.size⟩
theorem BdSt.ap (b:BdSt a w v A X) (c:Ap a v A X Y (.returned B) u):BdSt a w u B (X++Y) :=
 ⟨c.own,b.c.trans (c.chg.mono (λ_ _ d=>(b.blk d).1)),Ay2 b.s c.chg.size⟩
theorem BdSt.to (b:BdSt a w v A X) (c:X=Y):BdSt a w v A Y:=c ▸ b
theorem BdSt.all (d:BdSt a w v A X) (e:J (λf=>A.ownBlock=some f) v u):J (λc=>a<=c) v u:=e.mono (λ_ _ b=>(d.blk b).1)
structure LkS (B:Nat) (w:World) (sv vl:Value) (LL:List (List Int)):Prop where
 ex:∃Y:List Sl,pW.Own w B vl Y/\Y.length=LL.length/\∀(j:Nat) y l,Y[j]?=some y->LL[j]?=some l->intE.InS w (λg=>B<=g/\sv.ownBlock≠some g/\vl.ownBlock≠some g) y l
 ap:∀g,vl.ownBlock=some g->sv.ownBlock≠some g
theorem LkS.start (b:Nat) (d:World) (c:Value):LkS b d c (.slice none 0 0) []:=⟨⟨[],.inl ⟨D,D⟩,D,λf h g a=>by simp at a⟩,λe a=>by cases a⟩
theorem LkS.bytes {j:List (List Int)}(f:LkS a w A C j) (i:Ap b w A X Y (.returned B) v):LkS a v B C j:=by
 obtain⟨m,l,h,o⟩:=f.ex;have k:=i.nx;refine⟨⟨m,l.chgB i.chg (λc d p=>f.ap c d p),h,λr t s q h=>?_⟩,λc d e=>?_⟩
 .have g:=(o r t s q h).mono (S':=λc=>(a<=c/\A.ownBlock≠some c/\C.ownBlock≠some c)/\c<w.heap.size) (λc n d=>⟨d,n⟩)
  exact (g.chg i.chg (λc d e=>d.1.2.1 e)).mono (λc _ d=>⟨d.1.1,λe=>(k c e).elim d.1.2.1 (λf=>H),d.1.2.2⟩)
 rcases k c e with g|g
 .exact f.ap c d g
 have:=(l.blk d).2
 omega
theorem LkS.fresh {d:List (List Int)}(b:LkS a w A B d) (e:Cf w v):LkS a v A B d:=by
 obtain⟨f,g,c,h⟩:=b.ex;exact⟨⟨f,g.chg e (λ_ _ _ b=>b),c,λj l k i c=>(h j l k i c).chg e iF⟩,b.ap⟩
theorem LkS.push {k:List (List Int)}{i:List Sl}{e:Sl}(n:∀b,B.ownBlock=some b->A.ownBlock≠some b) (t:∀b,A.ownBlock=some b->b<w.heap.size) (m:i.length=k.length)
  (s:∀(j:Nat) e X,i[j]?=some e->k[j]?=some X->intE.InS w (λb=>a<=b/\A.ownBlock≠some b/\B.ownBlock≠some b) e X) (x:intE.InS w (λb=>a<=b/\A.ownBlock≠some b/\B.ownBlock≠some b) e X)
  (l:Cf w v) (r:pW.Own u a C (i++[e])) (o:J (λy=>B.ownBlock=some y) v u) (d:C.ownBlock=B.ownBlock\/C.ownBlock=some v.heap.size):LkS a u A C (k++[X]):=by
 have step:∀{e:Sl}{X:List Int},intE.InS w (λb=>a<=b/\A.ownBlock≠some b/\B.ownBlock≠some b) e X->intE.InS u (λb=>a<=b/\A.ownBlock≠some b/\C.ownBlock≠some b) e X:=λ{e X} g=>by
  have h:=g.mono (S':=λb=>(a<=b/\A.ownBlock≠some b/\B.ownBlock≠some b)/\b<w.heap.size) (λb q c=>⟨c,q⟩);refine ((h.chg l iF).chg o (λb c f=>c.1.2.2 f)).mono (λb _ c=>⟨c.1.1,c.1.2.1,λf=>?_⟩);rcases d with d|d
  .rw[d]at f;exact c.1.2.2 f
  rw[d]at f
  have:=Az2 f;have:=l.size;omega
 refine⟨⟨i++[e],r,by simp[m],λj E z g h=>?_⟩,λb c f=>?_⟩
 .by_cases p:j<i.length
  .rw[Ax0 p]at g
   rw[Ax0 H]at h;exact step (s j E z g h)
  obtain rfl:j=i.length:=by
   have:=(Az0.1 g).1;simp at this
   omega
  rw[Ax7 (Ay1 _),Au4]at g;rw[m,Ax7 (Ay1 _),Au4]at h;obtain rfl:=Az2 g;obtain rfl:=Az2 h;exact step x
 rcases d with d|d
 .rw[d]at c;exact n b c f
 rw[d]at c
 have g:=t b f;have h:=Az2 c;have F:=l.size;omega
structure OkBd (t:TabsD):Prop where
 rl:t.rl.length<=64/\∀s∈t.rl,s.size<=1000000
 tk:t.tk.length<=64/\∀s∈t.tk,s.size<=1000000
 dr:t.dr.length=t.tk.length
 lx:OkLx t.lx
 nt:OkNt t.nt
 st:t.nt.st.length<=65536
 nl:t.nt.s.length<=64/\t.nt.p.length<=64/\t.nt.q.length<=1000000
 sl:∀s∈t.nt.st,s.2.1.length<=1000000/\s.2.2.length<=1000000
 ll:t.lk.length<=65536
 lk:∀A∈t.lk,(∀d∈A,OkL t.tk.length d/\d.2.1.length<=1000000)/\A.length<=4096/\uQ ((t.tk.length:Int)+1) (A.map (λs=>yU t.tk.length s.2.2))=true
 l:(uG t).length<=90000000
theorem Dz {s:Str}(h:qE s=true):s.size<=64:=by
 unfold qE at h;simp only[Ay6,decide_eq_true_eq]at h;exact h.2
theorem Ea {b:NetD}(e:sY b=true):∀c∈b.st,∀a∈c.2.1,a.1<=3:=λc h a g=>by
 have d:=((aW b).1 e).2.2.2.1 c h;simp only[stOk,gJ,Ay6,Aw2]at d;have f:=Aw4.1 d.1.1.1 a g;simp only[vL,At3,decide_eq_true_eq,not_or]at f;omega
theorem Eb {c:TabsD}(u:yE c=true) (f:FairTabs c) (d:SmallT c) (v:vC c.lx.c<=65536) (s:(uG c).length<=90000000):OkBd c:=by
 have a:=qQ u;have m:=(aW c.nt).1 a.nt;have r:∀b∈c.nt.st,∀e∈b.2.1,0<=e.1/\e.1<=255:=λb h e l=>⟨(d.st b h).2.2 e l,by have:=Ea a.nt b h e l;omega⟩
 have n:∀b:Str,qE b=true->b.size<=1000000:=λb a=>Ay2 (Dz a) dE
 have t:c.lk.length<=65536:=by
  have p:=vS c.nt.st 0;have i:=a.ll;rw[<-m.2.2.2.2]at i;unfold vA at i;have q:=a.st;omega
 have p:=a.sl;have i:=a.rl;have q:=m.1;have w:=d.q;exact⟨⟨a.rl,λb d=>n b (a.rn b d)⟩,⟨a.tk,λb d=>n b (a.tn b d)⟩,a.dr,By a.lx a.tk f.lx v,rm a f.nt r,a.st,⟨H,H,H⟩,
  λb h=>by have:=d.st b h;exact⟨H,H⟩,t,λo g=>⟨λj k=>⟨(ip a f g).1 j k,by have:=d.al o g j k;omega⟩,(ip a f g).2.1,(ip a f g).2.2⟩,s⟩
theorem eW {α:Type}(f:α->Nat):∀(L:List α) (x:α),x∈L->f x<=(L.map f).sum
 | y :: L,x,h=>by
  rcases Ax5.1 h with rfl|h
  .simp
  have:=eW f L x h
  simp;omega
theorem Ec {e:Type}(b:e->Nat):∀(a:List e),(∀c∈a,1<=b c)->a.length<=(a.map b).sum
 | [],_=>sI
 | g :: a,d=>by
  have h:=Ec b a (λc f=>d c (by simp[f]));have i:=d g sI;simp;omega
theorem sm {W:Nat}{LL:List (List Int)}(k:W<=65536) (h:LL.length<=65536) (d:uQ W LL=true):(vJ W LL).length<=5 * (3+3 * LL.length+2 * (LL.length * W)):=by
 have j:∀a∈LL,a.length=W:=λa b=>by
  have:=Aw0.1 d a b;simp only[nE,Ay6,decide_eq_true_eq]at this;omega
 have g:=fe (W:=W) H H h d;have e:∀c∈(yJ LL).1,c.2.length<=W:=λc i=>by
  obtain⟨a,b,rfl⟩:=eJ LL c i;rw[<-j a b];exact tG _ _ _
 have l:=ih (O:=(yJ LL).2) e;obtain⟨f,m⟩:=sE LL;have n:=gw _ (eA g).1;have o:(yJ LL).1.length * W<=LL.length * W:=Nat.mul_le_mul_right _ f;show (gL _).length<=_;omega
abbrev LrD:=List (Int×List Int)×(List (List Int)×Nat)
def lkOf (x:LrD):List LsD:=List.zipWith (λs l=>(s.1,s.2,qY l)) x.1 x.2.1
def ptLr (x:LrD):List Int:=zE ptLs x.1++ptTb x.2
def ak (tk:Nat) (A:List LsD):LrD:=(A.map (λs=>(s.1,s.2.1)),(A.map (λs=>yU tk s.2.2),tk+1))
def ci (s:Int×List Int):Prop:=U32 s.1/\okL U32 s.2
def okLr (x:LrD):Prop:=okL ci x.1/\okTb x.2
def ay (s:Str):Prop:=s.size<=1000000
def okTk (x:Str×Bool):Prop:=ay x.1
def bf (x:(Int×Int)×Int):Prop:=(0<=x.1.1/\x.1.1<=1114111)/\(0<=x.1.2/\x.1.2<=1114111)/\U32 x.2
def okEn (x:Int):Prop:=-1<=x/\x<=4294967294
def okEg (e:sU):Prop:=U32 e.1/\U32 e.2.1/\U32 e.2.2
def okSt (s:StD):Prop:=U32 s.1/\okL okEg s.2.1/\okL U32 s.2.2
theorem Ed (tk:Nat) (A:List LsD):ptLr (ak tk A)=uA tk A:=by
 unfold ptLr ak uA ptTb
 norm_cast
theorem sn {tk:Nat}:∀{A:List LsD},(∀s∈A,OkLs tk s)->lkOf (ak tk A)=A
 | [],_=>rfl
 | s :: A,a=>by
  have c:=sn (A:=A) (λf e=>a f (by simp[e]));have b:=a s sI;have d:=(fC b.r b.t).2.2;unfold lkOf ak at c ⊢;simp only[List.map_cons,List.zipWith_cons_cons,d];rw[c]
theorem n32 {a:Int}(b:okN 16777215 a):U32 a:=by obtain⟨c,d⟩:=b;exact⟨c,H⟩
theorem l32 {a:List Int}(b:okL (okN 16777215) a):okL U32 a:=⟨b.1,λd c=>n32 (b.2 d c)⟩
theorem Ee {tk:Nat}{a:List LsD}(h:tk<=64) (e:a.length<=4096) (b:∀s∈a,OkLs tk s):okLr (ak tk a):=by
 refine⟨⟨by simp only[ak,Ax4];omega,λs f=>?_⟩,⟨by show tk+1<=_;omega,by simp only[ak,Ax4];omega,by have:=dQ b;exact_mod_cast this,?_⟩⟩
 .obtain⟨c,d,rfl⟩:=Au.1 f
  have:=(b c d).k;exact⟨⟨this.1,by have:=this.2;show c.1<_;omega⟩,l32 (b c d).a⟩
 have g:a.length * (tk+1)<=4096 * 65:=Nat.mul_le_mul e H
 show (((a.map (λs=>yU tk s.2.2)).length:Nat):Int) * ((tk+1:Nat):Int)<=4194304;rw[Ax4,<-Int.natCast_mul];omega
theorem Dr.lk {f:List (Int×List Int)}{g:List (List Int)×Nat}{a Z1 b:List Int}{c e d:Bool}(h:Dr (zE ptLs) (okL ci) f a c Z1 e) (i:Dr ptTb okTb g Z1 e b d):Dr ptLr okLr (f,g) a c b d:=h.seq (enc2:=λ_=>ptTb) (ok2:=λ_=>okTb) i
theorem Dr.tok {s:Str}{a:Int}{c Z1 d:List Int}{e g f:Bool}(m:Dr xE ay s c e Z1 g) (n:Dr zJ U32 a Z1 g d f):Dr sC okTk (s,a == 1) c e d f:=by
 refine (m.seq (enc2:=λ_=>zJ) (ok2:=λ_=>U32) n).to (λh=>(h.1,if h.2 then 1 else 0)) ?_ (λb o=>⟨D,⟨o,by show U32 (if b.2=true then 1 else 0);cases b.2 <;> exact⟨dE,dE⟩⟩,λj=>?_⟩)
 .unfold sC
  simp only[Az];have p:(zJ (if (a == 1)=true then 1 else 0)).length<=1:=aU 0 _ (by cases (a == 1) <;> decide);have:=tL a;omega
 obtain⟨q,i⟩:=b
 injection j with k l;subst k l;cases i <;> rfl
theorem Dr.rc {f g h:Int}{d Z1 Z2 e:List Int}{i n1 n2 j:Bool}(o:Dr zJ U32 f d i Z1 n1) (q:Dr zJ U32 g Z1 n1 Z2 n2) (r:Dr zJ U32 h Z2 n2 e j):Dr ptRc bf ((f,g),h) d i e j :=
 (o.seq (enc2:=λ_ (p:Int×Int)=>zJ p.1++zJ p.2) (ok2:=λ_ p=>U32 p.1/\U32 p.2) (q.seq (enc2:=λ_=>zJ) (ok2:=λ_=>U32) r)).to (λc=>(c.1.1,c.1.2,c.2)) (Ay1 _)
  (λk a=>⟨D,⟨⟨a.1.1,by have:=a.1.2;show k.1.1<_;omega⟩,⟨a.2.1.1,by have:=a.2.1.2;show k.1.2<_;omega⟩,a.2.2⟩,λl=>by injection l with m b;injection b with b n;subst m b n;rfl⟩)
theorem Dr.en {c:Int}{a b:List Int}{d e:Bool}(g:Dr zJ U32 c a d b e):Dr nQ okEn (c-1) a d b e :=
 g.to (λh=>h+1) (by unfold nQ;rw[Int.sub_add_cancel];exact Ay1 _) (λj f=>⟨D,⟨by have:=f.1;omega,by have:=f.2;omega⟩,λi=>H⟩)
theorem Dr.edge {c d e:Int}{a Z1 Z2 b:List Int}{f n1 n2 g:Bool}(h:Dr zJ U32 c a f Z1 n1) (i:Dr zJ U32 d Z1 n1 Z2 n2) (j:Dr zJ U32 e Z2 n2 b g):Dr sQ okEg (c,d,e) a f b g :=
 h.seq (enc2:=λ_ (p:Int×Int)=>zJ p.1++zJ p.2) (ok2:=λ_ p=>U32 p.1/\U32 p.2) (i.seq (enc2:=λ_=>zJ) (ok2:=λ_=>U32) j)
theorem Dr.st {d:Int}{e:List sU}{a:List Int}{b Z1 Z2 c:List Int}{f n1 n2 g:Bool}(h:Dr zJ U32 d b f Z1 n1) (i:Dr (zE sQ) (okL okEg) e Z1 n1 Z2 n2) (j:Dr (zE zJ) (okL U32) a Z2 n2 c g):Dr xU okSt (d,e,a) b f c g :=
 h.seq (enc2:=λ_ (p:List sU×List Int)=>zE sQ p.1++zE zJ p.2) (ok2:=λ_ p=>okL okEg p.1/\okL U32 p.2) (i.seq (enc2:=λ_=>zE zJ) (ok2:=λ_=>okL U32) j)
theorem Dr.ls {d:Int}{a:List Int}{b Z1 c:List Int}{e n1 f:Bool}(g:Dr zJ U32 d b e Z1 n1) (h:Dr (zE zJ) (okL U32) a Z1 n1 c f):Dr ptLs ci (d,a) b e c f:=g.seq (enc2:=λ_=>zE zJ) (ok2:=λ_=>okL U32) h
theorem Ef {b:Type}(c:b->List Int) (a:List b):1<=(zE c a).length:=by
 unfold zE;have:=cr a.length;rw[Az];omega
theorem dY {a b:List Int}(h:1<=a.length):1<=(a++b).length:=by rw[Az];omega
theorem jb (s:Str):1<=(xE s).length:=by unfold xE;exact dY (cr _)
theorem sr (x:Str×Bool):1<=(sC x).length:=dY (jb _)
theorem jc (x:(Int×Int)×Int):1<=(ptRc x).length:=dY (tL _)
theorem ss (x:Int):1<=(nQ x).length:=tL _
theorem jd (x:sU):1<=(sQ x).length:=dY (tL _)
theorem je (x:StD):1<=(xU x).length:=dY (tL _)
theorem fr (x:Int×List Int):1<=(ptLs x).length:=dY (tL _)
theorem jf (x:LrD):1<=(ptLr x).length:=dY (Ef _ _)
theorem fs {α:Type}{enc:α->List Int}:∀{L:List α}{x:α},x∈L->(enc x).length<=(L.flatMap enc).length
 | y :: L,x,h=>by
  rw[List.flatMap_cons,Az];rcases Ax5.1 h with rfl|h
  .omega
  have:=fs (enc:=enc) h;omega
theorem rJ {d:Type}{a:d->List Int}(e:∀c,1<=(a c).length) (b:List d):b.length<=(zE a b).length/\∀c∈b,(a c).length<=(zE a b).length:=by
 unfold zE;rw[Az];exact⟨by have:=ea e b;omega,λc f=>by have:=fs (enc:=a) f;omega⟩
structure Rb (t:TabsD) (rl:List Str) (tk:List (Str×Bool)) (Z:List Int) (no:Bool):Prop where
 n:no=false
 rl:rl=t.rl
 tk:tk=t.tk.zip t.dr
 z:Z=gQ t.lx++(dJ t.nt++t.lk.flatMap (uA t.tk.length))
structure Rc (t:TabsD) (rc:List ((Int×Int)×Int)) (nx:List (List Int)) (en:List Int) (st:List StD) (s p q:List Int) (Z:List Int) (no:Bool):Prop where
 n:no=false
 rc:rc=t.lx.r.zip t.lx.c
 nx:nx=t.lx.n
 en:en=t.lx.e
 st:st=t.nt.st
 s:s=t.nt.s
 p:p=t.nt.p
 q:q=t.nt.q
 z:Z=t.lk.flatMap (uA t.tk.length)
section
variable {Z0 Z1 Z2 Z3 Z4 Z5 Z6 Z7 Z8 Z9 Z10:List Int}{n1 n2 n3 n4 n5 n6 n7 n8 n9 n10:Bool}{t:TabsD}{rl:List Str}{tk:List (Str×Bool)}{rc:List ((Int×Int)×Int)}{nx:List (List Int)×Nat}{en:List Int}{st:List StD}{s p q:List Int}{lk:List LrD}
theorem jg (h:Dr (zE xE) (okL ay) rl Z0 false Z1 n1) (i:Dr (zE sC) (okL okTk) tk Z1 n1 Z2 n2) (j:OkTabs t) (m:Z0=jW t):Rb t rl tk Z2 n2:=by
 obtain⟨b,o,⟨p,n⟩,-⟩:=j;have a:∀s,dc s->ay s:=λs g=>Ay2 g dE
 obtain⟨rfl,c,d⟩:=h.b t.rl _ D ⟨b.1,λs k=>a s (b.2 s k)⟩ m;obtain⟨rfl,e,f⟩:=i.b (t.tk.zip t.dr) _ d ⟨by rw[Au5];omega,λq l=>a _ (n _ (List.of_mem_zip l).1)⟩ c;exact⟨f,D,D,e⟩
theorem su (f:OkTabs t) (e:yE t=true):okL bf (t.lx.r.zip t.lx.c):=by
 have g:=uS (qQ e).lx;obtain⟨-,-,-,b,-⟩:=f;refine⟨by rw[Au5];have:=b.rl;omega,λi a=>?_⟩;obtain⟨c,d,h⟩:=g.rs _ (List.of_mem_zip a).1;exact⟨⟨c,H⟩,⟨H,d⟩,n32 (b.rc _ a).2.2⟩
theorem sw (a3:Rb t rl tk Z2 n2) (R:Dr (zE ptRc) (okL bf) rc Z2 n2 Z3 n3) (S:Dr ptTb okTb nx Z3 n3 Z4 n4) (T:Dr (λm=>m.flatMap nQ) (λf=>f.length=nx.1.length/\∀b∈f,okEn b) en Z4 n4 Z5 n5)
  (U:Dr (zE xU) (okL okSt) st Z5 n5 Z6 n6) (W:Dr (zE zJ) (okL U32) s Z6 n6 Z7 n7) (X:Dr (zE zJ) (okL U32) p Z7 n7 Z8 n8) (Y:Dr (zE zJ) (okL U32) q Z8 n8 Z9 n9) (i:OkTabs t) (a1:yE t=true):Rc t rc nx.1 en st s p q Z9 n9:=by
 have a2:=su i a1;obtain⟨-,-,-,a,a5,-⟩:=i;obtain⟨a4,-,-,c⟩:=a3;unfold gQ at c;simp only[Az7]at c;obtain⟨rfl,h,F⟩:=R.b _ _ a4 a2 c;obtain⟨n,Z⟩:=Ax3 (tE t.lx.c);have a6:=a.cw;have j:=a.mo;have k:=a.pr;rw[Z]at h a6 j k;obtain⟨rfl,K,L⟩:=S.b (t.lx.n,n) _ F ⟨H,a.nl,j,k⟩ h;obtain⟨rfl,d,N⟩:=T.b t.lx.e _ L ⟨a.el,λb e=>by have:=a.eb b e;exact⟨this.1,by have:=this.2;omega⟩⟩ K;unfold dJ at d;simp only[Az7]at d;obtain⟨l,a7,a8,a9,-⟩:=a5;obtain⟨rfl,O,P⟩:=U.b t.nt.st _ N ⟨l.1,λb e=>by
  obtain⟨o,⟨r,u⟩,v⟩:=l.2 b e;exact⟨n32 o,⟨r,λy a0=>by
   obtain⟨g,w,x⟩:=u y a0;exact⟨⟨g.1,by have:=g.2;omega⟩,n32 w,n32 x⟩⟩,l32 v⟩⟩ d
 obtain⟨rfl,Q,z⟩:=W.b t.nt.s _ P (l32 a7) O;obtain⟨rfl,A,B⟩:=X.b t.nt.p _ z (l32 a8) Q;obtain⟨rfl,C,E⟩:=Y.b t.nt.q _ B (l32 a9) A;exact⟨E,D,D,D,D,D,D,D,C⟩
def nJ (rl:List Str) (tk:List (Str×Bool)) (rc:List ((Int×Int)×Int)) (nx:List (List Int)) (en:List Int) (st:List StD) (s p q:List Int) (lk:List LrD):TabsD :=
 ⟨rl,tk.map (·.1),tk.map (·.2),⟨rc.map (·.1),rc.map (·.2),nx,en⟩,⟨st,s,p,q,vA st⟩,lk.map lkOf⟩
theorem ji {α β:Type}(f:α->β) (g:β->List Int):∀L:List α,(L.map f).flatMap g=L.flatMap (λx=>g (f x))
 | []=>rfl
 | x :: L=>by rw[List.map_cons,List.flatMap_cons,List.flatMap_cons,ji f g L]
theorem sx (e:OkTabs t):t.lk.flatMap (uA t.tk.length)=(t.lk.map (ak t.tk.length)).flatMap ptLr/\(∀d∈t.lk.map (ak t.tk.length),okLr d)/\(t.lk.map (ak t.tk.length)).map lkOf=t.lk:=by
 obtain⟨-,-,⟨g,-⟩,-,-,-,c⟩:=e;refine⟨by rw[ji];simp only[Ed],λd f=>?_,?_⟩
 .obtain⟨a,b,rfl⟩:=Au.1 f
  exact Ee g (c a b).1 (c a b).2
 rw[List.map_map]
 conv=>rhs;rw[<-List.map_id t.lk]
 exact List.map_congr_left λa b=>sn (c a b).2
theorem Eg (m:Rb t rl tk Z2 n2) (n:Rc t rc nx.1 en st s p q Z9 n9) (l:Dr (λf=>f.flatMap ptLr) (λa=>a.length=(vA st).length/\∀w∈a,okLr w) lk Z9 n9 Z10 n10) (b:OkTabs t):nJ rl tk rc nx.1 en st s p q lk=t/\Z10=[]/\n10=false:=by
 obtain⟨o,r,u⟩:=sx b;obtain⟨-,c,-,d,e,v,-⟩:=b;obtain⟨-,rfl,rfl,-⟩:=m;obtain⟨g,rfl,i,rfl,rfl,rfl,rfl,rfl,h⟩:=n;obtain⟨rfl,j,k⟩:=l.b (t.lk.map (ak t.tk.length)) [] g ⟨by rw[Ax4,v,e.d],r⟩ (by rw[h,o,Av3]);refine⟨?_,j,k⟩;unfold nJ;rw[i,u,ec _ _ c,ed _ _ c,ec _ _ d.cl.symm,ed _ _ d.cl.symm,e.d]
structure Sm (N:Nat) (rl:List Str) (tk:List (Str×Bool)) (rc:List ((Int×Int)×Int)) (en:List Int) (st:List StD) (s p q:List Int) (lk:List LrD):Prop where
 rl:(zE xE rl).length<=N
 tk:(zE sC tk).length<=N
 rc:(zE ptRc rc).length<=N
 en:(en.flatMap nQ).length<=N
 st:(zE xU st).length<=N
 s:(zE zJ s).length<=N
 p:(zE zJ p).length<=N
 q:(zE zJ q).length<=N
 lk:(lk.flatMap ptLr).length<=N
theorem Eh (d:Dr (zE xE) (okL ay) rl Z0 false Z1 n1) (f:Dr (zE sC) (okL okTk) tk Z1 n1 Z2 n2) (g:Dr (zE ptRc) (okL bf) rc Z2 n2 Z3 n3) (h:Dr ptTb okTb nx Z3 n3 Z4 n4) (i:Dr (λb=>b.flatMap nQ) (λa=>a.length=nx.1.length/\∀c∈a,okEn c) en Z4 n4 Z5 n5)
  (j:Dr (zE xU) (okL okSt) st Z5 n5 Z6 n6) (k:Dr (zE zJ) (okL U32) s Z6 n6 Z7 n7) (l:Dr (zE zJ) (okL U32) p Z7 n7 Z8 n8) (m:Dr (zE zJ) (okL U32) q Z8 n8 Z9 n9) (e:Dr (λb=>b.flatMap ptLr) (λa=>a.length=(vA st).length/\∀c∈a,okLr c) lk Z9 n9 Z10 n10) (n:n10=false):Sm Z0.length rl tk rc en st s p q lk:=by
 obtain⟨o,B⟩:=e.s n;obtain⟨z,P⟩:=m.s o;obtain⟨y,O⟩:=l.s z;obtain⟨x,N⟩:=k.s y;obtain⟨w,L⟩:=j.s x;obtain⟨v,K⟩:=i.s w;obtain⟨u,F⟩:=h.s v;obtain⟨t,E⟩:=g.s u;obtain⟨r,C⟩:=f.s t;obtain⟨Q,A⟩:=d.s r
 constructor <;> omega
def TbB (a:List (List Int)):Prop:=a.length<=65536/\∀b∈a,b.length<=65536
theorem sy:∀(l:List Int) (k:Int),(xG k l).length<=l.length
 | [],_=>Ay1 _
 | x :: l,k=>by
  have:=sy l (k+1);simp only[xG]
  split <;> simp <;> omega
theorem Ei {a:LrD}{b:LsD}(c:b∈lkOf a):∃s∈a.1,∃e∈a.2.1,b=(s.1,s.2,qY e):=by
 unfold lkOf at c;obtain⟨f,d,rfl⟩:=List.mem_iff_getElem.1 c;rw[List.length_zipWith]at d;rw[List.getElem_zipWith];exact⟨_,List.getElem_mem _,_,List.getElem_mem _,D⟩
theorem ta (y:Sm Z0.length rl tk rc en st s p q lk) (a4:Z0.length<=50000) (n:TbB nx.1) (B:∀a∈lk,TbB a.2.1/\a.2.1.length=a.1.length) (A:∀s∈st,∀w∈s.2.1,0<=w.1):FairTabs (nJ rl tk rc nx.1 en st s p q lk)/\SmallT (nJ rl tk rc nx.1 en st s p q lk):=by
 obtain⟨E,F,K,L,N,O,P,Q,R⟩:=y;obtain⟨S,u⟩:=rJ jb rl;obtain⟨T,v⟩:=rJ sr tk;obtain⟨U,W⟩:=rJ jc rc;have X:=ea ss en;obtain⟨Y,x⟩:=rJ je st;obtain⟨Z,-⟩:=rJ tL s;obtain⟨a5,-⟩:=rJ tL p;obtain⟨a6,-⟩:=rJ tL q;have a7:=ea jf lk;have r:∀s:Str,s.size<=(xE s).length:=λs=>by unfold xE;rw[Az,rC];omega
 have o:∀s∈st,s.2.1.length<=50000/\s.2.2.length<=50000:=λs k=>by
  have d:(zJ s.1++(zE sQ s.2.1++zE zJ s.2.2)).length<=(zE xU st).length:=x s k;rw[Az,Az]at d;have e:=(rJ jd s.2.1).1;have l:=(rJ tL s.2.2).1;exact⟨H,H⟩
 have m:∀a∈lk,(lkOf a).length<=50000/\∀c∈lkOf a,c.2.1.length<=50000/\c.2.2.length<=65536:=λa b=>by
  have d:(zE ptLs a.1++ptTb a.2).length<=(lk.flatMap ptLr).length:=fs (enc:=ptLr) b;rw[Az]at d;obtain⟨e,l⟩:=rJ fr a.1;refine⟨by unfold lkOf;rw[List.length_zipWith];omega,λc f=>?_⟩;obtain⟨s,k,g,j,rfl⟩:=Ei f;have z:(zJ s.1++zE zJ s.2).length<=(zE ptLs a.1).length:=l s k;rw[Az]at z;have a0:=(rJ tL s.2).1;have a1:=(B a b).1.2 g j;have a2:=sy g (-1);exact⟨by show s.2.length<=_;omega,by show (qY g).length<=_;unfold qY;omega⟩
 have a3:=vS st 0;refine⟨⟨by show rl.length<=_;omega,by simp only[nJ,Ax4];omega,by simp only[nJ,Ax4];omega,λa b=>?_,λa b=>?_,⟨?_,?_,?_,?_,?_⟩,⟨?_,?_,?_,?_,?_,?_⟩,?_,?_⟩,⟨?_,?_,?_,?_⟩⟩
 .have d:=u a b
  have e:=r a;omega
 .obtain⟨h,C,rfl⟩:=Au.1 b
  have d:(xE h.1++zJ (if h.2 then 1 else 0)).length<=(zE sC tk).length:=v h C;rw[Az]at d;have e:=r h.1;omega
 .simp only[nJ,Ax4];omega
 .simp only[nJ,Ax4];omega
 .show nx.1.length<=_;have:=n.1;omega
 .show en.length<=_;omega
 .intro g j;have:=n.2 g j;omega
 .show st.length<=_;omega
 .show s.length<=_;omega
 .show p.length<=_;omega
 .show q.length<=_;omega
 .show (vA st).length<=_;unfold vA;omega
 .intro a b;have:=o a b;exact⟨H,H⟩
 .simp only[nJ,Ax4];omega
 .intro t i
  obtain⟨a,b,rfl⟩:=Au.1 i;obtain⟨d,e⟩:=m a b;exact⟨H,λc f=>by have:=e c f;exact⟨H,H⟩⟩
 .simp only[nJ,Ax4];omega
 .intro a b;have:=o a b;exact⟨H,H,A a b⟩
 .show q.length<=_;omega
 intro t i c f
 obtain⟨a,b,rfl⟩:=Au.1 i;have:=(m a b).2 c f;omega
theorem tc:∀{x:LrD},x.2.1.length=x.1.length->(lkOf x).map (λs=>(s.1,s.2.1))=x.1
 | ([],L,W),_=>rfl
 | (s :: P,[],W),h=>by cases h
 | (s :: P,l :: L,W),h=>by
  have:=tc (x:=(P,L,W)) (by simpa using h);unfold lkOf at this ⊢;rw[List.zipWith_cons_cons,List.map_cons,this]
theorem td {f:Type}(c d:f->List Int) (b:Nat):∀M:List f,(∀a∈M,(c a).length<=b * (d a).length)->(M.flatMap c).length<=b * (M.flatMap d).length
 | [],_=>sI
 | a :: M,e=>by
  have i:=e a sI;have j:=td c d b M (λh g=>e h (by simp[g]));rw[List.flatMap_cons,List.flatMap_cons,Az,Az,Nat.mul_add];omega
theorem jj {α β:Type}:∀L:List (α×β),(L.map (·.1)).zip (L.map (·.2))=L
 | []=>rfl
 | x :: L=>by rw[List.map_cons,List.map_cons,List.zip_cons_cons,jj L]
theorem Ej (h:Sm Z0.length rl tk rc en st s p q lk) (N:Z0.length<=50000) (L:TbB nx.1) (e:∀a∈lk,TbB a.2.1/\a.2.1.length=a.1.length) (K:∀s∈st,∀z∈s.2.1,0<=z.1) (l:yE (nJ rl tk rc nx.1 en st s p q lk)=true):OkTabs (nJ rl tk rc nx.1 en st s p q lk)/\OkBd (nJ rl tk rc nx.1 en st s p q lk):=by
 obtain⟨F,m⟩:=ta h N L e K;have f:=im l m;refine⟨f,Eb l F m f.lx.cw ?_⟩;obtain⟨-,-,⟨O,-⟩,d,-,-,P⟩:=f;obtain⟨r,W,X,t,u,v,w,x,y⟩:=h;obtain⟨g,k⟩:=Ax3 (tE (nJ rl tk rc nx.1 en st s p q lk).lx.c);have R:=d.cw;have n:=d.mo;have o:=d.pr;have S:=d.nl;rw[k]at R n o;have a2:=sm H S n;have Q:((lk.map lkOf).flatMap (uA (nJ rl tk rc nx.1 en st s p q lk).tk.length)).length<=681 * (lk.flatMap ptLr).length:=by
  obtain⟨b,j⟩:=rM ((nJ rl tk rc nx.1 en st s p q lk).tk.length);have E:∀a∈lk,(lkOf a).length<=4096/\∀s∈lkOf a,OkLs b s:=λa c=>by rw[<-j];exact P _ (List.mem_map_of_mem c)
  rw[j]at O ⊢;rw[ji];refine td _ _ 681 lk λa c=>?_
  obtain⟨Y,A⟩:=E a c;have B:=sm (W:=b+1) (LL:=(lkOf a).map λs=>yU b s.2.2) H (by rw[Ax4];omega) (by have:=dQ A;exact_mod_cast this);have C:vJ ((b:Int)+1) ((lkOf a).map λs=>yU b s.2.2)=vJ ((b+1:Nat):Int) ((lkOf a).map λs=>yU b s.2.2):=by norm_cast
  have Z:=(rJ fr a.1).1;have a0:(lkOf a).length=a.1.length:=by unfold lkOf;rw[List.length_zipWith,(e a c).2];omega
  have a1:(lkOf a).length * (b+1)<=(lkOf a).length * 65:=Nat.mul_le_mul_left _ H;have i:=jf a;unfold uA;rw[C,tc (e a c).2,Az];rw[Ax4]at B;unfold ptLr at i ⊢;rw[Az]at i ⊢;omega
 have a4:(nJ rl tk rc nx.1 en st s p q lk).lx.n.length * g<=4194304:=by rw[<-Int.natCast_mul]at o;omega
 have a3:tQ.length<=100:=dE
 unfold uG jW gQ dJ;rw[k];have T:(nJ rl tk rc nx.1 en st s p q lk).tk.zip (nJ rl tk rc nx.1 en st s p q lk).dr=tk:=jj tk;have U:(nJ rl tk rc nx.1 en st s p q lk).lx.r.zip (nJ rl tk rc nx.1 en st s p q lk).lx.c=rc:=jj rc;rw[T,U];simp only[Az];have a5:(zE xE (nJ rl tk rc nx.1 en st s p q lk).rl).length<=Z0.length:=r;have a6:((nJ rl tk rc nx.1 en st s p q lk).lx.e.flatMap nQ).length<=Z0.length:=t;have a7:(zE xU (nJ rl tk rc nx.1 en st s p q lk).nt.st).length<=Z0.length:=u;have a8:(zE zJ (nJ rl tk rc nx.1 en st s p q lk).nt.s).length<=Z0.length:=v;have a9:(zE zJ (nJ rl tk rc nx.1 en st s p q lk).nt.p).length<=Z0.length:=w;have aB:(zE zJ (nJ rl tk rc nx.1 en st s p q lk).nt.q).length<=Z0.length:=x;have aD:((nJ rl tk rc nx.1 en st s p q lk).lk.flatMap (uA (nJ rl tk rc nx.1 en st s p q lk).tk.length)).length<=681 * Z0.length:=Ay2 Q (Nat.mul_le_mul_left _ y);omega
theorem Ek (e:(uG t).length<=50000) (m:yE t=true) (k:∀s∈t.nt.st,∀f∈s.2.1,0<=f.1):SmallT t:=by
 have n:=uS (qQ m).lx;have p:=n.m.cl;unfold uG jW dJ at e;have l:(gQ t.lx).length=(zE ptRc (t.lx.r.zip t.lx.c)++(vJ (vC t.lx.c) t.lx.n++t.lx.e.flatMap nQ)).length:=rfl;simp only[Az]at e l;have h:=(rJ jc (t.lx.r.zip t.lx.c)).1;rw[Au5]at h;obtain⟨-,g⟩:=rJ je t.nt.st;have o:=(rJ tL t.nt.q).1;refine⟨H,λs b=>?_,H,λa j s b=>?_⟩
 .have c:(zJ s.1++(zE sQ s.2.1++zE zJ s.2.2)).length<=(zE xU t.nt.st).length:=g s b
  rw[Az,Az]at c;have d:=(rJ jd s.2.1).1;have i:=(rJ tL s.2.2).1;exact⟨H,H,k s b⟩
 have c:(zE ptLs (a.map (λs=>(s.1,s.2.1)))++vJ ((t.tk.length:Int)+1) (a.map (λs=>yU t.tk.length s.2.2))).length<=(t.lk.flatMap (uA t.tk.length)).length:=fs (enc:=uA t.tk.length) j
 rw[Az]at c;have d:(zJ s.1++zE zJ s.2.1).length<=(zE ptLs (a.map (λs=>(s.1,s.2.1)))).length:=(rJ fr (a.map (λs:LsD=>(s.1,s.2.1)))).2 (s.1,s.2.1) (Au.2 ⟨s,b,D⟩);rw[Az]at d;have i:=(rJ tL s.2.1).1;omega
theorem El {c:Nat}{g f:Int}(x:Rb t rl tk Z2 n2) (r:Dr zJ U32 (c:Int) Z2 n2 Z3 n3) (u:DrL ptRc bf c Z3 n3 rc Z4 n4) (K:rc.length<c) (p:Dr zJ U32 g Z4 n4 Z5 n5) (q:Dr zJ U32 f Z5 n5 Z6 n6) (w:OkTabs t) (v:yE t=true) (s:1114111<g\/1114111<f):False:=by
 have b:=su w v;obtain⟨y,-,-,d⟩:=x;unfold gQ zE at d;simp only[Az7]at d;obtain⟨B,j,k⟩:=r.b (((t.lx.r.zip t.lx.c).length:Nat):Int) _ y ⟨H,by have:=b.1;omega⟩ (by rw[d];unfold zJ;rw[Ay5]);obtain⟨l,E,a⟩:=u.b (t.lx.r.zip t.lx.c) _ k H b.2 j;have e:rc.length<(t.lx.r.zip t.lx.c).length:=H
 obtain⟨⟨-,z⟩,⟨-,A⟩,-⟩:=b.2 _ (List.getElem_mem e);rw[Av7 e,List.flatMap_cons]at a;unfold ptRc at a;simp only[Az7]at a;obtain⟨h,i⟩:=b.2 _ (List.getElem_mem e);obtain⟨F,m,n⟩:=p.b _ _ l ⟨h.1,H⟩ a;obtain⟨C,-,-⟩:=q.b _ _ n ⟨i.1.1,H⟩ m;rcases s with o|o <;> omega
theorem Em {b:Nat}{d:List (Int×List Int)}{h:List (List Int)×Nat}(x:Rc t rc nx.1 en st s p q Z9 n9) (w:DrL ptLr okLr b Z9 n9 lk Z4 n4) (A:b=(vA st).length) (C:lk.length<b) (r:Dr (zE ptLs) (okL ci) d Z4 n4 Z5 n5) (u:Dr ptTb okTb h Z5 n5 Z6 n6) (c:OkTabs t) (v:h.1.length≠d.length):False:=by
 obtain⟨y,g,-⟩:=sx c;have B:(vA t.nt.st).length=t.lk.length:=by rw[c.nt.d,c.ll]
 obtain⟨i,-,-,-,rfl,-,-,-,k⟩:=x;obtain⟨l,z,a⟩:=w.b (t.lk.map (ak t.tk.length)) [] i (by rw[Ax4];omega) g (by rw[k,y,Av3]);have e:lk.length<(t.lk.map (ak t.tk.length)).length:=by rw[Ax4];omega
 have f:=g _ (List.getElem_mem e);rw[Av7 e,List.flatMap_cons]at a;unfold ptLr at a;simp only[Az7]at a;obtain⟨m,n,o⟩:=r.b _ _ l f.1 a;obtain⟨j,-,-⟩:=u.b _ _ o f.2 n
 apply v
 rw[m,j,List.getElem_map];unfold ak;simp only[Ax4]
end
def tlC:Nat->Code->Code
 | 0,c=>c
 | n+1,.seq _ b=>tlC n b
 | _,c=>c
noncomputable def getC:Code:=f19.body.getD .skip
def frL (f:Nat->Value):Nat->Nat->List Value
 | 0,_=>[]
 | n+1,i=>f i :: frL f n (i+1)
def FrG (f c d b e g:Nat) (a:Nat->Value):Act:=⟨List.toArray (a 0 :: a 1 :: .pointer (some ⟨f,0,none⟩) :: a 3 :: .slice (some ⟨c,0,none⟩) d b :: a 5 :: .pointer (some ⟨e,0,none⟩) :: .pointer (some ⟨g,0,none⟩) :: frL a 378 8),[]⟩
theorem ft {b:Program}{d:Code}{c:Exit->Act->World->Prop}(i f g e h j:Nat) {a:List Value}(m:(⟨a.toArray,[]⟩:Act)=FrG i f g e h j (λn=>a.getD n undef))
  (l:∀k,Code.wp b d c (FrG i f g e h j k) w):Code.wp b d c ⟨a.toArray,[]⟩ w:=by rw[m];exact l _
structure GEnv (Z X Z0:List Int) (w w0:World) (rb gb pr tb:Nat):Prop where
 rw:G (w.heap.size=rb/\w0.heap.size=rb+1)
 rb:G (∀x,J (w0.heap.size<=·) w0 x->R13 rb x tC/\Cf w x)
 x:G (X.length<=50000/\∀a∈X,Byte a)
 gr:G (getR Z=getB (sS X))
 p:G (w0.heap.size<=pr/\w0.heap.size<=gb/\w0.heap.size<=tb)
 tp:G (∀k,TP pr tb k->w0.heap.size<=k)
 z0:G (Z0.length<=50000)
 ok:G (∀t,sS X=some t->OkTabs t/\yE t=true/\Z0=jW t)
 hd:G (X=tQ++Z0)
theorem eh (a:getR X=getB (sS Y)) (b:sS Y=none):getR X=(4,none):=by rw[a,b];rfl
end Go.Proofs.YtgnpmceimpjheaaGreat
