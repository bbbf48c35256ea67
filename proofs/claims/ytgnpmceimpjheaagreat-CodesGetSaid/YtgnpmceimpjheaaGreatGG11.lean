/- A part of the proof: RefMay Two RefTake RowsY. -/
import Derived.Test.YtgnpmceimpjheaaGreatGG10
set_option maxRecDepth 100000
set_option maxHeartbeats 16000000
namespace Go.Proofs.YtgnpmceimpjheaaGreat
open Go.RowKit Go.Proofs.Tryz
variable {a b c d e f g h i j k l m n o p q r:Nat}{w v u t s:World}{X Y W L T:List Int}{A B C E Z:Value}{x y z:Int}{N R:Bool}{F Q:Option Addr}{S P:Nat->Prop}
theorem I.Row.putAt {f k:Nat}{V:List Int}(a:I.Row w f V) (i:k<V.length) {h:Int}(m:I.Byte h):I.Row (w.setCell ⟨f,k,none⟩ (.int .i64 h)) f (V.set k h):=by
 refine⟨λb d c=>?_,λb=>(Az3 _ _ _ _).trans (a.z b),Ay9 a.lt (zA _ _ _ _).size,λd l=>?_⟩
 .by_cases g:b=k
  .subst g
   rw[Aw7 i]at c;obtain rfl:=Az2 c;exact Az9 _ _ _ (a.c b _ (Az4 i))
  rw[Av5 (Ne.symm g)]at c
  rw[Ay0 _ _ _ _ (by intro e;injection e with _ e;exact g e.symm)];exact a.c b d c
 rcases List.mem_or_eq_of_mem_set l with j|rfl
 .exact a.byte d j
 exact m
theorem I.Row.cell {a k:Nat}{V:List Int}(b:I.Row w a V) (c:k<V.length):w.cell? ⟨a,k,none⟩=some (.int .i64 V[k]):=b.c k _ (Az4 c)
theorem I.Row.of_eq {V b:List Int}(d:I.Row w a V) (c:V=b):I.Row w a b:=c ▸ d
theorem rv (W j:Nat) (d:Int) (h:j<W):(List.replicate j d++List.replicate (W-j) 0).set j d=List.replicate (j+1) d++List.replicate (W-(j+1)) 0:=by
 obtain⟨n,rfl⟩:∃n,W=j+1+n:=⟨W-(j+1),H⟩;rw[List.set_append_right _ _ sI];rw[show j+1+n-j=n+1 by omega,show j+1+n-(j+1)=n by omega];rw[Av6,Au4,List.replicate_succ (n:=n),List.set_cons_zero,List.replicate_succ' (n:=j),Az7]
 rfl
def bi (b:Nat) (d:Int) (c:List (Int×Int)) (e:Nat):List Int:=(c.take e).foldl (λf a=>f.set a.1.toNat a.2) (List.replicate b d)
theorem ir (b:Nat) (e:Int) (d:List (Int×Int)) (g:Nat):(bi b e d g).length=b:=by
 unfold bi;have h:∀(a:List (Int×Int)) (V:List Int),(a.foldl (λi c=>i.set c.1.toNat c.2) V).length=V.length:=by
  intro a
  induction a with
  | nil=>intro V;rfl
  | cons j a f=>intro V;rw[List.foldl_cons,f,Av9]
 rw[h];simp
theorem qS (W:Nat) (d:Int) (X:List (Int×Int)):bi W d X 0=List.replicate W d:=rfl
theorem Cg (c:Nat) (d:Int) (a:List (Int×Int)) (b e:Nat) (f:Int) (g:a[b]?=some ((e:Int),f)):(bi c d a b).set e f=bi c d a (b+1):=by
 unfold bi;rw[Ay3,g];simp
theorem rx (W:Nat) (d:Int) (X:List (Int×Int)):bi W d X X.length=ac W (d,X):=by
 unfold bi ac;rw[Ay7]
theorem Ch (a:tN X=false):(ofD X,ofL X)=rowL X:=by
 simp[ofD,ofL,a,rowL]
theorem ry {d:List (Int×Int)}{c:Int×Int}(e:d[b]?=some c) (g:c.1<0\/(a:Int)<=c.1):uC a (x,d)=false:=by
 rw[<-Bool.not_eq_true,ek];rintro ⟨f,-⟩;have:=f c (Az1 e);omega
theorem Ci {c:RowD}(b:tN (ac a c)=true):uC a c=false:=by
 rw[<-Bool.not_eq_true,ek];rintro ⟨-,d,-⟩;rw[nC.2 d]at b;cases b
theorem Cj {b:RowD}(c:rowL (ac a b)≠b):uC a b=false:=by
 rw[<-Bool.not_eq_true,ek];rintro ⟨-,-,d⟩;exact c d
def iu (W:Nat) (X:List (Int×Int)) (j:Nat):Prop:=∀(i:Nat) p,i<j->X[i]?=some p->0<=p.1/\p.1<(W:Int)
def iv (R:List RowD) (r:RowD) (j:Nat):Prop:=∀(i:Nat) y,i<j->R[i]?=some y->y≠r
theorem iw (s:Int) (b:List RowD) (f:List Int) (bX bT:Option Addr) (b0 d6 fB eK f5:Nat) (w:World) (gM:I.Byte s) (eT:vW uW rowR w fB (bX,b.length,b0) b) (hG:b.length<=100000000) (eV:∀O∈b,O.2.length<=1000000000)
  (eR:I.BytesAt w eK f5 f) (bH:0<f.length->bT=some ⟨eK,f5,none⟩) (hF:f.length<=100000000) :
  Calls prog 152 #[.agg #[.int .i64 s,.slice bX b.length b0,.slice bT f.length d6]] w λU q=>U=.returned (.bool (mayL (s,b,f)))/\Cf w q:=by
 obtain⟨e3,fR,fD,dF⟩:=sB eT eR bH eV;obtain⟨hC,hD⟩:=gM;obtain⟨B,aT⟩:=rK (w.alloc (.cells #[.int .i64 s,.slice bX b.length b0,.slice bT f.length d6] 194));have a7:G (Cf w B):=V (by rw[aT];exact rT);have Z:G (∀wr,Cf B wr->wr.cell? ⟨w.heap.size,0,none⟩=some (.int .i64 s)/\wr.cell? ⟨w.heap.size,1,none⟩=some (.slice bX b.length b0)/\wr.cell? ⟨w.heap.size,2,none⟩=some (.slice bT f.length d6)):=V λwr m=>by
  subst aT;exact⟨m.cellS sI iD,m.cellS sI iD,m.cellS sI iD⟩
 have bB:=V aT;have hA:G (w.heap.size<B.heap.size):=V (by rw[aT];simp);clear eT eR bH eV aT;by_cases aM:0<=s
 .have eF:decide (s<0)=false:=by simp;omega
  by_cases eM:s<=65536
  .have eH:decide (65536<s)=false:=by simp;omega
   by_cases gK:f.length<=65536
   .have eI:decide (65536<(f.length:Int))=false:=by simp;omega
    obtain⟨c,rfl⟩:=Ax3 aM;go_enter func152,ntmps152
    go_upto_region 3 with fail
    rw[<-bB.o];go_wp2;clear eF eH eI;have c2:G (Cf B B):=V cR
    go_loopw [3,4] (λgV l wr=>∃(d:Nat) (j:Int),d<=f.length/\l=.int .i64 d/\gV=.int .i64 j/\(0<=j/\j<=d)/\qN 0 b.length f=qN j b.length (f.drop d)/\Cf B wr) (λ_ l _=>f.length-(intOf l).toNat)
    .first|exact⟨0,0,oM,rfl,rfl,oM,sI,by first|exact c2.o|exact c2.o.drew⟩
    clear c2;obtain⟨d,j,gS,rfl,rfl,⟨hL,aY⟩,k,m⟩:=hrel;obtain⟨R,b6,x,a9⟩:=sB k m (a7.o.trans m) (m.drew);obtain⟨o,p,a2⟩:=Z.o wr m;clear k m;by_cases d0:d<f.length
    .have g6:=rO d f.length
     obtain⟨a,X,a4,hI,hK⟩:=(fR.o.chg x.o iE).get d0;have gD:=fD.o oM;subst gD;have aB:=V (kn (next:=j) (m:=b.length) X);clear X;by_cases cD:a<0
     .have y:decide (a<0)=true:=by simpa using cD
      have h:G (mayL ((c:Int),b,f)=false):=V (kC (by rw[R.o,aB.o,if_pos (.inl cD)];simp));go_upto_region 7 with fail
      refine rH ?_
      iterate 7 (refine rI ?_)
      iterate 7 (refine sq ?_)
      iterate 2 (refine rI ?_)
      iterate 9 (refine sq ?_)
      iterate 1 (refine rI ?_)
      refine zW ?_;rintro q rfl;go_wp2;go_ret
      exact⟨by rw[h.o];rfl,x.o.drew⟩
     have y:decide (a<0)=false:=by simpa using cD
     by_cases cF:j<a
     .have d7:decide (j<a)=true:=by simpa using cF
      have h:G (mayL ((c:Int),b,f)=false):=V (kC (by rw[R.o,aB.o,if_pos (.inr (.inl cF))];simp));go_upto_region 7 with fail
      refine rH ?_
      iterate 16 (refine rI ?_)
      iterate 9 (refine sq ?_)
      iterate 1 (refine rI ?_)
      refine zW ?_;rintro q rfl;go_wp2;go_ret
      exact⟨by rw[h.o];rfl,x.o.drew⟩
     have d7:decide (j<a)=false:=by simpa using cF
     by_cases cH:(b.length:Int)<=a
     .have h1:decide ((b.length:Int)<=a)=true:=by simpa using cH
      have h:G (mayL ((c:Int),b,f)=false):=V (kC (by rw[R.o,aB.o,if_pos (.inr (.inr cH))];simp));go_upto_region 7 with fail
      refine rH ?_
      iterate 26 (refine rI ?_)
      refine zW ?_;rintro q rfl;go_wp2;go_ret
      exact⟨by rw[h.o];rfl,x.o.drew⟩
     have h1:decide ((b.length:Int)<=a)=false:=by simpa using cH
     have a0:G (qN 0 b.length f=qN (if a=j then j+1 else j) b.length (f.drop (d+1))):=V (by rw[R.o,aB.o,if_neg oM]);clear R aB;by_cases cI:a=j
     .subst cI
      rw[if_pos rfl]at a0;have h2:(a == a)=true:=sI;go_upto_region 7 with fail
      refine rH ?_
      iterate 26 (refine rI ?_)
      refine zW ?_;rintro q rfl;go_wp2;go_roundw
      .first|exact⟨d+1,a+1,oM,GN,rfl,oM,a0.o,a9.o⟩|((repeat apply Ay4);exact⟨⟨d+1,a+1,oM,rfl,rfl,oM,a0.o,a9.o⟩,by (repeat' apply And.intro) <;> first|rfl|go_num⟩)
      simp[intOf];omega
     have h2:(a == j)=false:=by simpa using cI
     rw[if_neg cI]at a0;go_upto_region 7 with fail
     refine rH ?_
     iterate 26 (refine rI ?_)
     refine zW ?_;rintro q rfl;go_wp2;go_roundw
     .first|exact⟨d+1,j,oM,GN,rfl,oM,a0.o,a9.o⟩|((repeat apply Ay4);exact⟨⟨d+1,j,oM,rfl,rfl,oM,a0.o,a9.o⟩,by (repeat' apply And.intro) <;> first|rfl|go_num⟩)
     simp[intOf];omega
    obtain rfl:d=f.length:=oM
    have g6:=rP f.length;have c5:G (qN 0 b.length f=some j):=V (by rw[R.o,List.drop_length];rfl);by_cases aP:j=(b.length:Int)
    .have y:(j != (b.length:Int))=false:=by simpa using aP
     have fP:G (qN 0 b.length f=some (b.length:Int)):=V (by rw[c5.o,aP]);have dP:G (ep (c:Int) b 0):=V ⟨λg O N=>absurd N (Ax1 _),sI⟩;clear aP c5 R;go_wp2
     go_loopw [5] (λl i=>∃d:Nat,d<=b.length/\l=.int .i64 d/\ep (c:Int) b d/\Cf B i) (λl _=>b.length-(intOf l).toNat)
     .exact⟨0,oM,rfl,dP.o,b6.o⟩
     clear dP b6 x o p a2 y a9;obtain⟨d,gS,rfl,eX,m⟩:=hrel;obtain⟨b7,b6,x⟩:=rZ eX m (a7.o.trans m);obtain⟨o,p,a2⟩:=Z.o wr m;clear eX m;by_cases d0:d<b.length
     .have g7:=rO d b.length
      obtain⟨O,gH,gX,b3,b4,E,rfl,a3,a4,d4,cV,-,-⟩:=(e3.o.same x.o).get rfl (λ_=>rfl) d0;obtain⟨rd,e⟩:=O;simp only at a3 a4 cV d4;have b9:=V E;have fV:G (e.length<=1000000000):=V (dF.o _ (Az1 E));have fT:=V d4;have a6:G (uC c (rd,e)=false->mayL ((c:Int),b,f)=false):=V (λr=>kl (Az1 b9.o) (by rw[Ay5];exact r));obtain⟨z,aV⟩:=rK (wr.alloc (.cells #[.int .i64 rd,.slice b3 e.length b4] 236));have aH:G (Cf wr z):=V (by rw[aV];exact rT);have dD:=V (b6.o.trans aH.o);have c4:=V (cV.same aH.o);have L:G (∀i,Cf z i->(i.cell? ⟨w.heap.size,0,none⟩=some (.int .i64 c)/\i.cell? ⟨w.heap.size,1,none⟩=some (.slice (some ⟨gH,gX,none⟩) b.length b0))/\i.cell? ⟨wr.heap.size,0,none⟩=some (.int .i64 rd)/\i.cell? ⟨wr.heap.size,1,none⟩=some (.slice b3 e.length b4)):=V λi d5=>by
       obtain⟨bV,y,-⟩:=Z.o i (dD.o.trans d5);subst aV;exact⟨⟨bV,y⟩,d5.cellS sI iD,d5.cellS sI iD⟩
      have fZ:=V aV;have hB:G (wr.heap.size<z.heap.size):=V (by rw[aV];simp);have g9:=aH.o.cellS a3 iD;clear E cV d4 aV a2;go_upto_region 17 with fail
      rw[<-fZ.o];clear a3 a4 o p g9;obtain⟨⟨o,p⟩,-,-⟩:=L.o z cR;go_upto_region 18 with (at_make;refine I.js rfl _ _ rfl _ _ _ _ c c rfl rfl rfl rfl (Ay1 _) oM ?_;intro hN t dI)
      obtain⟨H,cM⟩:=rK z.heap.size;rw[<-cM]at t ⊢;have fM:=V cM;have c3:G (∀i d bZ,Cf z i->Cf z (i.setCell ⟨H,d,none⟩ bZ)):=V (λi d bZ r=>((r.any (S:=λd=>z.heap.size<=d)).trans ((zA i H d bZ).mono (λd _ U=>by have:=fM.o;omega))).fresh);clear o p cM;go_wp2
      go_loopw [8] (λl i=>∃g:Nat,g<=c/\l=.int .i64 g/\I.Row i H (List.replicate g rd++List.replicate (c-g) 0)/\Cf z i) (λl _=>c-(intOf l).toNat)
      .exact⟨0,oM,rfl,by simpa using t.o,dI.o⟩
      clear t dI;obtain⟨g,N,rfl,aR,v⟩:=hrel;have t:=V aR;have u:=V v;obtain⟨⟨o,p⟩,P,Q⟩:=L.o wr v;clear aR v;by_cases gR:g<c
      .have eD:=rO g c
       have h8:=t.o.z g;have h9:=t.o.cell (k:=g) sO;have aD:=V ((t.o.putAt (k:=g) sO fT.o).of_eq (rv c g rd gR));have aI:=V (c3.o _ g (.int .i64 rd) u.o);go_wp2;go_roundw
       .first|exact⟨g+1,oM,GN,aD.o,aI.o⟩|((repeat apply Ay4);exact⟨⟨g+1,oM,rfl,aD.o,aI.o⟩,by (repeat' apply And.intro) <;> first|rfl|go_num⟩)
       simp[intOf];omega
      obtain rfl:c=g:=oM
      have eD:=rP c;have e8:G (I.Row wr H (bi c rd e 0)):=V (t.o.of_eq (by simp[qS]));have e6:G (iu c e 0):=V (λa f6 r=>absurd r (Ax1 _));clear o p P Q;go_wp2
      go_loopw [9] (λl i=>∃g:Nat,g<=e.length/\l=.int .i64 g/\I.Row i H (bi c rd e g)/\iu c e g/\Cf z i) (λl _=>e.length-(intOf l).toNat)
      .exact⟨0,oM,rfl,e8.o,e6.o,u.o⟩
      clear e8 u t e6 eD;obtain⟨a,X,rfl,aR,f4,v⟩:=hrel;obtain⟨t,u,c8⟩:=rZ aR v f4;obtain⟨⟨o,p⟩,P,Q⟩:=L.o wr v;have T:=V (x.o.trans (aH.o.trans v));clear aR v f4;by_cases gO:a<e.length
      .have g4:=rO a e.length
       obtain⟨f6,gI,gZ,hM,bZ,f2,rfl,k,a3,a4,d2,-,-⟩:=(c4.o.same u.o).get2 rfl gO;obtain⟨rfl,rfl⟩:=az k;obtain⟨K,aZ⟩:=f6;simp only at a3 a4 d2;have hH:=fV.o;have f3:I.Byte aZ:=d2.2;have b8:=V f2;obtain⟨wc,bI⟩:=rK (wr.alloc (.cells #[.int .i64 K,.int .i64 aZ] 238));have bD:G (Cf wr wc):=V (by rw[bI];exact rT);have fH:G (wc.cell? ⟨wr.heap.size,0,none⟩=some (.int .i64 K)/\wc.cell? ⟨wr.heap.size,1,none⟩=some (.int .i64 aZ)):=V (by rw[bI];exact⟨sI,sI⟩);obtain⟨cA,dK,c9⟩:=rZ bI (u.o.trans bD.o) (t.o.chg bD.o iD);clear f2 k bI;go_upto_region 26 with fail
       rw[<-cA.o];clear o p P Q a3 a4;obtain⟨⟨o,p⟩,-,-⟩:=L.o wc dK.o;obtain⟨bM,bO⟩:=fH.o;by_cases aY:K<0
       .have y:decide (K<0)=true:=by simpa using aY
        have h:=V (a6.o (ry b8.o (.inl aY)));go_wp2;go_ret
        exact⟨by rw[h.o];rfl,T.o.trans bD.o⟩
       have y:decide (K<0)=false:=by simpa using aY
       by_cases bP:(c:Int)<=K
       .have d7:decide ((c:Int)<=K)=true:=by simpa using bP
        have h:=V (a6.o (ry b8.o (.inr bP)));go_wp2;go_ret
        exact⟨by rw[h.o];rfl,T.o.trans bD.o⟩
       have d7:decide ((c:Int)<=K)=false:=by simpa using bP
       obtain⟨F,rfl⟩:=Ax3 (show 0<=K by omega);have f0:F<c:=oM;have h8:=c9.o.z F;have h9:=c9.o.cell (k:=F) (by rw[ir];exact f0);have aD:=V ((c9.o.putAt (k:=F) (by rw[ir];exact f0) f3).of_eq (Cg c rd e a F aZ b8.o));have aI:=V (c3.o _ F (.int .i64 aZ) dK.o);have e7:G (iu c e (a+1)):=V (λaX h0 r C=>by
        by_cases k:aX=a
        .subst k;rw[b8.o]at C;obtain rfl:=Az2 C;exact⟨by show (0:Int)<=F;omega,by show (F:Int)<c;omega⟩
        exact c8.o aX h0 oM C)
       clear d2 f3 aY bP;go_wp2;go_roundw
       .first|exact⟨a+1,oM,GN,aD.o,e7.o,aI.o⟩|((repeat apply Ay4);exact⟨⟨a+1,oM,rfl,aD.o,e7.o,aI.o⟩,by (repeat' apply And.intro) <;> first|rfl|go_num⟩)
       simp[intOf];omega
      obtain rfl:a=e.length:=oM
      have g4:=rP e.length;obtain⟨n,W⟩:=rK (ac c (rd,e));have e9:G (I.Row wr H n):=V (t.o.of_eq (by rw[rx,W]));have cP:n.length=c:=(by rw[W,<-rx,ir]);have dT:G (tN n=true->uC c (rd,e)=false):=V (λr=>Ci (by rw[<-W];exact r));have dO:G (rowL n≠(rd,e)->uC c (rd,e)=false):=V (λr=>Cj (by rw[<-W];exact r));have dM:G (tN n=false->rowL n=(rd,e)->uC c (rd,e)=true):=V (λr C=>ek.2 ⟨λg8 m=>by
       obtain⟨a,X,k⟩:=Au2 m;exact c8.o a g8 X (by rw[<-k];exact Az4 X),by rw[<-W];exact nC.1 r,by rw[<-W];exact C⟩)
      have d1:=rt n (some ⟨H,0,none⟩) H 0 c wr (e9.o.bytes (Aw8 _)) (λ_=>rfl) oM;rw[cP]at d1;obtain⟨e2,dX,g1⟩:=rZ d1 (rr n) cP;clear d1 W cP o p P;go_wp2_with fail
      refine e2.o.mono ?_;rintro U b1 ⟨⟨d8,h4,d9⟩,rfl,cX,cS⟩;obtain rfl:h4=(ofL n).length:=cX.1;unfold ofV slV;simp only;clear Q;obtain⟨a8,c7,dU⟩:=rZ (u.o.trans cS) (T.o.trans cS) cX;have eZ:(ofL n).length<=1000000000:=(by have:=dX.o;have:=g1.o;omega);obtain⟨⟨o,p⟩,P,Q⟩:=L.o b1 a8.o;clear cX cS;by_cases Y:tN n=true
      .have h:=V (a6.o (dT.o Y))
       have bF:ofE n=1:=(by simp[ofE,Y]);rw[bF];go_wp2;go_ret
       exact⟨by rw[h.o];rfl,c7.o.alloc _⟩
      have Y:tN n=false:=by simpa using Y
      have bF:ofE n=0:=(by simp[ofE,Y]);rw[bF];have c6:=V (Ch Y);obtain⟨D,eO⟩:=rM (ofD n);obtain⟨a1,cO⟩:=rM (ofL n);rw[eO,cO]at c6 ⊢;rw[cO]at dU eZ;clear eO cO bF dX;obtain⟨b2,bK⟩:=rK (b1.alloc (.cells #[.int .i64 D,.slice d8 a1.length d9] 236));have aF:G (Cf b1 b2):=V (by rw[bK];exact rT);have fI:G (b2.cell? ⟨b1.heap.size,0,none⟩=some (.int .i64 D)/\b2.cell? ⟨b1.heap.size,1,none⟩=some (.slice d8 a1.length d9)):=V (by rw[bK];exact⟨sI,sI⟩);have cA:=V bK;clear bK;go_upto_region 30 with fail
      rw[<-cA.o];clear o p P Q;obtain⟨-,P,Q⟩:=L.o b2 (a8.o.trans aF.o);obtain⟨h6,h7⟩:=fI.o;go_wp2_with fail
      refine (dG D rd a1 e d8 b3 d9 b4 _ _ b2 (dU.o.same aF.o) (c4.o.same (a8.o.trans aF.o)) eZ).mono ?_;rintro U h5 ⟨rfl,cT⟩;have dB:=V ((a8.o.trans aF.o).trans cT);have e5:=V ((c7.o.trans aF.o).trans cT);clear cT P Q h6 h7;by_cases a5:(D,a1)=(rd,e)
      .have fK:=V (dM.o Y (c6.o ▸ a5))
       rw[show uL (D,a1) (rd,e)=true by simp[uL,a5]];have dZ:G (iv b (rd,e) 0):=V (λa f7 r=>absurd r (Ax1 _));clear a5 dM dO dT a6 e2 e9 t c8 c3;go_wp2
       go_loopw [13] (λl i=>∃a:Nat,a<=d/\l=.int .i64 a/\iv b (rd,e) a/\Cf z i) (λl _=>d-(intOf l).toNat)
       .exact⟨0,oM,rfl,dZ.o,dB.o⟩
       clear dZ dB e5 T c7 a8;obtain⟨a,X,rfl,f1,v⟩:=hrel;obtain⟨e0,u,T⟩:=rZ f1 v (x.o.trans (aH.o.trans v));clear f1 v;by_cases hE:a<d
       .have g5:=rO a d
        obtain⟨h3,gI,gZ,f8,f9,d3,aK,bM,bO,-,cZ,-,-⟩:=(e3.o.same T.o).get rfl (λ_=>rfl) (show a<b.length by omega);injection aK with aK;injection aK with aK gF;subst aK gF;obtain⟨c0,b5⟩:=h3;simp only at bM bO cZ;obtain⟨e4,fO,dV⟩:=rZ d3 cZ (And.intro bM bO);have g0:G (b5.length<=1000000000):=V (dF.o _ (Az1 d3));have fF:=rM (uL (c0,b5) (rd,e));obtain⟨cB,aO⟩:=fF;have c1:=V aO;have gP:a<b.length:=oM;clear d3 cZ bM bO aO;go_upto_region 35 with fail
        refine ws (λq=>Cf wr q) ?_;(iterate 2 (refine rq ?_ (by intro _ q _ A;obtain⟨⟨bV,y⟩,-,-⟩:=L.o q (u.o.trans A);go_simp;try with_reducible rfl)));(iterate 2 (refine rq ?_));(refine rq ?_ (by intro _ q _ A;have bV:=A.cellS dV.o.1 iD;have y:=A.cellS dV.o.2 iD;go_simp;try with_reducible rfl));(refine rq ?_ (by intro _ q _ A;obtain⟨-,bV,y⟩:=L.o q (u.o.trans A);go_simp;try with_reducible rfl))
        refine xA rfl (Value.bool cB )  164  ( #[.agg #[.int .i64 c0,.slice f8 b5.length f9],.agg #[.int .i64 rd,.slice b3 e.length b4]]) (λq=>by go_simp) (λ_ q _ A=>?_) (λg2 eP=>?_)
        .refine (dG c0 rd b5 e f8 b3 f9 b4 _ _ q (fO.o.same A) (c4.o.same (u.o.trans A)) g0.o).mono ?_
         rintro U h5 ⟨rfl,m⟩;exact⟨by rw[c1.o],A.trans m⟩
        ((try go_simp);refine eP _ ?_;clear eP g2)
        refine zW ?_;intro hO cK;have eB:=V (u.o.trans cK);have fX:=V (T.o.trans cK);clear cK;cases cB with
        | true =>
         have h:G (mayL ((c:Int),b,f)=false):=V (km (λgT=>by
          have k:(c0,b5)=(rd,e):=(by simpa [uL] using c1.o);have aM:=e4.o;rw[k]at aM;have eM:=(List.getElem?_inj (i:=a) (j:=d) gP gT).1 (by rw[aM,b9.o]);omega))
         go_wp2;go_ret
         exact⟨by rw[h.o];rfl,fX.o⟩
        | false =>
         have e1:G (iv b (rd,e) (a+1)):=V (λaX f7 r C=>by
          by_cases k:aX=a
          .subst k;rw[e4.o]at C;obtain rfl:=Az2 C;intro U;have:=c1.o;rw[U]at this;simp[uL]at this
          exact e0.o aX f7 oM C)
         go_wp2;go_roundw
         .first|exact⟨a+1,oM,GN,e1.o,eB.o⟩|((repeat apply Ay4);exact⟨⟨a+1,oM,rfl,e1.o,eB.o⟩,by (repeat' apply And.intro) <;> first|rfl|go_num⟩)
         simp[intOf];omega
       obtain rfl:a=d:=oM
       have g5:=rP a;have dR:G (ep (c:Int) b (a+1)):=V ⟨λg O N E=>by
        by_cases k:g=a
        .subst k;rw[b9.o]at E;obtain rfl:=Az2 E;rw[Ay5];exact fK.o
        .exact b7.o.1 g O oM E,by
        rw[Ay3,b9.o,List.nodup_append];refine⟨b7.o.2,sI,λg3 bH cB aO=>?_⟩;simp at aO
        subst aO;obtain⟨g,N,k⟩:=Au2 bH;rw[Ay8]at N;refine e0.o g g3 oM ?_;rw[<-k,List.getElem_take];exact Az4 _⟩
       have dH:=V (dD.o.trans u.o);go_wp2;go_roundw
       .first|exact⟨a+1,oM,GN,dR.o,dH.o⟩|((repeat apply Ay4);exact⟨⟨a+1,oM,rfl,dR.o,dH.o⟩,by (repeat' apply And.intro) <;> first|rfl|go_num⟩)
       simp[intOf];omega
      have h:=V (a6.o (dO.o (by rw[<-c6.o];exact a5)))
      rw[show uL (D,a1) (rd,e)=false by simpa [uL] using a5];clear a5;go_wp2;go_ret
      exact⟨by rw[h.o];rfl,e5.o⟩
     obtain rfl:d=b.length:=oM
     have g7:=rP b.length;have h:G (mayL ((c:Int),b,f)=true):=V (by
      rw[gi ⟨aM,eM,gK⟩ (λO E=>by
       obtain⟨g,N,k⟩:=Au2 E;exact b7.o.1 g O N (by rw[Az4 N,k])) (by have:=b7.o.2;rwa [Ay7]at this),fP.o]
      simp)
     go_wp2;go_ret
     exact⟨by rw[h.o];rfl,x.o⟩
    have y:(j != (b.length:Int))=true:=by simpa using aP
    have h:G (mayL ((c:Int),b,f)=false):=V (kC (by rw[c5.o];simpa using aP));go_wp2;go_ret
    exact⟨by rw[h.o];rfl,x.o⟩
   have eI:decide (65536<(f.length:Int))=true:=by simp;omega
   have h:G (mayL (s,b,f)=false):=V (jN oM);obtain⟨o,p,a2⟩:=Z.o B cR;go_enter func152,ntmps152
   go_upto_region 1 with fail
   rw[<-bB.o];go_wp2;go_ret
   exact⟨by rw[h.o];rfl,a7.o⟩
  have eH:decide (65536<s)=true:=by simp;omega
  have h:G (mayL (s,b,f)=false):=V (jN oM);obtain⟨o,p,a2⟩:=Z.o B cR;go_enter func152,ntmps152
  go_upto_region 1 with fail
  rw[<-bB.o];go_wp2;go_ret
  exact⟨by rw[h.o];rfl,a7.o⟩
 have eF:decide (s<0)=true:=by simp;omega
 have h:G (mayL (s,b,f)=false):=V (jN oM);obtain⟨o,p,a2⟩:=Z.o B cR;go_enter func152,ntmps152
 go_upto_region 1 with fail
 rw[<-bB.o];go_wp2;go_ret
 exact⟨by rw[h.o];rfl,a7.o⟩
section
variable {P:Program}{ops:Array Oper}{md:Region.Mode}{Q:Exit->Act->World->Prop}
abbrev cls2 (c:Nat) (b:World->Bool->Bool->Prop) (d e:Nat):Cls:=λa f=>a.size=c/\b f (a.getD d false) (a.getD e false)
theorem dd {h:Nat}{f:World->Bool->Bool->Prop}{c d a:Nat}(i:a≠c) (j:a≠d):∀b e,a∈Region.ready md ops b->cls2 h f c d b e->cls2 h f c d (b.setIfInBounds a true) e:=by
 intro b e _ g;exact⟨by simpa using g.1,by rw[getD_set_ne false i,getD_set_ne false j];exact g.2⟩
theorem Cl {id:Nat}{a:List Oper}{b:Act}{l:World}(c:World->Bool->Bool->Prop) (d e:Nat) (w:P.follows .mixedOrders=true) (s:Region.lexB .any a.toArray=true) (j:(fx a && decide (d<a.length) && decide (e<a.length))=true)
  (t:c l.drew false false)
  (f:wpC P a.toArray .any (cls2 a.length c d e) (λp=>∀m,c m true true->Q .normal p m) a 0 b):(Code.region id a.toArray true).wp P Q b l:=by
 simp only[Ay6,decide_eq_true_eq]at j;obtain⟨⟨j,x⟩,y⟩:=j;refine ub (λo l=>c l (o.getD d false) (o.getD e false)) w s j (by rw[getD_replicate_false,getD_replicate_false];exact t) ?_;have B:∀(g:List Oper) (k:Nat) (b:Act) (h i:Act->Prop),(∀b,h b->i b)->wpC P a.toArray .any (cls2 a.length c d e) h g k b->wpC P a.toArray .any (cls2 a.length c d e) i g k b:=by
  intro g
  induction g with
  | nil=>intro k b h i n f;exact n b f
  | cons E g A =>
   intro k b h i n f;obtain⟨C,z,u⟩:=f;exact⟨C,z,A _ _ _ _ n u⟩
 exact B a 0 b _ _ (λp v o m r q=>by
  rw[r d x,r e y]at q;exact v m q) f
end
theorem Cm {m:Array Oper}{l:Region.Mode}{f:World->Bool->Bool->Prop}(j:∀e i n o,f e i n->f e i o) (k:d≠b):∀g e,d∈Region.ready l m g->cls2 a f b c g e->cls2 a f b c (g.setIfInBounds d true) e:=by
 intro g e _ h;exact⟨by simpa using h.1,by rw[getD_set_ne false k];exact j _ _ _ _ h.2⟩
theorem Cn {j:Program}{k:Array Oper}{q:Region.Mode}{e:World->Bool->Bool->Prop}{m:Act->Prop}{g:Oper}{rest:List Oper}{d:Act}(A:Region.wanted g (yielded k d.tmps)=true) (x:b≠c) (w:b<a)
  (z:∀h n,e h false n->∃i,(execOp d.eval g).run j h=.ok .skip i/\e i true n)
  (r:∀l:Act->Prop,(∀d,wpC j k q (cls2 a e b c) m rest (b+1) d->l d)->l (d.put g.dst undef)):wpC j k q (cls2 a e b c) m (g :: rest) b d:=by
 refine og A (λp h y f=>?_) r;have s:=(mem_ready.1 y).1;have t:p.getD b false=false:=getD_both s;obtain⟨o,f⟩:=f;rw[t]at f;obtain⟨i,u,v⟩:=z h _ f;refine⟨i,u,by simpa using o,?_⟩;rw[getD_set_ne false x];have:(p.setIfInBounds b true).getD b false=true:=by simp[o,w]
 rw[this];exact v
def LenS (n:Nat) (s:Rd):Prop:=n<=s.1+1/\(s.2=false->n<=s.1)
theorem LenS.next {c d:Rd}(e:LenS a c) (g:c.2=false) (h:c.1<=d.1) (b:d.2=true\/c.1<d.1):LenS (a+1) d:=by
 have i:=e.2 g;refine⟨H,λf=>?_⟩;rcases b with b|b
 .rw[f]at b;cases b
 omega
def LenB (R:List RowD):Prop:=∀r∈R,r.2.length<=1000000
theorem LenB.add {b:List RowD}{r:RowD}(c:LenB b) (d:r.2.length<=1000000):LenB (b++[r]):=λe a=>by
 rcases Aw9.1 a with a|a
 .exact c e a
 rw[Ay]at a;subst a;exact d
theorem TkSt.box (g:Elt (Int×Int)) (h:Elt (Int×Sl)) {d:Nat}{f:Value}{a:World}{e:Rd}(b:RdAt a d f e) (c:Int) (i:TypeId) :
  TkSt g h d a.heap.size (a.heap.size+1) f (a.alloc (.cells #[.int .i64 c,.slice none 0 0,.slice none 0 0] i)) e c [] [] (.slice none 0 0) (.slice none 0 0) :=
 ⟨⟨by rw[Az5];rfl,by rw[Az5];rfl,Az6 _ _ _ _,by rw[Az5];rfl,Az6 _ _ _ _,⟨[],.nil _ _,D,λm o n k=>by simp at k⟩,.nil _ _,λl j=>(by cases j),H⟩,
  b.chg ((FR a).alloc _) iD,Az6 _ _ _ _,by have:=b.lt;omega,by have:=b.lt;omega⟩
theorem Co (d:List Int) (A:Option Addr) (a8 c0 B:Nat) (a:World) (a5:BytesAt a a8 c0 d) (hH:0<d.length->A=some ⟨a8,c0,none⟩) (hK:d.length<=B) (hN:A=none->B=0) (kI:d.length<=100000) (g3:(xQ d aa).2.2=false) :
  Calls prog 113 #[.slice A d.length B] a λc N=>(qA d aa=true/\∃i4 i3 i5 jK,c=.returned (.tuple #[.agg #[.int .i64 (xQ d aa).1.1,.slice i4 (xQ d aa).1.2.1.length i5,.slice i3 (xQ d aa).1.2.2.length jK],.int .i64 (xQ d aa).2.1,.int .i64 0]) /\
   vW uW rowR N a.heap.size (i4,(xQ d aa).1.2.1.length,i5) (xQ d aa).1.2.1/\OfIn N a.heap.size i3 (xQ d aa).1.2.2/\Cf a N) \/
   (qA d aa=false/\c=.returned (.tuple #[.agg #[.int .i64 0,.slice none 0 0,.slice none 0 0],.int .i64 0,.int .i64 4])/\Cf a N):=by
 obtain⟨aY,cX⟩:=rK (a.alloc (.cells #[.int .i64 0,.slice none 0 0,.slice none 0 0] 194));have F:aY.heap.size=a.heap.size+1:=by rw[cX];simp
 have eF:G (Cf a aY):=jh (by rw[cX];exact rT);have b0:G (∀(o:Rd) (K:World),o.1<=d.length->J (λb=>a.heap.size+1<=b) aY K->RdAt K (a.heap.size+1) (.slice A d.length B) o->Calls prog 151 #[.pointer (some ⟨a.heap.size+1,0,none⟩)] K λc N=>c=.returned (.int .i64 (numP d 4294967295 o).1)/\RdAt N (a.heap.size+1) (.slice A d.length B) (numP d 4294967295 o).2/\J (λb=>b=a.heap.size+1) K N):=jh (λo K t m bO =>
  nw d A a8 c0 B (a.heap.size+1) o K ((a5.chg eF.o iE).chg m (λaD c=>by have:=a5.lt aD;omega)) hH hK hN H t bO)
 have gH:G (∀K,J (λb=>a.heap.size+1<=b) aY K->(K.cell? ⟨a.heap.size,0,none⟩=some (.int .i64 0)/\K.cell? ⟨a.heap.size,1,none⟩=some (.slice none 0 0)/\K.cell? ⟨a.heap.size,2,none⟩=some (.slice none 0 0))/\∀b,K.frozen? ⟨a.heap.size,b,none⟩=false):=jh (λK L=>by
  have aD:¬a.heap.size+1<=a.heap.size:=H
  subst cX;exact⟨⟨L.cellS sI aD,L.cellS sI aD,L.cellS sI aD⟩,λb=>(L.frozen (p:=⟨a.heap.size,b,none⟩) sI aD).trans (Az6 _ _ _ _)⟩)
 obtain⟨g9,e3⟩:=rK (aY.alloc (.cells #[.slice A d.length B,.int .i64 0,.bool false] 233));have iQ:G (RdAt g9 (a.heap.size+1) (.slice A d.length B) (0,false)):=jh (by
  rw[<-F,e3];exact⟨by rw[Az5];rfl,by rw[Az5];rfl,by rw[Az5];rfl,λb=>Az6 _ _ _ _⟩)
 have gM:G (J (λb=>a.heap.size+1<=b) aY g9):=jh (by rw[e3];exact rT);obtain⟨x,dU⟩:=rM (numP d 4294967295 (0,false));obtain⟨aK,dV⟩:=rM (numP d 4294967295 x.2);obtain⟨r,fM⟩:=rM (mJ d 4294967295 4294967295 aK.1 aK.2 []);obtain⟨a7,dZ⟩:=rM (numP d 4294967295 r.2);obtain⟨V,e1⟩:=rM (ofP d 4294967295 a7.1 a7.2 []);have g2:xQ d aa=(((x.1:Int),r.1,V.1),V.2):=by
  unfold xQ;simp only[aa];rw[dU,dV,fM,dZ,e1]
 have fO:V.2.2=false:=by rw[g2]at g3;exact g3
 have hE:r.2.2=false:=eE (m:=4294967295) (Z:=d) (by rw[dZ];exact ag (Z:=d) (mm:=4294967295) (k:=a7.1) (acc:=[]) (by rw[e1];exact fO));have gX:=jh hE;clear hE;have dH:=jh fO;clear fO g3;have cP:=yY (Z:=d) (m:=4294967295) (s:=(0,false)) (Ax9 _);rw[dU]at cP;have dX:=yY (m:=4294967295) cP.1;rw[dV]at dX;have iN:=jh cP;have iP:=jh dX;have k3:=cP.2.1;have k4:=dX.2.1;obtain⟨iL,iO,cB,h5,cF,iW,iV⟩:=sH dU dV fM dZ e1 cX e3;unfold qA;rw[g2];simp only;clear a5 hH hK hN cX e3 dU dV fM dZ e1 g2 cP dX;go_enter func113,ntmps113
 go_upto_region 1 with fail
 rw[<-iW.o];go_upto_region 2 with fail
 rw[<-iV.o];clear F;go_wp2_with fail
 have eM:=jh (b0.o (0,false) g9 (Ax9 _) gM.o iQ.o);rw[iL.o]at eM;refine eM.o.mono ?_;rintro c h ⟨rfl,fZ,hI⟩;have f3:=jh (TkSt.box uW rowR fZ (x.1:Int) 194);have eD:=jh ((gM.o.trans (hI.mono (T:=λb=>a.heap.size+1<=b) (λf _ c=>H))).alloc (.cells #[.int .i64 (x.1:Int),.slice none 0 0,.slice none 0 0] 194));have k9:a.heap.size+1<h.heap.size:=fZ.lt;have eV:=jh (b0.o x.2 _ iN.o.1 eD.o f3.o.r);rw[iO.o]at eV;clear fZ hI eM;go_wp2_with fail
 refine eV.o.mono ?_;rintro c kT ⟨rfl,hT,fR⟩;have h2:=jh (f3.o.read hT fR);have gI:=jh (eD.o.trans (fR.mono (T:=λb=>a.heap.size+1<=b) (λf _ c=>H)));clear hT fR f3 eD eV;go_wp2
 go_loopw [8] (λT wr=>∃(s e:Nat) (o:Rd) (a3:List RowD) (b7:Value),T=.int .i64 s/\s+e=aK.1/\TkSt uW rowR (a.heap.size+1) h.heap.size (h.heap.size+1) (.slice A d.length B) wr o x.1 a3 [] b7 (.slice none 0 0)/\o.1<=d.length/\(LenS a3.length o/\LenB a3)/\mJ d 4294967295 4294967295 e o a3=r/\J (λb=>a.heap.size+1<=b) aY wr) (λT _=>aK.1-(intOf T).toNat)
 .exact⟨0,aK.1,aK.2,[],_,rfl,H,h2.o,iP.o.1,⟨⟨Ax9 _,λ_=>Ax9 _⟩,λe4 fX=>by cases fX⟩,cB.o,gI.o⟩
 clear h2 gI cB;obtain⟨s,e,o,a3,b7,rfl,j9,F,E,⟨aB,hM⟩,a4,b3⟩:=hrel;obtain⟨aP,bB,eK,gP,cB,aH⟩:=sF F E aB hM a4 b3;obtain⟨W,d3,X,rfl⟩:∃A jI B,b7=.slice A jI B:=by obtain⟨y,t,_⟩:=F.t.rows;exact t.shape3
 obtain⟨U,aF⟩:=o;have O:=F.r.c2;simp only at O;have hF:a3.length<=100001:=by have:=aB.1;simp only at this E;omega
 clear F E a4 b3 aB hM;by_cases R:0<e/\aF=false
 .obtain⟨i,rfl⟩:=R
  obtain⟨w,rfl⟩:∃w,e=w+1:=⟨e-1,H⟩;have dM:=rO s aK.1;obtain⟨q,cM⟩:=rM (numP d 4294967295 (U,false));obtain⟨a1,dP⟩:=rM (numP d 4294967295 q.2);obtain⟨j,a4⟩:=rM (sL d 4294967295 4294967295 a1.1 a1.2 0 []);have hV:rowP d 4294967295 4294967295 (U,false)=(((q.1:Int)-1,j.1),j.2):=by
   unfold rowP;rw[cM,dP,a4]
  have cO:=yY (m:=4294967295) bB.o;rw[cM]at cO;have dR:=yY (m:=4294967295) cO.1;rw[dP]at dR;have e9:=jh cO;have d7:=jh dR;have k0:=cO.2.1;have k1:=dR.2.1;have dB:G (mJ d 4294967295 4294967295 w j.2 (a3++[((q.1:Int)-1,j.1)])=r):=jh (by
   rw[<-cB.o,nA rfl,hV])
  have iR:G (j.2.2=false):=jh (aS (k:=w) (acc:=a3++[((q.1:Int)-1,j.1)]) (by rw[dB.o];exact gX.o));obtain⟨jP,iC,cD,eX⟩:=sB cM dP a4 (b0.o (U,false) wr bB.o aH.o aP.o.r);rw[cM]at eX;clear cO dR cM dP a4 hV;go_wp2_with fail
  refine eX.o.mono ?_;rintro c v ⟨rfl,g0,fT⟩;have f5:=jh (aP.o.read g0 fT);have iB:=jh (aH.o.trans (fT.mono (T:=λb=>a.heap.size+1<=b) (λf _ c=>H)));have kD:h.heap.size+1<=v.heap.size:=(by have:=f5.o.t.lt;omega);have f9:=jh (CellSt.start uW g0 ((q.1:Int)-1) 236);have bX:G (J (λb=>b=a.heap.size+1\/v.heap.size<=b) v (v.alloc (.cells #[.int .i64 ((q.1:Int)-1),.slice none 0 0] 236))):=jh (rT);have dF:G (∀K,J (λb=>b=a.heap.size+1\/v.heap.size<=b) v K->J (λb=>a.heap.size+1<=b) aY K):=jh (λK L=>iB.o.trans (L.mono (λf _ c=>H)));have eZ:=jh (b0.o q.2 _ e9.o.1 (dF.o _ bX.o) f9.o.r);rw[iC.o]at eZ;clear g0 fT O aP aH eX;go_wp2_with fail
  refine eZ.o.mono ?_;rintro c aX ⟨rfl,cS,bP⟩;have h6:=jh (f9.o.read cS bP);have b8:=jh (bX.o.trans (bP.mono (T:=λb=>b=a.heap.size+1\/v.heap.size<=b) (λf _ c=>.inl c)));clear cS bP f9 bX eZ;go_wp2
  go_loopw [11,12] (λjM T wr=>∃(f e:Nat) (o:Rd) (y:Int) (u:List (Int×Int)) (b7:Value),jM=.int .i64 y/\T=.int .i64 f/\f+e=a1.1/\CellSt uW (a.heap.size+1) v.heap.size (.slice A d.length B) wr ((q.1:Int)-1) o u b7/\o.1<=d.length/\((0<=y/\y<=(u.length:Int) * 4294967296)/\LenS u.length o)/\sL d 4294967295 4294967295 e o y u=j/\U<=o.1/\(o.2=true\/U<o.1)/\J (λb=>b=a.heap.size+1\/v.heap.size<=b) v wr) (λ_ T _=>a1.1-(intOf T).toNat)
  case atStart=>exact⟨0,a1.1,a1.2,0,[],_,rfl,rfl,H,h6.o,d7.o.1,⟨⟨H,sI⟩,⟨Ax9 _,λ_=>Ax9 _⟩⟩,cD.o,by have t:U<=q.2.1:=e9.o.2.2.2.1;have m:q.2.1<=a1.2.1:=d7.o.2.2.2.1;omega,by
   rcases e9.o.2.2.2.2.2 with g|g
   .exact .inl (d7.o.2.2.2.2.1 g)
   have t:U<q.2.1:=g;have m:q.2.1<=a1.2.1:=d7.o.2.2.2.1;exact .inr H,b8.o⟩
  case round =>
   clear h6 b8 cD;obtain⟨f,e,o,y,u,b7,rfl,rfl,kH,F,E,⟨⟨k6,k7⟩,aB⟩,a4,hY,hZ,b3⟩:=hrel;obtain⟨b1,f2,iJ,cD,c6,d8⟩:=sF F E aB a4 b3 (And.intro hY hZ);obtain⟨aO,jO,aZ,rfl⟩:=F.f.own.shape3;obtain⟨g8,d1⟩:=o;have O:=F.r.c2;simp only at O;have k8:u.length<=100001:=(by have:=aB.1;simp only at this E;omega);clear F E a4 b3 aB hY hZ;by_cases R:0<e/\d1=false
   .obtain⟨i,rfl⟩:=R
    obtain⟨i2,rfl⟩:∃w,e=w+1:=⟨e-1,H⟩;have hA:=rO f a1.1;obtain⟨l,aM⟩:=rM (numP d 4294967295 (g8,false));obtain⟨D,dT⟩:=rM (numP d 4294967295 l.2);have P:=yY (m:=4294967295) f2.o;rw[aM]at P;have b2:=yY (m:=4294967295) P.1;rw[dT]at b2;have f0:=jh P;have iI:=jh b2;have j6:=P.2.1;have k2:=b2.2.1;have iS:G (sL d 4294967295 4294967295 i2 D.2 (y+l.1) (u++[(y+l.1,(D.1:Int)-1)])=j):=jh (by
     rw[<-cD.o,rL rfl,aM,dT])
    have eH:G (LenS (u++[(y+(l.1:Int),(D.1:Int)-1)]).length D.2):=jh (by
     rw[Az];exact iJ.o.next rfl (Ay2 P.2.2.2.1 b2.2.2.2.1) (P.2.2.2.2.2.elim (λg=>.inl (b2.2.2.2.2.1 g)) (λg=>.inr (Ay9 g b2.2.2.2.1))))
    have h1:G (U<=D.2.1/\(D.2.2=true\/U<D.2.1)):=jh (by
     have t:=d8.o.1;have m:=P.2.2.2.1;have bO:=b2.2.2.2.1;simp only at t m;refine⟨H,?_⟩;rcases d8.o.2 with g|g
     .cases g
     simp only at g;exact .inr H)
    have kO:IntKind.i64.wrap ((D.1:Int)-1)=(D.1:Int)-1:=(by rw[IntKind.wrap_i64];omega);obtain⟨jR,iH,eO⟩:=rZ aM dT (b0.o (g8,false) wr f2.o (dF.o _ c6.o) b1.o.r);rw[aM]at eO;clear P b2 aM dT;go_wp2_with fail
    refine eO.o.mono ?_;rintro c d5 ⟨rfl,cT,bT⟩;have iX:=jh (b1.o.read cT bT);have b9:=jh (c6.o.trans (bT.mono (T:=λb=>b=a.heap.size+1\/v.heap.size<=b) (λf _ c=>.inl c)));clear cT bT b1 c6 O eO;go_upto_region 14 with fail
    obtain⟨Q,bV⟩:=rK d5.drew;have f8:G (d5.drew=Q):=jh bV.symm;have cH:G (Cf d5 Q):=jh (by rw[bV];exact (J.refl _ _).drew);have fB:=jh (iX.o.same cH.o);have gK:=jh (b9.o.trans cH.o.any);have eP:=jh (b0.o l.2 Q f0.o.1 (dF.o _ gK.o) fB.o.r);rw[iH.o]at eP;clear bV;refine zC (λk=>J (λb=>b=a.heap.size+1\/v.heap.size+1<=b) Q k) (λs=>decide (s=10)) M ?_;show yC _ _ _ _ _ _ 11 (Array.replicate 11 false) _ d5.drew;rw[f8.o];have z:G (J (λb=>b=a.heap.size+1\/v.heap.size+1<=b) Q Q):=jh cR;have fV:¬(v.heap.size=a.heap.size+1\/v.heap.size+1<=v.heap.size):=H;refine lq 0 z.o ?_;(refine lf 1 z.o (λ_ n=>n.cellS fB.o.f.c fV) ?_);refine lq 2 z.o ?_;refine lq 3 z.o ?_;refine zY (i:=4) M rfl rfl 151 #[.pointer (some ⟨a.heap.size+1,0,none⟩)] (λd2 d4=>d2=.int .i64 D.1/\RdAt d4 (a.heap.size+1) (.slice A d.length B) D.2/\J (λb=>b=a.heap.size+1) Q d4) (by go_simp) ?_ ?_
    .refine eP.o.mono ?_
     rintro c Y ⟨rfl,t,m⟩;exact⟨_,rfl,λ_=>z.o.trans (m.mono (λf _ c=>.inl c)),rfl,t,m⟩
    rintro d2 Y hX ⟨rfl,hU,a9⟩ e i;obtain⟨z,iY,iA⟩:=rZ (hX dE) (fB.o.read hU a9) (gK.o.trans (a9.mono (T:=λb=>b=a.heap.size+1\/v.heap.size<=b) (λf _ c=>.inl c)));clear hX hU a9 eP;(try go_simp)
    refine i _ ?_;clear i e;have cI:=jh (iY.o.same ((FR Y).alloc (.cells #[.int .i64 (y+l.1),.int .i64 ((D.1:Int)-1)] 238)));have i9:G (v.heap.size+1<=(Y.alloc (.cells #[.int .i64 (y+l.1),.int .i64 ((D.1:Int)-1)] 238)).heap.size):=jh (by have:=cI.o.f.lt;omega);have gS:G (∀k∈[(y+(l.1:Int),(D.1:Int)-1)],uW.ok k):=jh (by
     intro k L;rw[Ay]at L;subst L;exact⟨⟨by show -9223372036854775808<=y+(l.1:Int);omega,by show y+(l.1:Int)<=9223372036854775807;omega⟩,⟨by show -9223372036854775808<=(D.1:Int)-1;omega,by show (D.1:Int)-1<=9223372036854775807;omega⟩⟩)
    refine lq 5 z.o ?_;refine lq 6 z.o ?_;refine lt 7 (λ_=>z.o.alloc _) ?_;refine yQ (i:=8) M rfl rfl (.tmp 58) (.tmp 64) 234 234 rfl (.slice aO jO aZ) (.slice (some ⟨Y.heap.size,0,none⟩) 1 1) rfl rfl (λa6 C=>uW.Own C (v.heap.size+1) a6 (u++[(y+(l.1:Int),(D.1:Int)-1)])/\J (λb=>v.heap.size+1<=b) (Y.alloc (.cells #[.int .i64 (y+l.1),.int .i64 ((D.1:Int)-1)] 238)) C) ?_ ?_
    .obtain⟨a6,C,g1,t,m,-⟩:=cI.o.f.own.append i9.o 234 (.slice (some ⟨Y.heap.size,0,none⟩) 1 1) [(y+(l.1:Int),(D.1:Int)-1)] (uW.srcLit 1 gS.o) gS.o sO 234
     exact⟨a6,C,g1,λ_=>(z.o.alloc _).trans (m.mono (λf _ c=>.inr c)),t,m⟩
    rintro a6 C E ⟨t,m⟩ e i;obtain⟨e6,e8,e7,cV⟩:=t.shape3;subst cV;obtain⟨⟨i0,i1⟩,b5,bZ⟩:=cI.o.add t m;obtain⟨c7,c4,f1⟩:=rZ b5 (iA.o.trans ((((J.refl (λf=>v.heap.size<=f) Y).alloc (.cells #[.int .i64 (y+l.1),.int .i64 ((D.1:Int)-1)] 238)).trans bZ).mono (T:=λb=>b=a.heap.size+1\/v.heap.size<=b) (λf _ c=>.inr c))) (E dE);clear b5 t m E bZ;(try go_simp)
    refine i _ ?_;clear i e;refine lt 9 (λ_=>f1.o) ?_;refine ld 10 ?_;refine zQ M ?_ _;go_wp2;go_roundw
    .exact⟨f+1,i2,D.2,y+l.1,_,_,rfl,GN,H,c7.o,iI.o.1,⟨⟨H,sO⟩,eH.o⟩,iS.o,h1.o.1,h1.o.2,c4.o⟩
    simp[intOf];omega
   have b4:decide ((f:Int)<(a1.1:Int))=false\/(decide ((f:Int)<(a1.1:Int))=true/\d1=true):=by
    rcases Ax6 e with g|g
    .exact .inl sO
    exact .inr ⟨sO,by cases d1;exact absurd ⟨g,rfl⟩ R;rfl⟩
   have dD:G (j=(u,g8,d1)):=jh (by
    rw[<-cD.o]
    apply pA
    rcases Ax6 e with g|g
    .exact .inr g
    exact .inl (by cases d1;exact absurd ⟨g,rfl⟩ R;rfl))
   clear R;have hA:decide ((f:Int)<(a1.1:Int))=false:=by
    rcases b4 with g|⟨_,g⟩
    .exact g
    have m:=iR.o
    rw[dD.o,g]at m;cases m
   clear b4
   all_goals
    have j1:=hA;simp only[Int.ofNat_lt]at j1;have iT:G (RdAt wr (a.heap.size+1) (.slice A d.length B) j.2):=jh (by rw[dD.o];exact b1.o.r);have iG:=jh (c6.o.mono (T:=λb=>b=a.heap.size+1) (λf kF c=>H));have h3:=jh (f5.o.read iT.o iG.o);have h4:G (j.1=u):=jh (by rw[dD.o]);have h0:G (j.2.1<=d.length/\LenS (a3++[((q.1:Int)-1,j.1)]).length j.2/\LenB (a3++[((q.1:Int)-1,j.1)])):=jh (by
     rw[dD.o,Az];exact⟨f2.o,eK.o.next rfl d8.o.1 d8.o.2,gP.o.add (by show u.length<=_;omega)⟩)
    obtain⟨kZ,l1,l0,jH,jB,-,-⟩:=b1.o.f.own.at';injection jH with j2 j3 j4;subst j2 j3 j4;have kV:=b1.o.c;have kX:=b1.o.f.c;have dO:=h3.o.t.c1;have bF:=jh (h3.o.same ((FR wr).alloc (.cells #[.int .i64 ((q.1:Int)-1),.slice aO u.length aZ] 236)));have gO:=jh (b1.o.f.own.in' jB);have gF:G (I.Byte ((q.1:Int)-1)):=jh ⟨H,H⟩;have iZ:G (kU uW (wr.alloc (.cells #[.int .i64 ((q.1:Int)-1),.slice aO u.length aZ] 236)) (h.heap.size+1) ((q.1:Int)-1,aO,u.length,aZ) ((q.1:Int)-1,j.1)):=jh ⟨rfl,gF.o,by rw[h4.o];exact (gO.o.lower H).same (rT)⟩;have cI:G (0<j.1.length->∀a8 c0,aO=some ⟨a8,c0,none⟩->(Value.slice W d3 X).ownBlock≠some a8/\(Value.slice none 0 0).ownBlock≠some a8/\h.heap.size+1<=a8):=jh (λhS a8 c0 j8=>by
     rw[h4.o]at hS;obtain⟨_,_,jZ,kP,-,cK⟩:=gO.o;obtain⟨aV,hC⟩:=cK hS;simp only at aV;rw[j8]at aV;injection aV with aV;injection aV with aV;subst aV;obtain⟨y,fI,_⟩:=f5.o.t.rows;exact⟨λc=>by have:=(fI.blk c).2;omega,(λc=>by cases c),H⟩)
    obtain⟨h8,hG,fP,-⟩:=bF.o.t.rows;have dI:=jh hG;have jT:=jh fP;have gV:G (∀d6∈[((q.1:Int)-1,aO,u.length,aZ)],rowR.ok d6):=jh (by intro d6 cZ;rw[Ay]at cZ;subst cZ;exact gF.o);have eB:G (h.heap.size+1<=(wr.alloc (.cells #[.int .i64 ((q.1:Int)-1),.slice aO u.length aZ] 236)).heap.size):=jh bF.o.t.lt;have eI:G (h8.length+1<=1000000000000):=jh (by rw[fP];omega);clear hG fP;go_wp2_with (at_builtin;refine Elt.wpList_append2 rowR rfl (.tmp 68) (.tmp 70) 192 192 rfl rfl (h.heap.size+1) (.slice W d3 X) h8 [((q.1:Int)-1,aO,u.length,aZ)] (.slice (some ⟨wr.heap.size,0,none⟩) 1 1) rfl rfl dI.o eB.o (rowR.srcLit 1 gV.o) gV.o eI.o ?_;intro a6 C h7 jV dK;obtain⟨e6,e8,e7,cV⟩:=h7.out.shape3;subst cV;obtain⟨⟨i0,i1⟩,b5,bZ⟩:=bF.o.t.addRow iZ.o cI.o (λjX j7 _=>(by rw[fS j7 dI.o];exact h7.out)) dK.out.1 (dK.out.2.imp id Or.inl);have c5:G (J (λf=>f=h.heap.size\/h.heap.size+1<=f) (wr.alloc (.cells #[.int .i64 ((q.1:Int)-1),.slice aO u.length aZ] 236)) (C.setCell ⟨h.heap.size,1,none⟩ (.slice e6 e8 e7))):=jh ((dK.out.1.mono (λf _ c=>.inr ((dI.o.blk c).1))).trans ((zA C h.heap.size 1 _).mono (λf _ c=>.inl c)));have d0:C.frozen? ⟨h.heap.size,0,none⟩=false:=(dK.out.1.frozen (p:=⟨h.heap.size,0,none⟩) bF.o.t.lt (λc=>by have g:h.heap.size+1<=h.heap.size:=(dI.o.blk c).1;omega)).trans bF.o.z0;have c7:=jh (bF.o.store b5 (bF.o.r.chg c5.o H) ((Az3 _ _ _ _).trans d0));have c4:=jh (((dF.o wr c6.o).alloc (.cells #[.int .i64 ((q.1:Int)-1),.slice aO u.length aZ] 236)).trans (c5.o.mono (T:=λb=>a.heap.size+1<=b) (λf _ c=>H)));clear b5 bZ d0)
    go_roundw
    .exact⟨s+1,w,j.2,a3++[((q.1:Int)-1,j.1)],_,GN,H,c7.o,h0.o.1,h0.o.2,dB.o,c4.o⟩
    simp[intOf];omega
 have b4:decide ((s:Int)<(aK.1:Int))=false\/(decide ((s:Int)<(aK.1:Int))=true/\aF=true):=by
  rcases Ax6 e with g|g
  .exact .inl sO
  exact .inr ⟨sO,by cases aF;exact absurd ⟨g,rfl⟩ R;rfl⟩
 have c9:G (r=(a3,U,aF)):=jh (by
  rw[<-cB.o]
  apply mS
  rcases Ax6 e with g|g
  .exact .inr g
  exact .inl (by cases aF;exact absurd ⟨g,rfl⟩ R;rfl))
 clear R;have dM:decide ((s:Int)<(aK.1:Int))=false:=by
  rcases b4 with g|⟨_,g⟩
  .exact g
  have m:=gX.o
  rw[c9.o,g]at m;cases m
 clear b4
 all_goals
  have h9:=dM;simp only[Int.ofNat_lt]at h9;go_upto_region 16 with fail
  have kB:=jh dM;clear O dM h9;have f4:G (TkSt uW rowR (a.heap.size+1) h.heap.size (h.heap.size+1) (.slice A d.length B) wr r.2 x.1 r.1 [] (.slice W d3 X) (.slice none 0 0)):=jh (by rw[c9.o];exact aP.o);have gZ:G (r.2.1<=d.length):=jh (by rw[c9.o];exact bB.o);have hF:r.1.length<=100001:=(by rw[c9.o];exact hF);have eI:G (∀e4∈r.1,e4.2.length<=1000000000):=jh (by rw[c9.o];intro e4 fX;have:=gP.o e4 fX;omega);have e0:=yY (m:=4294967295) gZ.o;rw[h5.o]at e0;have iU:=jh e0;have k5:=e0.2.1;have eR:=jh (b0.o r.2 wr gZ.o aH.o f4.o.r);rw[h5.o]at eR;clear e0;go_wp2_with fail
  refine eR.o.mono ?_;rintro c d5 ⟨rfl,cT,bT⟩;have d9:=jh (f4.o.read cT bT);have b8:=jh (aH.o.trans (bT.mono (T:=λb=>a.heap.size+1<=b) (λf _ c=>H)));clear cT bT eR f4 aP aH;go_wp2
  go_loopw [14] (λT wr=>∃(s e:Nat) (o:Rd) (aI:List Int) (d2:Value),T=.int .i64 s/\s+e=a7.1/\TkSt uW rowR (a.heap.size+1) h.heap.size (h.heap.size+1) (.slice A d.length B) wr o x.1 r.1 aI (.slice W d3 X) d2/\o.1<=d.length/\LenS aI.length o/\ofP d 4294967295 e o aI=V/\J (λb=>a.heap.size+1<=b) aY wr) (λT _=>a7.1-(intOf T).toNat)
  .exact⟨0,a7.1,a7.2,[],_,rfl,H,d9.o,iU.o.1,⟨Ax9 _,λ_=>Ax9 _⟩,cF.o,b8.o⟩
  clear d9 b8 cF;obtain⟨s,e,o,aI,d2,rfl,j9,F,E,aB,a4,b3⟩:=hrel;obtain⟨aP,bB,eK,cF,aH⟩:=sD F E aB a4 b3;obtain⟨Z,e5,a0,rfl⟩:=F.t.of.shape3;obtain⟨U,aF⟩:=o;have O:=F.r.c2;simp only at O;have hD:aI.length<=100001:=(by have:=aB.1;simp only at this E;omega);clear F E a4 b3 aB;by_cases R:0<e/\aF=false
  .obtain⟨i,rfl⟩:=R
   obtain⟨w,rfl⟩:∃w,e=w+1:=⟨e-1,H⟩;have fD:=rO s a7.1;obtain⟨l,aM⟩:=rM (numP d 4294967295 (U,false));have P:=yY (m:=4294967295) bB.o;rw[aM]at P;have f0:=jh P;have j6:=P.2.1;have dB:G (ofP d 4294967295 w l.2 (aI++[(l.1:Int)])=V):=jh (by
    rw[<-cF.o,gY rfl,aM])
   have eH:G (LenS (aI++[(l.1:Int)]).length l.2):=jh (by
    rw[Az];exact eK.o.next rfl P.2.2.2.1 P.2.2.2.2.2)
   have iK:=jh aM;clear P aM;go_upto_region 20 with fail
   obtain⟨Q,bV⟩:=rK wr.drew;have f8:G (wr.drew=Q):=jh bV.symm;have cH:G (Cf wr Q):=jh (by rw[bV];exact (J.refl _ _).drew);have f6:=jh (aP.o.same cH.o);have bX:=jh (aH.o.trans cH.o.any);clear bV O;refine zC (λk=>J (λb=>b=a.heap.size+1\/h.heap.size+1<=b) Q k) (λs=>decide (s=7)) M ?_;show yC _ _ _ _ _ _ 8 (Array.replicate 8 false) _ wr.drew;rw[f8.o];have z:G (J (λb=>b=a.heap.size+1\/h.heap.size+1<=b) Q Q):=jh cR;have fV:¬(h.heap.size=a.heap.size+1\/h.heap.size+1<=h.heap.size):=H;have eT:=jh (b0.o (U,false) Q bB.o bX.o f6.o.r);rw[iK.o]at eT;refine lq 0 z.o ?_;(refine lf 1 z.o (λ_ n=>n.cellS f6.o.t.c2 fV) ?_);refine lq 2 z.o ?_;refine zY (i:=3) M rfl rfl 151 #[.pointer (some ⟨a.heap.size+1,0,none⟩)] (λT d4=>T=.int .i64 l.1/\RdAt d4 (a.heap.size+1) (.slice A d.length B) l.2/\J (λb=>b=a.heap.size+1) Q d4) (by go_simp) ?_ ?_
   .refine eT.o.mono ?_
    rintro c aX ⟨rfl,t,m⟩;exact⟨_,rfl,λ_=>z.o.trans (m.mono (λf _ c=>.inl c)),rfl,t,m⟩
   rintro T aX hW ⟨rfl,cS,bP⟩ e i;obtain⟨z,d9,b8⟩:=rZ (hW dE) (f6.o.read cS bP) (bX.o.trans (bP.mono (T:=λb=>a.heap.size+1<=b) (λf _ c=>H)));clear hW cS bP eT;(try go_simp)
   refine i _ ?_;clear i e;have aR:=jh (d9.o.same ((FR aX).alloc (.cells #[.int .i64 l.1] 3)));have gT:G (∀d6∈[(l.1:Int)],intE.ok d6):=jh (by intro d6 cZ;rw[Ay]at cZ;subst cZ;exact⟨H,H⟩);have eB:G (h.heap.size+1<=(aX.alloc (.cells #[.int .i64 l.1] 3)).heap.size):=jh aR.o.t.lt;refine lt 4 (λ_=>z.o.alloc _) ?_;refine yQ (i:=5) M rfl rfl (.tmp 88) (.tmp 91) 25 25 rfl (.slice Z e5 a0) (.slice (some ⟨aX.heap.size,0,none⟩) 1 1) rfl rfl (λa6 C=>intE.Own C (h.heap.size+1) a6 (aI++[(l.1:Int)])/\J (λf=>(Value.slice Z e5 a0).ownBlock=some f) (aX.alloc (.cells #[.int .i64 l.1] 3)) C/\(a6.ownBlock=(Value.slice Z e5 a0).ownBlock\/a6.ownBlock=some (aX.alloc (.cells #[.int .i64 l.1] 3)).heap.size)) ?_ ?_
   .obtain⟨a6,C,g1,t,m,⟨bO,cK⟩,-⟩:=aR.o.t.of.append eB.o 25 (.slice (some ⟨aX.heap.size,0,none⟩) 1 1) [(l.1:Int)] (intE.srcLit 1 gT.o) gT.o sO 25
    exact⟨a6,C,g1,λ_=>(z.o.alloc _).trans (m.mono (λf _ c=>.inr c)),t,bO,cK⟩
   rintro a6 C E ⟨t,m,bO⟩ e i;obtain⟨e6,e8,e7,cV⟩:=t.shape3;subst cV;obtain⟨⟨i0,i1⟩,b5,bZ⟩:=aR.o.t.addOf t m (bO.imp id Or.inl);have c5:G (J (λf=>f=h.heap.size\/h.heap.size+1<=f) (aX.alloc (.cells #[.int .i64 l.1] 3)) (C.setCell ⟨h.heap.size,2,none⟩ (.slice e6 e8 e7))):=jh ((m.mono (λf _ c=>.inr ((aR.o.t.of.blk c).1))).trans ((zA C h.heap.size 2 _).mono (λf _ c=>.inl c)));have d0:C.frozen? ⟨h.heap.size,0,none⟩=false:=(m.frozen (p:=⟨h.heap.size,0,none⟩) aR.o.t.lt (λc=>by have g:h.heap.size+1<=h.heap.size:=(aR.o.t.of.blk c).1;omega)).trans aR.o.z0;obtain⟨c7,c4,f1⟩:=rZ (aR.o.store b5 (aR.o.r.chg c5.o H) ((Az3 _ _ _ _).trans d0)) ((b8.o.alloc (.cells #[.int .i64 l.1] 3)).trans (c5.o.mono (T:=λb=>a.heap.size+1<=b) (λf _ c=>H))) (E dE);clear b5 t m bO E bZ d0;(try go_simp)
   refine i _ ?_;clear i e;refine lt 6 (λ_=>f1.o) ?_;refine ld 7 ?_;refine zQ M ?_ _;go_wp2;go_roundw
   .exact⟨s+1,w,l.2,aI++[(l.1:Int)],_,GN,H,c7.o,f0.o.1,eH.o,dB.o,c4.o⟩
   simp[intOf];omega
  have b4:decide ((s:Int)<(a7.1:Int))=false\/(decide ((s:Int)<(a7.1:Int))=true/\aF=true):=by
   rcases Ax6 e with g|g
   .exact .inl sO
   exact .inr ⟨sO,by cases aF;exact absurd ⟨g,rfl⟩ R;rfl⟩
  have f7:G (V=(aI,U,aF)):=jh (by
   rw[<-cF.o]
   apply eC
   rcases Ax6 e with g|g
   .exact .inr g
   exact .inl (by cases aF;exact absurd ⟨g,rfl⟩ R;rfl))
  clear R;have fD:decide ((s:Int)<(a7.1:Int))=false:=by
   rcases b4 with g|⟨_,g⟩
   .exact g
   have m:=dH.o
   rw[f7.o,g]at m;cases m
  clear b4
  all_goals
   have hB:=fD;simp only[Int.ofNat_lt]at hB;go_upto_region 21 with fail
   clear O fD hB;have a2:G (TkSt uW rowR (a.heap.size+1) h.heap.size (h.heap.size+1) (.slice A d.length B) wr V.2 x.1 r.1 V.1 (.slice W d3 X) (.slice Z e5 a0)):=jh (by rw[f7.o];exact aP.o);have hD:V.1.length<=100001:=(by rw[f7.o];exact hD);obtain⟨-,jF,kK⟩:=a2.o.t.rowsIn;obtain⟨-,hQ,-,jD,-,kM⟩:=a2.o.t.final cR;subst jF jD;obtain⟨j5,hP,hR⟩:=hQ.bytes;have c8:=jh (iw x.1 r.1 V.1 W Z X a0 _ j5 0 wr ⟨H,H⟩ a2.o.t.rowsIn.1 H eI.o hP hR H);obtain⟨gD,fK⟩:=rM (mayL ((x.1:Int),r.1,V.1));rw[fK]at c8;have O:=a2.o.r.c2;have gR:=jh fK;clear hP hR hQ fK aP bB;by_cases b6:gD=false
   .have cA:G ((!V.2.2 && mayL ((x.1:Int),r.1,V.1))=false):=jh (by rw[gR.o,b6];exact Av2 _)
    rw[dH.o]at O;rw[b6]at c8;have fF:=a2.o.t.c0;have dO:=a2.o.t.c1;have fH:=a2.o.t.c2;clear b6;go_wp2_with fail
    refine c8.o.mono ?_;rintro c Y ⟨rfl,a9⟩;have bD:=jh (a2.o.same a9);have b9:=jh (aH.o.trans a9.any);clear a9 fF dO O fH;obtain⟨⟨c1,c2,c3⟩,a5⟩:=gH.o Y b9.o;have i6:=a5 0;have i7:=a5 1;have i8:=a5 2;clear a5;go_wp2;obtain⟨bI,bK,bM,aT⟩:=jS (.int .i64 0) (.slice none 0 0) (.slice none 0 0) c1 c2 c3;have cK:=(((eF.o.any (S:=λb=>a.heap.size<=b)).trans (b9.o.mono (T:=λb=>a.heap.size<=b) (λf _ c=>H))).trans (aT.mono (T:=λb=>a.heap.size<=b) (λf _ c=>H))).fresh;clear aT
    generalize ((Y.setCell ⟨a.heap.size,0,none⟩ (.int .i64 0)).setCell ⟨a.heap.size,1,none⟩ (.slice none 0 0)).setCell ⟨a.heap.size,2,none⟩ (.slice none 0 0)=j0 at *
    exact bodyPost_ret (v:=.tuple #[.agg #[.int .i64 0,.slice none 0 0,.slice none 0 0],.int .i64 0,.int .i64 4]) (by simp[results,results113,go_sem,bI,bK,bM]) rfl (.inr ⟨cA.o,rfl,cK⟩)
   have b6:gD=true:=by simpa using b6
   have cA:G (V.2.2=false/\mayL ((x.1:Int),r.1,V.1)=true):=jh ⟨dH.o,by rw[gR.o,b6]⟩;rw[dH.o]at O;rw[b6]at c8;have fF:=a2.o.t.c0;have dO:=a2.o.t.c1;have fH:=a2.o.t.c2;clear b6;go_wp2_with fail
   refine c8.o.mono ?_;rintro c Y ⟨rfl,a9⟩;have bD:=jh (a2.o.same a9);have b9:=jh (aH.o.trans a9.any);clear a9 fF dO O fH;go_upto_region 23 with fail
   have iM:G (∀k,Cf Y k->((λ(k:World) (bH _:Bool)=>((k.cell? ⟨h.heap.size,0,none⟩=some (.int .i64 x.1)/\k.cell? ⟨h.heap.size,1,none⟩=some (.slice W r.1.length X)/\k.cell? ⟨h.heap.size,2,none⟩=some (.slice Z V.1.length a0))/\k.cell? ⟨a.heap.size+1,1,none⟩=some (.int .i64 V.2.1))/\(k.cell? ⟨a.heap.size,0,none⟩=some (cond bH (.int .i64 x.1) (.int .i64 0))/\k.cell? ⟨a.heap.size,1,none⟩=some (cond bH (.slice W r.1.length X) (.slice none 0 0))/\k.cell? ⟨a.heap.size,2,none⟩=some (cond bH (.slice Z V.1.length a0) (.slice none 0 0)))/\(k.frozen? ⟨a.heap.size,0,none⟩=false/\k.frozen? ⟨a.heap.size,1,none⟩=false/\k.frozen? ⟨a.heap.size,2,none⟩=false)/\J (λf=>f=a.heap.size) Y k)) k false false):=jh (λk L=>by
    obtain⟨⟨c1,c2,c3⟩,a5⟩:=gH.o k (b9.o.trans L.any);exact⟨⟨⟨L.cellS bD.o.t.c0 iD,L.cellS bD.o.t.c1 iD,L.cellS bD.o.t.c2 iD⟩,L.cellS bD.o.r.c1 iD⟩,⟨c1,c2,c3⟩,⟨a5 0,a5 1,a5 2⟩,L.any⟩)
   refine Cl ((λ(k:World) (bH _:Bool)=>((k.cell? ⟨h.heap.size,0,none⟩=some (.int .i64 x.1)/\k.cell? ⟨h.heap.size,1,none⟩=some (.slice W r.1.length X)/\k.cell? ⟨h.heap.size,2,none⟩=some (.slice Z V.1.length a0))/\k.cell? ⟨a.heap.size+1,1,none⟩=some (.int .i64 V.2.1))/\(k.cell? ⟨a.heap.size,0,none⟩=some (cond bH (.int .i64 x.1) (.int .i64 0))/\k.cell? ⟨a.heap.size,1,none⟩=some (cond bH (.slice W r.1.length X) (.slice none 0 0))/\k.cell? ⟨a.heap.size,2,none⟩=some (cond bH (.slice Z V.1.length a0) (.slice none 0 0)))/\(k.frozen? ⟨a.heap.size,0,none⟩=false/\k.frozen? ⟨a.heap.size,1,none⟩=false/\k.frozen? ⟨a.heap.size,2,none⟩=false)/\J (λf=>f=a.heap.size) Y k) )  5   7 M M M ?_ ?_
   .exact iM.o _ (J.refl _ _).drew
   (refine jC rfl (dd dE dE) λe i=>?_;apply Ay4;refine⟨λ_ N _ n=>?_,?_⟩;((have n:=n.2;obtain⟨⟨⟨g4,g5,g6⟩,g7⟩,-,-,-⟩:=n;clear n);go_simp;try with_reducible rfl);(try go_simp);refine i _ ?_;clear i e);(refine jC rfl (dd dE dE) λe i=>?_;apply Ay4;refine⟨λ_ N _ n=>?_,?_⟩;((have n:=n.2;clear n);go_simp;try with_reducible rfl);(try go_simp);refine i _ ?_;clear i e);(refine jC rfl (dd dE dE) λe i=>?_;apply Ay4;refine⟨λ_ N _ n=>?_,?_⟩;((have n:=n.2;clear n);go_simp;try with_reducible rfl);(try go_simp);refine i _ ?_;clear i e);(refine jC rfl (dd dE dE) λe i=>?_;apply Ay4;refine⟨λ_ N _ n=>?_,?_⟩;((have n:=n.2;clear n);go_simp;try with_reducible rfl);(try go_simp);refine i _ ?_;clear i e);(refine jC rfl (dd dE dE) λe i=>?_;apply Ay4;refine⟨λ_ N _ n=>?_,?_⟩;((have n:=n.2;obtain⟨⟨⟨g4,g5,g6⟩,g7⟩,-,-,-⟩:=n;clear n);go_simp;try with_reducible rfl);(try go_simp);refine i _ ?_;clear i e);refine Cn rfl dE dE (λN _ n=>?_) (λe i=>?_)
   .obtain⟨⟨⟨g4,g5,g6⟩,g7⟩,⟨c1,c2,c3⟩,⟨i6,i7,i8⟩,hL⟩:=n
    simp only[cond_false]at c1 c2 c3;obtain⟨bI,bK,bM,aT⟩:=jS (.int .i64 x.1) (.slice W r.1.length X) (.slice Z V.1.length a0) c1 c2 c3;have aD:¬h.heap.size=a.heap.size:=H;have hO:¬a.heap.size+1=a.heap.size:=H;refine⟨((N.setCell ⟨a.heap.size,0,none⟩ (.int .i64 x.1)).setCell ⟨a.heap.size,1,none⟩ (.slice W r.1.length X)).setCell ⟨a.heap.size,2,none⟩ (.slice Z V.1.length a0),?_,⟨⟨aT.cellS g4 aD,aT.cellS g5 aD,aT.cellS g6 aD⟩,aT.cellS g7 hO⟩,⟨bI,bK,bM⟩,⟨(Az3 _ _ _ _).trans ((Az3 _ _ _ _).trans ((Az3 _ _ _ _).trans i6)),(Az3 _ _ _ _).trans ((Az3 _ _ _ _).trans ((Az3 _ _ _ _).trans i7)),(Az3 _ _ _ _).trans ((Az3 _ _ _ _).trans ((Az3 _ _ _ _).trans i8))⟩,hL.trans aT⟩;clear bI bK bM aT hL aD hO;go_simp
   ((try go_simp);refine i _ ?_;clear i e)
   (refine jC rfl (dd dE dE) λe i=>?_;apply Ay4;refine⟨λ_ N _ n=>?_,?_⟩;((have n:=n.2;clear n);go_simp;try with_reducible rfl);(try go_simp);refine i _ ?_;clear i e);(refine jC rfl (Cm (λ_ _ _ _ g=>g) dE) λe i=>?_;apply Ay4;refine⟨λ_ N _ n=>?_,?_⟩;(clear n;go_simp;try with_reducible rfl);(try go_simp);refine i _ ?_;clear i e);refine zW ?_;rintro j0 ⟨-,⟨bI,bK,bM⟩,-,e2⟩;simp only[cond_true]at bI bK bM;obtain⟨aV,-⟩:=bD.o.t.chg e2 (λa8 c=>by subst c;exact⟨H,H⟩) |>.rowsIn
   have hC:=(bD.o.t.chg e2 (λa8 c=>by subst c;exact⟨H,H⟩)).final cR;have fI:=(((eF.o.any (S:=λb=>a.heap.size<=b)).trans (b9.o.mono (T:=λb=>a.heap.size<=b) (λf _ c=>H))).trans (e2.mono (T:=λb=>a.heap.size<=b) (λf _ c=>H))).fresh;clear e2;go_wp2;exact bodyPost_ret (v:=.tuple #[.agg #[.int .i64 x.1,.slice W r.1.length X,.slice Z V.1.length a0],.int .i64 V.2.1,.int .i64 0]) (by simp[results,results113,go_sem,bI,bK,bM]) rfl (.inl ⟨by first|exact cA.o|(simp only[cA.o.1,cA.o.2];rfl),W,Z,X,⟨a0,rfl⟩,aV.lower H,hC.2.1.lower H,fI⟩)
theorem Cr (c:List Int) (v:Option Addr) (a6 b6 w:Nat) (b:World) (aM:BytesAt b a6 b6 c) (gK:0<c.length->v=some ⟨a6,b6,none⟩) (gO:c.length<=w) (gR:v=none->w=0) (jP:c.length<=100000) (f6:(xQ c aa).2.2=true) :
  Calls prog 113 #[.slice v c.length w] b λd b1=>(qA c aa=true/\∃hA h9 hB iO,d=.returned (.tuple #[.agg #[.int .i64 (xQ c aa).1.1,.slice hA (xQ c aa).1.2.1.length hB,.slice h9 (xQ c aa).1.2.2.length iO],.int .i64 (xQ c aa).2.1,.int .i64 0]) /\
   vW uW rowR b1 b.heap.size (hA,(xQ c aa).1.2.1.length,hB) (xQ c aa).1.2.1/\OfIn b1 b.heap.size h9 (xQ c aa).1.2.2/\Cf b b1) \/
   (qA c aa=false/\d=.returned (.tuple #[.agg #[.int .i64 0,.slice none 0 0,.slice none 0 0],.int .i64 0,.int .i64 4])/\Cf b b1):=by
 obtain⟨a9,c5⟩:=rK (b.alloc (.cells #[.int .i64 0,.slice none 0 0,.slice none 0 0] 194));have z:a9.heap.size=b.heap.size+1:=by rw[c5];simp
 have fH:G (Cf b a9):=jh (by rw[c5];exact rT);have aD:G (∀(k:Rd) (A:World),k.1<=c.length->J (λa=>b.heap.size+1<=a) a9 A->RdAt A (b.heap.size+1) (.slice v c.length w) k->Calls prog 151 #[.pointer (some ⟨b.heap.size+1,0,none⟩)] A λd b1=>d=.returned (.int .i64 (numP c 4294967295 k).1)/\RdAt b1 (b.heap.size+1) (.slice v c.length w) (numP c 4294967295 k).2/\J (λa=>a=b.heap.size+1) A b1):=jh (λk A n m aT =>
  nw c v a6 b6 w (b.heap.size+1) k A ((aM.chg fH.o iE).chg m (λb5 d=>by have:=aM.lt b5;omega)) gK gO gR H n aT)
 have hD:G (∀A,J (λa=>b.heap.size+1<=a) a9 A->(A.cell? ⟨b.heap.size,0,none⟩=some (.int .i64 0)/\A.cell? ⟨b.heap.size,1,none⟩=some (.slice none 0 0)/\A.cell? ⟨b.heap.size,2,none⟩=some (.slice none 0 0))/\∀a,A.frozen? ⟨b.heap.size,a,none⟩=false):=jh (λA a7=>by
  have b5:¬b.heap.size+1<=b.heap.size:=H
  subst c5;exact⟨⟨a7.cellS sI b5,a7.cellS sI b5,a7.cellS sI b5⟩,λa=>(a7.frozen (p:=⟨b.heap.size,a,none⟩) sI b5).trans (Az6 _ _ _ _)⟩)
 obtain⟨f8,d7⟩:=rK (a9.alloc (.cells #[.slice v c.length w,.int .i64 0,.bool false] 233));have hT:G (RdAt f8 (b.heap.size+1) (.slice v c.length w) (0,false)):=jh (by
  rw[<-z,d7];exact⟨by rw[Az5];rfl,by rw[Az5];rfl,by rw[Az5];rfl,λa=>Az6 _ _ _ _⟩)
 have fF:G (J (λa=>b.heap.size+1<=a) a9 f8):=jh (by rw[d7];exact rT);obtain⟨O,d3⟩:=rM (numP c 4294967295 (0,false));obtain⟨a4,d4⟩:=rM (numP c 4294967295 O.2);obtain⟨B,eO⟩:=rM (mJ c 4294967295 4294967295 a4.1 a4.2 []);obtain⟨a5,eP⟩:=rM (numP c 4294967295 B.2);obtain⟨V,eR⟩:=rM (ofP c 4294967295 a5.1 a5.2 []);have f5:xQ c aa=(((O.1:Int),B.1,V.1),V.2):=by
  unfold xQ;simp only[aa];rw[d3,d4,eO,eP,eR]
 have gH:V.2.2=true:=by rw[f5]at f6;exact f6
 skip
 have g2:=jh gH;clear gH f6;have c0:=yY (Z:=c) (m:=4294967295) (s:=(0,false)) (Ax9 _);rw[d3]at c0;have d5:=yY (m:=4294967295) c0.1;rw[d4]at d5;have hQ:=jh c0;have hS:=jh d5;have j7:=c0.2.1;have j8:=d5.2.1;obtain⟨hP,hR,bI,g1,bM,hZ,hY⟩:=sH d3 d4 eO eP eR c5 d7;unfold qA;rw[f5];simp only;clear aM gK gO gR c5 d7 d3 d4 eO eP eR f5 c0 d5;go_enter func113,ntmps113
 go_upto_region 1 with fail
 rw[<-hZ.o];go_upto_region 2 with fail
 rw[<-hY.o];clear z;go_wp2_with fail
 have dR:=jh (aD.o (0,false) f8 (Ax9 _) fF.o hT.o);rw[hP.o]at dR;refine dR.o.mono ?_;rintro d f ⟨rfl,f2,gM⟩;have e5:=jh (TkSt.box uW rowR f2 (O.1:Int) 194);have dK:=jh ((fF.o.trans (gM.mono (T:=λa=>b.heap.size+1<=a) (λe _ d=>H))).alloc (.cells #[.int .i64 (O.1:Int),.slice none 0 0,.slice none 0 0] 194));have jH:b.heap.size+1<f.heap.size:=f2.lt;have dZ:=jh (aD.o O.2 _ hQ.o.1 dK.o e5.o.r);rw[hR.o]at dZ;clear f2 gM dR;go_wp2_with fail
 refine dZ.o.mono ?_;rintro d jZ ⟨rfl,gZ,eV⟩;have fX:=jh (e5.o.read gZ eV);have fB:=jh (dK.o.trans (eV.mono (T:=λa=>b.heap.size+1<=a) (λe _ d=>H)));clear gZ eV e5 dK dZ;go_wp2
 go_loopw [8] (λL wr=>∃(o g:Nat) (k:Rd) (U:List RowD) (b0:Value),L=.int .i64 o/\o+g=a4.1/\TkSt uW rowR (b.heap.size+1) f.heap.size (f.heap.size+1) (.slice v c.length w) wr k O.1 U [] b0 (.slice none 0 0)/\k.1<=c.length/\(LenS U.length k/\LenB U)/\mJ c 4294967295 4294967295 g k U=B/\J (λa=>b.heap.size+1<=a) a9 wr) (λL _=>a4.1-(intOf L).toNat)
 .exact⟨0,a4.1,a4.2,[],_,rfl,H,fX.o,hS.o.1,⟨⟨Ax9 _,λ_=>Ax9 _⟩,λd8 f1=>by cases f1⟩,bI.o,fB.o⟩
 clear fX fB bI;obtain⟨o,g,k,U,b0,rfl,iI,z,y,⟨W,gP⟩,Q,aI⟩:=hrel;obtain⟨a2,aP,dP,fK,bI,Y⟩:=sF z y W gP Q aI;obtain⟨b7,cD,b8,rfl⟩:∃v iN w,b0=.slice v iN w:=by obtain⟨r,n,_⟩:=z.t.rows;exact n.shape3
 obtain⟨N,X⟩:=k;have P:=z.r.c2;simp only at P;have gF:U.length<=100001:=by have:=W.1;simp only at this y;omega
 clear z y Q aI W gP;by_cases K:0<g/\X=false
 .obtain⟨F,rfl⟩:=K
  obtain⟨t,rfl⟩:∃t,g=t+1:=⟨g-1,H⟩;have bT:=rO o a4.1;obtain⟨l,bX⟩:=rM (numP c 4294967295 (N,false));obtain⟨T,d0⟩:=rM (numP c 4294967295 l.2);obtain⟨j,Q⟩:=rM (sL c 4294967295 4294967295 T.1 T.2 0 []);have h1:rowP c 4294967295 4294967295 (N,false)=(((l.1:Int)-1,j.1),j.2):=by
   unfold rowP;rw[bX,d0,Q]
  have bZ:=yY (m:=4294967295) aP.o;rw[bX]at bZ;have d1:=yY (m:=4294967295) bZ.1;rw[d0]at d1;have dH:=jh bZ;have cK:=jh d1;have j4:=bZ.2.1;have j5:=d1.2.1;have e9:G (mJ c 4294967295 4294967295 t j.2 (U++[((l.1:Int)-1,j.1)])=B):=jh (by
   rw[<-bI.o,nA rfl,h1])
  skip
  obtain⟨iV,hH,bK,e0⟩:=sB bX d0 Q (aD.o (N,false) wr aP.o Y.o a2.o.r);rw[bX]at e0;clear bZ d1 bX d0 Q h1;go_wp2_with fail
  refine e0.o.mono ?_;rintro d q ⟨rfl,f3,eX⟩;have e7:=jh (a2.o.read f3 eX);have hF:=jh (Y.o.trans (eX.mono (T:=λa=>b.heap.size+1<=a) (λe _ d=>H)));have jK:f.heap.size+1<=q.heap.size:=(by have:=e7.o.t.lt;omega);have eF:=jh (CellSt.start uW f3 ((l.1:Int)-1) 236);have b3:G (J (λa=>a=b.heap.size+1\/q.heap.size<=a) q (q.alloc (.cells #[.int .i64 ((l.1:Int)-1),.slice none 0 0] 236))):=jh (rT);have cT:G (∀A,J (λa=>a=b.heap.size+1\/q.heap.size<=a) q A->J (λa=>b.heap.size+1<=a) a9 A):=jh (λA a7=>hF.o.trans (a7.mono (λe _ d=>H)));have e1:=jh (aD.o l.2 _ dH.o.1 (cT.o _ b3.o) eF.o.r);rw[hH.o]at e1;clear f3 eX P a2 Y e0;go_wp2_with fail
  refine e1.o.mono ?_;rintro d a8 ⟨rfl,c2,aX⟩;have g4:=jh (eF.o.read c2 aX);have aO:=jh (b3.o.trans (aX.mono (T:=λa=>a=b.heap.size+1\/q.heap.size<=a) (λe _ d=>.inl d)));clear c2 aX eF b3 e1;go_wp2
  go_loopw [11,12] (λiP L wr=>∃(e g:Nat) (k:Rd) (r:Int) (s:List (Int×Int)) (b0:Value),iP=.int .i64 r/\L=.int .i64 e/\e+g=T.1/\CellSt uW (b.heap.size+1) q.heap.size (.slice v c.length w) wr ((l.1:Int)-1) k s b0/\k.1<=c.length/\((0<=r/\r<=(s.length:Int) * 4294967296)/\LenS s.length k)/\sL c 4294967295 4294967295 g k r s=j/\N<=k.1/\(k.2=true\/N<k.1)/\J (λa=>a=b.heap.size+1\/q.heap.size<=a) q wr) (λ_ L _=>T.1-(intOf L).toNat)
  case atStart=>exact⟨0,T.1,T.2,0,[],_,rfl,rfl,H,g4.o,cK.o.1,⟨⟨H,sI⟩,⟨Ax9 _,λ_=>Ax9 _⟩⟩,bK.o,by have n:N<=l.2.1:=dH.o.2.2.2.1;have m:l.2.1<=T.2.1:=cK.o.2.2.2.1;omega,by
   rcases dH.o.2.2.2.2.2 with h|h
   .exact .inl (cK.o.2.2.2.2.1 h)
   have n:N<l.2.1:=h;have m:l.2.1<=T.2.1:=cK.o.2.2.2.1;exact .inr H,aO.o⟩
  case round =>
   clear g4 aO bK;obtain⟨e,g,k,r,s,b0,rfl,rfl,jO,z,y,⟨⟨jB,jD⟩,W⟩,Q,h4,h5,aI⟩:=hrel;obtain⟨aF,e4,hM,bK,bF,cO⟩:=sF z y W Q aI (And.intro h4 h5);obtain⟨a1,iT,aB,rfl⟩:=z.f.own.shape3;obtain⟨f7,c8⟩:=k;have P:=z.r.c2;simp only at P;have jF:s.length<=100001:=(by have:=W.1;simp only at this y;omega);clear z y Q aI W h4 h5;by_cases K:0<g/\c8=false
   .obtain⟨F,rfl⟩:=K
    obtain⟨h8,rfl⟩:∃t,g=t+1:=⟨g-1,H⟩;have eI:=rO e T.1;obtain⟨i,a0⟩:=rM (numP c 4294967295 (f7,false));obtain⟨D,d2⟩:=rM (numP c 4294967295 i.2);have C:=yY (m:=4294967295) e4.o;rw[a0]at C;have aH:=yY (m:=4294967295) C.1;rw[d2]at aH;have e2:=jh C;have hL:=jh aH;have iC:=C.2.1;have j6:=aH.2.1;have hV:G (sL c 4294967295 4294967295 h8 D.2 (r+i.1) (s++[(r+i.1,(D.1:Int)-1)])=j):=jh (by
     rw[<-bK.o,rL rfl,a0,d2])
    have dM:G (LenS (s++[(r+(i.1:Int),(D.1:Int)-1)]).length D.2):=jh (by
     rw[Az];exact hM.o.next rfl (Ay2 C.2.2.2.1 aH.2.2.2.1) (C.2.2.2.2.2.elim (λh=>.inl (aH.2.2.2.2.1 h)) (λh=>.inr (Ay9 h aH.2.2.2.1))))
    have fV:G (N<=D.2.1/\(D.2.2=true\/N<D.2.1)):=jh (by
     have n:=cO.o.1;have m:=C.2.2.2.1;have aT:=aH.2.2.2.1;simp only at n m;refine⟨H,?_⟩;rcases cO.o.2 with h|h
     .cases h
     simp only at h;exact .inr H)
    have jV:IntKind.i64.wrap ((D.1:Int)-1)=(D.1:Int)-1:=(by rw[IntKind.wrap_i64];omega);obtain⟨iX,hK,dT⟩:=rZ a0 d2 (aD.o (f7,false) wr e4.o (cT.o _ bF.o) aF.o.r);rw[a0]at dT;clear C aH a0 d2;go_wp2_with fail
    refine dT.o.mono ?_;rintro d cH ⟨rfl,c3,aY⟩;have i0:=jh (aF.o.read c3 aY);have hG:=jh (bF.o.trans (aY.mono (T:=λa=>a=b.heap.size+1\/q.heap.size<=a) (λe _ d=>.inl d)));clear c3 aY aF bF P dT;go_upto_region 14 with fail
    obtain⟨E,aZ⟩:=rK cH.drew;have eD:G (cH.drew=E):=jh aZ.symm;have bO:G (Cf cH E):=jh (by rw[aZ];exact (J.refl _ _).drew);have eH:=jh (i0.o.same bO.o);have fD:=jh (hG.o.trans bO.o.any);have dU:=jh (aD.o i.2 E e2.o.1 (cT.o _ fD.o) eH.o.r);rw[hK.o]at dU;clear aZ;refine zC (λb9=>J (λa=>a=b.heap.size+1\/q.heap.size+1<=a) E b9) (λo=>decide (o=10)) M ?_;show yC _ _ _ _ _ _ 11 (Array.replicate 11 false) _ cH.drew;rw[eD.o];have u:G (J (λa=>a=b.heap.size+1\/q.heap.size+1<=a) E E):=jh cR;have f0:¬(q.heap.size=b.heap.size+1\/q.heap.size+1<=q.heap.size):=H;refine lq 0 u.o ?_;(refine lf 1 u.o (λ_ eM=>eM.cellS eH.o.f.c f0) ?_);refine lq 2 u.o ?_;refine lq 3 u.o ?_;refine zY (i:=4) M rfl rfl 151 #[.pointer (some ⟨b.heap.size+1,0,none⟩)] (λc9 cF=>c9=.int .i64 D.1/\RdAt cF (b.heap.size+1) (.slice v c.length w) D.2/\J (λa=>a=b.heap.size+1) E cF) (by go_simp) ?_ ?_
    .refine dU.o.mono ?_
     rintro d b2 ⟨rfl,n,m⟩;exact⟨_,rfl,λ_=>u.o.trans (m.mono (λe _ d=>.inl d)),rfl,n,m⟩
    rintro c9 b2 h3 ⟨rfl,h0,eZ⟩ g F;obtain⟨u,i1,hE⟩:=rZ (h3 dE) (eH.o.read h0 eZ) (fD.o.trans (eZ.mono (T:=λa=>a=b.heap.size+1\/q.heap.size<=a) (λe _ d=>.inl d)));clear h3 h0 eZ dU;(try go_simp)
    refine F _ ?_;clear F g;have bP:=jh (i1.o.same ((FR b2).alloc (.cells #[.int .i64 (r+i.1),.int .i64 ((D.1:Int)-1)] 238)));have hC:G (q.heap.size+1<=(b2.alloc (.cells #[.int .i64 (r+i.1),.int .i64 ((D.1:Int)-1)] 238)).heap.size):=jh (by have:=bP.o.f.lt;omega);have fM:G (∀b9∈[(r+(i.1:Int),(D.1:Int)-1)],uW.ok b9):=jh (by
     intro b9 a7;rw[Ay]at a7;subst a7;exact⟨⟨by show -9223372036854775808<=r+(i.1:Int);omega,by show r+(i.1:Int)<=9223372036854775807;omega⟩,⟨by show -9223372036854775808<=(D.1:Int)-1;omega,by show (D.1:Int)-1<=9223372036854775807;omega⟩⟩)
    refine lq 5 u.o ?_;refine lq 6 u.o ?_;refine lt 7 (λ_=>u.o.alloc _) ?_;refine yQ (i:=8) M rfl rfl (.tmp 58) (.tmp 64) 234 234 rfl (.slice a1 iT aB) (.slice (some ⟨b2.heap.size,0,none⟩) 1 1) rfl rfl (λR x=>uW.Own x (q.heap.size+1) R (s++[(r+(i.1:Int),(D.1:Int)-1)])/\J (λa=>q.heap.size+1<=a) (b2.alloc (.cells #[.int .i64 (r+i.1),.int .i64 ((D.1:Int)-1)] 238)) x) ?_ ?_
    .obtain⟨R,x,f4,n,m,-⟩:=bP.o.f.own.append hC.o 234 (.slice (some ⟨b2.heap.size,0,none⟩) 1 1) [(r+(i.1:Int),(D.1:Int)-1)] (uW.srcLit 1 fM.o) fM.o sO 234
     exact⟨R,x,f4,λ_=>(u.o.alloc _).trans (m.mono (λe _ d=>.inr d)),n,m⟩
    rintro R x y ⟨n,m⟩ g F;obtain⟨dB,dF,dD,c4⟩:=n.shape3;subst c4;obtain⟨⟨h6,h7⟩,aK,b4⟩:=bP.o.add n m;obtain⟨bH,bB,e3⟩:=rZ aK (hE.o.trans ((((J.refl (λe=>q.heap.size<=e) b2).alloc (.cells #[.int .i64 (r+i.1),.int .i64 ((D.1:Int)-1)] 238)).trans b4).mono (T:=λa=>a=b.heap.size+1\/q.heap.size<=a) (λe _ d=>.inr d))) (y dE);clear aK n m y b4;(try go_simp)
    refine F _ ?_;clear F g;refine lt 9 (λ_=>e3.o) ?_;refine ld 10 ?_;refine zQ M ?_ _;go_wp2;go_roundw
    .exact⟨e+1,h8,D.2,r+i.1,_,_,rfl,GN,H,bH.o,hL.o.1,⟨⟨H,sO⟩,dM.o⟩,hV.o,fV.o.1,fV.o.2,bB.o⟩
    simp[intOf];omega
   have c1:decide ((e:Int)<(T.1:Int))=false\/(decide ((e:Int)<(T.1:Int))=true/\c8=true):=by
    rcases Ax6 g with h|h
    .exact .inl sO
    exact .inr ⟨sO,by cases c8;exact absurd ⟨h,rfl⟩ K;rfl⟩
   have eB:G (j=(s,f7,c8)):=jh (by
    rw[<-bK.o]
    apply pA
    rcases Ax6 g with h|h
    .exact .inr h
    exact .inl (by cases c8;exact absurd ⟨h,rfl⟩ K;rfl))
   clear K;rcases c1 with eI|⟨eI,rfl⟩
   all_goals
    have i3:=eI;simp only[Int.ofNat_lt]at i3;have hW:G (RdAt wr (b.heap.size+1) (.slice v c.length w) j.2):=jh (by rw[eB.o];exact aF.o.r);have hI:=jh (bF.o.mono (T:=λa=>a=b.heap.size+1) (λe jM d=>H));have fZ:=jh (e7.o.read hW.o hI.o);have g0:G (j.1=s):=jh (by rw[eB.o]);have fT:G (j.2.1<=c.length/\LenS (U++[((l.1:Int)-1,j.1)]).length j.2/\LenB (U++[((l.1:Int)-1,j.1)])):=jh (by
     rw[eB.o,Az];exact⟨e4.o,dP.o.next rfl cO.o.1 cO.o.2,fK.o.add (by show s.length<=_;omega)⟩)
    obtain⟨k2,k4,k3,iM,iJ,-,-⟩:=aF.o.f.own.at';injection iM with i4 i5 i6;subst i4 i5 i6;have k0:=aF.o.c;have k1:=aF.o.f.c;have j1:=fZ.o.t.c1;have aR:=jh (fZ.o.same ((FR wr).alloc (.cells #[.int .i64 ((l.1:Int)-1),.slice a1 s.length aB] 236)));have fI:=jh (aF.o.f.own.in' iJ);have f9:G (I.Byte ((l.1:Int)-1)):=jh ⟨H,H⟩;have i2:G (kU uW (wr.alloc (.cells #[.int .i64 ((l.1:Int)-1),.slice a1 s.length aB] 236)) (f.heap.size+1) ((l.1:Int)-1,a1,s.length,aB) ((l.1:Int)-1,j.1)):=jh ⟨rfl,f9.o,by rw[g0.o];exact (fI.o.lower H).same (rT)⟩;have bP:G (0<j.1.length->∀a6 b6,a1=some ⟨a6,b6,none⟩->(Value.slice b7 cD b8).ownBlock≠some a6/\(Value.slice none 0 0).ownBlock≠some a6/\f.heap.size+1<=a6):=jh (λgX a6 b6 iH=>by
     rw[g0.o]at gX;obtain⟨_,_,j2,jX,-,bV⟩:=fI.o;obtain⟨aV,j3⟩:=bV gX;simp only at aV;rw[iH]at aV;injection aV with aV;injection aV with aV;subst aV;obtain⟨r,iB,_⟩:=e7.o.t.rows;exact⟨λd=>by have:=(iB.blk d).2;omega,(λd=>by cases d),H⟩)
    obtain⟨g6,gI,eT,-⟩:=aR.o.t.rows;have cV:=jh gI;have iY:=jh eT;have fP:G (∀cI∈[((l.1:Int)-1,a1,s.length,aB)],rowR.ok cI):=jh (by intro cI c6;rw[Ay]at c6;subst c6;exact f9.o);have dI:G (f.heap.size+1<=(wr.alloc (.cells #[.int .i64 ((l.1:Int)-1),.slice a1 s.length aB] 236)).heap.size):=jh aR.o.t.lt;have dO:G (g6.length+1<=1000000000000):=jh (by rw[eT];omega);clear gI eT;go_wp2_with (at_builtin;refine Elt.wpList_append2 rowR rfl (.tmp 68) (.tmp 70) 192 192 rfl rfl (f.heap.size+1) (.slice b7 cD b8) g6 [((l.1:Int)-1,a1,s.length,aB)] (.slice (some ⟨wr.heap.size,0,none⟩) 1 1) rfl rfl cV.o dI.o (rowR.srcLit 1 fP.o) fP.o dO.o ?_;intro R x g5 iZ cX;obtain⟨dB,dF,dD,c4⟩:=g5.out.shape3;subst c4;obtain⟨⟨h6,h7⟩,aK,b4⟩:=aR.o.t.addRow i2.o bP.o (λj0 iG _=>(by rw[fS iG cV.o];exact g5.out)) cX.out.1 (cX.out.2.imp id Or.inl);have bD:G (J (λe=>e=f.heap.size\/f.heap.size+1<=e) (wr.alloc (.cells #[.int .i64 ((l.1:Int)-1),.slice a1 s.length aB] 236)) (x.setCell ⟨f.heap.size,1,none⟩ (.slice dB dF dD))):=jh ((cX.out.1.mono (λe _ d=>.inr ((cV.o.blk d).1))).trans ((zA x f.heap.size 1 _).mono (λe _ d=>.inl d)));have c7:x.frozen? ⟨f.heap.size,0,none⟩=false:=(cX.out.1.frozen (p:=⟨f.heap.size,0,none⟩) aR.o.t.lt (λd=>by have h:f.heap.size+1<=f.heap.size:=(cV.o.blk d).1;omega)).trans aR.o.z0;have bH:=jh (aR.o.store aK (aR.o.r.chg bD.o H) ((Az3 _ _ _ _).trans c7));have bB:=jh (((cT.o wr bF.o).alloc (.cells #[.int .i64 ((l.1:Int)-1),.slice a1 s.length aB] 236)).trans (bD.o.mono (T:=λa=>b.heap.size+1<=a) (λe _ d=>H)));clear aK b4 c7)
    go_roundw
    .exact⟨o+1,t,j.2,U++[((l.1:Int)-1,j.1)],_,GN,H,bH.o,fT.o.1,fT.o.2,e9.o,bB.o⟩
    simp[intOf];omega
 have c1:decide ((o:Int)<(a4.1:Int))=false\/(decide ((o:Int)<(a4.1:Int))=true/\X=true):=by
  rcases Ax6 g with h|h
  .exact .inl sO
  exact .inr ⟨sO,by cases X;exact absurd ⟨h,rfl⟩ K;rfl⟩
 have cM:G (B=(U,N,X)):=jh (by
  rw[<-bI.o]
  apply mS
  rcases Ax6 g with h|h
  .exact .inr h
  exact .inl (by cases X;exact absurd ⟨h,rfl⟩ K;rfl))
 clear K;rcases c1 with bT|⟨bT,rfl⟩
 all_goals
  have g7:=bT;simp only[Int.ofNat_lt]at g7;go_upto_region 16 with fail
  have jI:=jh bT;clear P bT g7;have e6:G (TkSt uW rowR (b.heap.size+1) f.heap.size (f.heap.size+1) (.slice v c.length w) wr B.2 O.1 B.1 [] (.slice b7 cD b8) (.slice none 0 0)):=jh (by rw[cM.o];exact a2.o);have fR:G (B.2.1<=c.length):=jh (by rw[cM.o];exact aP.o);have gF:B.1.length<=100001:=(by rw[cM.o];exact gF);have dO:G (∀d8∈B.1,d8.2.length<=1000000000):=jh (by rw[cM.o];intro d8 f1;have:=fK.o d8 f1;omega);have d6:=yY (m:=4294967295) fR.o;rw[g1.o]at d6;have hX:=jh d6;have j9:=d6.2.1;have dV:=jh (aD.o B.2 wr fR.o Y.o e6.o.r);rw[g1.o]at dV;clear d6;go_wp2_with fail
  refine dV.o.mono ?_;rintro d cH ⟨rfl,c3,aY⟩;have cP:=jh (e6.o.read c3 aY);have aO:=jh (Y.o.trans (aY.mono (T:=λa=>b.heap.size+1<=a) (λe _ d=>H)));clear c3 aY dV e6 a2 Y;go_wp2
  go_loopw [14] (λL wr=>∃(o g:Nat) (k:Rd) (Z:List Int) (c9:Value),L=.int .i64 o/\o+g=a5.1/\TkSt uW rowR (b.heap.size+1) f.heap.size (f.heap.size+1) (.slice v c.length w) wr k O.1 B.1 Z (.slice b7 cD b8) c9/\k.1<=c.length/\LenS Z.length k/\ofP c 4294967295 g k Z=V/\J (λa=>b.heap.size+1<=a) a9 wr) (λL _=>a5.1-(intOf L).toNat)
  .exact⟨0,a5.1,a5.2,[],_,rfl,H,cP.o,hX.o.1,⟨Ax9 _,λ_=>Ax9 _⟩,bM.o,aO.o⟩
  clear cP aO bM;obtain⟨o,g,k,Z,c9,rfl,iI,z,y,W,Q,aI⟩:=hrel;obtain⟨a2,aP,dP,bM,Y⟩:=sD z y W Q aI;obtain⟨cA,d9,cB,rfl⟩:=z.t.of.shape3;obtain⟨N,X⟩:=k;have P:=z.r.c2;simp only at P;have gD:Z.length<=100001:=(by have:=W.1;simp only at this y;omega);clear z y Q aI W;by_cases K:0<g/\X=false
  .obtain⟨F,rfl⟩:=K
   obtain⟨t,rfl⟩:∃t,g=t+1:=⟨g-1,H⟩;have cZ:=rO o a5.1;obtain⟨i,a0⟩:=rM (numP c 4294967295 (N,false));have C:=yY (m:=4294967295) aP.o;rw[a0]at C;have e2:=jh C;have iC:=C.2.1;have e9:G (ofP c 4294967295 t i.2 (Z++[(i.1:Int)])=V):=jh (by
    rw[<-bM.o,gY rfl,a0])
   have dM:G (LenS (Z++[(i.1:Int)]).length i.2):=jh (by
    rw[Az];exact dP.o.next rfl C.2.2.2.1 C.2.2.2.2.2)
   have hO:=jh a0;clear C a0;go_upto_region 20 with fail
   obtain⟨E,aZ⟩:=rK wr.drew;have eD:G (wr.drew=E):=jh aZ.symm;have bO:G (Cf wr E):=jh (by rw[aZ];exact (J.refl _ _).drew);have e8:=jh (a2.o.same bO.o);have b3:=jh (Y.o.trans bO.o.any);clear aZ P;refine zC (λb9=>J (λa=>a=b.heap.size+1\/f.heap.size+1<=a) E b9) (λo=>decide (o=7)) M ?_;show yC _ _ _ _ _ _ 8 (Array.replicate 8 false) _ wr.drew;rw[eD.o];have u:G (J (λa=>a=b.heap.size+1\/f.heap.size+1<=a) E E):=jh cR;have f0:¬(f.heap.size=b.heap.size+1\/f.heap.size+1<=f.heap.size):=H;have dX:=jh (aD.o (N,false) E aP.o b3.o e8.o.r);rw[hO.o]at dX;refine lq 0 u.o ?_;(refine lf 1 u.o (λ_ eM=>eM.cellS e8.o.t.c2 f0) ?_);refine lq 2 u.o ?_;refine zY (i:=3) M rfl rfl 151 #[.pointer (some ⟨b.heap.size+1,0,none⟩)] (λL cF=>L=.int .i64 i.1/\RdAt cF (b.heap.size+1) (.slice v c.length w) i.2/\J (λa=>a=b.heap.size+1) E cF) (by go_simp) ?_ ?_
   .refine dX.o.mono ?_
    rintro d a8 ⟨rfl,n,m⟩;exact⟨_,rfl,λ_=>u.o.trans (m.mono (λe _ d=>.inl d)),rfl,n,m⟩
   rintro L a8 h2 ⟨rfl,c2,aX⟩ g F;obtain⟨u,cP,aO⟩:=rZ (h2 dE) (e8.o.read c2 aX) (b3.o.trans (aX.mono (T:=λa=>b.heap.size+1<=a) (λe _ d=>H)));clear h2 c2 aX dX;(try go_simp)
   refine F _ ?_;clear F g;have a3:=jh (cP.o.same ((FR a8).alloc (.cells #[.int .i64 i.1] 3)));have fO:G (∀cI∈[(i.1:Int)],intE.ok cI):=jh (by intro cI c6;rw[Ay]at c6;subst c6;exact⟨H,H⟩);have dI:G (f.heap.size+1<=(a8.alloc (.cells #[.int .i64 i.1] 3)).heap.size):=jh a3.o.t.lt;refine lt 4 (λ_=>u.o.alloc _) ?_;refine yQ (i:=5) M rfl rfl (.tmp 88) (.tmp 91) 25 25 rfl (.slice cA d9 cB) (.slice (some ⟨a8.heap.size,0,none⟩) 1 1) rfl rfl (λR x=>intE.Own x (f.heap.size+1) R (Z++[(i.1:Int)])/\J (λe=>(Value.slice cA d9 cB).ownBlock=some e) (a8.alloc (.cells #[.int .i64 i.1] 3)) x/\(R.ownBlock=(Value.slice cA d9 cB).ownBlock\/R.ownBlock=some (a8.alloc (.cells #[.int .i64 i.1] 3)).heap.size)) ?_ ?_
   .obtain⟨R,x,f4,n,m,⟨aT,bV⟩,-⟩:=a3.o.t.of.append dI.o 25 (.slice (some ⟨a8.heap.size,0,none⟩) 1 1) [(i.1:Int)] (intE.srcLit 1 fO.o) fO.o sO 25
    exact⟨R,x,f4,λ_=>(u.o.alloc _).trans (m.mono (λe _ d=>.inr d)),n,aT,bV⟩
   rintro R x y ⟨n,m,aT⟩ g F;obtain⟨dB,dF,dD,c4⟩:=n.shape3;subst c4;obtain⟨⟨h6,h7⟩,aK,b4⟩:=a3.o.t.addOf n m (aT.imp id Or.inl);have bD:G (J (λe=>e=f.heap.size\/f.heap.size+1<=e) (a8.alloc (.cells #[.int .i64 i.1] 3)) (x.setCell ⟨f.heap.size,2,none⟩ (.slice dB dF dD))):=jh ((m.mono (λe _ d=>.inr ((a3.o.t.of.blk d).1))).trans ((zA x f.heap.size 2 _).mono (λe _ d=>.inl d)));have c7:x.frozen? ⟨f.heap.size,0,none⟩=false:=(m.frozen (p:=⟨f.heap.size,0,none⟩) a3.o.t.lt (λd=>by have h:f.heap.size+1<=f.heap.size:=(a3.o.t.of.blk d).1;omega)).trans a3.o.z0;obtain⟨bH,bB,e3⟩:=rZ (a3.o.store aK (a3.o.r.chg bD.o H) ((Az3 _ _ _ _).trans c7)) ((aO.o.alloc (.cells #[.int .i64 i.1] 3)).trans (bD.o.mono (T:=λa=>b.heap.size+1<=a) (λe _ d=>H))) (y dE);clear aK n m aT y b4 c7;(try go_simp)
   refine F _ ?_;clear F g;refine lt 6 (λ_=>e3.o) ?_;refine ld 7 ?_;refine zQ M ?_ _;go_wp2;go_roundw
   .exact⟨o+1,t,i.2,Z++[(i.1:Int)],_,GN,H,bH.o,e2.o.1,dM.o,e9.o,bB.o⟩
   simp[intOf];omega
  have c1:decide ((o:Int)<(a5.1:Int))=false\/(decide ((o:Int)<(a5.1:Int))=true/\X=true):=by
   rcases Ax6 g with h|h
   .exact .inl sO
   exact .inr ⟨sO,by cases X;exact absurd ⟨h,rfl⟩ K;rfl⟩
  have g3:G (V=(Z,N,X)):=jh (by
   rw[<-bM.o]
   apply eC
   rcases Ax6 g with h|h
   .exact .inr h
   exact .inl (by cases X;exact absurd ⟨h,rfl⟩ K;rfl))
  clear K;rcases c1 with cZ|⟨cZ,rfl⟩
  all_goals
   have g8:=cZ;simp only[Int.ofNat_lt]at g8;go_upto_region 21 with fail
   clear P cZ g8;have cS:G (TkSt uW rowR (b.heap.size+1) f.heap.size (f.heap.size+1) (.slice v c.length w) wr V.2 O.1 B.1 V.1 (.slice b7 cD b8) (.slice cA d9 cB)):=jh (by rw[g3.o];exact a2.o);have gD:V.1.length<=100001:=(by rw[g3.o];exact gD);obtain⟨-,iL,jR⟩:=cS.o.t.rowsIn;obtain⟨-,gT,-,iK,-,jT⟩:=cS.o.t.final cR;subst iL iK;obtain⟨iA,gS,gV⟩:=gT.bytes;have hN:=jh (iw O.1 B.1 V.1 b7 cA b8 cB _ iA 0 wr ⟨H,H⟩ cS.o.t.rowsIn.1 H dO.o gS gV H);obtain⟨iU,eK⟩:=rM (mayL ((O.1:Int),B.1,V.1));rw[eK]at hN;have P:=cS.o.r.c2;have iW:=jh eK;clear gS gV gT eK a2 aP;have hU:G ((!V.2.2 && mayL ((O.1:Int),B.1,V.1))=false):=jh (by rw[g2.o];rfl);rw[g2.o]at P;obtain⟨⟨iQ,iR,iS⟩,aM⟩:=hD.o wr Y.o;have k5:=aM 0;have k6:=aM 1;have k7:=aM 2;clear aM;go_wp2;obtain⟨i7,i8,i9,g9⟩:=jS (.int .i64 0) (.slice none 0 0) (.slice none 0 0) iQ iR iS;have bV:=(((fH.o.any (S:=λa=>b.heap.size<=a)).trans (Y.o.mono (T:=λa=>b.heap.size<=a) (λe _ d=>H))).trans (g9.mono (T:=λa=>b.heap.size<=a) (λe _ d=>H))).fresh;clear g9
   generalize ((wr.setCell ⟨b.heap.size,0,none⟩ (.int .i64 0)).setCell ⟨b.heap.size,1,none⟩ (.slice none 0 0)).setCell ⟨b.heap.size,2,none⟩ (.slice none 0 0)=WW at *
   exact bodyPost_ret (v:=.tuple #[.agg #[.int .i64 0,.slice none 0 0,.slice none 0 0],.int .i64 0,.int .i64 4]) (by simp[results,results113,go_sem,i7,i8,i9]) rfl (.inr ⟨hU.o,rfl,bV⟩)
theorem Cu (a:List Int) (c:Option Addr) (e f d:Nat) (b:World) (n:BytesAt b e f a) (j:0<a.length->c=some ⟨e,f,none⟩) (k:a.length<=d) (m:c=none->d=0) (l:a.length<=100000) :
  Calls prog 113 #[.slice c a.length d] b λh g=>(qA a aa=true/\∃p o q r,h=.returned (.tuple #[.agg #[.int .i64 (xQ a aa).1.1,.slice p (xQ a aa).1.2.1.length q,.slice o (xQ a aa).1.2.2.length r],.int .i64 (xQ a aa).2.1,.int .i64 0]) /\
   vW uW rowR g b.heap.size (p,(xQ a aa).1.2.1.length,q) (xQ a aa).1.2.1/\OfIn g b.heap.size o (xQ a aa).1.2.2/\Cf b g) \/
   (qA a aa=false/\h=.returned (.tuple #[.agg #[.int .i64 0,.slice none 0 0,.slice none 0 0],.int .i64 0,.int .i64 4])/\Cf b g):=by
 cases i:(xQ a aa).2.2 with
 | false=>exact Co a c e f d b n j k m l i
 | true=>exact Cr a c e f d b n j k m l i
theorem Cv (e h c:Int) (b:List RowD) (d:List Int) (x v:Option Addr) (s w S t u:Nat) (i:World) (aX:I.Byte e) (b0:I.Byte h) (aZ:I.Byte c) (a1:vW uW rowR i S (x,b.length,s) b) (a3:∀P∈b,P.2.length<=1000000000)
  (a0:I.BytesAt i t u d) (a2:0<d.length->v=some ⟨t,u,none⟩) (b7:d.length<=100000000) :
  Calls prog 114 #[.agg #[.int .i64 e,.slice x b.length s,.slice v d.length w],.int .i64 h,.int .i64 c] i λX a=>X=.returned (.int .i64 (eQ (e,b,d) h c))/\Cf i a:=by
 obtain⟨aD,aB,a6,a8⟩:=sB a1 a0 a2 a3;obtain⟨j,q⟩:=rK ((i.alloc (.cells #[.int .i64 e,.slice x b.length s,.slice v d.length w] 194)).drew);have k:G (Cf i j):=V (by rw[q];exact (rT).drew);have aI:j.cell? ⟨i.heap.size,0,none⟩=some (.int .i64 e):=by rw[q];simp
 have T:j.cell? ⟨i.heap.size,1,none⟩=some (.slice x b.length s):=by rw[q];simp
 have U:j.cell? ⟨i.heap.size,2,none⟩=some (.slice v d.length w):=by rw[q];simp
 have l:=V q;obtain⟨_,_⟩:=aX;obtain⟨_,_⟩:=b0;obtain⟨_,_⟩:=aZ;clear a1 a0 a2 a3 q;by_cases C:h<0
 .have aK:decide (h<0)=true:=by simpa using C
  have o:=V (fJ (W:=e) (R:=b) (O:=d) (i:=c) (.inl C));go_enter func114,ntmps114
  go_upto_region 1 with fail
  refine zS (λa=>a=j) M M ?_ ?_
  .rw[l.o]
  iterate 3 (refine rI ?_)
  iterate 5 (refine sq ?_)
  iterate 2 (refine rI ?_)
  iterate 2 (refine sq ?_)
  iterate 2 (refine rI ?_)
  iterate 4 (refine sq ?_)
  iterate 2 (refine rI ?_)
  iterate 6 (refine sq ?_)
  iterate 2 (refine rI ?_)
  iterate 9 (refine sq ?_)
  iterate 1 (refine rI ?_)
  refine zW ?_;rintro a rfl;go_wp2;go_ret
  exact⟨by rw[o.o];rfl,k.o⟩
 have aK:decide (h<0)=false:=by simpa using C
 obtain⟨g,rfl⟩:=Ax3 (show 0<=h by omega);by_cases b3:d.length<=g
 .have aM:decide ((d.length:Int)<=(g:Int))=true:=by simp;omega
  have o:=V (fJ (W:=e) (R:=b) (O:=d) (i:=c) (l:=(g:Int)) (.inr (.inl H)));go_enter func114,ntmps114
  go_upto_region 1 with fail
  refine zS (λa=>a=j) M M ?_ ?_
  .rw[l.o]
  iterate 10 (refine rI ?_)
  iterate 2 (refine sq ?_)
  iterate 2 (refine rI ?_)
  iterate 4 (refine sq ?_)
  iterate 2 (refine rI ?_)
  iterate 6 (refine sq ?_)
  iterate 2 (refine rI ?_)
  iterate 9 (refine sq ?_)
  iterate 1 (refine rI ?_)
  refine zW ?_;rintro a rfl;go_wp2;go_ret
  exact⟨by rw[o.o];rfl,k.o⟩
 have aM:decide ((d.length:Int)<=(g:Int))=false:=by simp;omega
 by_cases E:c<0
 .have aO:decide (c<0)=true:=by simpa using E
  have o:=V (fJ (W:=e) (R:=b) (O:=d) (i:=c) (l:=(g:Int)) (.inr (.inr (.inl E))));go_enter func114,ntmps114
  go_upto_region 1 with fail
  refine zS (λa=>a=j) M M ?_ ?_
  .rw[l.o]
  iterate 14 (refine rI ?_)
  iterate 4 (refine sq ?_)
  iterate 2 (refine rI ?_)
  iterate 6 (refine sq ?_)
  iterate 2 (refine rI ?_)
  iterate 9 (refine sq ?_)
  iterate 1 (refine rI ?_)
  refine zW ?_;rintro a rfl;go_wp2;go_ret
  exact⟨by rw[o.o];rfl,k.o⟩
 have aO:decide (c<0)=false:=by simpa using E
 by_cases F:e<=c
 .have aP:decide (e<=c)=true:=by simpa using F
  have o:=V (fJ (W:=e) (R:=b) (O:=d) (i:=c) (l:=(g:Int)) (.inr (.inr (.inr F))));go_enter func114,ntmps114
  go_upto_region 1 with fail
  refine zS (λa=>a=j) M M ?_ ?_
  .rw[l.o]
  iterate 20 (refine rI ?_)
  iterate 6 (refine sq ?_)
  iterate 2 (refine rI ?_)
  iterate 9 (refine sq ?_)
  iterate 1 (refine rI ?_)
  refine zW ?_;rintro a rfl;go_wp2;go_ret
  exact⟨by rw[o.o];rfl,k.o⟩
 have aP:decide (e<=c)=false:=by simpa using F
 obtain⟨n,a4,W,b8,b9⟩:=(aB.o.chg k.o iE).get (k:=g) H;have aV:=a6.o H;subst aV;have p:=V (mc (W:=e) (R:=b) (i:=c) (l:=g) H a4);have b5:g<d.length:=H;clear a4;by_cases K:n<0
 .have aR:decide (n<0)=true:=by simpa using K
  rw[if_pos (.inl K)]at p;go_enter func114,ntmps114
  go_upto_region 1 with fail
  refine zS (λa=>a=j) M M ?_ ?_
  .rw[l.o]
  iterate 28 (refine rI ?_)
  iterate 9 (refine sq ?_)
  iterate 1 (refine rI ?_)
  refine zW ?_;rintro a rfl;go_wp2;go_ret
  exact⟨by rw[p.o];rfl,k.o⟩
 have aR:decide (n<0)=false:=by simpa using K
 obtain⟨m,rfl⟩:=Ax3 (show 0<=n by omega);by_cases b4:b.length<=m
 .have aT:decide ((b.length:Int)<=(m:Int))=true:=by simp;omega
  rw[if_pos (.inr H)]at p;go_enter func114,ntmps114
  go_upto_region 1 with fail
  refine zS (λa=>a=j) M M ?_ ?_
  .rw[l.o]
  iterate 38 (refine rI ?_)
  refine zW ?_;rintro a rfl;go_wp2;go_ret
  exact⟨by rw[p.o];rfl,k.o⟩
 have aT:decide ((b.length:Int)<=(m:Int))=false:=by simp;omega
 obtain⟨P,B,O,Q,R,N,rfl,z,A,a5,L,-,-⟩:=(aD.o.same k.o).get D (λ_=>rfl) (show m<b.length by omega);obtain⟨rd,y⟩:=P;simp only at z A L a5;rw[if_neg H,Ay5,N]at p;have a9:=V L;have aF:=V (a8.o _ (Az1 N));have b6:m<b.length:=H;clear N L a5;go_enter func114,ntmps114
 go_upto_region 1 with fail
 refine zS (λa=>a=j) M M ?_ ?_
 .rw[l.o]
 iterate 38 (refine rI ?_)
 refine zW ?_;rintro a rfl;have r:G ((a.cell? ⟨i.heap.size,1,none⟩=some (.slice (some ⟨B,O,none⟩) b.length s)/\a.cell? ⟨i.heap.size,2,none⟩=some (.slice (some ⟨t,u,none⟩) d.length w))/\a.cell? ⟨t,u+g,none⟩=some (.int .i64 m)/\a.cell? ⟨B,O+m * 2,none⟩=some (.int .i64 rd)/\a.cell? ⟨B,O+m * 2+1,none⟩=some (.slice Q y.length R)):=V ⟨⟨T,U⟩,W,z,A⟩;clear aI T U z W A l;go_upto_region 3 with fail
 refine ws (λb2=>Cf a b2) ?_;refine rq ?_;(refine rq ?_ (by intro _ a _ f;have n:=f.cellS r.o.1.1 iD;go_simp;try with_reducible rfl));refine rq ?_;(refine rq ?_ (by intro _ a _ f;have n:=f.cellS r.o.1.2 iD;go_simp;try with_reducible rfl));(iterate 2 (refine rq ?_));(refine rq ?_ (by intro _ a _ f;have n:=f.cellS r.o.2.1 iD;go_simp;try with_reducible rfl));refine rq ?_;(refine rq ?_ (by intro _ a _ f;have n:=f.cellS r.o.2.2.1 iD;have bB:=f.cellS r.o.2.2.2 iD;go_simp;try with_reducible rfl));refine rq ?_;refine xA D (Value.int .i64 (af (rd,y) c) )  153  ( #[.agg #[.int .i64 rd,.slice Q y.length R],.int .i64 c]) (λa=>by go_simp) (λ_ a _ f=>?_) (λaH Z=>?_)
 .refine (ue rd y Q R S c _ (a9.o.same f) aF.o).mono ?_
  rintro X b1 ⟨rfl,aY⟩;exact⟨D,f.trans aY⟩
 ((try go_simp);refine Z _ ?_;clear Z aH)
 refine rq ?_;refine zW ?_;intro b1 Y;have a7:=V (k.o.trans Y);clear Y;go_wp2;go_ret
 exact⟨by rw[p.o];rfl,a7.o⟩
end Go.Proofs.YtgnpmceimpjheaaGreat
