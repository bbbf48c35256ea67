/- A part of the proof: RefOpen DGet GetX SameA SameB SameC BLaw LivA. -/
import Derived.Test.YtgnpmceimpjheaaGreatGG16
set_option maxRecDepth 100000
set_option maxHeartbeats 16000000
namespace Go.Proofs.YtgnpmceimpjheaaGreat
open Go.RowKit Go.Proofs.Tryz
variable {a b c d e f g h i j k l m n o p q r:Nat}{w v u t s:World}{X Y W L T:List Int}{A B C E Z:Value}{x y z:Int}{N R:Bool}{F Q:Option Addr}{S P:Nat->Prop}
theorem tq :rG (X.take a)=X↔X.drop a=kG (ofI (X.take a))\/(X.length<a/\rG (X.take a)=X):=by
 by_cases e:a<=X.length
 .refine⟨λb=>.inl ?_,λb=>?_⟩
  .have c:=congrArg (List.drop a) b
   have d:(X.take a).length=a:=(by rw[Ay8];omega);rw[rG,List.drop_left' d]at c;exact c.symm
  rcases b with b|⟨b,_⟩
  .rw[rG,<-b]
   exact List.take_append_drop a X
  omega
 refine⟨λb=>.inr ⟨H,b⟩,λb=>?_⟩
 rcases b with b|⟨_,b⟩
 .have c:=congrArg List.length b
  simp[kG]at c
  omega
 exact b
theorem Ft (a:List Int) (c:Option Addr) (d:Nat) (b:World) (g:a.length<4) :
  Calls prog 56 #[.slice c a.length d] b λe f=>e=.returned (.tuple #[.slice none 0 0,.int .i64 4])/\f=b:=by
 go_enter func56,ntmps56
 go_wp2;go_ret2
 exact⟨D,D⟩
theorem Fu (c:List Int) (e:Nat) (l m k:Nat) (h:World) (p:BytesAt h l m c) (aY:c.length<=100000) (x:c.length=e+4) (t:c.length<=k) :
  Calls prog 56 #[.slice (some ⟨l,m,none⟩) c.length k] h λj d=>Cf h d/\((rG (c.take e)=c/\∃r,j=.returned (.tuple #[r,.int .i64 0])/\Own d h.heap.size r (c.take e))\/(rG (c.take e)≠c/\j=.returned (.tuple #[.slice none 0 0,.int .i64 5]))):=by
 have B:(c.take e).length=e:=by rw[Ay8];omega
 have R:G (∀d,Cf h d->BytesAt d l m (c.take e)):=V (λd t=>⟨λa9 aF F=>(p.chg t iE).c a9 aF (by rw[List.getElem?_take_of_lt (by have:=(Az0.1 F).1;omega)]at F;exact F),λ_=>(p.chg t iE).lt (by intro j;rw[j]at x;simp at x)⟩);obtain⟨aI,w,T⟩:=rZ p (λd g=>tm (c.take e) (some ⟨l,m,none⟩) l m k d g (λ_=>rfl) H) p.byte;rw[B]at w;obtain⟨s,C⟩:=rM (rG (c.take e));have a6:s≠[]:=by rw[<-C];simp[rG,kG]
 rw[C]at w ⊢;obtain⟨q,O⟩:=rM (strOfNums c);have Z:G (∀d,Cf h d->(convert 45 9 (.slice (some ⟨l,m,none⟩) c.length k)).run prog d=.ok (.string q) d):=V (λd t=>by
  rw[<-O];exact au k (p.chg t iE) (λ_=>rfl))
 have a1:=V O;have aP:(c.length:Int)-4=e:=H
 have aZ:IntKind.i64.wrap (e:Int)=e:=by rw[IntKind.wrap_i64];omega
 have aR:¬((c.length:Int)<4):=H
 have aT:e<=c.length:=H
 have aV:e<=k:=H
 have aX:(e:Int)<=(k:Int):=H
 have f:G (Cf h h.drew):=V (J.refl _ _).drew;have aH:=V x;clear p O C x;go_enter func56,ntmps56
 go_upto_region 3 with fail
 refine wp_region_held (S:=Cf h) M ?_;show wpAnyH _ _ _ _ _ 10 (Array.replicate 10 false) _ h.drew;(refine sJ (i:=0) D M M M (λ_ _ _ _ g=>g) D f.o λb a=>?_;apply Ay4;refine⟨λd n=>?_,?_⟩;((skip);go_simp;try with_reducible rfl);(try go_simp);refine a _ ?_;clear a b);(refine sJ (i:=1) D M M M (λ_ _ _ _ g=>g) D f.o λb a=>?_;apply Ay4;refine⟨λd n=>?_,?_⟩;((skip);go_simp;try with_reducible rfl);(try go_simp);refine a _ ?_;clear a b);(refine sJ (i:=2) D M M M (λ_ _ _ _ g=>g) D f.o λb a=>?_;apply Ay4;refine⟨λd n=>?_,?_⟩;((skip);go_simp;try with_reducible rfl);(try go_simp);refine a _ ?_;clear a b);(refine sJ (i:=3) D M M M (λ_ _ _ _ g=>g) D f.o λb a=>?_;apply Ay4;refine⟨λd n=>?_,?_⟩;((skip);go_simp;try with_reducible rfl);(try go_simp);refine a _ ?_;clear a b);(refine sJ (i:=4) D M M M (λ_ _ _ _ g=>g) D f.o λb a=>?_;apply Ay4;refine⟨λd n=>?_,?_⟩;((skip);go_simp;try with_reducible rfl);(try go_simp);refine a _ ?_;clear a b);(refine sJ (i:=7) D M M M (λ_ _ _ _ g=>g) D f.o λb a=>?_;apply Ay4;refine⟨λd n=>?_,?_⟩;((skip);go_simp;try with_reducible rfl);(try go_simp);refine a _ ?_;clear a b);(refine sJ (i:=8) D M M M (λ_ _ _ _ g=>g) D f.o λb a=>?_;apply Ay4;refine⟨λd n=>?_,?_⟩;((have b0:=Z.o d n);go_simp;try with_reducible rfl);(try go_simp);refine a _ ?_;clear a b);refine cz (i:=5) M D D 32 #[.slice (some ⟨l,m,none⟩) e k] (λr aD=>Own aD h.heap.size r s) (by go_simp) ?_ ?_
 .refine (w.o h.drew (R.o h.drew f.o)).mono ?_
  rintro j Q ⟨r,rfl,a4,a5⟩;exact⟨_,D,f.o.trans a5,a4⟩
 rintro r Q W U b a;have f:=V W;obtain⟨aM,X,rfl,aO,A,K,a8⟩:=U.some a6;have a7:=au X.length (A.bytes K) (λ_=>rfl);obtain⟨u,N⟩:=rM (strOfNums s);rw[N]at a7;have v:G (u.toList=q.toList↔s=c):=V (by
  rw[<-N,<-a1.o];refine⟨λj=>?_,λj=>by rw[j]⟩;rw[ByteArray.toList_eq,ByteArray.toList_eq]at j;exact ew (λz E=>A.byte z (K.subset E)) T.o (ByteArray.ext (Array.toList_inj.1 j)))
 clear W U A K a8 N w;(try go_simp)
 refine a _ ?_;clear a b;by_cases o:s=c
 .have P:u.toList=q.toList:=v.o.2 o
  have aB:(u.toList == q.toList)=true:=by rw[P];simp
  have y:=V o;clear o v;(refine ar (i:=6) M D D f.o λb a=>?_;apply Ay4;refine⟨?_,?_⟩;((skip);go_simp;try with_reducible rfl);(try go_simp);refine a _ ?_;clear a b);(refine ar (i:=9) M D D f.o λb a=>?_;apply Ay4;refine⟨?_,?_⟩;((skip);go_simp;try with_reducible rfl);(try go_simp);refine a _ ?_;clear a b);refine wpAnyH_done M ?_ _;have Y:=V (λz E=>T.o z (Av8 (i:=e) E));have L:=tS (c:=k) (R.o Q f.o) (λ_=>rfl);rw[B]at L;have a0:=V L;clear L;go_wp2_with (at_builtin;refine xJ D _ _ 45 D Q.heap.size (.slice none 0 0) [] (c.take e) (.slice (some ⟨l,m,none⟩) e k) D D (.inl ⟨D,D⟩) (Ay1 _) (by rw[B];exact a0.o) Y.o sO ?_;intro b1 b2 a2 a3 aK)
  go_ret2
  exact⟨f.o.trans a3.out.fresh,.inl ⟨y.o,_,D,by have:=a2.out.lower f.o.size;simpa using this⟩⟩
 have P:¬u.toList=q.toList:=λj=>o (v.o.1 j)
 have aB:(u.toList == q.toList)=false:=by rw[beq_eq_false_iff_ne];exact P
 have y:=V o;clear o v;(refine ar (i:=6) M D D f.o λb a=>?_;apply Ay4;refine⟨?_,?_⟩;((skip);go_simp;try with_reducible rfl);(try go_simp);refine a _ ?_;clear a b);(refine ar (i:=9) M D D f.o λb a=>?_;apply Ay4;refine⟨?_,?_⟩;((skip);go_simp;try with_reducible rfl);(try go_simp);refine a _ ?_;clear a b);refine wpAnyH_done M ?_ _;go_wp2;go_ret2
 exact⟨f.o,.inr ⟨y.o,D⟩⟩
theorem Fv (j:List Int) (p:Option Addr) (bV fD a2:Nat) (S:World) (X:BytesAt S bV fD j) (a5:0<j.length->p=some ⟨bV,fD,none⟩) (e:j.length<=a2) (a9:j.length<=50000) (a8:∀m,getR j=(0,some m)->∀s∈m.nt.st,∀a∈s.2.1,0<=a.1) :
  Calls prog 19 #[.slice p j.length a2] S (pS S j):=by
 obtain⟨fT,hI,hY⟩:=rZ X a8 a9;obtain⟨f,cI⟩:=rK (S.alloc (.cells #[.slice none 0 0,.slice none 0 0,.slice none 0 0,.slice none 0 0,.slice none 0 0,.slice none 0 0,.slice none 0 0,.slice none 0 0,.slice none 0 0,.slice none 0 0,.slice none 0 0,.slice none 0 0,.slice none 0 0] 43));have e5:Cf S f:=by rw[cI];exact (J.refl _ S).alloc _
 obtain⟨aX,cF⟩:=rK S.heap.size;have c5:G (S.heap.size=aX/\f.heap.size=aX+1):=V ⟨cF.symm,by rw[cI,cF];simp⟩;have fP:G (R13 aX f tC):=V (by
  refine⟨λd9 aF w=>?_,λd9=>?_⟩
  .rw[cI,tC]at *
   exact zG _ cF (by rw[<-Aw];exact w)
  rw[cI,cF];exact Az6 _ _ _ _)
 have e2:G (∀d,J (f.heap.size<=·) f d->R13 aX d tC/\Cf S d):=V λd E=>⟨fP.o.chg E (by have:=c5.o;omega) (by have:=c5.o;omega),e5.trans2 E (λo a8 a=>by have:=e5.size;omega)⟩
 have e0:G (Calls prog 56 #[.slice p j.length a2] f λa y=>Cf f y/\((∃b5,(b5=4\/b5=5)/\a=.returned (.tuple #[.slice none 0 0,.int .i64 b5])/\getR j=(b5,none)) \/
  (4<=j.length/\∃aF,a=.returned (.tuple #[aF,.int .i64 0])/\Own y f.heap.size aF (j.take (j.length-4))/\getR j=getB (sS (j.take (j.length-4)))))):=V (by
  by_cases c7:j.length<4
  .refine (Ft j p a2 f c7).mono ?_
   rintro a y ⟨rfl,rfl⟩;exact⟨J.refl _ _,.inl ⟨4,.inl D,D,by unfold getR;rw[if_pos c7]⟩⟩
  obtain rfl:=a5 H
  refine (Fu j (j.length-4) bV fD a2 f (X.chg e5 iE) H H e).mono ?_;rintro a y ⟨g4,⟨f9,aF,rfl,hQ⟩|⟨f9,rfl⟩⟩
  .exact⟨g4,.inr ⟨H,aF,D,hQ,by
    unfold getR;rw[if_neg c7,if_pos];rcases tq.1 f9 with i|i
    .exact i
    omega⟩⟩
  exact⟨g4,.inl ⟨5,.inr D,D,by
   unfold getR;rw[if_neg c7,if_neg];exact λi=>f9 (tq.2 (.inl i))⟩⟩)
 clear X a5 e a8 e5 fP;go_enter func19,ntmps19
 go_upto_region 1 with fail
 rw[<-cI,<-cF];clear cI cF;go_wp2_with fail
 refine e0.o.mono ?_;rintro a v ⟨d3,⟨b5,g5,rfl,c⟩|⟨c7,aF,rfl,cA,c⟩⟩
 .have b1:=V c
  have hF:G (J (f.heap.size<=·) f v):=V d3.any;have i0:(b5 != 0)=true:=by rcases g5 with rfl|rfl <;> rfl
  clear d3 c e0 g5
  have F:=e2.o v hF.o;obtain⟨dU,L⟩:=rK (xC aX 0 tC v);obtain⟨a3,a4⟩:=F.1.set tC D;rw[<-L]at a3 a4;have cO:G (pS S j (.returned (.tuple #[kN nilT,.int .i64 b5])) dU):=V ⟨F.2.trans2 a4 (λo a8 a=>by have:=c5.o;omega),nilT,by rw[b1.o],.inl ⟨by rw[b1.o],D⟩⟩;obtain⟨⟨gH,b9,bB,gO,gP,gR,gS,gT,gV,gX,gI,gK,gM⟩,h1,h2,h6,h7,h8,h9,hA,hB,hC,hD,h3,h4,h5⟩:=R13.all F.1;obtain⟨⟨aD,cK,cM,dI,dK,dM,dO,dP,dR,dT,dD,dF,dH⟩,-⟩:=R13.all a3;simp only[xC,tC,Ax,Nat.reduceAdd]at L;have cT:=V L;clear L F a3 a4;go_wp2;rw[<-cT.o];exact bodyPost_ret (v:=.tuple #[.agg #[.slice none 0 0,.slice none 0 0,.slice none 0 0,.slice none 0 0,.slice none 0 0,.slice none 0 0,.slice none 0 0,.slice none 0 0,.slice none 0 0,.slice none 0 0,.slice none 0 0,.slice none 0 0,.slice none 0 0],.int .i64 b5]) (by simp[results,results19,go_sem,aD,cK,cM,dI,dK,dM,dO,dP,dR,dT,dD,dF,dH]) D cO.o
 obtain⟨d,d2⟩:=rM (j.take (j.length-4))
 rw[d2]at cA c;have bT:G (d.length<=50000/\∀p∈d,Byte p):=V ⟨by rw[<-d2,Ay8];omega,λp a5=>fT.o.byte p (by rw[<-d2]at a5;exact Av8 a5)⟩;have fK:=V c;have c2:G (J (f.heap.size<=·) f v):=V d3.any;obtain⟨Q,O,R,rfl⟩:∃p dB a2,aF=.slice p dB a2:=by rcases cA with ⟨rfl,-⟩|⟨bV,aM,rfl,-⟩ <;> exact⟨_,_,_,D⟩
 have hS:O=d.length:=by rcases cA with ⟨i,rfl⟩|⟨bV,aM,i,-⟩ <;> · injection i
 subst hS;by_cases c8:d.length<4
 .have b1:G (getR j=(4,none)):=V (eh c (by
   unfold sS;rw[if_neg (λa=>by have:=congrArg List.length a;rw[Ay8]at this;simp only[tQ,Ax2,Aw6]at this;omega)]))
  have g0:decide ((d.length:Int)<4)=true:=decide_eq_true H;have g1:decide (d.length<4)=true:=decide_eq_true c8;clear d3 c d2 cA e0 c8
  have F:=e2.o v c2.o;obtain⟨dU,L⟩:=rK (xC aX 0 tC v);obtain⟨a3,a4⟩:=F.1.set tC D;rw[<-L]at a3 a4;have cO:G (pS S j (.returned (.tuple #[kN nilT,.int .i64 4])) dU):=V ⟨F.2.trans2 a4 (λo a8 a=>by have:=c5.o;omega),nilT,by rw[b1.o],.inl ⟨by rw[b1.o],D⟩⟩;obtain⟨⟨gH,b9,bB,gO,gP,gR,gS,gT,gV,gX,gI,gK,gM⟩,h1,h2,h6,h7,h8,h9,hA,hB,hC,hD,h3,h4,h5⟩:=R13.all F.1;obtain⟨⟨aD,cK,cM,dI,dK,dM,dO,dP,dR,dT,dD,dF,dH⟩,-⟩:=R13.all a3;simp only[xC,tC,Ax,Nat.reduceAdd]at L;have cT:=V L;clear L F a3 a4;go_wp2;rw[<-cT.o];exact bodyPost_ret (v:=.tuple #[.agg #[.slice none 0 0,.slice none 0 0,.slice none 0 0,.slice none 0 0,.slice none 0 0,.slice none 0 0,.slice none 0 0,.slice none 0 0,.slice none 0 0,.slice none 0 0,.slice none 0 0,.slice none 0 0,.slice none 0 0],.int .i64 4]) (by simp[results,results19,go_sem,aD,cK,cM,dI,dK,dM,dO,dP,dR,dT,dD,dF,dH]) D cO.o
 obtain⟨q,aM,w,g7,eB,e8,-⟩:=cA.some (by intro a;rw[a]at c8;simp at c8)
 injection w with eX g2 eZ;subst eX eZ;have dV:G (BytesAt v q 0 d):=V (eB.bytes e8);have eI:G (d.length<=aM.length):=V e8.length_le;have cP:G (f.heap.size<=q/\q<v.heap.size):=V ⟨g7,eB.lt⟩;have fH:G (BytesAt v q 0 (d.take 4)):=V ⟨λd9 l cD=>dV.o.c d9 l (by rw[List.getElem?_take_of_lt (by have:=(Az0.1 cD).1;rw[Ay8]at this;omega)]at cD;exact cD),λ_=>eB.lt⟩;have e7:=au aM.length fH.o (a:=some ⟨q,0,none⟩) (λ_=>rfl);rw[Ay8,Nat.min_eq_left H]at e7;have g0:decide ((d.length:Int)<4)=false:=decide_eq_false H;have g1:decide (d.length<4)=false:=decide_eq_false c8;have hN:4<=aM.length:=(by have:=e8.length_le;omega);clear d3 d2 cA e0 eB e8 g7;by_cases cB:d.take 4=tQ
 rotate_left
 .have b1:G (getR j=(4,none)):=V (eh c (by unfold sS;rw[if_neg cB]))
  have hP:=sc (λp a5=>bT.o.2 p (Av8 a5)) cB;obtain⟨hZ,g3⟩:=rM (strOfNums (d.take 4));rw[g3]at e7 hP;clear c cB g3
  have F:=e2.o v c2.o;obtain⟨dU,L⟩:=rK (xC aX 0 tC v);obtain⟨a3,a4⟩:=F.1.set tC D;rw[<-L]at a3 a4;have cO:G (pS S j (.returned (.tuple #[kN nilT,.int .i64 4])) dU):=V ⟨F.2.trans2 a4 (λo a8 a=>by have:=c5.o;omega),nilT,by rw[b1.o],.inl ⟨by rw[b1.o],D⟩⟩;obtain⟨⟨gH,b9,bB,gO,gP,gR,gS,gT,gV,gX,gI,gK,gM⟩,h1,h2,h6,h7,h8,h9,hA,hB,hC,hD,h3,h4,h5⟩:=R13.all F.1;obtain⟨⟨aD,cK,cM,dI,dK,dM,dO,dP,dR,dT,dD,dF,dH⟩,-⟩:=R13.all a3;simp only[xC,tC,Ax,Nat.reduceAdd]at L;have cT:=V L;clear L F a3 a4;go_wp2;rw[<-cT.o];exact bodyPost_ret (v:=.tuple #[.agg #[.slice none 0 0,.slice none 0 0,.slice none 0 0,.slice none 0 0,.slice none 0 0,.slice none 0 0,.slice none 0 0,.slice none 0 0,.slice none 0 0,.slice none 0 0,.slice none 0 0,.slice none 0 0,.slice none 0 0],.int .i64 4]) (by simp[results,results19,go_sem,aD,cK,cM,dI,dK,dM,dO,dP,dR,dT,dD,dF,dH]) D cO.o
 rw[cB,ii]at e7
 have fR:G (∀m,sS d=some m->d.drop 4=jW m/\yE m=true):=V λm d6=>by
  obtain⟨f0,cZ,-⟩:=ik bT.o.2 d6;exact⟨by rw[f0];rfl,cZ⟩
 have fO:G (d=tQ++d.drop 4):=V (by rw[<-cB,List.take_append_drop]);clear c cB;go_upto_region 6 with fail
 clear e7 g0 g1
 go_cut [6] from 46 to 49 (λhU y=>∃b,hU=.pointer (some ⟨b,0,none⟩)/\v.heap.size<=b/\RdSt b q y (d.drop 4) false/\Cf v y)
 .have i2:4<=d.length:=H;by_cases f7:aM.length=4
  all_goals
   have gF:aM.length=4->d.length-4=0:=λa=>by have:=eI.o;omega
   first|have gF:=gF f7|skip
   obtain⟨c0,aV⟩:=rK (v.alloc (.cells #[cutV q 0 aM.length d.length 4,.bool false] 137));have fI:G (RdSt v.heap.size q c0 (d.drop 4) false/\Cf v c0):=V (by
    have e:Cf v c0:=(by rw[aV];exact rT);have E:=bT.o;have hM:=dV.o.chg e iE;refine⟨⟨⟨?_,by rw[aV];exact Az6 _ _ _ _,by rw[aV];simp,Ay9 cP.o.2 e.size,by have:=cP.o.2;omega,by rw[Av0];omega,λp a5=>E.2 p (List.mem_of_mem_drop a5)⟩,by rw[aV,Az5];rfl,by rw[aV];exact Az6 _ _ _ _,by rw[Av0];omega⟩,e⟩;obtain⟨eH,hL,eX,g2,eZ⟩:=Dq eI.o hM (k:=4) H;exact⟨eH,hL,by rw[aV,Az5,<-eX];rfl,g2,eZ⟩)
   first|rw[cutV,if_pos f7]at aV|rw[cutV,if_neg f7]at aV
   go_wp2;rw[<-aV];go_meet
   exact⟨_,D,Ay1 _,fI.o.1,fI.o.2⟩
 obtain⟨b,rfl,hR,e9,d4⟩:=hcut;obtain⟨c0,rfl⟩:∃cV:World,cV=wc:=⟨_,D⟩;obtain⟨ws,d7⟩:=rK (c0.alloc (.cells #[.slice none 0 0,.slice none 0 0,.slice none 0 0,.slice none 0 0,.slice none 0 0,.slice none 0 0,.slice none 0 0,.slice none 0 0,.slice none 0 0,.slice none 0 0,.slice none 0 0,.slice none 0 0,.slice none 0 0] 43));obtain⟨k,eD⟩:=rK c0.heap.size;have e6:Cf c0 ws:=(by rw[d7];exact rT);have n:G (GS b q k ws (d.drop 4) false nilT):=V (by
  refine⟨e9.fresh e6,λd9 aF w=>?_,λd9=>by rw[d7,eD];exact Az6 _ _ _ _,⟨λa=>by have:=e9.g.lt;omega,λa=>by have:=e9.g.lb;omega⟩⟩;rw[d7];exact zG _ eD (by rw[<-Aw];exact w))
 have e1:G (f.heap.size<=b/\f.heap.size<=q/\f.heap.size<=k):=V ⟨by have:=c2.o.size;omega,cP.o.1,by have:=c2.o.size;have:=d4.size;omega⟩;have a0:G (J (f.heap.size<=·) f ws):=V ((c2.o.trans d4.any).trans e6.any);have eO:G (∀o,TP b k o->f.heap.size<=o):=V (λo a8=>by have:=e1.o;rcases a8 with rfl|rfl <;> omega);obtain⟨cX,f1⟩:=rM (d.drop 4);rw[f1]at n fR fO;have eR:G (cX.length<=50000):=V (by rw[<-f1,Av0];have:=bT.o.1;omega);have aO:G (∀l,J (TP b k) ws l->BytesAt l q 0 d):=V λl E=>((dV.o.chg d4 iE).chg e6 iE).chg E (λ_ a=>by have:=cP.o.2;have:=d4.size;rcases a with a|a <;> omega)
 have hK:G (∀m,sS d=some m->OkTabs m/\yE m=true/\cX=jW m):=V λm d6=>by
  obtain⟨f0,cZ,-⟩:=ik bT.o.2 d6;exact⟨im cZ (Ek (by rw[<-f0];exact bT.o.1) cZ (hI.o m (by rw[fK.o,d6];rfl))),cZ,(fR.o m d6).1⟩
 have hG:GEnv j d cX S f aX q b k:=⟨c5,e2,bT,fK,e1,eO,eR,hK,fO⟩;clear d4 e9 hR e6 c2 fT cP dV fH eI hN f1 c8 c7;go_upto_region 8 with fail
 rw[<-d7,<-eD];clear d7 eD;go_wp2_with fail
 refine (tA ws n.out.r).mono ?_;rintro a aI ⟨aK,fV,gZ,rfl,c,e,bX,a7⟩;obtain⟨aT,rfl⟩:=Ax3 bX.1;have cS:G (aT<4294967296):=V (by have:=bX.2;omega);replace n:=V (n.out.call c e);replace a0:G (J (f.heap.size<=·) f aI):=V (a0.out.trans (e.mono λo _ a=>by have:=e1.o;omega));replace aO:=V (aj aO.out (e.mono λ_ _ a=>.inr a));have aZ:=V a7;clear c e a7 bX
 go_upto_block 0 with fail
 go_cut [8] from 52 to 69 (λ_ y=>∃(h:List Str) (s:Sl) (b4:List Int) (bD:Bool),GS b q k y b4 bD ⟨s,(none,0,0),(none,0,0),⟨(none,0,0),(none,0,0),(none,0,0),(none,0,0)⟩,⟨(none,0,0),(none,0,0),(none,0,0),(none,0,0),(none,0,0)⟩,(none,0,0)⟩/\strE.InS y (aI.heap.size<=·) s h/\J (TP b k) aI y/\Dr (zE xE) (okL ay) h cX false b4 bD)
 .go_wp2_with fail
  go_loopw [8] (λbZ wr=>∃(h:List Str) (r:Nat) (s:Sl) (U:List Int) (x:Bool),bZ=.int .i64 r/\aT=h.length+r/\GS b q k wr U x ⟨s,(none,0,0),(none,0,0),⟨(none,0,0),(none,0,0),(none,0,0),(none,0,0)⟩,⟨(none,0,0),(none,0,0),(none,0,0),(none,0,0),(none,0,0)⟩,(none,0,0)⟩/\W2 strE mL aI.heap.size wr (slV s) (.slice none 0 0) h []/\J (TP b k) aI wr/\DrL xE ay aT fV gZ h U x) (λbZ _=>(intOf bZ).toNat)
  .exact⟨[],aT,(none,0,0),fV,gZ,D,sI,n.out,⟨.nil _ _,.nil _ _,λbV c=>by cases c⟩,J.refl _ _,DrL.start _ _ _⟩
  .obtain⟨h,r,⟨p,dB,a2⟩,U,x,rfl,d1,c,w,e,a9⟩:=hrel;obtain⟨aY,rfl⟩:∃l:World,l=wr:=⟨_,D⟩;simp only[slV]at w;obtain⟨bP,b0,b2,bI,eM⟩:=sD d1 c w e a9;have dZ:G (h.length<=50002):=V (by have:=a9.k;have:=aZ.o.l;have:=eR.o;omega);have eT:=c.r.n;have bM:G (x=true\/r=0->∃(h:List Str) (s:Sl) (b4:List Int) (bD:Bool),GS b q k aY b4 bD ⟨s,(none,0,0),(none,0,0),⟨(none,0,0),(none,0,0),(none,0,0),(none,0,0)⟩,⟨(none,0,0),(none,0,0),(none,0,0),(none,0,0),(none,0,0)⟩,(none,0,0)⟩/\strE.InS aY (aI.heap.size<=·) s h/\J (TP b k) aI aY/\Dr (zE xE) (okL ay) h cX false b4 bD):=V λi=>⟨h,(p,dB,a2),U,x,c,w.a.inS.2,e,DrL.list aZ.o.cnt a9 (i.imp id H)⟩
   clear d1 c w e a9;have hO:r<=4294967295:=(by have:=bP.o;have:=cS.o;omega);cases r with
   | zero =>
    go_wp2;go_meet
    exact bM.o sI
   | succ r =>
    have eV:decide ((0:Int)<((r+1:Nat):Int))=true:=decide_eq_true H;cases x with
    | true =>
     go_wp2;go_meet
     exact bM.o sI
    | false =>
     clear bM;go_upto_region 11 with fail
     clear eT eV
     refine rB 8 (·=b) (λd8=>decide (5<=d8)) ?_;intro aH T g;have B:=V (b0.o.fresh T.o);refine lq 0 g.o ?_;(refine lf 1 g.o (λ_ d0=>d0.cellS (B.o.c 0 _ D) (λa=>B.o.ne.1 a.symm)) ?_);refine lq 2 g.o ?_
     refine dg 3 (rp aH B.o.r) iE M D D (by go_simp) ?_;intro l W Z u b7 a6 E b6 a1 t;(try go_simp)
     refine t _ ?_;clear t a1
     have g:G (J (·=b) aH u):=V a6;obtain⟨c3,c1,eP⟩:=rZ (B.o.call b7 a6) b6 E;clear b7 a6 b6 E
     have dX:=V (eM.o.step jb (by have:=bP.o;omega) c1.o)
     have aR:G (∀aK∈[l],strE.ok aK):=V (λaK X=>by rw[Ay]at X;rw[X];exact trivial);refine lt 4 (λ_=>g.o.alloc _) ?_;obtain⟨z,K⟩:=rK (u.alloc (.cells #[.string l] 9));have c6:G (Src prog strE.sz strE.sl (.slice (some ⟨u.heap.size,0,none⟩) 1 1) 1 (strE.encs [l]) z):=V (by rw[K];exact strE.srcLit (Y:=[l]) 1 aR.o);have A:G (Cf u z):=V (by rw[K];exact rT);rw[<-K];clear K;have c4:=V (c3.o.fresh A.o);have aP:G (J (TP b k) aI z):=V (((bI.o.trans T.o.any).trans (g.o.mono λ_ _ a=>.inr a)).trans A.o.any);have C:=V (((b2.o.chg T.o (λ_ i=>i.elim)).chg g.o (λo a=>by have:=n.out.all;omega)).chg A.o (λ_ i=>i.elim));replace g:G (J (·=b) aH z):=V (g.o.trans A.o.any);refine dW 5 strE [l] C.o.a aP.o.size aR.o c6.o (by have:=dZ.o;simp;omega) M D D D D D D ?_;intro Q O R fF bF N bH a1 t;(try go_simp)
     refine t _ ?_;clear t a1
     obtain⟨⟨b9,bB⟩,b8,aB⟩:=c4.o.put (v':=.slice Q O R) (m':=⟨(Q,O,R),(none,0,0),(none,0,0),⟨(none,0,0),(none,0,0),(none,0,0),(none,0,0)⟩,⟨(none,0,0),(none,0,0),(none,0,0),(none,0,0),(none,0,0)⟩,(none,0,0)⟩) 0 D D N (C.o.a.non n.out.all);have bO:=V b8;have b3:=V ((C.o.app bF N bH).chg aB (λo a=>by have:=n.out.all;omega));have bK:G (J (TP b k) aI _):=V ((aP.o.trans2 N (λo a8 a=>by have:=(C.o.a.blk a).1;omega)).trans (aB.mono λ_ _ a=>.inl a));clear b8 aB bF N bH;refine lt 6 (λi=>absurd i dE) ?_
     refine ld 7 ?_;refine zQ M ?_ _;clear b9 bB
     go_wp2;go_roundw
     .exact⟨h++[l],r,(Q,O,R),W,Z,GN,by have:=bP.o;rw[Az,List.length_singleton];omega,bO.o,b3.o,bK.o,dX.o⟩
     simp[intOf]
 obtain⟨i3,aD,b4,bD,c,d5,e,a7⟩:=hcut;obtain⟨u,rfl⟩:∃cV:World,cV=wc:=⟨_,D⟩;have c9:=n.out.all;have cH:f.heap.size<=aI.heap.size:=a0.out.size;replace aO:=V (addF (aj aO.out e) ((inS.good strE).keep d5 c9 cH));replace n:=V c;replace a0:G (J (f.heap.size<=·) f u):=V (a0.out.trans (e.mono λo _ a=>eO.o o a));have fM:=V a7;clear c e a7 c9 cH;clear d5 aZ cS;go_wp2_with fail
 refine (tA u n.out.r).mono ?_;rintro a P ⟨aK,U,x,rfl,c,e,bX,a7⟩;obtain⟨aT,rfl⟩:=Ax3 bX.1;have cS:G (aT<4294967296):=V (by have:=bX.2;omega);replace n:=V (n.out.call c e);replace a0:G (J (f.heap.size<=·) f P):=V (a0.out.trans (e.mono λo _ a=>by have:=e1.o;omega));replace aO:=V (aj aO.out (e.mono λ_ _ a=>.inr a));have aZ:=V a7;clear c e a7 bX
 go_upto_block 2 with fail
 go_cut [9] from 72 to 97 (λ_ y=>∃(h:List (Str×Bool)) (s m:Sl) (W:List Int) (Z:Bool),GS b q k y W Z ⟨aD,s,m,⟨(none,0,0),(none,0,0),(none,0,0),(none,0,0)⟩,⟨(none,0,0),(none,0,0),(none,0,0),(none,0,0),(none,0,0)⟩,(none,0,0)⟩/\strE.InS y (P.heap.size<=·) s (h.map (·.1))/\mL.InS y (P.heap.size<=·) m (h.map (·.2))/\J (TP b k) P y/\Dr (zE sC) (okL okTk) h b4 bD W Z)
 .go_wp2_with fail
  obtain⟨hX,fB⟩:=rK U;obtain⟨hT,f8⟩:=rK x
  go_loopw [9] (λbZ wr=>∃(h:List (Str×Bool)) (r:Nat) (s m:Sl) (U:List Int) (x:Bool),bZ=.int .i64 r/\aT=h.length+r/\GS b q k wr U x ⟨aD,s,m,⟨(none,0,0),(none,0,0),(none,0,0),(none,0,0)⟩,⟨(none,0,0),(none,0,0),(none,0,0),(none,0,0),(none,0,0)⟩,(none,0,0)⟩/\W2 strE mL P.heap.size wr (slV s) (slV m) (h.map (·.1)) (h.map (·.2))/\J (TP b k) P wr/\DrL sC okTk aT hX hT h U x) (λbZ _=>(intOf bZ).toNat)
  .exact⟨[],aT,(none,0,0),(none,0,0),U,x,D,sI,n.out,⟨.nil _ _,.nil _ _,λbV c=>by cases c⟩,J.refl _ _,by rw[fB,f8];exact DrL.start _ _ _⟩
  .rw[<-fB,<-f8]at aZ;clear fB f8;obtain⟨h,r,⟨p,dB,a2⟩,⟨fX,eH,fZ⟩,U,x,rfl,d1,c,w,e,a9⟩:=hrel;obtain⟨aY,rfl⟩:∃l:World,l=wr:=⟨_,D⟩;simp only[slV]at w;obtain⟨bP,b0,b2,bI,eM⟩:=sD d1 c w e a9;have dZ:G (h.length<=50002):=V (by have:=a9.k;have:=aZ.o.l;have:=fM.o.l;have:=eR.o;omega);have eT:=c.r.n;have bM:G (x=true\/r=0->∃(h:List (Str×Bool)) (s m:Sl) (W:List Int) (Z:Bool),GS b q k aY W Z ⟨aD,s,m,⟨(none,0,0),(none,0,0),(none,0,0),(none,0,0)⟩,⟨(none,0,0),(none,0,0),(none,0,0),(none,0,0),(none,0,0)⟩,(none,0,0)⟩/\strE.InS aY (P.heap.size<=·) s (h.map (·.1))/\mL.InS aY (P.heap.size<=·) m (h.map (·.2))/\J (TP b k) P aY/\Dr (zE sC) (okL okTk) h b4 bD W Z):=V λi=>⟨h,(p,dB,a2),(fX,eH,fZ),U,x,c,w.a.inS.2,w.b.inS.2,e,DrL.list aZ.o.cnt a9 (i.imp id H)⟩
   clear d1 c w e a9;have hO:r<=4294967295:=(by have:=bP.o;have:=cS.o;omega);cases r with
   | zero =>
    go_wp2;go_meet
    exact bM.o sI
   | succ r =>
    have eV:decide ((0:Int)<((r+1:Nat):Int))=true:=decide_eq_true H;cases x with
    | true =>
     go_wp2;go_meet
     exact bM.o sI
    | false =>
     clear bM;go_upto_region 15 with fail
     clear eT eV
     refine rB 8 (·=b) (λd8=>decide (5<=d8)) ?_;intro aH T g;have B:=V (b0.o.fresh T.o);refine lq 0 g.o ?_;(refine lf 1 g.o (λ_ d0=>d0.cellS (B.o.c 1 _ D) (λa=>B.o.ne.1 a.symm)) ?_);refine lq 2 g.o ?_
     refine dg 3 (rp aH B.o.r) iE M D D (by go_simp) ?_;intro l W Z u b7 a6 E b6 a1 t;(try go_simp)
     refine t _ ?_;clear t a1
     have g:G (J (·=b) aH u):=V a6;obtain⟨c3,c1,eP⟩:=rZ (B.o.call b7 a6) b6 E;clear b7 a6 b6 E
     have aR:G (∀aK∈[l],strE.ok aK):=V (λaK X=>by rw[Ay]at X;rw[X];exact trivial);refine lt 4 (λ_=>g.o.alloc _) ?_;obtain⟨z,K⟩:=rK (u.alloc (.cells #[.string l] 9));have c6:G (Src prog strE.sz strE.sl (.slice (some ⟨u.heap.size,0,none⟩) 1 1) 1 (strE.encs [l]) z):=V (by rw[K];exact strE.srcLit (Y:=[l]) 1 aR.o);have A:G (Cf u z):=V (by rw[K];exact rT);rw[<-K];clear K;have c4:=V (c3.o.fresh A.o);have aP:G (J (TP b k) P z):=V (((bI.o.trans T.o.any).trans (g.o.mono λ_ _ a=>.inr a)).trans A.o.any);have C:=V (((b2.o.chg T.o (λ_ i=>i.elim)).chg g.o (λo a=>by have:=n.out.all;omega)).chg A.o (λ_ i=>i.elim));replace g:G (J (·=b) aH z):=V (g.o.trans A.o.any);refine dW 5 strE [l] C.o.a aP.o.size aR.o c6.o (by have:=dZ.o;simp;omega) M D D D D D D ?_;intro Q O R fF bF N bH a1 t;(try go_simp)
     refine t _ ?_;clear t a1
     obtain⟨⟨b9,bB⟩,b8,aB⟩:=c4.o.put (v':=.slice Q O R) (m':=⟨aD,(Q,O,R),(fX,eH,fZ),⟨(none,0,0),(none,0,0),(none,0,0),(none,0,0)⟩,⟨(none,0,0),(none,0,0),(none,0,0),(none,0,0),(none,0,0)⟩,(none,0,0)⟩) 1 D D N (C.o.a.non n.out.all);have bO:=V b8;have b3:=V ((C.o.app bF N bH).chg aB (λo a=>by have:=n.out.all;omega));have bK:G (J (TP b k) P _):=V ((aP.o.trans2 N (λo a8 a=>by have:=(C.o.a.blk a).1;omega)).trans (aB.mono λ_ _ a=>.inl a));clear b8 aB bF N bH;refine lt 6 (λi=>absurd i dE) ?_
     refine ld 7 ?_;refine zQ M ?_ _;clear b9 bB
     obtain⟨hW,gD⟩:=rK l;have eK:=c1;rw[<-gD]at b3 eK;obtain⟨hV,g8⟩:=rK (fF.setCell ⟨k,1,none⟩ (.slice Q O R));rw[<-g8]at bO b3 bK ⊢;clear g8 gD eP c1 b0 c3 c4 b2 C bI aP B T g A c6 aR;obtain⟨aY,g9⟩:=rK hV;have b0:=bO;have b2:=b3;have bI:=bK;rw[<-g9]at b0 b2 bI ⊢;clear g9 bO b3 bK;obtain⟨hE,h0,e3,eF,e4,a5⟩:∃hE h0 e3 eF e4,hE=W/\h0=Z/\e3=Q/\eF=O/\e4=R:=⟨_,_,_,_,_,D,D,D,D,D⟩;obtain⟨f2,f3,f4,f5,f6⟩:=a5;rw[<-f2,<-f3,<-f4,<-f5,<-f6]at b0;rw[<-f2,<-f3]at eK;rw[<-f4,<-f5,<-f6]at b2;clear f2 f3 f4 f5 f6;go_upto_region 16 with fail
     refine rB 9 (·=b) (λd8=>decide (6<=d8)) ?_;intro aH T g;have B:=V (b0.o.fresh T.o);refine lq 0 g.o ?_;(refine lf 1 g.o (λ_ d0=>d0.cellS (B.o.c 2 _ D) (λa=>B.o.ne.1 a.symm)) ?_);refine lq 2 g.o ?_
     refine dg 3 (tA aH B.o.r) iE M D D (by go_simp) ?_;intro l W Z u b7 a6 E b6 a1 t;(try go_simp)
     refine t _ ?_;clear t a1
     have g:G (J (·=b) aH u):=V a6;obtain⟨c3,c1,eP⟩:=rZ (B.o.call b7 a6) b6 E;clear b7 a6 b6 E
     have dX:=V (eM.o.step sr (by have:=bP.o;omega) (eK.o.tok c1.o));obtain⟨a,g6⟩:=rM (l == 1);rw[g6]at dX;refine lq 4 g.o ?_;clear g6
     have aR:G (∀aK∈[a],mL.ok aK):=V (λaK X=>by rw[Ay]at X;rw[X];exact trivial);refine lt 5 (λ_=>g.o.alloc _) ?_;obtain⟨z,K⟩:=rK (u.alloc (.cells #[.bool a] 4));have c6:G (Src prog mL.sz mL.sl (.slice (some ⟨u.heap.size,0,none⟩) 1 1) 1 (mL.encs [a]) z):=V (by rw[K];exact mL.srcLit (Y:=[a]) 1 aR.o);have A:G (Cf u z):=V (by rw[K];exact rT);rw[<-K];clear K;have c4:=V (c3.o.fresh A.o);have aP:G (J (TP b k) P z):=V (((bI.o.trans T.o.any).trans (g.o.mono λ_ _ a=>.inr a)).trans A.o.any);have C:=V (((b2.o.chg T.o (λ_ i=>i.elim)).chg g.o (λo a=>by have:=n.out.all;omega)).chg A.o (λ_ i=>i.elim));replace g:G (J (·=b) aH z):=V (g.o.trans A.o.any);refine dW 6 mL [a] C.o.swap.a aP.o.size aR.o c6.o (by have:=dZ.o;simp;omega) M D D D D D D ?_;intro Q O R fF bF N bH a1 t;(try go_simp)
     refine t _ ?_;clear t a1
     obtain⟨⟨b9,bB⟩,b8,aB⟩:=c4.o.put (v':=.slice Q O R) (m':=⟨aD,(e3,eF,e4),(Q,O,R),⟨(none,0,0),(none,0,0),(none,0,0),(none,0,0)⟩,⟨(none,0,0),(none,0,0),(none,0,0),(none,0,0),(none,0,0)⟩,(none,0,0)⟩) 2 D D N (C.o.swap.a.non n.out.all);have bO:=V b8;have b3:=V ((C.o.swap.app bF N bH).swap.chg aB (λo a=>by have:=n.out.all;omega));have bK:G (J (TP b k) P _):=V ((aP.o.trans2 N (λo a8 a=>by have:=(C.o.swap.a.blk a).1;omega)).trans (aB.mono λ_ _ a=>.inl a));clear b8 aB bF N bH;refine lt 7 (λi=>absurd i dE) ?_
     refine ld 8 ?_;refine zQ M ?_ _;clear b9 bB
     go_wp2;go_roundw
     .exact⟨h++[(hW,a)],r,(e3,eF,e4),(Q,O,R),W,Z,GN,by have:=bP.o;rw[Az,List.length_singleton];omega,bO.o,by rw[List.map_append,List.map_append];exact b3.o,bK.o,dX.o⟩
     simp[intOf]
 obtain⟨i4,cK,cM,W,Z,c,d5,cD,e,a7⟩:=hcut;obtain⟨z,rfl⟩:∃cV:World,cV=wc:=⟨_,D⟩;have c9:=n.out.all;have cH:f.heap.size<=P.heap.size:=a0.out.size;replace aO:=V (addF (addF (aj aO.out e) ((inS.good strE).keep d5 c9 cH)) ((inS.good mL).keep cD c9 cH));replace n:=V c;replace a0:G (J (f.heap.size<=·) f z):=V (a0.out.trans (e.mono λo _ a=>eO.o o a));have hH:=V a7;clear c e a7 c9 cH;clear d5 cD aZ cS;go_step
 refine ft aX q d.length aM.length b k M (λi1=>?_);exact Fa hG n a0 aO fM hH
theorem tr (j:List Int) (C:Option Addr) (a5 cP a4:Nat) (k:World) (c6:BytesAt k a5 cP j) (a7:0<j.length->C=some ⟨a5,cP,none⟩) (bF:j.length<=a4) (g5:j.length<=10000000) :
  Calls prog 18 #[.slice C j.length a4] k (Dp k j):=by
 have gR:=mkfn;have f6:=V c6;have g8:=sd;obtain⟨X,L⟩:=rK ((k.alloc (.cells #[.slice none 0 0,.slice none 0 0,.slice none 0 0,.slice none 0 0,.slice none 0 0,.slice none 0 0,.slice none 0 0,.slice none 0 0,.slice none 0 0,.slice none 0 0,.slice none 0 0,.slice none 0 0,.slice none 0 0] 34)).alloc (.cells #[.int .i64 0] 46));obtain⟨u,a9⟩:=rK (X.alloc (.cells ch 104));have f8:Cf k X:=by rw[L];exact ((J.refl _ k).alloc _).alloc _
 have c1:Cf X u:=by rw[a9];exact rT
 have bB:X.heap.size=k.heap.size+2:=by rw[L];simp
 have c3:u.heap.size=k.heap.size+3:=by rw[a9];simp[bB]
 have bT:G (kL u (k.heap.size+2)):=V (by rw[a9,<-bB];exact⟨0,_,SumsAt.made X _,.inl D⟩);have f1:ResAt k.heap.size (k.heap.size+1) X tC 0:=by
  refine⟨λh t y=>?_,by rw[L];exact zG _ sI D,λh=>?_,?_⟩
  .rw[L,tC]at *
   exact yL _ (zG _ D (by rw[<-Aw];exact y))
  .rw[L]
   exact (((FR _).alloc _).frozen (p:=⟨k.heap.size,h,none⟩) sI iD).trans (Az6 _ _ _ _)
  rw[L]
  have c:k.heap.size+1=(k.alloc (.cells #[.slice none 0 0,.slice none 0 0,.slice none 0 0,.slice none 0 0,.slice none 0 0,.slice none 0 0,.slice none 0 0,.slice none 0 0,.slice none 0 0,.slice none 0 0,.slice none 0 0,.slice none 0 0,.slice none 0 0] 34)).heap.size:=sI;rw[c];exact Az6 _ _ _ _
 have b4:=V (f1.chg c1 H (λ_ l=>l.elim));go_enter_defers func18,ntmps18
 go_upto_region 3 with fail
 rw[<-L,<-a9];obtain⟨b,fM⟩:=rK k.heap.size;have c5:k.heap.size=b:=fM.symm;rw[c5]at b4 bT bB c3 ⊢;obtain⟨aZ,fI⟩:=rK (b+1+1);rw[<-fI];obtain⟨e,bH⟩:=rK (b+1);rw[<-bH];rw[show b+2=aZ by omega]at bT;rw[<-bH]at b4;have i:G (aZ=b+2/\e=b+1/\u.heap.size=b+3/\k.heap.size=b):=V ⟨H,bH,c3,c5⟩;have b2:=V (f8.trans c1);have f0:G (Calls prog 54 #[.pointer (some ⟨aZ,0,none⟩),.slice C j.length a4] u λc b1=>J (·=aZ) u b1/\((∃q,(q=4\/q=5)/\c=.returned (.tuple #[.slice none 0 0,.int .i64 q])/\getR j=(q,none)) \/
  (4<=j.length/\∃t bI,c=.returned (.tuple #[t,.int .i64 0])/\Fresh u b1 t (j.take (j.length-4)) bI/\getR j=getB (sS (j.take (j.length-4)))))):=V (by
  by_cases O:j.length<4
  .refine (Dn _ j C a4 u O).mono ?_
   rintro c b1 ⟨rfl,rfl⟩;exact⟨J.refl _ _,.inl ⟨4,.inl D,D,by unfold getR;rw[if_pos O]⟩⟩
  obtain rfl:=a7 H
  refine (Do aZ j (j.length-4) a5 cP a4 u bT.o (f6.o.chg b2.o iE) (by have:=c6.lt (by intro c;rw[c]at O;simp at O);have:=i.o;omega) H H bF).mono ?_;rintro c b1 ⟨-,f9,⟨c0,t,bI,rfl,E⟩|⟨c0,rfl⟩⟩
  .exact⟨f9,.inr ⟨H,t,bI,D,E,by unfold getR;rw[if_neg O,if_pos c0]⟩⟩
  exact⟨f9,.inl ⟨5,.inr D,D,by unfold getR;rw[if_neg O,if_neg c0]⟩⟩)
 clear c6 a7 bF L a9 f8 c1 bB c3 f1 fM c5 fI bH g8;go_wp2_with fail
 refine f0.o.mono ?_;rintro c N ⟨Q,⟨q,fB,rfl,F⟩|⟨O,t,bI,rfl,E,F⟩⟩
 .have a2:=V F
  have fR:=V Q;have m:=V (b4.o.chg Q (by have:=i.o;omega) (λg K=>by have:=i.o;omega));have gK:(q != 0)=true:=by rcases fB with rfl|rfl <;> rfl
  clear Q F f0 fB;obtain⟨n,z⟩:=rK (N.setCell ⟨e,0,none⟩ (.int .i64 q));have v:G (b≠e):=V (by have:=i.o;omega);have a6:ResAt b e n tC q:=by
   have c4:=zA N e 0 (.int .i64 q);have S:=v.o;rw[z];refine⟨λh t y=>?_,Az9 _ _ _ m.o.e,λh=>(Az3 _ _ _ _).trans (m.o.z h),(Az3 _ _ _ _).trans m.o.z1⟩;exact c4.cellS (m.o.c h t y) S
  have bP:=V a6;have a1:G (J (λg=>b<=g) u n):=V ((fR.o.mono (λg _ c=>by have:=i.o;omega)).trans (by rw[z];exact (zA N e 0 _).mono (λg _ c=>by have:=i.o;omega)));have e9:=m.o.e;have eD:=m.o.z1;have g4:=V z;clear z a6;go_upto_region 4 with fail
  rw[<-g4.out];clear e9 eD;have aB:=bP.o.e;go_upto_region 5 with fail
  clear aB;have a8:=v.o;have g6:¬e=b:=λl=>a8 l.symm
  have g7:¬b=e:=a8;obtain⟨a,A,d,eB⟩:=bP.o;have aB:=a 0 _ D;have eF:=d 0;have c7:=a 1 _ D;have eH:=d 1;have cB:=a 2 _ D;have eO:=d 2;have cD:=a 3 _ D;have eP:=d 3;have cF:=a 4 _ D;have a0:=d 4;have cH:=a 5 _ D;have eR:=d 5;have cI:=a 6 _ D;have eT:=d 6;have cK:=a 7 _ D;have eV:=d 7;have cM:=a 8 _ D;have eX:=d 8;have cO:=a 9 _ D;have eZ:=d 9;have c8:=a 10 _ D;have eI:=d 10;have c9:=a 11 _ D;have eK:=d 11;have cA:=a 12 _ D;have eM:=d 12;clear a d;go_region
  obtain⟨o,s⟩:=rK (((xC b 0 tC n).setCell ⟨e,0,none⟩ (.int .i64 q)).drew);have b9:=bP.o.set v.o tC D q;have b8:=(FR ((xC b 0 tC n).setCell ⟨e,0,none⟩ (.int .i64 q))).drew;rw[<-s]at b8;have fT:G (Cf k o):=V (b2.o.trans2 (a1.o.trans ((b9.2.mono (T:=λg=>b<=g) (λg _ c=>by have:=i.o;omega)).trans b8.any)) (λg K c=>by have:=i.o;omega));have c2:=b9.1.chg b8 (Az8 _ _ (b9.1.c 0 _ D)) (λ_ l=>l.elim);have fX:=V (c2.chg ((FR o).alloc (.cells #[] 129)) (Az8 _ _ (c2.c 0 _ D)) (λ_ l=>l.elim));simp only[xC,tC,Ax,Nat.reduceAdd]at s;rw[<-s];clear s b9 b8 c2;clear aB eF c7 eH cB eO cD eP cF a0 cH eR cI eT cK eV cM eX cO eZ c8 eI c9 eK cA eM A eB;go_wp2;refine leaves_cons (f:=53) (args:=#[.pointer (some ⟨b,0,none⟩),.pointer (some ⟨e,0,none⟩)]) sI (by simp[go_sem]) ?_;refine (sa b e o).mono ?_;rintro c fP gT ⟨rfl,rfl,rfl⟩;obtain⟨a,A,-,-⟩:=fX.o;obtain⟨aD,aF,aM,aO,aP,aR,aT,aV,aX,aY,aH,aI,aK⟩:=rX a;simp only[Leaves,settle,results,results18];refine⟨_,by simp[go_sem,aD,aF,aM,aO,aP,aR,aT,aV,aX,aY,aH,aI,aK,A];rfl,fT.o.alloc _,nilT,?_,.inl ⟨by rw[a2.o],D⟩⟩;rw[a2.o]
  rfl
 obtain⟨B,bD⟩:=rM (j.take (j.length-4))
 rw[bD]at E F;have f5:G (B.length<=10000000/\∀C∈B,Byte C):=V ⟨by rw[<-bD,Ay8];omega,λC a7=>f6.o.byte C (by rw[<-bD]at a7;exact Av8 a7)⟩;have a2:=V F;have gI:=V E;have v:G (b≠e):=V (by have:=i.o;omega);obtain⟨n,z⟩:=rK (N.setCell ⟨e,0,none⟩ (.int .i64 0));have m:=V (b4.o.chg Q (by have:=i.o;omega) (λg K=>by have:=i.o;omega));have a6:ResAt b e n tC 0:=by
  have c4:=zA N e 0 (.int .i64 0);have S:=v.o;rw[z];refine⟨λh t y=>?_,Az9 _ _ _ m.o.e,λh=>(Az3 _ _ _ _).trans (m.o.z h),(Az3 _ _ _ _).trans m.o.z1⟩;exact c4.cellS (m.o.c h t y) S
 have b7:J (·=e) N n:=by rw[z];exact zA N e 0 _
 have a1:G (J (λg=>b<=g) u n):=V ((Q.mono (λg _ c=>by have:=i.o;omega)).trans (b7.mono (λg _ c=>by have:=i.o;omega)));have f3:G (b+3<=n.heap.size):=V (by have:=a1.o.size;have:=i.o;omega);obtain⟨bK,b0,bM,y⟩:∃bK b0 bM,t=.slice bK b0 bM:=⟨_,_,_,E.val⟩;subst y;obtain⟨P,U⟩:=rK n.heap.size;have w:G (P=n.heap.size/\b+3<=P):=V ⟨U,by rw[U];exact f3.o⟩;obtain⟨o,s⟩:=rK (n.alloc (.cells #[.slice bK b0 bM] 133));have bZ:Cf n o:=by rw[s];exact rT
 have b6:o.cell? ⟨P,0,none⟩=some (.slice bK b0 bM):=by rw[s,U];exact uE _ _ D
 have a0:o.frozen? ⟨P,0,none⟩=false:=by rw[s,U];exact Az6 _ _ _ _
 have b5:G (o.heap.size=P+1):=V (by rw[s,U];simp);have f2:=V (a6.chg bZ (by have:=f3.o;omega) (λ_ l=>l.elim));have g0:G (Calls prog 55 #[.pointer (some ⟨P,0,none⟩)] o (ix P o B)):=V (by
  by_cases f7:B.length<4
  .have g5:b0=B.length:=by have:=E.val;injection this
   refine (Bh o b6 H).mono ?_;rintro c b1 ⟨rfl,bF⟩;refine⟨bF.any,.inl ⟨?_,D⟩⟩;unfold sS;rw[if_neg (λc=>by have:=congrArg List.length c;rw[Ay8]at this;simp only[tQ,Ax2,Aw6]at this;omega)]
  obtain⟨bX,-,y,gM,fF⟩:=E.st (by intro c;rw[c]at f7;simp at f7)
  have g2:=b7.trans (bZ.any);have gO:bX<N.heap.size:=fF.lt;have gS:=i.o;have fH:Row o bX B:=fF.chg g2 (by show ¬bX=e;omega);refine Cy o B ⟨⟨0,B.length,by rw[b6,y],Ay1 _,fH.bytes (Aw8 _)⟩,a0,Az8 _ _ b6,fH.lt,?_,f5.o.1,f5.o.2⟩ H;have:=b7.size;omega)
 have f4:=V z;have bV:=V s;have e9:=m.o.e;have eD:=m.o.z1;clear z s a6 b7 bZ b6 a0 bD E F Q U;go_upto_region 4 with fail
 rw[<-f4.o];clear e9 eD;have gH:=(show n.cell? ⟨e,0,none⟩=some (.int .i64 0) by rw[f4.o];exact Az9 _ _ _ m.o.e);go_upto_region 7 with fail
 rw[<-bV.o,<-w.o.1];clear gH;go_wp2_with fail
 refine g0.o.mono ?_;rintro c Y ⟨R,⟨S,rfl⟩|⟨fO,gF,fK,rfl,fD⟩⟩
 .have x:=V (f2.o.chg R (by have:=w.o;have:=b5.o;omega) (λg K=>by have:=w.o;have:=i.o;omega))
  have bO:G (Cf k Y):=V (b2.o.trans2 ((a1.o.trans (by rw[bV.o];exact rT)).trans (R.mono (T:=λg=>b<=g) (λg _ c=>by have:=w.o;omega))) (λg K c=>by have:=i.o;omega));have a3:G (getR j=(4,none)):=V (by rw[a2.o,S];rfl);clear R S;refine leaves_cons (f:=53) (args:=#[.pointer (some ⟨b,0,none⟩),.pointer (some ⟨e,0,none⟩)]) sI (by simp[go_sem]) ?_;refine (Cw b e Y (λ_=>.slice none 0 0) 0 v.o (λh gP=>x.o.c h _ ?_) x.o.z x.o.e x.o.z1).mono ?_
  .rcases (by omega:h=0\/h=1\/h=2\/h=3\/h=4\/h=5\/h=6\/h=7\/h=8\/h=9\/h=10\/h=11\/h=12) with rfl|rfl|rfl|rfl|rfl|rfl|rfl|rfl|rfl|rfl|rfl|rfl|rfl <;> rfl
  rintro c fP Z ⟨rfl,rfl,W⟩;have g3:=x.o.chg ((FR Y).alloc (.cells #[] 129)) (Az8 _ _ (x.o.c 0 _ D)) (λ_ l=>l.elim);have r:=g3.set v.o tC D 4;rw[<-W]at r;have b3:G (Cf k Z):=V ((bO.o.alloc _).trans2 r.2 (λg K c=>by have:=i.o;omega));obtain⟨r,-⟩:=r;obtain⟨a,A,-,-⟩:=r;obtain⟨aD,aF,aM,aO,aP,aR,aT,aV,aX,aY,aH,aI,aK⟩:=rX a;show Leaves prog _ _ _ [] FrameMode.returning _;simp only[Leaves,results,results18];refine⟨_,by simp[go_sem,aD,aF,aM,aO,aP,aR,aT,aV,aX,aY,aH,aI,aK,A];rfl,b3.o,nilT,?_,.inl ⟨by rw[a3.o],D⟩⟩;rw[a3.o]
  rfl
 have x:=V (f2.o.chg R (by have:=w.o;have:=b5.o;omega) (λg K=>by have:=w.o;have:=i.o;omega))
 have bO:G (Cf k Y):=V (b2.o.trans2 ((a1.o.trans (by rw[bV.o];exact rT)).trans (R.mono (T:=λg=>b<=g) (λg _ c=>by have:=w.o;omega))) (λg K c=>by have:=i.o;omega));have a3:G (getR j=(0,some fO)):=V (by rw[a2.o,fK];rfl);have fV:=V fD;obtain⟨⟨cS,cT,d7⟩,⟨dP,e3,e4⟩,⟨e5,e6,e7⟩,⟨⟨e8,cV,cX⟩,⟨cZ,d0,d1⟩,⟨d2,d3,d4⟩,⟨d5,d6,d8⟩⟩,⟨⟨d9,dB,dD⟩,⟨dF,dH,dI⟩,⟨dK,dM,dO⟩,⟨dR,dT,dU⟩,⟨dV,dX,dZ⟩⟩,⟨e0,e1,e2⟩⟩:=gF;obtain⟨Z,W⟩:=rK ((xC b 0 [.slice cS cT d7,.slice dP e3 e4,.slice e5 e6 e7,.slice e8 cV cX,.slice cZ d0 d1,.slice d2 d3 d4,.slice d5 d6 d8,.slice d9 dB dD,.slice dF dH dI,.slice dK dM dO,.slice dR dT dU,.slice dV dX dZ,.slice e0 e1 e2] Y).setCell ⟨e,0,none⟩ (.int .i64 0));have r:=x.o.set v.o [.slice cS cT d7,.slice dP e3 e4,.slice e5 e6 e7,.slice e8 cV cX,.slice cZ d0 d1,.slice d2 d3 d4,.slice d5 d6 d8,.slice d9 dB dD,.slice dF dH dI,.slice dK dM dO,.slice dR dT dU,.slice dV dX dZ,.slice e0 e1 e2] D 0;rw[<-W]at r;have b3:G (J (λg=>g=b\/g=e) Y Z):=V r.2;have fZ:=V (r.1.chg ((FR Z).alloc (.cells #[] 129)) (Az8 _ _ (r.1.c 0 _ D)) (λ_ l=>l.elim));simp only[xC,Ax,Nat.reduceAdd]at W;have g1:=V W;simp only[kN,slV];clear R fK fD W r;have a8:=v.o;have g6:¬e=b:=λl=>a8 l.symm
 have g7:¬b=e:=a8;obtain⟨a,A,d,eB⟩:=x.o;have aB:=a 0 _ D;have eF:=d 0;have c7:=a 1 _ D;have eH:=d 1;have cB:=a 2 _ D;have eO:=d 2;have cD:=a 3 _ D;have eP:=d 3;have cF:=a 4 _ D;have a0:=d 4;have cH:=a 5 _ D;have eR:=d 5;have cI:=a 6 _ D;have eT:=d 6;have cK:=a 7 _ D;have eV:=d 7;have cM:=a 8 _ D;have eX:=d 8;have cO:=a 9 _ D;have eZ:=d 9;have c8:=a 10 _ D;have eI:=d 10;have c9:=a 11 _ D;have eK:=d 11;have cA:=a 12 _ D;have eM:=d 12;clear a d;go_wp2;rw[<-g1.o];clear aB eF c7 eH cB eO cD eP cF a0 cH eR cI eT cK eV cM eX cO eZ c8 eI c9 eK cA eM A eB;refine leaves_cons (f:=53) (args:=#[.pointer (some ⟨b,0,none⟩),.pointer (some ⟨e,0,none⟩)]) sI (by simp[go_sem]) ?_;refine (sa b e Z).mono ?_;rintro c fP gV ⟨rfl,rfl,rfl⟩;obtain⟨a,A,-,-⟩:=fZ.o;obtain⟨aD,aF,aM,aO,aP,aR,aT,aV,aX,aY,aH,aI,aK⟩:=rX a;simp only[Leaves,settle,results,results18];refine⟨_,by simp[go_sem,aD,aF,aM,aO,aP,aR,aT,aV,aX,aY,aH,aI,aK,A];rfl,(bO.o.trans2 b3.o (λg K c=>by have:=i.o;omega)).alloc _,⟨(cS,cT,d7),(dP,e3,e4),(e5,e6,e7),⟨(e8,cV,cX),(cZ,d0,d1),(d2,d3,d4),(d5,d6,d8)⟩,⟨(d9,dB,dD),(dF,dH,dI),(dK,dM,dO),(dR,dT,dU),(dV,dX,dZ)⟩,(e0,e1,e2)⟩,?_,.inr ⟨fO,by rw[a3.o],?_⟩⟩
 .rw[a3.o]
  rfl
 have g9:=TabsIn.good.chg fV.o b3.o (λa5 F c=>by have:=b5.o;have:=w.o;have:=i.o;omega)
 have gD:=TabsIn.good.chg g9 ((FR Z).alloc (.cells #[] 129)) iF;exact TabsIn.good.mono gD (λa5 _ F=>by have:=b5.o;have:=w.o;have:=i.o;omega)
theorem sA (a:List Int) (c d:Option Addr) (e f:Nat) (q r:Nat->Prop) (b:World) (h:intE.InS b q (c,a.length,e) a) (l:intE.InS b r (d,a.length,f) a) (x:a.length<=1000000000) :
  Calls prog 50 #[.slice c a.length e,.slice d a.length f] b λg w=>g=.returned (.bool true)/\Cf b w:=by
 obtain⟨s,u,i,j⟩:=h.bytes;obtain⟨t,v,m,n⟩:=l.bytes;have p:=V (I.gd a a c d s u t v e f b i j m n H);clear h l i j m n;go_enter func50,ntmps50
 go_wp2_with fail
 refine p.o.mono ?_;rintro g y ⟨rfl,k⟩;have o:=V k;clear k;go_wp2;go_ret
 exact⟨sI,o.o⟩
theorem tt (a:List Str) (j k:Option Addr) (l o:Nat) (B C:Nat->Prop) (d:World) (s:strE.InS d B (j,a.length,l) a) (b:strE.InS d C (k,a.length,o) a) (Z:a.length<=1000000000) :
  Calls prog 49 #[.slice j a.length l,.slice k a.length o] d λL U=>L=.returned (.bool true)/\Cf d U:=by
 have x:=V s;have y:=V b;clear s b;go_enter func49,ntmps49
 go_wp2
 go_loopw [5] (λi wr=>∃b:Nat,b<=a.length/\i=.int .i64 b/\Cf d wr) (λi _=>a.length-(intOf i).toNat)
 .exact⟨0,H,D,cR⟩
 obtain⟨b,Y,rfl,t⟩:=hrel;have e:=V t;clear t;by_cases v:b<a.length
 .have E:=rO b a.length
  obtain⟨c,F,P,R,p,N,rfl,-,-,-,q⟩:=(zL.of (x.o.chg e.o iF)).get1' (f:=fi) D v D;obtain⟨T,K,Q,S,h,O,rfl,-,-,-,r⟩:=(zL.of (y.o.chg e.o iF)).get1' (f:=fi) D v D;obtain rfl:c=F:=N;obtain rfl:T=K:=O;rw[p]at h;obtain rfl:=Az2 h;have m:=q _ D;have n:=r _ D;have A:G (∀g,Cf wr g->g.cell? ⟨P,R+b,none⟩=some (.string c)/\g.cell? ⟨Q,S+b,none⟩=some (.string c)):=V (λg w=>⟨w.cellS m iD,w.cellS n iD⟩);have X:(c.toList == c.toList)=true:=sI;clear p q h r m n;go_upto_region 6 with fail
  refine ws (λW=>Cf wr W) ?_;(iterate 9 (refine rf A.o ?_))
  refine zW ?_;intro a0 u;have z:=V (e.o.trans u);clear u;go_wp2;go_roundw
  .exact⟨b+1,H,GN,z.o⟩
  simp[intOf];omega
 obtain rfl:b=a.length:=H
 have E:=rP a.length;go_wp2;go_ret
 exact⟨D,e.o⟩
theorem Fw (b:List LsD) (v w:Option Addr) (x y:Nat) (a5 a6:Nat->Prop) (h:World) (aV:zL lsE lsR h a5 (v,b.length,x) b) (b3:zL dLsE dLsR h a6 (w,b.length,y) b) (cT:b.length<=1000000000) (aX:∀aM∈b,lsB aM) :
  Calls prog 51 #[.agg #[.slice v b.length x],.agg #[.slice w b.length y]] h λaT c6=>aT=.returned (.bool true)/\Cf h c6:=by
 obtain⟨bB,bD,bF⟩:=rZ aV b3 aX;obtain⟨N,K⟩:=rK ((h.alloc (.cells #[.slice v b.length x] 63)).alloc (.cells #[.slice w b.length y] 79));have a2:G (Cf h N):=V (by rw[K];exact ((J.refl _ h).alloc _).alloc _);have T:N.cell? ⟨h.heap.size,0,none⟩=some (.slice v b.length x):=by rw[K];exact yL _ (uE _ _ D)
 have z:N.cell? ⟨h.heap.size+1,0,none⟩=some (.slice w b.length y):=by rw[K];exact uE _ _ sI
 have bI:G (∀c,Cf N c->c.cell? ⟨h.heap.size,0,none⟩=some (.slice v b.length x)/\c.cell? ⟨h.heap.size+1,0,none⟩=some (.slice w b.length y)):=V (λc a=>⟨a.cellS T iD,a.cellS z iD⟩);clear aV b3 aX;go_enter func51,ntmps51
 go_upto_region 1 with fail
 rw[<-K];clear K;go_upto_region 4 with fail
 clear T z
 go_loopw [5] (λn wr=>∃l:Nat,l<=b.length/\n=.int .i64 l/\Cf N wr) (λn _=>b.length-(intOf n).toNat)
 .exact⟨0,H,D,cR⟩
 obtain⟨l,cP,rfl,C⟩:=hrel;obtain⟨e,rfl⟩:∃e:World,e=wr:=⟨_,D⟩;have t:=V C;clear C;obtain⟨T,z⟩:=bI.o e t.o;by_cases aZ:l<b.length
 .have bO:=rO l b.length
  obtain⟨⟨cX,⟨R,d2,S⟩,⟨A,d0,p⟩⟩,⟨cZ,o,d⟩,cM,d4,a,⟨b5,aH,X,Y⟩,rfl,-,-,-,E⟩:=((zL.good lsR.good).chg bB.o (a2.o.trans t.o) iF).get3 (f:=dq) D aZ D;obtain⟨⟨m,⟨a7,d3,a8⟩,⟨U,d1,B⟩⟩,cK,cO,d5,k,⟨b6,b7,Z,a0⟩,rfl,-,-,-,F⟩:=((zL.good dLsR.good).chg bD.o (a2.o.trans t.o) iF).get3 (f:=hJ) D aZ D;rw[a]at k;obtain rfl:=Az2 k;simp only at b5 aH X Y b6 b7 Z a0;subst b5 b6;obtain⟨rfl,-⟩:=X.len;obtain⟨rfl,-⟩:=Y.len;obtain⟨rfl,-⟩:=Z.len;obtain⟨rfl,-⟩:=a0.len;obtain⟨b4,c3⟩:=bF.o _ (Az1 a);simp only at b4 c3;obtain⟨a1,O,b9⟩:=E _ _ _ D;obtain⟨P,q,aO⟩:=F _ _ _ D;simp only[slV]at O b9 q aO;have cV:IntKind.i64.wrap m=m:=(by rw[IntKind.wrap_i64];obtain⟨d6,d7⟩:=aH;omega);obtain⟨j,i⟩:=rK ((e.alloc (.cells #[.int .u8 m,.slice R o.length S,.slice A d.length p] 67)).alloc (.cells #[.int .i64 m,.slice a7 o.length a8,.slice U d.length B] 145));have u:G (Cf e j):=V (by rw[i];exact (rT).alloc _);have cA:j.cell? ⟨e.heap.size,0,none⟩=some (.int .u8 m):=(by rw[i];exact yL _ (zG _ D D));have cB:j.cell? ⟨e.heap.size,1,none⟩=some (.slice R o.length S):=(by rw[i];exact yL _ (zG _ D D));have r:j.cell? ⟨e.heap.size,2,none⟩=some (.slice A d.length p):=(by rw[i];exact yL _ (zG _ D D));have cF:j.cell? ⟨e.heap.size+1,0,none⟩=some (.int .i64 m):=(by rw[i];exact zG _ sI D);have cH:j.cell? ⟨e.heap.size+1,1,none⟩=some (.slice a7 o.length a8):=(by rw[i];exact zG _ sI D);have s:j.cell? ⟨e.heap.size+1,2,none⟩=some (.slice U d.length B):=(by rw[i];exact zG _ sI D);have bK:G (∀c,Cf j c->(c.cell? ⟨e.heap.size,2,none⟩=some (.slice A d.length p)/\c.cell? ⟨e.heap.size+1,2,none⟩=some (.slice U d.length B))/\mN.InS c a5 (A,d.length,p) d/\dLeE.InS c a6 (U,d.length,B) d):=V (λc a =>
   ⟨⟨a.cellS r iD,a.cellS s iD⟩,Y.chg (u.o.trans a) iF,a0.chg (u.o.trans a) iF⟩)
  have aR:=V (sA o R a7 S a8 a5 a6 j (X.chg u.o iF) (Z.chg u.o iF) b4);clear a k E F aH X Y b7 Z a0;obtain⟨b8,L⟩:=rK (e.alloc (.cells #[.int .u8 m,.slice R o.length S,.slice A d.length p] 67));have Q:G (Cf e b8):=V (by rw[L];exact rT);have c0:b8.heap.size=e.heap.size+1:=(by rw[L];simp);have bP:=Q.o.cellS z iD;have c7:=Q.o.cellS P iD;have c8:=Q.o.cellS q iD;have c9:=Q.o.cellS aO iD;rw[<-L]at i;go_upto_region 7 with fail
  rw[<-L];clear L a1 O b9 P q aO T z;go_upto_region 8 with fail
  rw[<-i];clear i c0 bP c7 c8 c9;go_wp2_with fail
  refine aR.o.mono ?_;rintro aT d9 ⟨rfl,W⟩;have aP:=V W;have cD:=W.cellS r iD;have cI:=W.cellS s iD;clear W aR cA cB cF cH r s;go_upto_region 11 with fail
  clear cD cI
  go_loopw [8] (λn wr=>∃g:Nat,g<=d.length/\n=.int .i64 g/\Cf j wr) (λn _=>d.length-(intOf n).toNat)
  .exact⟨0,H,D,aP.o⟩
  clear aP;obtain⟨g,cS,rfl,C⟩:=hrel;have a4:=V C;clear C;obtain⟨⟨r,s⟩,b2,b1⟩:=bK.o _ a4.o;by_cases b0:g<d.length
  .have bM:=rO g d.length
   obtain⟨⟨aI,aK⟩,bT,a9,aD,a,bX,rfl,-,-,-,E⟩:=(zL.of b2).get2 (f:=tY) D b0 D;obtain⟨⟨c4,c5⟩,bV,aB,aF,k,bZ,rfl,-,-,-,F⟩:=(zL.of b1).get2 (f:=tY) D b0 D;obtain rfl:(aI,aK)=bT:=bX;obtain rfl:(c4,c5)=bV:=bZ;rw[a]at k;injection k with k;injection k with c1 c2;subst c1 c2;obtain⟨a1,O⟩:=E _ _ D;obtain⟨P,q⟩:=F _ _ D;have bH:G (∀c,Cf wr c->c.cell? ⟨e.heap.size,2,none⟩=some (.slice (some ⟨a9,aD,none⟩) d.length p)/\c.cell? ⟨e.heap.size+1,2,none⟩=some (.slice (some ⟨aB,aF,none⟩) d.length B)/\c.cell? ⟨a9,aD+g * 2,none⟩=some (.int .i64 aI)/\c.cell? ⟨a9,aD+g * 2+1,none⟩=some (.int .i64 aK)/\c.cell? ⟨aB,aF+g * 2,none⟩=some (.int .i64 aI)/\c.cell? ⟨aB,aF+g * 2+1,none⟩=some (.int .i64 aK)):=V (λc a =>
    ⟨a.cellS r iD,a.cellS s iD,a.cellS a1 iD,a.cellS O iD,a.cellS P iD,a.cellS q iD⟩)
   clear a E F b2 b1 a1 O P q;go_upto_region 13 with fail
   refine ws (λaM=>Cf wr aM) ?_;(iterate 28 (refine rf bH.o ?_))
   refine zW ?_;intro d8 aY;have a3:=V (a4.o.trans aY);clear aY r s;go_wp2;go_roundw
   .exact⟨g+1,H,GN,a3.o⟩
   simp[intOf];omega
  obtain rfl:g=d.length:=H
  have bM:=rP d.length;have a3:=V (t.o.trans (u.o.trans a4.o));go_wp2;go_roundw
  .exact⟨l+1,H,GN,a3.o⟩
  simp[intOf];omega
 obtain rfl:l=b.length:=H
 have bO:=rP b.length;go_wp2;go_ret
 exact⟨D,a2.o.trans t.o⟩
theorem jm (a:TabsD) (gO gP:TabsS) (O P:Nat->Prop) (E:World) (cI:TabsIn E O gO a) (g:DocIn E P gP a) (h6:FairTabs a) :
  Calls prog 15 #[kN gO,kN gP] E λaF c9=>aF=.returned (.bool true)/\Cf E c9:=by
 obtain⟨⟨cT,iX,d4⟩,⟨cV,hZ,d5⟩,⟨f6,i0,d7⟩,⟨⟨f7,j1,d8⟩,⟨cX,j2,d9⟩,⟨f8,j3,dB⟩,⟨cZ,j4,dD⟩⟩,⟨⟨cB,j5,cF⟩,⟨bO,j6,c2⟩,⟨bP,j7,c3⟩,⟨bK,iY,c0⟩,⟨bM,iZ,c1⟩⟩,⟨f5,j0,d6⟩⟩:=gO;obtain⟨⟨d0,iL,dF⟩,⟨d1,hW,dH⟩,⟨fB,eX,dK⟩,⟨⟨fD,iP,dM⟩,⟨d2,iQ,dO⟩,⟨fF,iR,dP⟩,⟨d3,iS,dR⟩⟩,⟨⟨cD,iT,cH⟩,⟨bX,iU,c6⟩,⟨bZ,iV,c7⟩,⟨bT,iM,c4⟩,⟨bV,iN,c5⟩⟩,⟨f9,iO,dI⟩⟩:=gP;have hK:=V cI;have hL:=V g;have N:=V h6;obtain⟨dZ,e0,e4,⟨e5,e6,e7,e8⟩,⟨e9,eB,eD,e1,e2⟩,e3⟩:=cI;obtain⟨rfl,-⟩:=dZ.len;obtain⟨rfl,-⟩:=e0.len;obtain⟨rfl,-⟩:=e4.len;obtain⟨rfl,-⟩:=e5.len;obtain⟨rfl,-⟩:=e6.len;obtain⟨rfl,-⟩:=e7.len;obtain⟨rfl,-⟩:=e8.len;obtain⟨rfl,-⟩:=e9.len;obtain⟨rfl,-⟩:=eB.len;obtain⟨rfl,-⟩:=eD.len;obtain⟨rfl,-⟩:=e1.len;obtain⟨rfl,-⟩:=e2.len;obtain⟨rfl,-⟩:=e3.len;clear dZ e0 e4 e5 e6 e7 e8 e9 eB eD e1 e2 e3;obtain⟨dZ,e0,e4,⟨e5,e6,e7,e8⟩,⟨e9,eB,eD,e1,e2⟩,e3⟩:=g;obtain⟨rfl,-⟩:=dZ.len;obtain⟨rfl,-⟩:=e0.len;obtain⟨rfl,-⟩:=e4.len;obtain⟨rfl,-⟩:=e5.len;obtain⟨rfl,-⟩:=e6.len;obtain⟨rfl,-⟩:=e7.len;obtain⟨rfl,-⟩:=e8.len;obtain⟨rfl,-⟩:=e9.len;obtain⟨rfl,-⟩:=eB.len;obtain⟨rfl,-⟩:=eD.len;obtain⟨rfl,-⟩:=e1.len;obtain⟨rfl,-⟩:=e2.len;obtain⟨rfl,-⟩:=e3.len;clear dZ e0 e4 e5 e6 e7 e8 e9 eB eD e1 e2 e3 h6;have jF:=N.o.rl;have jI:=N.o.tk;have j8:=N.o.dr;have jD:=N.o.lx.r;have jB:=N.o.lx.n;have j9:=N.o.lk;have jH:=N.o.nt.st;obtain⟨s,eM⟩:=rK ((E.alloc (.cells #[.slice cT a.rl.length d4,.slice cV a.tk.length d5,.slice f6 a.dr.length d7,.slice f7 a.lx.r.length d8,.slice cX a.lx.c.length d9,.slice f8 a.lx.n.length dB,.slice cZ a.lx.e.length dD,.slice cB a.nt.st.length cF,.slice bO a.nt.s.length c2,.slice bP a.nt.p.length c3,.slice bK a.nt.q.length c0,.slice bM a.nt.d.length c1,.slice f5 a.lk.length d6] 34)).alloc (.cells #[.slice d0 a.rl.length dF,.slice d1 a.tk.length dH,.slice fB a.dr.length dK,.slice fD a.lx.r.length dM,.slice d2 a.lx.c.length dO,.slice fF a.lx.n.length dP,.slice d3 a.lx.e.length dR,.slice cD a.nt.st.length cH,.slice bX a.nt.s.length c6,.slice bZ a.nt.p.length c7,.slice bT a.nt.q.length c4,.slice bV a.nt.d.length c5,.slice f9 a.lk.length dI] 43));have g1:G (Cf E s):=V (by rw[eM];exact ((J.refl _ E).alloc _).alloc _);have b:G (∀c,Cf s c->(∀k r,([.slice cT a.rl.length d4,.slice cV a.tk.length d5,.slice f6 a.dr.length d7,.slice f7 a.lx.r.length d8,.slice cX a.lx.c.length d9,.slice f8 a.lx.n.length dB,.slice cZ a.lx.e.length dD,.slice cB a.nt.st.length cF,.slice bO a.nt.s.length c2,.slice bP a.nt.p.length c3,.slice bK a.nt.q.length c0,.slice bM a.nt.d.length c1,.slice f5 a.lk.length d6]:List Value)[k]?=some r->c.cell? ⟨E.heap.size,k,none⟩=some r)/\∀k r,([.slice d0 a.rl.length dF,.slice d1 a.tk.length dH,.slice fB a.dr.length dK,.slice fD a.lx.r.length dM,.slice d2 a.lx.c.length dO,.slice fF a.lx.n.length dP,.slice d3 a.lx.e.length dR,.slice cD a.nt.st.length cH,.slice bX a.nt.s.length c6,.slice bZ a.nt.p.length c7,.slice bT a.nt.q.length c4,.slice bV a.nt.d.length c5,.slice f9 a.lk.length dI]:List Value)[k]?=some r->c.cell? ⟨E.heap.size+1,k,none⟩=some r):=V (λc d =>
  ⟨λk r aX=>d.cellS (by rw[eM];exact yL _ (zG _ D (by rw[<-Aw];exact aX))) iD,λk r aX=>d.cellS (by rw[eM];exact zG _ sI (by rw[<-Aw];exact aX)) iD⟩)
 have a1:G (∀c,Cf s c->TabsIn c O ⟨(cT,a.rl.length,d4),(cV,a.tk.length,d5),(f6,a.dr.length,d7),⟨(f7,a.lx.r.length,d8),(cX,a.lx.c.length,d9),(f8,a.lx.n.length,dB),(cZ,a.lx.e.length,dD)⟩,⟨(cB,a.nt.st.length,cF),(bO,a.nt.s.length,c2),(bP,a.nt.p.length,c3),(bK,a.nt.q.length,c0),(bM,a.nt.d.length,c1)⟩,(f5,a.lk.length,d6)⟩ a):=V (λc d=>TabsIn.good.chg hK.o (g1.o.trans d) iF);have a2:G (∀c,Cf s c->DocIn c P ⟨(d0,a.rl.length,dF),(d1,a.tk.length,dH),(fB,a.dr.length,dK),⟨(fD,a.lx.r.length,dM),(d2,a.lx.c.length,dO),(fF,a.lx.n.length,dP),(d3,a.lx.e.length,dR)⟩,⟨(cD,a.nt.st.length,cH),(bX,a.nt.s.length,c6),(bZ,a.nt.p.length,c7),(bT,a.nt.q.length,c4),(bV,a.nt.d.length,c5)⟩,(f9,a.lk.length,dI)⟩ a):=V (λc d=>DocIn.good.chg hL.o (g1.o.trans d) iF);show Calls prog 15 #[.agg #[.slice cT a.rl.length d4,.slice cV a.tk.length d5,.slice f6 a.dr.length d7,.slice f7 a.lx.r.length d8,.slice cX a.lx.c.length d9,.slice f8 a.lx.n.length dB,.slice cZ a.lx.e.length dD,.slice cB a.nt.st.length cF,.slice bO a.nt.s.length c2,.slice bP a.nt.p.length c3,.slice bK a.nt.q.length c0,.slice bM a.nt.d.length c1,.slice f5 a.lk.length d6],.agg #[.slice d0 a.rl.length dF,.slice d1 a.tk.length dH,.slice fB a.dr.length dK,.slice fD a.lx.r.length dM,.slice d2 a.lx.c.length dO,.slice fF a.lx.n.length dP,.slice d3 a.lx.e.length dR,.slice cD a.nt.st.length cH,.slice bX a.nt.s.length c6,.slice bZ a.nt.p.length c7,.slice bT a.nt.q.length c4,.slice bV a.nt.d.length c5,.slice f9 a.lk.length dI]] E _;go_enter func15,ntmps15
 go_upto_region 1 with fail
 rw[<-eM];clear eM;have dU:=(b.o s cR).1 0 _ D;have dV:=(b.o s cR).2 0 _ D;have c8:=(b.o s cR).1 1 _ D;have dX:=(b.o s cR).2 1 _ D;have aP:=(b.o s cR).1 2 _ D;have bD:=(b.o s cR).2 2 _ D;have b7:=(b.o s cR).1 12 _ D;have bB:=(b.o s cR).2 12 _ D;have b8:=(b.o s cR).1 3 _ D;have bF:=(b.o s cR).2 3 _ D;have b9:=(b.o s cR).1 5 _ D;have bH:=(b.o s cR).2 5 _ D;go_wp2_with fail
 refine (tt a.rl cT d0 d4 dF O P s (a1.o _ cR).rl (a2.o _ cR).rl H).mono ?_;rintro aF a8 ⟨rfl,h4⟩;have S:=V h4;clear h4;clear dU dV c8 dX aP bD b7 bB b8 bF b9 bH;have dU:=(b.o a8 S.o).1 0 _ D;have dV:=(b.o a8 S.o).2 0 _ D;have c8:=(b.o a8 S.o).1 1 _ D;have dX:=(b.o a8 S.o).2 1 _ D;have aP:=(b.o a8 S.o).1 2 _ D;have bD:=(b.o a8 S.o).2 2 _ D;have b7:=(b.o a8 S.o).1 12 _ D;have bB:=(b.o a8 S.o).2 12 _ D;have b8:=(b.o a8 S.o).1 3 _ D;have bF:=(b.o a8 S.o).2 3 _ D;have b9:=(b.o a8 S.o).1 5 _ D;have bH:=(b.o a8 S.o).2 5 _ D;go_wp2_with fail
 refine (tt a.tk cV d1 d5 dH O P a8 (a1.o _ S.o).tk (a2.o _ S.o).tk H).mono ?_;rintro aF L ⟨rfl,K⟩;have n:=V (S.o.trans K);clear K;clear dU dV c8 dX aP bD b7 bB b8 bF b9 bH;have dU:=(b.o L n.o).1 0 _ D;have dV:=(b.o L n.o).2 0 _ D;have c8:=(b.o L n.o).1 1 _ D;have dX:=(b.o L n.o).2 1 _ D;have aP:=(b.o L n.o).1 2 _ D;have bD:=(b.o L n.o).2 2 _ D;have b7:=(b.o L n.o).1 12 _ D;have bB:=(b.o L n.o).2 12 _ D;have b8:=(b.o L n.o).1 3 _ D;have bF:=(b.o L n.o).2 3 _ D;have b9:=(b.o L n.o).1 5 _ D;have bH:=(b.o L n.o).2 5 _ D;go_upto_region 4 with fail
 clear dU dV c8 dX aP bD b7 bB b8 bF b9 bH
 go_loopw [5] (λq wr=>∃g:Nat,g<=a.dr.length/\q=.int .i64 g/\Cf s wr) (λq _=>a.dr.length-(intOf q).toNat)
 .exact⟨0,H,D,n.o⟩
 obtain⟨g,fK,rfl,l⟩:=hrel;have j:=V l;clear l;have aP:=(b.o wr j.o).1 2 _ D;have bD:=(b.o wr j.o).2 2 _ D;by_cases Y:g<a.dr.length
 .have bI:=rO g a.dr.length
  obtain⟨v,h,a4,a6,d,B,rfl,-,-,-,a3⟩:=(zL.of (a1.o _ j.o).dr).get1' (f:=λg4=>[.bool g4]) D Y D;obtain⟨h1,aM,a5,a7,p,C,rfl,-,-,-,o⟩:=(zL.of (a2.o _ j.o).dr).get1' (f:=λg4=>[.bool g4]) D Y D;obtain rfl:v=h:=B;obtain rfl:h1=aM:=C;rw[d]at p;obtain rfl:=Az2 p;have eZ:=a3 _ D;have f0:=o _ D;have b5:G (∀c,Cf wr c->(c.cell? ⟨E.heap.size,2,none⟩=some (.slice (some ⟨a4,a6,none⟩) a.dr.length d7)/\c.cell? ⟨E.heap.size+1,2,none⟩=some (.slice (some ⟨a5,a7,none⟩) a.dr.length dK))/\c.cell? ⟨a4,a6+g,none⟩=some (.bool v)/\c.cell? ⟨a5,a7+g,none⟩=some (.bool v)):=V (λc d=>⟨⟨d.cellS aP iD,d.cellS bD iD⟩,d.cellS eZ iD,d.cellS f0 iD⟩);have iH:(v != v)=false:=sI;clear d p a3 o eZ f0;go_upto_region 6 with fail
  refine ws (λv=>Cf wr v) ?_;(iterate 11 (refine rf b5.o ?_))
  refine zW ?_;intro L K;have n:=V (j.o.trans K);clear K;clear aP bD;go_wp2;go_roundw
  .exact⟨g+1,H,GN,n.o⟩
  simp[intOf];omega
 obtain rfl:g=a.dr.length:=H
 have bI:=rP a.dr.length;have m:=V j.o;go_upto_region 9 with fail
 clear j aP bD
 go_loopw [6] (λq wr=>∃g:Nat,g<=a.lx.r.length/\q=.int .i64 g/\Cf s wr) (λq _=>a.lx.r.length-(intOf q).toNat)
 .exact⟨0,H,D,m.o⟩
 obtain⟨g,fK,rfl,l⟩:=hrel;have j:=V l;clear l;have b8:=(b.o wr j.o).1 3 _ D;have bF:=(b.o wr j.o).2 3 _ D;by_cases Y:g<a.lx.r.length
 .have bI:=rO g a.lx.r.length
  obtain⟨⟨v,gZ⟩,h,a4,a6,d,B,rfl,-,-,-,a3⟩:=(zL.of (a1.o _ j.o).lx.r).get2 (f:=dp) D Y D;obtain⟨⟨h1,i8⟩,aM,a5,a7,p,C,rfl,-,-,-,o⟩:=(zL.of (a2.o _ j.o).lx.r).get2 (f:=dp) D Y D;obtain rfl:(v,gZ)=h:=B;obtain rfl:(h1,i8)=aM:=C;rw[d]at p;injection p with p;injection p with gM eV;subst gM eV;obtain⟨eZ,f0⟩:=a3 _ _ D;obtain⟨hD,hE⟩:=o _ _ D;have b5:G (∀c,Cf wr c->(c.cell? ⟨E.heap.size,3,none⟩=some (.slice (some ⟨a4,a6,none⟩) a.lx.r.length d8)/\c.cell? ⟨E.heap.size+1,3,none⟩=some (.slice (some ⟨a5,a7,none⟩) a.lx.r.length dM))/\c.cell? ⟨a4,a6+g * 2,none⟩=some (.int .i32 v)/\c.cell? ⟨a4,a6+g * 2+1,none⟩=some (.int .i32 gZ)/\c.cell? ⟨a5,a7+g * 2,none⟩=some (.int .i32 v)/\c.cell? ⟨a5,a7+g * 2+1,none⟩=some (.int .i32 gZ)):=V (λc d=>⟨⟨d.cellS b8 iD,d.cellS bF iD⟩,d.cellS eZ iD,d.cellS f0 iD,d.cellS hD iD,d.cellS hE iD⟩);clear d a3 o eZ f0 hD hE;go_upto_region 11 with fail
  refine ws (λv=>Cf wr v) ?_;(iterate 13 (refine rf b5.o ?_))
  refine zW ?_;intro L K;have n:=V (j.o.trans K);clear K;clear b8 bF;go_wp2;go_roundw
  .exact⟨g+1,H,GN,n.o⟩
  simp[intOf];omega
 obtain rfl:g=a.lx.r.length:=H
 have bI:=rP a.lx.r.length;have m:=V j.o;go_upto_region 14 with fail
 clear j b8 bF
 go_loopw [7] (λq wr=>∃g:Nat,g<=a.lx.n.length/\q=.int .i64 g/\Cf s wr) (λq _=>a.lx.n.length-(intOf q).toNat)
 .exact⟨0,H,D,m.o⟩
 obtain⟨g,fK,rfl,l⟩:=hrel;have j:=V l;clear l;have b9:=(b.o wr j.o).1 5 _ D;have bH:=(b.o wr j.o).2 5 _ D;by_cases Y:g<a.lx.n.length
 .have bI:=rO g a.lx.n.length
  obtain⟨⟨a9,h0,a0⟩,h,a4,a6,d,B,rfl,-,-,a3⟩:=(a1.o _ j.o).lx.n.get1 (f:=slV) D Y (λ_=>rfl);obtain⟨⟨aB,h2,aD⟩,aM,a5,a7,p,C,rfl,-,-,o⟩:=(a2.o _ j.o).lx.n.get1 (f:=slV) D Y (λ_=>rfl);rw[d]at p;obtain rfl:=Az2 p;have B:intE.InS wr O (a9,h0,a0) h:=B;have C:intE.InS wr P (aB,h2,aD) h:=C;obtain⟨rfl,-⟩:=B.len;obtain⟨rfl,-⟩:=C.len;simp only[slV]at a3 o;have f4:G (h.length<=1000000000):=V (N.o.lx.l _ (Az1 d));have b5:G (∀c,Cf wr c->(c.cell? ⟨E.heap.size,5,none⟩=some (.slice (some ⟨a4,a6,none⟩) a.lx.n.length dB)/\c.cell? ⟨E.heap.size+1,5,none⟩=some (.slice (some ⟨a5,a7,none⟩) a.lx.n.length dP))/\c.cell? ⟨a4,a6+g,none⟩=some (.slice a9 h.length a0)/\c.cell? ⟨a5,a7+g,none⟩=some (.slice aB h.length aD)):=V (λc d=>⟨⟨d.cellS b9 iD,d.cellS bH iD⟩,d.cellS a3 iD,d.cellS o iD⟩);have cA:=V (λ(c:World) (d:Cf wr c)=>sA h a9 aB a0 aD O P c (B.chg d iF) (C.chg d iF) f4.o);clear d p a3 o B C;go_upto_region 16 with fail
  refine ws (λv=>Cf wr v) ?_;(iterate 12 (refine rf b5.o ?_))
  refine xA D (.bool true )  50  ( #[.slice a9 h.length a0,.slice aB h.length aD]) (λc9=>by go_simp) (λ_ c9 _ eF=>?_) (λg3 eH=>?_)
  .refine (cA.o c9 eF).mono ?_
   rintro aF i6 ⟨rfl,cI⟩;exact⟨D,eF.trans cI⟩
  ((try go_simp);refine eH _ ?_;clear eH g3)
  refine rq ?_;refine zW ?_;intro L K;have n:=V (j.o.trans K);clear K;clear b9 bH;go_wp2;go_roundw
  .exact⟨g+1,H,GN,n.o⟩
  simp[intOf];omega
 obtain rfl:g=a.lx.n.length:=H
 have bI:=rP a.lx.n.length;have m:=V j.o;go_upto_region 19 with fail
 clear j b9 bH
 go_loopw [8] (λq wr=>∃g:Nat,g<=a.lk.length/\q=.int .i64 g/\Cf s wr) (λq _=>a.lk.length-(intOf q).toNat)
 .exact⟨0,H,D,m.o⟩
 obtain⟨g,fK,rfl,l⟩:=hrel;have j:=V l;clear l;have b7:=(b.o wr j.o).1 12 _ D;have bB:=(b.o wr j.o).2 12 _ D;by_cases Y:g<a.lk.length
 .have bI:=rO g a.lk.length
  obtain⟨⟨a9,h0,a0⟩,h,a4,a6,d,B,rfl,-,-,a3⟩:=(a1.o _ j.o).lk.get1 (f:=slV) D Y (λ_=>rfl);obtain⟨⟨aB,h2,aD⟩,aM,a5,a7,p,C,rfl,-,-,o⟩:=(a2.o _ j.o).lk.get1 (f:=slV) D Y (λ_=>rfl);rw[d]at p;obtain rfl:=Az2 p;have B:zL lsE lsR wr O (a9,h0,a0) h:=B;have C:zL dLsE dLsR wr P (aB,h2,aD) h:=C;obtain⟨rfl,-⟩:=B.len;obtain⟨rfl,-⟩:=C.len;simp only[slV]at a3 o;have f4:=V (N.o.la _ (Az1 d));have b5:G (∀c,Cf wr c->(c.cell? ⟨E.heap.size,12,none⟩=some (.slice (some ⟨a4,a6,none⟩) a.lk.length d6)/\c.cell? ⟨E.heap.size+1,12,none⟩=some (.slice (some ⟨a5,a7,none⟩) a.lk.length dI))/\c.cell? ⟨a4,a6+g,none⟩=some (.slice a9 h.length a0)/\c.cell? ⟨a5,a7+g,none⟩=some (.slice aB h.length aD)):=V (λc d=>⟨⟨d.cellS b7 iD,d.cellS bB iD⟩,d.cellS a3 iD,d.cellS o iD⟩);have cA:=V (λ(c:World) (d:Cf wr c)=>Fw h a9 aB a0 aD O P c ((zL.good lsR.good).chg B d iF) ((zL.good dLsR.good).chg C d iF) f4.o.1 f4.o.2);clear d p a3 o B C;go_upto_region 21 with fail
  refine ws (λv=>Cf wr v) ?_;(iterate 10 (refine rf b5.o ?_))
  refine xA D (.bool true )  51  ( #[.agg #[.slice a9 h.length a0],.agg #[.slice aB h.length aD]]) (λc9=>by go_simp) (λ_ c9 _ eF=>?_) (λg3 eH=>?_)
  .refine (cA.o c9 eF).mono ?_
   rintro aF i6 ⟨rfl,cI⟩;exact⟨D,eF.trans cI⟩
  ((try go_simp);refine eH _ ?_;clear eH g3)
  refine rq ?_;refine zW ?_;intro L K;have n:=V (j.o.trans K);clear K;clear b7 bB;go_wp2;go_roundw
  .exact⟨g+1,H,GN,n.o⟩
  simp[intOf];omega
 obtain rfl:g=a.lk.length:=H
 have bI:=rP a.lk.length;have m:=V j.o;clear j;have g7:=(b.o wr m.o).1 7 _ D;have gH:=(b.o wr m.o).2 7 _ D;have g8:=(b.o wr m.o).1 8 _ D;have gI:=(b.o wr m.o).2 8 _ D;have g9:=(b.o wr m.o).1 9 _ D;have gK:=(b.o wr m.o).2 9 _ D;have g5:=(b.o wr m.o).1 10 _ D;have gD:=(b.o wr m.o).2 10 _ D;have g6:=(b.o wr m.o).1 11 _ D;have gF:=(b.o wr m.o).2 11 _ D;obtain⟨Z,eO⟩:=rK (wr.alloc (.cells #[.slice cB a.nt.st.length cF,.slice bO a.nt.s.length c2,.slice bP a.nt.p.length c3,.slice bK a.nt.q.length c0,.slice bM a.nt.d.length c1] 31));have aO:G (Cf wr Z):=V (by rw[eO];exact rT);have hA:Z.heap.size=wr.heap.size+1:=(by rw[eO];simp);obtain⟨u,eT⟩:=rK (Z.alloc (.cells #[.slice cD a.nt.st.length cH,.slice bX a.nt.s.length c6,.slice bZ a.nt.p.length c7,.slice bT a.nt.q.length c4,.slice bV a.nt.d.length c5] 40));have hM:G (Cf Z u):=V (by rw[eT];exact rT);have i:=V (m.o.trans (aO.o.trans hM.o));have e:G (∀c,Cf u c->(∀k r,([.slice cB a.nt.st.length cF,.slice bO a.nt.s.length c2,.slice bP a.nt.p.length c3,.slice bK a.nt.q.length c0,.slice bM a.nt.d.length c1]:List Value)[k]?=some r->c.cell? ⟨wr.heap.size,k,none⟩=some r)/\∀k r,([.slice cD a.nt.st.length cH,.slice bX a.nt.s.length c6,.slice bZ a.nt.p.length c7,.slice bT a.nt.q.length c4,.slice bV a.nt.d.length c5]:List Value)[k]?=some r->c.cell? ⟨wr.heap.size+1,k,none⟩=some r):=V (λc d =>
  ⟨λk r aX=>d.cellS (by rw[eT,eO];exact yL _ (zG _ D (by rw[<-Aw];exact aX))) iD,λk r aX=>d.cellS (by rw[eT];exact zG _ hA.symm (by rw[<-Aw];exact aX)) iD⟩)
 go_upto_region 24 with fail
 rw[<-eO];clear b7 bB eO g7 gH g8 gI g9 gK g5 gD g6 gF;have g7:=(b.o Z (m.o.trans aO.o)).1 7 _ D;have gH:=(b.o Z (m.o.trans aO.o)).2 7 _ D;have g8:=(b.o Z (m.o.trans aO.o)).1 8 _ D;have gI:=(b.o Z (m.o.trans aO.o)).2 8 _ D;have g9:=(b.o Z (m.o.trans aO.o)).1 9 _ D;have gK:=(b.o Z (m.o.trans aO.o)).2 9 _ D;have g5:=(b.o Z (m.o.trans aO.o)).1 10 _ D;have gD:=(b.o Z (m.o.trans aO.o)).2 10 _ D;have g6:=(b.o Z (m.o.trans aO.o)).1 11 _ D;have gF:=(b.o Z (m.o.trans aO.o)).2 11 _ D;go_upto_region 25 with fail
 rw[<-eT];clear eT hA g7 gH g8 gI g9 gK g5 gD g6 gF;have F:G (Cf u u):=V cR;have o:=(b.o u (i.o.trans F.o)).1 4 _ D;have aT:=(b.o u (i.o.trans F.o)).2 4 _ D;have aR:=(b.o u (i.o.trans F.o)).1 6 _ D;have aV:=(b.o u (i.o.trans F.o)).2 6 _ D;have T:=(e.o u F.o).1 0 _ D;have R:=(e.o u F.o).2 0 _ D;have aH:=(e.o u F.o).1 1 _ D;have aY:=(e.o u F.o).2 1 _ D;have aI:=(e.o u F.o).1 2 _ D;have aZ:=(e.o u F.o).2 2 _ D;have b2:=(e.o u F.o).1 3 _ D;have b0:=(e.o u F.o).2 3 _ D;have b3:=(e.o u F.o).1 4 _ D;have b1:=(e.o u F.o).2 4 _ D;go_wp2_with fail
 refine (sA a.lx.c cX d2 d9 dO O P u (a1.o _ (i.o.trans F.o)).lx.c (a2.o _ (i.o.trans F.o)).lx.c (N.o.lx.c)).mono ?_;rintro aF h ⟨rfl,l⟩;have w:=V (F.o.trans l);clear l o aT aR aV T aH aI b2 b3 R aY aZ b0 b1;have o:=(b.o h (i.o.trans w.o)).1 4 _ D;have aT:=(b.o h (i.o.trans w.o)).2 4 _ D;have aR:=(b.o h (i.o.trans w.o)).1 6 _ D;have aV:=(b.o h (i.o.trans w.o)).2 6 _ D;have T:=(e.o h w.o).1 0 _ D;have R:=(e.o h w.o).2 0 _ D;have aH:=(e.o h w.o).1 1 _ D;have aY:=(e.o h w.o).2 1 _ D;have aI:=(e.o h w.o).1 2 _ D;have aZ:=(e.o h w.o).2 2 _ D;have b2:=(e.o h w.o).1 3 _ D;have b0:=(e.o h w.o).2 3 _ D;have b3:=(e.o h w.o).1 4 _ D;have b1:=(e.o h w.o).2 4 _ D;go_wp2_with fail
 refine (sA a.lx.e cZ d3 dD dR O P h (a1.o _ (i.o.trans w.o)).lx.e (a2.o _ (i.o.trans w.o)).lx.e (N.o.lx.e)).mono ?_;rintro aF t ⟨rfl,l⟩;have x:=V (w.o.trans l);clear l o aT aR aV T aH aI b2 b3 R aY aZ b0 b1;have o:=(b.o t (i.o.trans x.o)).1 4 _ D;have aT:=(b.o t (i.o.trans x.o)).2 4 _ D;have aR:=(b.o t (i.o.trans x.o)).1 6 _ D;have aV:=(b.o t (i.o.trans x.o)).2 6 _ D;have T:=(e.o t x.o).1 0 _ D;have R:=(e.o t x.o).2 0 _ D;have aH:=(e.o t x.o).1 1 _ D;have aY:=(e.o t x.o).2 1 _ D;have aI:=(e.o t x.o).1 2 _ D;have aZ:=(e.o t x.o).2 2 _ D;have b2:=(e.o t x.o).1 3 _ D;have b0:=(e.o t x.o).2 3 _ D;have b3:=(e.o t x.o).1 4 _ D;have b1:=(e.o t x.o).2 4 _ D;go_wp2_with fail
 refine (sA a.nt.s bO bX c2 c6 O P t (a1.o _ (i.o.trans x.o)).nt.s (a2.o _ (i.o.trans x.o)).nt.s (Ay2 N.o.nt.s dE)).mono ?_;rintro aF U ⟨rfl,l⟩;have y:=V (x.o.trans l);clear l o aT aR aV T aH aI b2 b3 R aY aZ b0 b1;have o:=(b.o U (i.o.trans y.o)).1 4 _ D;have aT:=(b.o U (i.o.trans y.o)).2 4 _ D;have aR:=(b.o U (i.o.trans y.o)).1 6 _ D;have aV:=(b.o U (i.o.trans y.o)).2 6 _ D;have T:=(e.o U y.o).1 0 _ D;have R:=(e.o U y.o).2 0 _ D;have aH:=(e.o U y.o).1 1 _ D;have aY:=(e.o U y.o).2 1 _ D;have aI:=(e.o U y.o).1 2 _ D;have aZ:=(e.o U y.o).2 2 _ D;have b2:=(e.o U y.o).1 3 _ D;have b0:=(e.o U y.o).2 3 _ D;have b3:=(e.o U y.o).1 4 _ D;have b1:=(e.o U y.o).2 4 _ D;go_wp2_with fail
 refine (sA a.nt.p bP bZ c3 c7 O P U (a1.o _ (i.o.trans y.o)).nt.p (a2.o _ (i.o.trans y.o)).nt.p (Ay2 N.o.nt.p dE)).mono ?_;rintro aF W ⟨rfl,l⟩;have z:=V (y.o.trans l);clear l o aT aR aV T aH aI b2 b3 R aY aZ b0 b1;have o:=(b.o W (i.o.trans z.o)).1 4 _ D;have aT:=(b.o W (i.o.trans z.o)).2 4 _ D;have aR:=(b.o W (i.o.trans z.o)).1 6 _ D;have aV:=(b.o W (i.o.trans z.o)).2 6 _ D;have T:=(e.o W z.o).1 0 _ D;have R:=(e.o W z.o).2 0 _ D;have aH:=(e.o W z.o).1 1 _ D;have aY:=(e.o W z.o).2 1 _ D;have aI:=(e.o W z.o).1 2 _ D;have aZ:=(e.o W z.o).2 2 _ D;have b2:=(e.o W z.o).1 3 _ D;have b0:=(e.o W z.o).2 3 _ D;have b3:=(e.o W z.o).1 4 _ D;have b1:=(e.o W z.o).2 4 _ D;go_wp2_with fail
 refine (sA a.nt.q bK bT c0 c4 O P W (a1.o _ (i.o.trans z.o)).nt.q (a2.o _ (i.o.trans z.o)).nt.q (N.o.nt.q)).mono ?_;rintro aF X ⟨rfl,l⟩;have A:=V (z.o.trans l);clear l o aT aR aV T aH aI b2 b3 R aY aZ b0 b1;have o:=(b.o X (i.o.trans A.o)).1 4 _ D;have aT:=(b.o X (i.o.trans A.o)).2 4 _ D;have aR:=(b.o X (i.o.trans A.o)).1 6 _ D;have aV:=(b.o X (i.o.trans A.o)).2 6 _ D;have T:=(e.o X A.o).1 0 _ D;have R:=(e.o X A.o).2 0 _ D;have aH:=(e.o X A.o).1 1 _ D;have aY:=(e.o X A.o).2 1 _ D;have aI:=(e.o X A.o).1 2 _ D;have aZ:=(e.o X A.o).2 2 _ D;have b2:=(e.o X A.o).1 3 _ D;have b0:=(e.o X A.o).2 3 _ D;have b3:=(e.o X A.o).1 4 _ D;have b1:=(e.o X A.o).2 4 _ D;go_wp2_with fail
 refine (sA a.nt.d bM bV c1 c5 O P X (a1.o _ (i.o.trans A.o)).nt.d (a2.o _ (i.o.trans A.o)).nt.d (N.o.nt.d)).mono ?_;rintro aF hI ⟨rfl,l⟩;have f3:=V (A.o.trans l);clear l o aT aR aV T aH aI b2 b3 R aY aZ b0 b1;have T:=(e.o hI f3.o).1 0 _ D;have R:=(e.o hI f3.o).2 0 _ D;go_upto_region 28 with fail
 clear T R;obtain⟨hH,rfl⟩:∃hH:World,hH=wr:=⟨_,D⟩
 go_loopw [11] (λq wr=>∃g:Nat,g<=a.nt.st.length/\q=.int .i64 g/\Cf u wr) (λq _=>a.nt.st.length-(intOf q).toNat)
 .exact⟨0,H,D,f3.o⟩
 clear w x y z A f3;obtain⟨g,fK,rfl,l⟩:=hrel;obtain⟨aK,rfl⟩:∃aK:World,aK=wr:=⟨_,D⟩;have j:=V l;clear l;have T:=(e.o aK j.o).1 0 _ D;have R:=(e.o aK j.o).2 0 _ D;by_cases Y:g<a.nt.st.length
 .have bI:=rO g a.nt.st.length
  obtain⟨⟨hW,⟨a9,hZ,a0⟩,⟨aB,aH,aD⟩⟩,⟨iW,Q,dT⟩,a4,a6,d,⟨B,C,fP,fR⟩,rfl,-,-,-,eI⟩:=(a1.o _ (i.o.trans j.o)).nt.st.get3 (f:=hJ) D Y D;obtain⟨⟨eX,⟨h3,i0,g0⟩,⟨gT,aI,gV⟩⟩,iI,a5,a7,p,⟨hF,hG,fT,fV⟩,rfl,-,-,-,eK⟩:=(a2.o _ (i.o.trans j.o)).nt.st.get3 (f:=hJ) D Y D;rw[d]at p;obtain rfl:=Az2 p;simp only at B C fP fR hF hG fT fV;subst B hF;obtain⟨rfl,-⟩:=fP.len;obtain⟨rfl,-⟩:=fR.len;obtain⟨rfl,-⟩:=fT.len;obtain⟨rfl,-⟩:=fV.len;obtain⟨hY,hC⟩:=N.o.nt.e _ (Az1 d);simp only at hY hC;obtain⟨fZ,h,t⟩:=eI _ _ _ D;obtain⟨f2,aM,cK⟩:=eK _ _ _ D;simp only[slV]at h t aM cK;obtain⟨gX,eP⟩:=rK (aK.alloc (.cells #[.int .i64 eX,.slice a9 Q.length a0,.slice aB dT.length aD] 74));have cO:G (Cf aK gX):=V (by rw[eP];exact rT);have hB:gX.heap.size=aK.heap.size+1:=(by rw[eP];simp);obtain⟨b4,eR⟩:=rK (gX.alloc (.cells #[.int .i64 eX,.slice h3 Q.length g0,.slice gT dT.length gV] 121));have cP:G (Cf aK b4):=V (cO.o.trans (by rw[eR];exact rT));have b6:G (∀c,Cf b4 c->(∀k r,([.int .i64 eX,.slice a9 Q.length a0,.slice aB dT.length aD]:List Value)[k]?=some r->c.cell? ⟨aK.heap.size,k,none⟩=some r)/\∀k r,([.int .i64 eX,.slice h3 Q.length g0,.slice gT dT.length gV]:List Value)[k]?=some r->c.cell? ⟨aK.heap.size+1,k,none⟩=some r):=V (λc d =>
   ⟨λk r aX=>d.cellS (by rw[eR,eP];exact yL _ (zG _ D (by rw[<-Aw];exact aX))) iD,λk r aX=>d.cellS (by rw[eR];exact zG _ hB.symm (by rw[<-Aw];exact aX)) iD⟩)
  have hO:G (∀c,Cf b4 c->nY.InS c O (a9,Q.length,a0) Q/\nG.InS c P (h3,Q.length,g0) Q):=V (λc d=>⟨fP.chg (cP.o.trans d) iF,fT.chg (cP.o.trans d) iF⟩);have cA:=V (sA dT aB gT aD gV O P b4 (fR.chg cP.o iF) (fV.chg cP.o iF) hC);have hX:=cO.o.cellS R iD;have i9:=cO.o.cellS f2 iD;have iA:=cO.o.cellS aM iD;have iB:=cO.o.cellS cK iD;clear d p eI eK C fP fR hG fT fV;go_upto_region 31 with fail
  rw[<-eP];clear eP fZ h t f2 aM cK T R;go_upto_region 32 with fail
  rw[<-eR];clear eR hB hX i9 iA iB;have iC:=(b6.o b4 cR).1 0 _ D;have cM:=(b6.o b4 cR).1 1 _ D;have iG:=(b6.o b4 cR).1 2 _ D;have i4:=(b6.o b4 cR).2 0 _ D;have fX:=(b6.o b4 cR).2 1 _ D;have i5:=(b6.o b4 cR).2 2 _ D;go_wp2_with fail
  refine cA.o.mono ?_;rintro aF i7 ⟨rfl,h5⟩;have g2:=V h5;clear h5 cA iC cM iG i4 fX i5;have cM:=(b6.o i7 g2.o).1 1 _ D;go_upto_region 35 with fail
  clear cM
  go_loopw [14] (λq wr=>∃k:Nat,k<=Q.length/\q=.int .i64 k/\Cf b4 wr) (λq _=>Q.length-(intOf q).toNat)
  .exact⟨0,H,D,g2.o⟩
  clear g2;obtain⟨k,iJ,rfl,l⟩:=hrel;have cS:=V l;clear l;have cM:=(b6.o wr cS.o).1 1 _ D;have fX:=(b6.o wr cS.o).2 1 _ D;obtain⟨h9,h8⟩:=hO.o _ cS.o;by_cases h7:k<Q.length
  .have hP:=rO k Q.length
   obtain⟨⟨f1,gR,gS⟩,c8,fH,fM,d,hT,rfl,-,-,hQ,eI⟩:=(zL.of h9).get3 (f:=bz) D h7 D;obtain⟨⟨i1,i2,i3⟩,aP,fI,fO,p,hU,rfl,-,-,-,eK⟩:=(zL.of h8).get3 (f:=de) D h7 D;obtain rfl:(f1,gR,gS)=c8:=hT;obtain rfl:(i1,i2,i3)=aP:=hU;rw[d]at p;injection p with p;injection p with gM eV;injection eV with eV hV;subst gM eV hV;obtain⟨⟨hR,hS⟩,-⟩:=hQ;simp only at hR hS;have iK:IntKind.i64.wrap f1=f1:=(by rw[IntKind.wrap_i64];omega);obtain⟨fZ,h,t⟩:=eI _ _ _ D;obtain⟨f2,aM,cK⟩:=eK _ _ _ D;have b5:G (∀c,Cf wr c->(c.cell? ⟨aK.heap.size,1,none⟩=some (.slice (some ⟨fH,fM,none⟩) Q.length a0)/\c.cell? ⟨aK.heap.size+1,1,none⟩=some (.slice (some ⟨fI,fO,none⟩) Q.length g0))/\(c.cell? ⟨fH,fM+k * 3,none⟩=some (.int .u8 f1)/\c.cell? ⟨fH,fM+k * 3+1,none⟩=some (.int .i64 gR)/\c.cell? ⟨fH,fM+k * 3+2,none⟩=some (.int .i64 gS))/\c.cell? ⟨fI,fO+k * 3,none⟩=some (.int .i64 f1)/\c.cell? ⟨fI,fO+k * 3+1,none⟩=some (.int .i64 gR)/\c.cell? ⟨fI,fO+k * 3+2,none⟩=some (.int .i64 gS)):=V (λc d =>
    ⟨⟨d.cellS cM iD,d.cellS fX iD⟩,⟨d.cellS fZ iD,d.cellS h iD,d.cellS t iD⟩,d.cellS f2 iD,d.cellS aM iD,d.cellS cK iD⟩)
   clear d eI eK h9 h8 fZ h t f2 aM cK;go_upto_region 37 with fail
   refine ws (λv=>Cf wr v) ?_;(iterate 44 (refine rf b5.o ?_))
   refine zW ?_;intro L K;have n:=V (cS.o.trans K);clear K cM fX;go_wp2;go_roundw
   .exact⟨k+1,H,GN,n.o⟩
   simp[intOf];omega
  obtain rfl:k=Q.length:=H
  have hP:=rP Q.length;have n:=V (j.o.trans (cP.o.trans cS.o));go_wp2;go_roundw
  .exact⟨g+1,H,GN,n.o⟩
  simp[intOf];omega
 obtain rfl:g=a.nt.st.length:=H
 have bI:=rP a.nt.st.length;have hN:=V (g1.o.trans (i.o.trans j.o));go_wp2;go_ret
 exact⟨D,hN.o⟩
theorem Fx (Z:List Int):(rG Z).take Z.length=Z:=by rw[rG];exact List.take_left
theorem Fy (Z:List Int):(rG Z).drop Z.length=kG (ofI Z):=by rw[rG];exact List.drop_left
theorem Fz (Z:List Int):getR (rG Z)=getB (sS Z):=by
 unfold getR;rw[gW,if_neg H,show Z.length+4-4=Z.length by omega,Fx,Fy,if_pos D]
theorem Ga {a:TabsD}(f:∀c∈X,Byte c) (b:sS X=some a):X=uG a/\yE a=true/\FairTabs a:=by
 obtain⟨d,e,-⟩:=ik f b;exact⟨d,e,Bu b⟩
def livT:TabsD:=⟨[⟨#[97]⟩],[],[],⟨[],[],[[]],[-1]⟩,⟨[(0,[(0,0,1)],[]),(0,[],[])],[0],[1],[],[]⟩,[]⟩
def livN:TabsD:=⟨[⟨#[97]⟩],[],[],⟨[],[],[[]],[-1]⟩,⟨[],[0],[1],[],[]⟩,[]⟩
theorem ei:yE livT=true:=by decide +kernel
theorem tu:yE livN=false:=by decide +kernel
theorem nS:FairTabs livT:=⟨by decide +kernel,by decide +kernel,by decide +kernel,by decide +kernel,by decide +kernel,by constructor <;> decide +kernel,by constructor <;> first|decide +kernel|(simp only[stB];decide +kernel),by decide +kernel,λA h=>by cases h⟩
theorem tv:FairTabs livN:=⟨by decide +kernel,by decide +kernel,by decide +kernel,by decide +kernel,by decide +kernel,by constructor <;> decide +kernel,by constructor <;> first|decide +kernel|(simp only[stB];decide +kernel),by decide +kernel,λA h=>by cases h⟩
theorem Gb:OkNt livT.nt:=rm (qQ ei) nS.nt (by decide +kernel)
theorem Gc:OkTabs livT:=im ei (by constructor <;> decide +kernel)
theorem gN:getR (rG (uG livT))=(0,some livT):=by rw[Fz,qy Gc ei];rfl
theorem Elt.InS.lit {c:Type}{E:Elt c}{W b:World}{Y:List c}{e:TypeId}(h:∀d∈Y,E.ok d) (i:a=W.heap.size) (f:S a) (g:Cf (W.alloc (.cells (E.encs Y).toArray e)) b):E.InS b S (some ⟨a,0,none⟩,Y.length,Y.length) Y:=by
 subst i;exact⟨D,Ay1 _,_,0,(E.lit W Y e h).chg g iE,λ_=>⟨D,f⟩⟩
theorem Elt.InS.nil' {d:Type}{a:Elt d}(b:Option Addr):a.InS w S (b,0,0) []:=⟨D,Ay1 _,0,0,.nil _ _ _ _,λc=>absurd c sI⟩
structure LivAt (w W:World):Prop where
 t:TabsIn W (λk=>w.heap.size<=k/\k<w.heap.size+8) ⟨(some ⟨w.heap.size,0,none⟩,1,1),(none,0,0),(none,0,0),⟨(none,0,0),(none,0,0),(some ⟨w.heap.size+1+1,0,none⟩,1,1),(some ⟨w.heap.size+1+1+1,0,none⟩,1,1)⟩,⟨(some ⟨w.heap.size+1+1+1+1+1+1+1,0,none⟩,2,2),(some ⟨w.heap.size+1+1+1+1,0,none⟩,1,1),(some ⟨w.heap.size+1+1+1+1+1,0,none⟩,1,1),(none,0,0),(none,0,0)⟩,(none,0,0)⟩ livT
 c:∀j v,([.slice (some ⟨w.heap.size,0,none⟩) 1 1,.slice none 0 0,.slice none 0 0,.slice none 0 0,.slice none 0 0,.slice (some ⟨w.heap.size+1+1,0,none⟩) 1 1,.slice (some ⟨w.heap.size+1+1+1,0,none⟩) 1 1,.slice (some ⟨w.heap.size+1+1+1+1+1+1+1,0,none⟩) 2 2,.slice (some ⟨w.heap.size+1+1+1+1,0,none⟩) 1 1,.slice (some ⟨w.heap.size+1+1+1+1+1,0,none⟩) 1 1,.slice none 0 0,.slice none 0 0,.slice none 0 0]:List Value)[j]?=some v->W.cell? ⟨w.heap.size+1+1+1+1+1+1+1+1,j,none⟩=some v
 z:∀j,W.frozen? ⟨w.heap.size+1+1+1+1+1+1+1+1,j,none⟩=false
 h:Cf w W
theorem Gd (a:World):LivAt a (((((((((a.alloc (.cells #[.string ⟨#[97]⟩] 9)).alloc (.cells #[] 3)).alloc (.cells #[.slice (some ⟨a.heap.size+1,0,none⟩) 0 0] 25)).alloc (.cells #[.int .i64 (-1)] 3)).alloc (.cells #[.int .i64 0] 3)).alloc (.cells #[.int .i64 1] 3)).alloc (.cells #[.int .u8 0,.int .i64 0,.int .i64 1] 71)).alloc (.cells #[.int .i64 0,.slice (some ⟨a.heap.size+1+1+1+1+1+1,0,none⟩) 1 1,.slice none 0 0,.int .i64 0,.slice none 0 0,.slice none 0 0] 74)).alloc (.cells #[.slice (some ⟨a.heap.size,0,none⟩) 1 1,.slice none 0 0,.slice none 0 0,.slice none 0 0,.slice none 0 0,.slice (some ⟨a.heap.size+1+1,0,none⟩) 1 1,.slice (some ⟨a.heap.size+1+1+1,0,none⟩) 1 1,.slice (some ⟨a.heap.size+1+1+1+1+1+1+1,0,none⟩) 2 2,.slice (some ⟨a.heap.size+1+1+1+1,0,none⟩) 1 1,.slice (some ⟨a.heap.size+1+1+1+1+1,0,none⟩) 1 1,.slice none 0 0,.slice none 0 0,.slice none 0 0] 34)):=by
 obtain⟨O,h⟩:=rK (((((((((a.alloc (.cells #[.string ⟨#[97]⟩] 9)).alloc (.cells #[] 3)).alloc (.cells #[.slice (some ⟨a.heap.size+1,0,none⟩) 0 0] 25)).alloc (.cells #[.int .i64 (-1)] 3)).alloc (.cells #[.int .i64 0] 3)).alloc (.cells #[.int .i64 1] 3)).alloc (.cells #[.int .u8 0,.int .i64 0,.int .i64 1] 71)).alloc (.cells #[.int .i64 0,.slice (some ⟨a.heap.size+1+1+1+1+1+1,0,none⟩) 1 1,.slice none 0 0,.int .i64 0,.slice none 0 0,.slice none 0 0] 74)).alloc (.cells #[.slice (some ⟨a.heap.size,0,none⟩) 1 1,.slice none 0 0,.slice none 0 0,.slice none 0 0,.slice none 0 0,.slice (some ⟨a.heap.size+1+1,0,none⟩) 1 1,.slice (some ⟨a.heap.size+1+1+1,0,none⟩) 1 1,.slice (some ⟨a.heap.size+1+1+1+1+1+1+1,0,none⟩) 2 2,.slice (some ⟨a.heap.size+1+1+1+1,0,none⟩) 1 1,.slice (some ⟨a.heap.size+1+1+1+1+1,0,none⟩) 1 1,.slice none 0 0,.slice none 0 0,.slice none 0 0] 34));rw[<-h];obtain⟨x,q⟩:=rK (a.alloc (.cells #[.string ⟨#[97]⟩] 9));obtain⟨i,z⟩:=rK (x.alloc (.cells #[] 3));obtain⟨j,r⟩:=rK (i.alloc (.cells #[.slice (some ⟨a.heap.size+1,0,none⟩) 0 0] 25));obtain⟨k,s⟩:=rK (j.alloc (.cells #[.int .i64 (-1)] 3));obtain⟨l,t⟩:=rK (k.alloc (.cells #[.int .i64 0] 3));obtain⟨m,u⟩:=rK (l.alloc (.cells #[.int .i64 1] 3));obtain⟨n,v⟩:=rK (m.alloc (.cells #[.int .u8 0,.int .i64 0,.int .i64 1] 71));obtain⟨o,w⟩:=rK (n.alloc (.cells #[.int .i64 0,.slice (some ⟨a.heap.size+1+1+1+1+1+1,0,none⟩) 1 1,.slice none 0 0,.int .i64 0,.slice none 0 0,.slice none 0 0] 74));rw[<-q,<-z,<-r,<-s,<-t,<-u,<-v,<-w]at h;have aF:x.heap.size=a.heap.size+1:=by rw[q];simp
 have P:i.heap.size=a.heap.size+1+1:=by rw[z];simp[aF]
 have Q:j.heap.size=a.heap.size+1+1+1:=by rw[r];simp[P]
 have R:k.heap.size=a.heap.size+1+1+1+1:=by rw[s];simp[Q]
 have S:l.heap.size=a.heap.size+1+1+1+1+1:=by rw[t];simp[R]
 have T:m.heap.size=a.heap.size+1+1+1+1+1+1:=by rw[u];simp[S]
 have U:n.heap.size=a.heap.size+1+1+1+1+1+1+1:=by rw[v];simp[T]
 have X:o.heap.size=a.heap.size+1+1+1+1+1+1+1+1:=by rw[w];simp[U]
 have a0:Cf a x:=by rw[q];exact rT
 have a1:Cf x i:=by rw[z];exact rT
 have a2:Cf i j:=by rw[r];exact rT
 have a3:Cf j k:=by rw[s];exact rT
 have a4:Cf k l:=by rw[t];exact rT
 have a5:Cf l m:=by rw[u];exact rT
 have a6:Cf m n:=by rw[v];exact rT
 have a7:Cf n o:=by rw[w];exact rT
 have a8:Cf o O:=by rw[h];exact rT
 have aD:Cf O O:=J.refl _ _;have N:=a8.trans aD;have L:=a7.trans N;have K:=a6.trans L;have F:=a5.trans K;have C:=a4.trans F;have B:=a3.trans C;have aB:=a2.trans B;have A:=a1.trans aB;refine⟨⟨Elt.InS.lit (E:=strE) (W:=a) (e:=9) (Y:=[(⟨#[97]⟩:Str)]) (λf b=>by rw[Ay.1 b];exact trivial) D ⟨H,H⟩ (by rw[q]at A;exact A),Elt.InS.nil' _,Elt.InS.nil' _,⟨Elt.InS.nil' _,Elt.InS.nil' _,⟨[(some ⟨a.heap.size+1,0,none⟩,0,0)],Elt.InS.lit (E:=pW) (W:=i) (e:=25) (Y:=[((some ⟨a.heap.size+1,0,none⟩,0,0):Sl)]) (λ_ _=>trivial) P.symm ⟨H,H⟩ (by rw[r]at B;exact B),D,?_⟩,Elt.InS.lit (E:=intE) (W:=j) (e:=3) (Y:=[(-1:Int)]) (λf b=>by rw[Ay.1 b];exact (show I.Byte _ from by decide)) Q.symm ⟨H,H⟩ (by rw[s]at C;exact C)⟩,⟨⟨[(0,(some ⟨a.heap.size+1+1+1+1+1+1,0,none⟩,1,1),(none,0,0)),(0,(none,0,0),(none,0,0))],Elt.InS.lit (E:=stE) (W:=n) (e:=74) (Y:=[((0,(some ⟨a.heap.size+1+1+1+1+1+1,0,none⟩,1,1),(none,0,0)):Int×Sl×Sl),(0,(none,0,0),(none,0,0))]) (λf b=>by simp only[Ax5,Av4,or_false]at b;rcases b with rfl|rfl <;> exact (show I.Byte (0:Int) from by decide)) U.symm ⟨H,H⟩ (by rw[w]at N;exact N),D,?_⟩,Elt.InS.lit (E:=intE) (W:=k) (e:=3) (Y:=[(0:Int)]) (λf b=>by rw[Ay.1 b];exact (show I.Byte _ from by decide)) R.symm ⟨H,H⟩ (by rw[t]at F;exact F),Elt.InS.lit (E:=intE) (W:=l) (e:=3) (Y:=[(1:Int)]) (λf b=>by rw[Ay.1 b];exact (show I.Byte _ from by decide)) S.symm ⟨H,H⟩ (by rw[u]at K;exact K),Elt.InS.nil' _,Elt.InS.nil' _⟩,⟨[],Elt.InS.nil' _,D,λd Z g c=>by simp at c⟩⟩,λd aH a9=>?_,λd=>?_,a0.trans A⟩
 .intro d Z g c p
  have y:d=0:=by
   have:=(Az0.1 c).1;simp at this;omega
  subst y;obtain rfl:=Az2 c;obtain rfl:[]=g:=Az2 p;exact Elt.InS.nil' _
 .intro d Z g c p
  have y:d=0\/d=1:=by
   have:=(Az0.1 c).1;simp at this;omega
  rcases y with rfl|rfl
  .obtain rfl:=Az2 c
   obtain rfl:(0,[(0,0,1)],[])=g:=Az2 p;exact⟨D,dE,Elt.InS.lit (E:=nY) (W:=m) (e:=71) (Y:=[((0,0,1):sU)]) (λf b=>by rw[Ay.1 b];exact⟨dE,dE,dE⟩) T.symm ⟨H,H⟩ (by rw[v]at L;exact L),Elt.InS.nil' _⟩
  obtain rfl:=Az2 c
  obtain rfl:(0,[],[])=g:=Az2 p;exact⟨D,dE,Elt.InS.nil' _,Elt.InS.nil' _⟩
 .rw[h,show a.heap.size+1+1+1+1+1+1+1+1=o.heap.size from X.symm]
  exact zG _ D (by rw[<-Aw];exact a9)
 rw[h,show a.heap.size+1+1+1+1+1+1+1+1=o.heap.size from X.symm]
 exact Az6 _ _ _ _
end Go.Proofs.YtgnpmceimpjheaaGreat
