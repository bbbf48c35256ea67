/- A part of the proof: CodD CodO CodR EncP DRd PtA PtB PtC PtD PtE PtF PtG PtI PtJ PtK CodQ. -/
import Derived.Test.YtgnpmceimpjheaaGreatGG8
import Derived.Lib.Mul64
import Derived.Laws.Bits64b
import Derived.Laws.IdiomCopy
set_option maxRecDepth 100000
set_option maxHeartbeats 16000000
namespace Go.Proofs.YtgnpmceimpjheaaGreat
open Go.RowKit Go.Proofs.Tryz
variable {a b c d e f g h i j k l m n o p q r:Nat}{w v u t s:World}{X Y W L T:List Int}{A B C E Z:Value}{x y z:Int}{N R:Bool}{F Q:Option Addr}{S P:Nat->Prop}
def qE (s:Str):Bool:=decide (0<s.size) && decide (s.size<=64)
theorem Aa (a:Str) (f:World) (n:a.size<=1000000000000):Calls prog 35 #[.string a] f λb k=>b=.returned (.bool (qE a))/\k=f:=by
 by_cases d:a.size=0
 .obtain rfl:a=⟨#[]⟩:=by
   cases a with
   | mk h =>
    have:h.size=0:=d;rw[Array.size_eq_zero_iff.1 this]
  go_enter func35,ntmps35
  go_wp2;go_ret
  exact⟨D,D⟩
 have c:G (qE a=decide (a.size<=64)):=V (by simp only[qE,decide_eq_true (show 0<a.size by omega),Au1])
 have j:¬a.toList=[]:=λb=>d (by
  rw[ByteArray.toList_eq]at b;show a.data.size=0;rw[<-Array.length_toList,b];rfl)
 have m:a.toList.isEmpty=false:=by
  cases i:a.toList with
  | nil=>exact absurd i j
  | cons _ _=>rfl
 obtain⟨g,e⟩:=rM (decide (a.size<=64));have l:decide ((a.size:Int)<=64)=g:=by rw[<-e,Au7];simp <;> omega
 rw[e]at c;go_enter func35,ntmps35
 go_wp2;go_ret
 exact⟨by rw[c.o];rfl,D⟩
theorem pm (i:Nat->Prop) (l:World):jA strE bJ (bR eqR (λd=>d.size<=1000000000000)) i 34 #[] (λd=>!qE d) l:=by
 intro a k g c o n;obtain⟨c,f⟩:=c;obtain rfl:a=k:=c;have e:=V (Aa a g f);show Calls prog 34 #[.string a] g _;obtain⟨j,b⟩:=rM (qE a);rw[b]at e;have h:=V b;clear b f;go_enter func34,ntmps34
 go_wp2_with fail
 refine e.o.mono ?_;rintro m p ⟨rfl,rfl⟩;go_wp2;go_ret
 exact⟨by show Ending.returned (.bool (!j))=_;rw[<-h.o],cR⟩
def qJ (b:Nat) (a:sU):Bool:=decide (a.1=1) && decide ((b:Int)<=a.2.1)
theorem Ab (g b:Nat) (l:Nat->Prop) (j:World) (i:j.cell? ⟨g,0,none⟩=some (.int .i64 b)):jA nY nW eqR l 43 #[.pointer (some ⟨g,0,none⟩)] (qJ b) j:=by
 intro k m h o q n;obtain rfl:k=m:=o;obtain⟨a,c,e⟩:=k;have r:=yL (.cells #[.int .u8 a,.int .i64 c,.int .i64 e] 71) (n.cellS i iD);clear i;show Calls prog 43 #[.agg #[.int .u8 a,.int .i64 c,.int .i64 e],.pointer (some ⟨g,0,none⟩)] h _;by_cases d:a=1
 .subst d
  have f:G (qJ b (1,c,e)=decide ((b:Int)<=c)):=V (by simp only[qJ,decide_true,Au1]);go_enter func43,ntmps43
  go_wp2;go_ret
  exact⟨by rw[f.o];rfl,(J.refl _ h).alloc _⟩
 have p:(a == 1)=false:=by simpa using d
 have f:G (qJ b (a,c,e)=false):=V (by simp only[qJ,decide_eq_false d,Aw3]);clear d;go_enter func43,ntmps43
 go_wp2;go_ret
 exact⟨by rw[f.o];rfl,(J.refl _ h).alloc _⟩
theorem Ac (a b:Nat) (j:Nat->Prop) (t:World) (r:t.cell? ⟨a,0,none⟩=some (.int .i64 b)):jA stE aq (bR stR stB) j 41 #[.pointer (some ⟨a,0,none⟩)] (λB=>B.2.1.any (qJ b)) t:=by
 intro C w h ⟨⟨s,A,d,g⟩,o,y⟩ P z;obtain⟨K,c,m⟩:=w;obtain⟨u,⟨e,E,f⟩,⟨k,N,l⟩⟩:=C;simp only at s A d g o y;obtain⟨rfl,-⟩:=d.len;obtain⟨rfl,-⟩:=g.len;subst s;have O:=mkfn;have x:=enters_of func43 M D;have q:=(FR h).alloc (.cells #[.int .i64 u,.slice e c.length f,.slice k m.length l] 74);have i:=V (aC eqR.good 43 #[.pointer (some ⟨a,0,none⟩)] (qJ b) c e f _ x (zL.of (d.chg q iF)) (Ab a b j _ (yL _ (z.cellS r iD))) o);clear q d g r;show Calls prog 41 #[.agg #[.int .i64 u,.slice e c.length f,.slice k m.length l],.pointer (some ⟨a,0,none⟩)] h _;simp only;obtain⟨F,n⟩:=rM (c.any (qJ b));rw[n]at i ⊢;clear n;go_enter func41,ntmps41
 go_wp2_with fail
 refine i.o.mono ?_;rintro L Q ⟨rfl,p⟩;have v:=V (((J.refl _ h).alloc _).trans p);clear p;go_wp2;go_ret
 exact⟨D,v.o⟩
def fU (t:TabsD):Bool:=(List.range t.nt.d.length).all (λi=>xY (t.lk.getD i []) ((t.nt.st.getD (t.nt.d.getD i 0).toNat (0,[],[])).2.2.length:Nat) t.tk.length)
def yE (t:TabsD):Bool :=
 decide (1<=t.rl.length) && decide (t.rl.length<=64) && decide (t.tk.length<=64) && decide (t.dr.length=t.tk.length) && !t.rl.any (λs=>!qE s) && !t.tk.any (λs=>!qE s) && pG t.lx t.tk.length && sY t.nt && decide (t.nt.s.length=t.rl.length) && decide (t.nt.st.length<=65536) && decide (t.lk.length=t.nt.d.length) && fU t && !t.nt.st.any (λs=>s.2.1.any (qJ t.tk.length))
structure FairTabs (t:TabsD):Prop where
 rl:t.rl.length<=100000000
 tk:t.tk.length<=100000000
 dr:t.dr.length<=100000000
 rs:∀s∈t.rl,s.size<=1000000000000
 ts:∀s∈t.tk,s.size<=1000000000000
 lx:Fair t.lx
 nt:FairN t.nt
 lk:t.lk.length<=1000000000
 la:∀A∈t.lk,A.length<=1000000000/\∀d∈A,lsB d
theorem jJ:∀(c:List StD) (e:Nat) (d:Int),d∈yN e c->∃b:Nat,d=((e+b:Nat):Int)/\b<c.length
 | [],_,_,a=>by cases a
 | g :: c,e,d,a=>by
  simp only[yN]at a;have rest:d∈yN (e+1) c->∃b:Nat,d=((e+b:Nat):Int)/\b<(g :: c).length:=λa=>by
   obtain⟨b,f,h⟩:=jJ c (e+1) d a;exact⟨b+1,by rw[f];congr 1;omega,sO⟩
  split at a
  .rcases Ax5.1 a with rfl|a
   .exact⟨0,D,sI⟩
   exact rest a
  exact rest a
theorem dz (a:TabsD) (d8:TabsS) (L:Nat->Prop) (c:World) (B:TabsIn c L d8 a) (S:FairTabs a) :
  Calls prog 12 #[kN d8] c λo b=>o=.returned (.bool (yE a))/\Cf c b:=by
 obtain⟨⟨aR,h7,aT⟩,⟨a8,gZ,a9⟩,⟨b8,gD,b9⟩,⟨⟨aV,hC,b0⟩,⟨aX,hD,b1⟩,⟨aY,hE,b2⟩,⟨aZ,hF,b3⟩⟩,⟨⟨a0,h1,T⟩,⟨aK,h2,aD⟩,⟨aM,h3,aF⟩,⟨aO,h4,aH⟩,⟨aP,h5,aI⟩⟩,⟨bI,h0,aB⟩⟩:=d8;have fM:=V B;obtain⟨eF,N,O,⟨P,Q,eM,eO⟩,⟨eP,eR,eT,eH,eI⟩,eK⟩:=B;obtain⟨rfl,-⟩:=eF.len;obtain⟨rfl,-⟩:=N.len;obtain⟨rfl,-⟩:=O.len;obtain⟨rfl,-⟩:=P.len;obtain⟨rfl,-⟩:=Q.len;obtain⟨rfl,-⟩:=eM.len;obtain⟨rfl,-⟩:=eO.len;obtain⟨rfl,-⟩:=eP.len;obtain⟨rfl,-⟩:=eR.len;obtain⟨rfl,-⟩:=eT.len;obtain⟨rfl,-⟩:=eH.len;obtain⟨rfl,-⟩:=eI.len;obtain⟨rfl,-⟩:=eK.len;clear eF N O P Q eM eO eP eR eT eH eI eK;have Y:=V S;have gM:=S.rl;have gO:=S.tk;have gI:=S.dr;have gK:=S.lk;have fZ:=S.nt.st;have gH:=S.nt.d;clear S;have e9:=enters_of func34 M D;have fX:=enters_of func41 M D;have gV:=mkfn;show Calls prog 12 #[.agg #[.slice aR a.rl.length aT,.slice a8 a.tk.length a9,.slice b8 a.dr.length b9,.slice aV a.lx.r.length b0,.slice aX a.lx.c.length b1,.slice aY a.lx.n.length b2,.slice aZ a.lx.e.length b3,.slice a0 a.nt.st.length T,.slice aK a.nt.s.length aD,.slice aM a.nt.p.length aF,.slice aO a.nt.q.length aH,.slice aP a.nt.d.length aI,.slice bI a.lk.length aB]] c _;go_enter func12,ntmps12
 go_upto_region 1 with fail
 obtain⟨bM,bH⟩:=rK (c.alloc (.cells #[.slice aR a.rl.length aT,.slice a8 a.tk.length a9,.slice b8 a.dr.length b9,.slice aV a.lx.r.length b0,.slice aX a.lx.c.length b1,.slice aY a.lx.n.length b2,.slice aZ a.lx.e.length b3,.slice a0 a.nt.st.length T,.slice aK a.nt.s.length aD,.slice aM a.nt.p.length aF,.slice aO a.nt.q.length aH,.slice aP a.nt.d.length aI,.slice bI a.lk.length aB] 34));rw[<-bH];have c1:G (∀b,Cf bM b->b.cell? ⟨c.heap.size,0,none⟩=some (.slice aR a.rl.length aT)/\b.cell? ⟨c.heap.size,1,none⟩=some (.slice a8 a.tk.length a9)/\b.cell? ⟨c.heap.size,2,none⟩=some (.slice b8 a.dr.length b9)/\b.cell? ⟨c.heap.size,3,none⟩=some (.slice aV a.lx.r.length b0)/\b.cell? ⟨c.heap.size,4,none⟩=some (.slice aX a.lx.c.length b1)/\b.cell? ⟨c.heap.size,5,none⟩=some (.slice aY a.lx.n.length b2)/\b.cell? ⟨c.heap.size,6,none⟩=some (.slice aZ a.lx.e.length b3)/\b.cell? ⟨c.heap.size,7,none⟩=some (.slice a0 a.nt.st.length T)/\b.cell? ⟨c.heap.size,8,none⟩=some (.slice aK a.nt.s.length aD)/\b.cell? ⟨c.heap.size,9,none⟩=some (.slice aM a.nt.p.length aF)/\b.cell? ⟨c.heap.size,10,none⟩=some (.slice aO a.nt.q.length aH)/\b.cell? ⟨c.heap.size,11,none⟩=some (.slice aP a.nt.d.length aI)/\b.cell? ⟨c.heap.size,12,none⟩=some (.slice bI a.lk.length aB)):=V (λb d=>by
  rw[bH]at d;exact⟨d.cellS (zG _ D D) iD,d.cellS (zG _ D D) iD,d.cellS (zG _ D D) iD,d.cellS (zG _ D D) iD,d.cellS (zG _ D D) iD,d.cellS (zG _ D D) iD,d.cellS (zG _ D D) iD,d.cellS (zG _ D D) iD,d.cellS (zG _ D D) iD,d.cellS (zG _ D D) iD,d.cellS (zG _ D D) iD,d.cellS (zG _ D D) iD,d.cellS (zG _ D D) iD⟩)
 have dR:G (bM.heap.size=c.heap.size+1):=V (by rw[bH];simp);obtain⟨E,C⟩:=rM bM.drew;have c3:G (Cf bM E):=V (by rw[<-C];exact (J.refl _ _).drew);have dH:G (Cf c E):=V (by rw[<-C,bH];exact ((J.refl _ c).alloc _).drew);have cM:G (E.heap.size=c.heap.size+1):=V (by rw[<-C];exact dR.o);refine zC (λbO=>Cf E bO) (λg=>decide (8<=g)) M ?_;show yC _ _ _ _ _ _ 9 (Array.replicate 9 false) _ bM.drew;rw[C];clear C bH;have Z:G (Cf E E):=V cR;refine lq 0 Z.o ?_;(refine lq 1 Z.o ?_ (hr:=by intro b a3;obtain⟨l,-⟩:=c1.o b (c3.o.trans a3);go_simp;try with_reducible rfl));refine lq 2 Z.o ?_;refine lq 3 Z.o ?_;(refine lq 4 Z.o ?_ (hr:=by intro b a3;obtain⟨-,m,-⟩:=c1.o b (c3.o.trans a3);go_simp;try with_reducible rfl));refine lq 5 Z.o ?_;refine lt 6 (λ_=>rT) ?_;refine lt 7 (λ_=>rT) ?_;refine ld 8 ?_;refine zQ M ?_ _;obtain⟨W,bF⟩:=rK (E.alloc (.cells #[.int .i64 a.tk.length] 3));have y:G (Cf c W):=V (by rw[bF];exact dH.o.alloc _);have K:G (∀b,Cf W b->(b.cell? ⟨c.heap.size,0,none⟩=some (.slice aR a.rl.length aT)/\b.cell? ⟨c.heap.size,1,none⟩=some (.slice a8 a.tk.length a9)/\b.cell? ⟨c.heap.size,2,none⟩=some (.slice b8 a.dr.length b9)/\b.cell? ⟨c.heap.size,3,none⟩=some (.slice aV a.lx.r.length b0)/\b.cell? ⟨c.heap.size,4,none⟩=some (.slice aX a.lx.c.length b1)/\b.cell? ⟨c.heap.size,5,none⟩=some (.slice aY a.lx.n.length b2)/\b.cell? ⟨c.heap.size,6,none⟩=some (.slice aZ a.lx.e.length b3)/\b.cell? ⟨c.heap.size,7,none⟩=some (.slice a0 a.nt.st.length T)/\b.cell? ⟨c.heap.size,8,none⟩=some (.slice aK a.nt.s.length aD)/\b.cell? ⟨c.heap.size,9,none⟩=some (.slice aM a.nt.p.length aF)/\b.cell? ⟨c.heap.size,10,none⟩=some (.slice aO a.nt.q.length aH)/\b.cell? ⟨c.heap.size,11,none⟩=some (.slice aP a.nt.d.length aI)/\b.cell? ⟨c.heap.size,12,none⟩=some (.slice bI a.lk.length aB))/\b.cell? ⟨E.heap.size,0,none⟩=some (.int .i64 a.tk.length)):=V (λb d=>⟨c1.o b ((c3.o.trans (by rw[bF];exact rT)).trans d),d.cellS (by rw[bF];exact uE _ _ D) iD⟩);have b7:G (∀b,Cf W b->TabsIn b L ⟨(aR,a.rl.length,aT),(a8,a.tk.length,a9),(b8,a.dr.length,b9),⟨(aV,a.lx.r.length,b0),(aX,a.lx.c.length,b1),(aY,a.lx.n.length,b2),(aZ,a.lx.e.length,b3)⟩,⟨(a0,a.nt.st.length,T),(aK,a.nt.s.length,aD),(aM,a.nt.p.length,aF),(aO,a.nt.q.length,aH),(aP,a.nt.d.length,aI)⟩,(bI,a.lk.length,aB)⟩ a):=V (λb d=>TabsIn.good.chg fM.o (y.o.trans d) iF);rw[<-bF];clear bF c1 dR c3 dH cM Z;obtain⟨cT,eX⟩:=rM E.heap.size;rw[eX]at K ⊢;clear eX;obtain⟨⟨l,m,r,s,t,u,v,i,w,x,p,q,j⟩,h⟩:=K.o W cR;by_cases cV:a.rl.length<1
 .have dT:decide (a.rl.length<1)=true:=decide_eq_true cV
  have dU:decide ((a.rl.length:Int)<1)=true:=decide_eq_true H;have e:G (yE a=false):=V (by simp only[yE,decide_eq_false (show ¬1<=a.rl.length by omega),Aw3]);go_wp2;go_ret
  exact⟨by rw[e.o];rfl,y.o⟩
 have dT:decide (a.rl.length<1)=false:=decide_eq_false cV;have dU:decide ((a.rl.length:Int)<1)=false:=decide_eq_false H;by_cases cX:64<a.rl.length
 .have dV:decide (64<a.rl.length)=true:=decide_eq_true cX
  have dX:decide ((64:Int)<(a.rl.length:Int))=true:=decide_eq_true H;have e:G (yE a=false):=V (by simp only[yE,decide_eq_false (show ¬a.rl.length<=64 by omega),Av2,Aw3]);go_wp2;go_ret
  exact⟨by rw[e.o];rfl,y.o⟩
 have dV:decide (64<a.rl.length)=false:=decide_eq_false cX;have dX:decide ((64:Int)<(a.rl.length:Int))=false:=decide_eq_false H;by_cases cZ:64<a.tk.length
 .have dZ:decide (64<a.tk.length)=true:=decide_eq_true cZ
  have e0:decide ((64:Int)<(a.tk.length:Int))=true:=decide_eq_true H;have e:G (yE a=false):=V (by simp only[yE,decide_eq_false (show ¬a.tk.length<=64 by omega),Av2,Aw3]);go_wp2;go_ret
  exact⟨by rw[e.o];rfl,y.o⟩
 have dZ:decide (64<a.tk.length)=false:=decide_eq_false cZ;have e0:decide ((64:Int)<(a.tk.length:Int))=false:=decide_eq_false H;by_cases c4:a.dr.length=a.tk.length
 rotate_left
 .have e1:((a.dr.length:Int) != (a.tk.length:Int))=true:=by rw[bne_iff_ne];omega
  have e2:(a.dr.length != a.tk.length)=true:=by rw[bne_iff_ne];omega
  have e:G (yE a=false):=V (by simp only[yE,decide_eq_false c4,Av2,Aw3]);clear c4;go_wp2;go_ret
  exact⟨by rw[e.o];rfl,y.o⟩
 have e1:((a.dr.length:Int) != (a.tk.length:Int))=false:=by rw[bne_eq_false_iff_eq];omega
 have e2:(a.dr.length != a.tk.length)=false:=by rw[bne_eq_false_iff_eq];omega
 have bP:G (1<=a.rl.length/\a.rl.length<=64/\a.tk.length<=64/\a.dr.length=a.tk.length):=V ⟨H,H,H,c4⟩;have gX:a.tk.length<=64:=H
 clear cV cX cZ c4;have n:=pi (bR.good eqR.good) 34 #[] (λk=>!qE k) a.rl aR aT W e9 (zL.bnd (zL.of (b7.o W cR).rl) Y.o.rs) (pm L W) H;cases a5:a.rl.any (λk=>!qE k) with
 | true =>
  have e:G (yE a=false):=V (by simp only[yE,a5,Bool.not_true,Av2,Aw3]);rw[a5]at n;have A:=V n;clear n a5;go_wp2_with fail
  refine A.o.mono ?_;rintro o bK ⟨rfl,N⟩;have X:=V (y.o.trans N);clear N l m r s t u v i w x p q j h;go_wp2;go_ret
  exact⟨by rw[e.o];rfl,X.o⟩
 | false =>
 rw[a5]at n;have A:=V n;have fI:=V a5;clear n a5;go_wp2_with fail
 refine A.o.mono ?_;rintro o bK ⟨rfl,N⟩;have b4:=V N;clear N A dT dU dV dX dZ e0 e1 e2 l m r s t u v i w x p q j h;obtain⟨⟨l,m,r,s,t,u,v,i,w,x,p,q,j⟩,h⟩:=K.o bK b4.o;have n:=pi (bR.good eqR.good) 34 #[] (λk=>!qE k) a.tk a8 a9 bK e9 (zL.bnd (zL.of (b7.o bK b4.o).tk) Y.o.ts) (pm L bK) H;cases a6:a.tk.any (λk=>!qE k) with
 | true =>
  have e:G (yE a=false):=V (by simp only[yE,a6,Bool.not_true,Av2,Aw3]);rw[a6]at n;have A:=V n;clear n a6;go_wp2_with fail
  refine A.o.mono ?_;rintro o cB ⟨rfl,O⟩;have X:=V (y.o.trans (b4.o.trans O));clear O l m r s t u v i w x p q j h;go_wp2;go_ret
  exact⟨by rw[e.o];rfl,X.o⟩
 | false =>
 rw[a6]at n;have A:=V n;have fK:=V a6;clear n a6;go_wp2_with fail
 refine A.o.mono ?_;rintro o cB ⟨rfl,O⟩;have b5:=V (b4.o.trans O);clear O A b4 l m r s t u v i w x p q j h;obtain⟨⟨l,m,r,s,t,u,v,i,w,x,p,q,j⟩,h⟩:=K.o cB b5.o;have a1:=zz a.lx ⟨(aV,a.lx.r.length,b0),(aX,a.lx.c.length,b1),(aY,a.lx.n.length,b2),(aZ,a.lx.e.length,b3)⟩ a.tk.length L cB (b7.o cB b5.o).lx Y.o.lx;cases a4:pG a.lx a.tk.length with
 | false =>
  have e:G (yE a=false):=V (by simp only[yE,a4,Av2,Aw3]);rw[a4]at a1;have bZ:=V a1;clear a1 a4;go_wp2_with fail
  refine bZ.o.mono ?_;rintro o cD ⟨rfl,P⟩;have X:=V (y.o.trans (b5.o.trans P));clear P l m r s t u v i w x p q j h;go_wp2;go_ret
  exact⟨by rw[e.o];rfl,X.o⟩
 | true =>
 rw[a4]at a1;have bZ:=V a1;have fF:=V a4;clear a1 a4;go_wp2_with fail
 refine bZ.o.mono ?_;rintro o cD ⟨rfl,P⟩;have b6:=V (b5.o.trans P);clear P bZ b5 l m r s t u v i w x p q j h;obtain⟨⟨l,m,r,s,t,u,v,i,w,x,p,q,j⟩,h⟩:=K.o cD b6.o;have a2:=zx a.nt ⟨(a0,a.nt.st.length,T),(aK,a.nt.s.length,aD),(aM,a.nt.p.length,aF),(aO,a.nt.q.length,aH),(aP,a.nt.d.length,aI)⟩ L cD (b7.o cD b6.o).nt Y.o.nt;cases a7:sY a.nt with
 | false =>
  have e:G (yE a=false):=V (by simp only[yE,a7,Av2,Aw3]);rw[a7]at a2;have c0:=V a2;clear a2 a7;go_wp2_with fail
  refine c0.o.mono ?_;rintro o dB ⟨rfl,Q⟩;have X:=V (y.o.trans (b6.o.trans Q));clear Q l m r s t u v i w x p q j h;go_wp2;go_ret
  exact⟨by rw[e.o];rfl,X.o⟩
 | true =>
 rw[a7]at a2;have c0:=V a2;have dP:=V a7;clear a2 a7;go_wp2_with fail
 refine c0.o.mono ?_;rintro o dB ⟨rfl,Q⟩;have bX:=V (b6.o.trans Q);clear Q c0 b6 l m r s t u v i w x p q j h;obtain⟨⟨l,m,r,s,t,u,v,i,w,x,p,q,j⟩,h⟩:=K.o dB bX.o;have bT:G (Cf c dB):=V (y.o.trans bX.o);by_cases c5:a.nt.s.length=a.rl.length
 rotate_left
 .have e3:((a.nt.s.length:Int) != (a.rl.length:Int))=true:=by rw[bne_iff_ne];omega
  have e4:(a.nt.s.length != a.rl.length)=true:=by rw[bne_iff_ne];omega
  have e:G (yE a=false):=V (by simp only[yE,decide_eq_false c5,Av2,Aw3]);clear c5;go_wp2;go_ret
  exact⟨by rw[e.o];rfl,bT.o⟩
 have e3:((a.nt.s.length:Int) != (a.rl.length:Int))=false:=by rw[bne_eq_false_iff_eq];omega
 have e4:(a.nt.s.length != a.rl.length)=false:=by rw[bne_eq_false_iff_eq];omega
 have f7:=V c5;clear c5;by_cases d0:65536<a.nt.st.length
 .have e5:decide (65536<a.nt.st.length)=true:=decide_eq_true d0
  have e6:decide ((65536:Int)<(a.nt.st.length:Int))=true:=decide_eq_true H;have e:G (yE a=false):=V (by simp only[yE,decide_eq_false (show ¬a.nt.st.length<=65536 by omega),Av2,Aw3]);go_wp2;go_ret
  exact⟨by rw[e.o];rfl,bT.o⟩
 have e5:decide (65536<a.nt.st.length)=false:=decide_eq_false d0;have e6:decide ((65536:Int)<(a.nt.st.length:Int))=false:=decide_eq_false H;by_cases c6:a.lk.length=a.nt.d.length
 rotate_left
 .have e7:((a.lk.length:Int) != (a.nt.d.length:Int))=true:=by rw[bne_iff_ne];omega
  have e8:(a.lk.length != a.nt.d.length)=true:=by rw[bne_iff_ne];omega
  have e:G (yE a=false):=V (by simp only[yE,decide_eq_false c6,Av2,Aw3]);clear c6;go_wp2;go_ret
  exact⟨by rw[e.o];rfl,bT.o⟩
 have e7:((a.lk.length:Int) != (a.nt.d.length:Int))=false:=by rw[bne_eq_false_iff_eq];omega
 have e8:(a.lk.length != a.nt.d.length)=false:=by rw[bne_eq_false_iff_eq];omega
 have cH:G (a.lk.length=a.nt.d.length/\a.nt.st.length<=65536):=V ⟨c6,H⟩;clear d0 c6;have cM:G (vA a.nt.st=a.nt.d):=V (by
  have B:=dP.o;simp only[sY,Ay6,decide_eq_true_eq]at B;exact B.2)
 have dM:G (yE a=(fU a && !a.nt.st.any (λk=>k.2.1.any (qJ a.tk.length)))):=V (by
  simp only[yE,fI.o,fK.o,fF.o,dP.o,decide_eq_true bP.o.1,decide_eq_true bP.o.2.1,decide_eq_true bP.o.2.2.1,decide_eq_true bP.o.2.2.2,decide_eq_true f7.o,decide_eq_true cH.o.1,decide_eq_true cH.o.2,Bool.not_false,Au1])
 go_wp2;clear e3 e4 e5 e6 e7 e8 l m r s t u v i w x p q j h
 go_loopw [69] (λd9 wr=>∃g:Nat,g<=a.nt.d.length/\d9=.int .i64 g/\(∀z,z<g->xY (a.lk.getD z []) ((a.nt.st.getD (a.nt.d.getD z 0).toNat (0,[],[])).2.2.length:Nat) a.tk.length=true)/\Cf W wr) (λd9 _=>a.nt.d.length-(intOf d9).toNat)
 .exact⟨0,H,D,λz B=>absurd B (Ax1 _),bX.o⟩
 clear bT bX;obtain⟨g,f0,rfl,R,d⟩:=hrel;have dF:=V R;have cI:=V d;have fB:G (Cf c wr):=V (y.o.trans d);have c2:=V (b7.o wr d);clear R d;by_cases f1:g<a.nt.d.length
 .have fP:=rO g a.nt.d.length
  have gR:g<1000000000:=H;obtain⟨bO,gP,h6,d7,rfl,fR,-,-,-,-⟩:=c2.o.nt.d.getI f1;obtain⟨z,f2,g1⟩:=jJ a.nt.st 0 bO (by rw[show yN 0 a.nt.st=a.nt.d from cM.o];exact Az1 d7);rw[Ax]at f2;subst f2;have gT:z<1000000000:=H;obtain⟨g6,⟨h9,h8,U⟩,eD,f5,d5,g4,d3,-,-,-,eZ⟩:=c2.o.nt.st.get3 (f:=hJ) D g1 D;obtain⟨hB,⟨g7,g9,g8⟩,⟨fT,gF,fV⟩⟩:=g6;obtain⟨-,-,-,d6⟩:=g4;simp only at d6;obtain⟨rfl,-⟩:=d6.len;obtain⟨-,-,c7⟩:=eZ _ _ _ D;unfold slV at c7;simp only at c7;have d3:=d3.symm;subst d3;have g2:g<a.lk.length:=(by have:=cH.o.1;omega);obtain⟨⟨c9,hA,cA⟩,F,eB,f4,d1,d2,d4,-,-,c8⟩:=c2.o.lk.get1 (f:=slV) D g2 (λ_=>rfl);have d4:=d4.symm;subst d4;obtain⟨rfl,-⟩:=zL.len d2;unfold slV at c8;simp only at c8;have f8:=V d2;have dD:=V (Y.o.la F (Az1 d1));have g3:U.length<=1000000000:=(Y.o.nt.e _ (Az1 d5)).2;have cO:G (xY (a.lk.getD g []) ((a.nt.st.getD (a.nt.d.getD g 0).toNat (0,[],[])).2.2.length:Nat) a.tk.length=xY F U.length a.tk.length):=V (by
   rw[Aw5,d1,Aw5,Aw5,d7];simp only[Option.getD_some,Ay5];rw[d5]
   rfl)
  clear d7 d5 d2 d1 d6 eZ;go_upto_region 21 with fail
  obtain⟨cF,C⟩:=rM wr.drew;have cK:G (Cf wr cF):=V (by rw[<-C];exact (J.refl _ _).drew);have cP:G (∀b,Cf cF b->Calls prog 39 #[.agg #[.slice c9 F.length cA],.int .i64 U.length,.int .i64 a.tk.length] b λo f6=>o=.returned (.bool (xY F U.length a.tk.length))/\Cf b f6):=V (λb d=>zj F c9 cA U.length a.tk.length L b (gG.good.chg f8.o (cK.o.trans d) iF) dD.o.1 dD.o.2 g3 H);obtain⟨cS,R⟩:=rM (xY F U.length a.tk.length);rw[R]at cP cO;clear R;have dI:G (∀b,Cf cF b->b.cell? ⟨c.heap.size,12,none⟩=some (.slice (some ⟨eB,f4,none⟩) a.lk.length aB)/\b.cell? ⟨eB,f4+g,none⟩=some (.slice c9 F.length cA)/\b.cell? ⟨c.heap.size,7,none⟩=some (.slice (some ⟨eD,f5,none⟩) a.nt.st.length T)/\b.cell? ⟨eD,f5+z * 3+2,none⟩=some (.slice fT U.length fV)/\b.cell? ⟨cT,0,none⟩=some (.int .i64 a.tk.length)):=V (λb d=>by
   have bD:=cK.o.trans d;obtain⟨⟨-,-,-,-,-,-,-,i,-,-,-,-,j⟩,h⟩:=K.o wr cI.o;exact⟨bD.cellS j iD,bD.cellS c8 iD,bD.cellS i iD,bD.cellS c7 iD,bD.cellS h iD⟩)
  clear c8 c7 fR;refine zS (λbO=>Cf cF bO) M M ?_ ?_
  .rw[C];exact J.refl _ _
  (iterate 14 (refine rf dI.o ?_))
  refine xA D (Value.bool cS )  39  ( #[.agg #[.slice c9 F.length cA],.int .i64 U.length,.int .i64 a.tk.length]) (λb=>by go_simp) (λ_ b _ a3=>?_) (λfO eV=>?_)
  .refine (cP.o b a3).mono ?_
   rintro o f6 ⟨rfl,B⟩;exact⟨D,a3.trans B⟩
  ((try go_simp);refine eV _ ?_;clear eV fO)
  refine rq ?_;refine zW ?_;intro g5 bB;have bV:=V (cI.o.trans (cK.o.trans bB));have fD:=V (y.o.trans bV.o);clear bB cP dI C;cases cS with
  | false =>
   have e:G (yE a=false):=V (by
    have:fU a=false:=by
     rw[fU,List.all_eq_false];exact⟨g,At1.2 f1,by rw[cO.o];exact Au6⟩
    rw[dM.o,this,Aw3])
   go_wp2;go_ret
   exact⟨by rw[e.o];rfl,fD.o⟩
  | true =>
   have f9:G (∀z,z<g+1->xY (a.lk.getD z []) ((a.nt.st.getD (a.nt.d.getD z 0).toNat (0,[],[])).2.2.length:Nat) a.tk.length=true):=V (λf3 gS=>by
    by_cases g0:f3=g
    .subst g0;exact cO.o
    exact dF.o f3 H)
   go_wp2;go_roundw
   .exact⟨g+1,H,GN,f9.o,bV.o⟩
   simp[intOf];omega
 obtain rfl:g=a.nt.d.length:=H
 have fP:=rP a.nt.d.length;have fH:G (fU a=true):=V (by
  rw[fU,Aw0];intro g f0;exact dF.o g (At1.1 f0))
 have dO:G (yE a=!a.nt.st.any (λk=>k.2.1.any (qJ a.tk.length))):=V (by rw[dM.o,fH.o,Au1]);obtain⟨⟨-,-,-,-,-,-,-,i,-,-,-,-,-⟩,h⟩:=K.o wr cI.o;have dK:=V (ze (bR.good stR.good) 41 #[.pointer (some ⟨cT,0,none⟩)] (λk=>k.2.1.any (qJ a.tk.length)) a.nt.st a0 T wr fX (zL.bnd c2.o.nt.st Y.o.nt.e) (Ac cT a.tk.length L wr h) fZ);obtain⟨cS,R⟩:=rM (a.nt.st.any (λk=>k.2.1.any (qJ a.tk.length)));rw[R]at dK dO;clear R h;go_wp2_with fail
 refine dK.o.mono ?_;rintro o g5 ⟨rfl,bB⟩;have bV:=V (fB.o.trans bB);clear bB;go_wp2;go_ret
 exact⟨by rw[dO.o];rfl,bV.o⟩
theorem pn {d:Str}(a:eS X=some (d,Y)):∃c b,numG 64 X=some (c,b)/\c<=b.length/\d=strOfNums (b.take c.toNat)/\Y=b.drop c.toNat:=by
 unfold eS at a
 split at a
 .cases a
 rename_i c b g
 split at a
 .rename_i h
  injection a with a;injection a with e f;exact⟨c,b,g,h,e.symm,f.symm⟩
 cases a
theorem fj (c:numG a X=some (x,Y)):∃b:Nat,x=b/\b<=a:=by
 obtain⟨b,f,_,d,e,_⟩:=eG c;exact⟨b,d,e⟩
theorem po {a:Str}(b:eS X=some (a,Y)):a.size<=64:=by
 obtain⟨h,d,c,e,rfl,_⟩:=pn b;obtain⟨g,rfl,f⟩:=fj c;show (strOfNums _).data.size<=64;simp only[strOfNums,List.size_toArray,Ax4,Ay8];omega
theorem ic {k:Type}{m:Rdr k}{P:k->Prop}(l:∀e b c,m e=some (b,c)->P b):∀(j:Nat) (g d:List k) (e c:List Int),repG m j g e=some (d,c)->(∀b∈g,P b)->∀b∈d,P b
 | 0,g,d,e,c,a,i=>by
  simp only[repG]at a;injection a with a;injection a with h _;rw[<-h];exact i
 | j+1,g,d,e,c,a,i=>by
  unfold repG at a
  split at a
  .cases a
  rename_i b n h
  exact ic l j _ d n c a (λo f=>by
   rcases Aw9.1 f with f|f
   .exact i o f
   rw[Ay.1 f];exact l _ _ _ h)
theorem ie {g:Type}{f:Rdr g}{d:List g}(b:vN f X=some (d,Y)):∃(a:Nat) (c:List Int),anyG X=some ((a:Int),c)/\a<=16777215/\repG f a [] c=some (d,Y)/\d.length=a:=by
 unfold vN at b
 split at b
 .cases b
 rename_i j c e
 obtain⟨a,rfl,i⟩:=fj e;have h:=dC b;exact⟨a,c,e,i,b,by rw[h];simp⟩
theorem qU {b:Type}{d:Rdr b}{a:List b}(c:vN d X=some (a,Y)):a.length<=16777215:=by
 obtain⟨g,_,_,e,_,f⟩:=ie c;omega
theorem fk {e:Type}{f:Rdr e}{P:e->Prop}(j:∀d a b,f d=some (a,b)->P a) {d b:List Int}{c:List e}(h:vN f d=some (c,b)):∀a∈c,P a:=by
 obtain⟨l,g,_,_,i,_⟩:=ie h;exact ic j l [] c g b i (λa k=>by cases k)
theorem pp {i:List (List Int)}(a:qL X=some ((i,x),Y)):∃(b e:Nat) (d:List RowD) (c:List Int),qA X vQ=true/\xQ X vQ=(((b:Int),d,c),e,false)/\mayL ((b:Int),d,c)=true/\b<=65536/\c.length<=65536/\e<=X.length/\(c.length:Int) * (b:Int)<=4194304/\i=tU ((b:Int),d,c)/\x=b/\Y=X.drop e:=by
 unfold qL at a
 split at a
 .rename_i h
  obtain⟨b,e,d,c,g,l,m,n,o⟩:=hq h;rw[g]at a;simp only at a
  split at a
  .rename_i p
   injection a with a;injection a with f j;injection f with f k;exact⟨b,e,d,c,h,g,l,m,n,o,p,f.symm,k.symm,j.symm⟩
  cases a
 cases a
theorem pq {a:List (List Int)}(d:qL X=some ((a,x),Y)):a.length<=65536/\∀c∈a,c.length<=65536:=by
 obtain⟨j,k,h,g,_,_,_,e,f,_,_,rfl,_,_⟩:=pp d;unfold tU;refine⟨by simpa using f,λc b=>?_⟩;rw[Au]at b;obtain⟨i,_,rfl⟩:=b;simpa using e
theorem ps {b:StD}(a:gU X=some (b,Y)):∃c d,anyG X=some (b.1,c)/\vN ah c=some (b.2.1,d)/\vN anyG d=some (b.2.2,Y):=by
 unfold gU at a
 split at a
 .cases a
 split at a
 .cases a
 split at a
 .cases a
 rename_i g _ _ _ h _ _ _ i;injection a with a;injection a with e f;subst e f;exact⟨_,_,g,h,i⟩
theorem pt {b:LexD}(a:lexG X=some (b,Y)):∃c d f e,vN rcG X=some (c,d)/\qL d=some ((b.n,f),e)/\f=vC (c.map (·.2))/\repG endG b.n.length [] e=some (b.e,Y)/\b.r=c.map (·.1)/\b.c=c.map (·.2):=by
 unfold lexG at a
 split at a
 .cases a
 split at a
 .cases a
 split at a
 .split at a
  .cases a
  rename_i i _ _ _ _ j k _ _ _ l
  injection a with a;injection a with g h;subst g h;exact⟨_,_,_,_,i,j,k,l,D,D⟩
 cases a
theorem pu {b:NetD}(a:netG X=some (b,Y)):∃c d e,vN gU X=some (b.st,c)/\vN anyG c=some (b.s,d)/\vN anyG d=some (b.p,e)/\vN anyG e=some (b.q,Y)/\b.d=vA b.st:=by
 unfold netG at a
 split at a
 .cases a
 split at a
 .cases a
 split at a
 .cases a
 split at a
 .cases a
 rename_i h _ _ _ i _ _ _ j _ _ _ k;injection a with a;injection a with f g;subst f g;exact⟨_,_,_,h,i,j,k,D⟩
theorem pv {f:List LsD}(b:fW a X=some (f,Y)):∃e g d,vN lsG X=some (e,g)/\qL g=some ((d,(a:Int)+1),Y)/\d.length=e.length/\f=List.zipWith (λh m=>(h.1,h.2,qY m)) e d:=by
 unfold fW at b
 split at b
 .cases b
 split at b
 .cases b
 split at b
 .rename_i k _ _ _ _ l c
  injection b with b;injection b with i j;subst i j;obtain⟨rfl,c⟩:=c;exact⟨_,_,_,k,l,c,D⟩
 cases b
theorem pw {b:TabsD}(a:ai X=some (b,Y)):∃d c e f g,vN eS X=some (b.rl,d)/\vN tokG d=some (c,e)/\lexG e=some (b.lx,f)/\netG f=some (b.nt,g)/\repG (fW c.length) b.nt.d.length [] g=some (b.lk,Y)/\b.tk=c.map (·.1)/\b.dr=c.map (·.2):=by
 unfold ai at a
 split at a
 .cases a
 split at a
 .cases a
 split at a
 .cases a
 split at a
 .cases a
 split at a
 .cases a
 rename_i j _ _ _ k _ _ _ l _ _ _ m _ _ _ n;injection a with a;injection a with h i;subst h i;exact⟨_,_,_,_,_,j,k,l,m,n,D,D⟩
theorem px {b:Str×Bool}(a:tokG X=some (b,Y)):∃c d,eS X=some (b.1,c)/\numG 1 c=some (d,Y)/\b.2=decide (d=1):=by
 unfold tokG at a
 split at a
 .cases a
 split at a
 .cases a
 rename_i g _ _ _ h;injection a with a;injection a with e f;subst e f;exact⟨_,_,g,h,D⟩
theorem py {b:Int×List Int}(a:lsG X=some (b,Y)):∃c,numG 3 X=some (b.1,c)/\vN anyG c=some (b.2,Y):=by
 unfold lsG at a
 split at a
 .cases a
 split at a
 .cases a
 rename_i f _ _ _ g;injection a with a;injection a with d e;subst d e;exact⟨_,f,g⟩
theorem pz:∀(L:List StD) (k:Nat),(yN k L).length<=L.length
 | [],_=>Ay1 _
 | s :: L,k=>by
  have:=pz L (k+1);simp only[yN]
  split <;> simp <;> omega
theorem qa:∀(L:List Int) (k:Int),(xG k L).length<=L.length
 | [],_=>Ay1 _
 | s :: L,k=>by
  have:=qa L (k+1);simp only[xG]
  split <;> simp <;> omega
theorem qc {g:TabsD}(a:ai X=some (g,Y)):FairTabs g:=by
 obtain⟨Z,aT,a0,a1,a2,m,n,x,y,o,k,q⟩:=pw a;obtain⟨aR,a3,aV,a4,z,A,-,B,r,s⟩:=pt x;obtain⟨a5,a6,a7,l,u,v,w,t⟩:=pu y;have aD:=qU m;have aI:=qU n;have aK:=qU z;obtain⟨aM,R⟩:=pq A;have S:=dC B;have T:=qU l;have aO:=qU u;have aP:=qU v;have aF:=qU w;have O:=dC o;have Q:=pz g.nt.st 0;have aH:g.nt.d.length<=16777215:=by rw[t];exact Ay2 Q T
 simp only[Aw6,Ax]at S O;refine⟨H,by rw[k,Ax4];omega,by rw[q,Ax4];omega,λd c=>?_,λd c=>?_,⟨by rw[r,Ax4];omega,by rw[s,Ax4];omega,H,H,λN K=>Ay2 (R N K) dE⟩,⟨H,H,H,H,H,λd c=>?_⟩,H,λe C=>?_⟩
 .exact Ay2 (fk (P:=λd=>d.size<=64) (λ_ _ _ a=>po a) m d c) dE
 .rw[k]at c
  obtain⟨b,h,rfl⟩:=Au.1 c;exact Ay2 (fk (P:=λb=>b.1.size<=64) (λ_ _ _ a=>by obtain⟨_,_,a,_⟩:=px a;exact po a) n b h) dE
 .refine fk (P:=stB) (λX b Y a=>?_) l d c
  obtain⟨_,_,_,f,i⟩:=ps a;exact⟨Ay2 (qU f) dE,Ay2 (qU i) dE⟩
 refine ic (P:=λe=>e.length<=1000000000/\∀j∈e,lsB j) (λX b Y a=>?_) _ [] _ _ _ o (λb h=>by cases h) e C
 obtain⟨W,_,U,f,i,a8,rfl⟩:=pv a;have a9:=qU f;obtain⟨aB,L⟩:=pq i;refine⟨by rw[List.length_zipWith];omega,λj E=>?_⟩;obtain⟨p,F,rfl⟩:=List.mem_iff_getElem.1 E;rw[List.length_zipWith]at F;simp only[List.getElem_zipWith];refine⟨Ay2 (fk (P:=λb=>b.2.length<=16777215) (λ_ _ _ a=>by obtain⟨_,_,a⟩:=py a;exact qU a) f W[p] (List.getElem_mem _)) dE,?_⟩;exact Ay2 (Ay2 (qa _ _) (L U[p] (List.getElem_mem _))) dE
section
variable {α:Type}
def Back (e:Rdr α) (c:α->List Int) (d:α->Prop):Prop:=∀a b,d a->e (c a++b)=some (a,b)
def Only (f:Rdr α) (e:α->List Int):Prop:=∀a c b,(∀d∈a,Byte d)->f a=some (c,b)->a=e c++b
theorem Only.byte {e:Rdr α}{g:α->List Int}(h:Only e g) {b:List Int}{f:α}{c:List Int}(d:∀a∈b,Byte a) (j:e b=some (f,c)):∀a∈c,Byte a:=by
 have:=h b f c d j;intro a i;exact d a (by rw[this];exact List.mem_append_right _ i)
def okN (m:Nat) (x:Int):Prop:=0<=x/\x<=m
theorem cL {m:Nat}(d:m<4294967296):Back (numG m) zJ (okN m):=by
 rintro f b ⟨a,c⟩;obtain⟨e,rfl⟩:=Ax3 a;unfold numG zJ;simp only[Ay5];rw[gs H b];simp only;rw[if_pos H,List.drop_append_of_le_length (Ay1 _),List.drop_length,Av]
theorem bd {d:Nat}:Only (numG d) zJ:=by
 intro e i h c a;obtain⟨g,f,b,rfl,-,-,rfl,-,-⟩:=eG a;unfold zJ;rw[Ay5];exact hn c b
theorem fl {i:Rdr α}{e:α->List Int}{h:α->Prop}(f:Back i e h):∀(a c:List α) (b:List Int),(∀d∈a,h d)->repG i a.length c (a.flatMap e++b)=some (c++a,b)
 | [],c,b,_=>by simp[repG]
 | d :: a,c,b,g=>by
  simp only[Ax2,repG,List.flatMap_cons,Az7];rw[f d _ (g d sI)];simp only;rw[fl f a _ b (λk j=>g k (by simp[j]))];simp
theorem fm {k:Rdr α}{h:α->List Int}(g:Only k h):∀(e:Nat) (d c:List α) (b f:List Int),(∀l∈b,Byte l)->repG k e d b=some (c,f)->∃M,c=d++M/\M.length=e/\b=M.flatMap h++f
 | 0,d,c,b,f,_,a=>by
  simp only[repG,Option.some.injEq,Prod.mk.injEq]at a;obtain⟨rfl,rfl⟩:=a;exact⟨[],sI,D,sI⟩
 | e+1,d,c,b,f,j,a=>by
  unfold repG at a
  split at a
  .cases a
  rename_i p q i
  have m:=g _ _ _ j i;obtain⟨M,rfl,n,o⟩:=fm g e _ _ _ _ (g.byte j i) a;refine⟨p :: M,sI,by simp[n],?_⟩;rw[m,o,List.flatMap_cons,Az7]
def okL (b:α->Prop) (a:List α):Prop:=a.length<=16777215/\∀c∈a,b c
theorem pC {d:Rdr α}{b:α->List Int}{c:α->Prop}(f:Back d b c):Back (vN d) (zE b) (okL c):=by
 rintro a e ⟨h,g⟩;unfold vN zE;have:=cL (m:=16777215) dE (a.length:Int) (a.flatMap b++e) ⟨H,H⟩;simp only[zJ,Ay5]at this;rw[Az7];unfold anyG;rw[this];simp only[Ay5];rw[fl f a [] e g,Av]
theorem ad {d:Rdr α}{a:α->List Int}(i:Only d a):Only (vN d) (zE a):=by
 intro f e o c m;obtain⟨n,g,b,p,j,q⟩:=ie m;have h:=bd f _ _ c b;obtain⟨M,rfl,k,l⟩:=fm i n [] e g o (bd.byte c b) j;rw[h,l];simp only[zE,zJ,Ay5,Az7];rw[k]
end
theorem pQ:Back anyG zJ (okN 16777215):=cL dE
theorem ae:Only anyG zJ:=bd
def dc (s:Str):Prop:=s.size<=64
theorem qd:Back eS xE dc:=by
 intro a d c;unfold eS xE;have:=cL (m:=64) dE (a.size:Int) (strB a++d) ⟨H,by have e:a.size<=64:=c;omega⟩;simp only[zJ,Ay5]at this;rw[Az7,this];simp only[Ay5];have b:=rC a;rw[if_pos (by rw[Az,b];omega),List.take_append_of_le_length H,Ax8 H,lc,List.drop_append_of_le_length H,List.drop_of_length_le H,Av]
theorem fo:Only eS xE:=by
 intro h p o c j;obtain⟨n,b,a,k,rfl,rfl⟩:=pn j;obtain⟨f,rfl,-⟩:=fj a;have i:=bd h _ _ c a;have m:=bd.byte c a;rw[i];unfold xE zJ;simp only[Ay5]at k ⊢;have e:=gm (Z:=b.take f) (λg l=>m g (Av8 l));have d:=rC (strOfNums (b.take f));rw[e,Ay8]at d;rw[e,<-d,Nat.min_eq_left H,Az7,List.take_append_drop]
def qe (e:sU):Prop:=okN 3 e.1/\okN 16777215 e.2.1/\okN 16777215 e.2.2
theorem Ad:Back ah sQ qe:=by
 rintro ⟨d,f,e⟩ g ⟨a,b,c⟩;unfold ah sQ;simp only[Az7];rw[cL dE d _ a];simp only;rw[pQ f _ b];simp only;rw[pQ e _ c]
theorem Ae {c f:List Int}{b:sU}(a:ah c=some (b,f)):∃d e,numG 3 c=some (b.1,d)/\anyG d=some (b.2.1,e)/\anyG e=some (b.2.2,f):=by
 unfold ah at a
 split at a
 .cases a
 split at a
 .cases a
 split at a
 .cases a
 rename_i i _ _ _ j _ _ _ k;injection a with a;injection a with g h;subst g h;exact⟨_,_,i,j,k⟩
theorem qf:Only ah sQ:=by
 intro h k l c e;obtain⟨i,j,a,b,f⟩:=Ae e;have d:=bd.byte c a;have g:=ae.byte d b;rw[bd _ _ _ c a,ae _ _ _ d b,ae _ _ _ g f];simp only[sQ,Az7]
def qg (s:StD):Prop:=okN 16777215 s.1/\okL qe s.2.1/\okL (okN 16777215) s.2.2
theorem Af:Back gU xU qg:=by
 rintro ⟨d,f,e⟩ g ⟨a,b,c⟩;unfold gU xU;simp only[Az7];rw[pQ d _ a];simp only;rw[pC Ad f _ b];simp only;rw[pC pQ e _ c]
theorem qh:Only gU xU:=by
 intro h k l c e;obtain⟨i,j,a,b,f⟩:=ps e;have d:=ae.byte c a;have g:=(ad qf).byte d b;rw[ae _ _ _ c a,ad qf _ _ _ d b,ad ae _ _ _ g f];simp only[xU,Az7]
def okRc (x:(Int×Int)×Int):Prop:=okN 16777215 x.1.1/\okN 16777215 x.1.2/\okN 16777215 x.2
theorem Ag:Back rcG ptRc okRc:=by
 rintro ⟨⟨d,f⟩,e⟩ g ⟨a,b,c⟩;unfold rcG ptRc;simp only[Az7];rw[pQ d _ a];simp only;rw[pQ f _ b];simp only;rw[pQ e _ c]
theorem qi:Only rcG ptRc:=by
 intro j k l d a;unfold rcG at a
 split at a
 .cases a
 split at a
 .cases a
 split at a
 .cases a
 rename_i b _ _ _ c _ _ _ h;injection a with a;injection a with f g;subst f g;have e:=ae.byte d b;have i:=ae.byte e c;rw[ae _ _ _ d b,ae _ _ _ e c,ae _ _ _ i h];simp only[ptRc,Az7]
def qj (e:Int):Prop:=-1<=e/\e<=16777214
theorem Ah:Back endG nQ qj:=by
 rintro a d ⟨b,c⟩;unfold endG nQ;rw[pQ (a+1) _ ⟨H,H⟩];simp only;rw[show a+1-1=a by omega]
theorem Ai:Only endG nQ:=by
 intro h i g f a;unfold endG at a
 split at a
 .cases a
 rename_i b g e;injection a with a;injection a with c d;subst c d;rw[ae _ _ _ f e];unfold nQ;rw[show b-1+1=b by omega]
theorem fp {W:Nat}{LL:List (List Int)}(a:List Int) (i:W<=65536) (g:LL.length<=65536) (c:uQ W LL=true) (e:(LL.length:Int) * W<=4194304):qL (vJ W LL++a)=some ((LL,(W:Int)),a):=by
 have d:=fe H H g c;have h:∀b∈LL,b.length=W:=λb f=>by
  have:=Aw0.1 c b f;simp only[nE,Ay6,decide_eq_true_eq]at this;omega
 unfold qL vJ;rw[if_pos (wi d a),mz d a];simp only;rw[if_pos (by rw[(sE LL).2];exact e),wt h,List.drop_append_of_le_length (Ay1 _),List.drop_length,Av]
theorem ig {d h:List Int}{c:List (List Int)}{b:Int}(k:∀a∈d,Byte a) (q:qL d=some ((c,b),h)):d=vJ b c++h/\(∀a∈h,Byte a)/\0<=b/\b<=65536/\c.length<=65536/\(∀g∈c,(g.length:Int)=b/\∀y∈g,kE y):=by
 obtain⟨K,L,z,m,A,j,e,C,r,E,F,rfl,rfl,rfl⟩:=pp q;have f:=wm (B:=vQ) k (by rw[j]);rw[j]at f;simp only at f;refine⟨?_,λa s=>k a (List.mem_of_mem_drop s),H,H,by simpa [tU] using r,λg t=>?_⟩
 .unfold vJ
  rw[wq e];exact f
 obtain⟨w,l,rfl⟩:=List.mem_iff_getElem.1 t
 have u:w<m.length:=by simpa [tU] using l
 obtain⟨-,x,v,i,-⟩:=ng e (Az4 u);rw[Az4 l]at i;obtain⟨-,-,n,-⟩:=jY e;obtain⟨-,o,p,-⟩:=di (n x (Az1 v));rw[Az2 i];exact⟨by rw[p];simp,o⟩
structure Dr {α:Type}(enc:α->List Int) (ok:α->Prop) (x:α) (Z:List Int) (no:Bool) (Z':List Int) (no':Bool):Prop where
 l:Z'.length<=Z.length
 s:no'=false->no=false/\(enc x).length+Z'.length<=Z.length
 b:∀(x0:α) (Y:List Int),no=false->ok x0->Z=enc x0++Y->x=x0/\Z'=Y/\no'=false
structure DrL {α:Type}(enc:α->List Int) (ok:α->Prop) (N:Nat) (Z:List Int) (no:Bool) (L:List α) (Z':List Int) (no':Bool):Prop where
 n:L.length<=N
 l:Z'.length<=Z.length
 k:L.length<=Z.length+1
 s:no'=false->no=false/\(L.flatMap enc).length+Z'.length<=Z.length
 b:∀(L0:List α) (Y:List Int),no=false->L0.length=N->(∀x∈L0,ok x)->Z=L0.flatMap enc++Y->no'=false/\L=L0.take L.length/\Z'=(L0.drop L.length).flatMap enc++Y
theorem ea {α:Type}{enc:α->List Int}(c:∀b,1<=(enc b).length):∀a:List α,a.length<=(a.flatMap enc).length
 | []=>Ax9 _
 | b :: a=>by
  have d:=c b;have e:=ea c a;rw[List.flatMap_cons,Az,Ax2];omega
section
variable {α β:Type}{enc:α->List Int}{ok:α->Prop}{Z Z1 Z':List Int}{no no1 no':Bool}
theorem Dr.seq {enc2:α->β->List Int}{ok2:α->β->Prop}{b:α}{k:β}(d:Dr enc ok b Z no Z1 no1) (e:Dr (enc2 b) (ok2 b) k Z1 no1 Z' no') :
  Dr (λa:α×β=>enc a.1++enc2 a.1 a.2) (λa=>ok a.1/\ok2 a.1 a.2) (b,k) Z no Z' no' :=
 ⟨Ay2 e.l d.l,λc=>by
  obtain⟨m,s⟩:=e.s c;obtain⟨n,g⟩:=d.s m;exact⟨n,by simp only[Az];omega⟩,λ⟨j,l⟩ f c ⟨h,i⟩ r=>by
  simp only at h i;obtain⟨rfl,g,o⟩:=d.b j (enc2 j l++f) c h (by rw[r,Az7]);obtain⟨rfl,p,q⟩:=e.b l f o i g;exact⟨D,p,q⟩⟩
theorem Dr.to {e:β->List Int}{h:β->Prop}{f:α}{g:β}(d:Dr enc ok f Z no Z' no') (c:β->α) (s:(e g).length<=(enc f).length) (p:∀a,h a->e a=enc (c a)/\ok (c a)/\(f=c a->g=a)):Dr e h g Z no Z' no' :=
 ⟨d.l,λb=>⟨(d.s b).1,by have:=(d.s b).2;omega⟩,λa i b r q=>by
  obtain⟨j,k,l⟩:=p a r;obtain⟨m,n,o⟩:=d.b (c a) i b k (by rw[q,j]);exact⟨l m,n,o⟩⟩
theorem Dr.weak {b:α->Prop}{c:α}(a:Dr enc ok c Z no Z' no') (g:∀d,b d->ok d):Dr enc b c Z no Z' no':=⟨a.l,a.s,λi e f h=>a.b i e f (g _ h)⟩
theorem Dr.bad {g:α}(h:Z.length=Z'.length) (c:∀a b,no=false->ok a->Z=enc a++b->False):Dr enc ok g Z no Z' true :=
 ⟨H,(λc=>by cases c),λa b d e f=>(c a b d e f).elim⟩
theorem DrL.start (b:Nat) (Z:List Int) (no:Bool):DrL enc ok b Z no [] Z no :=
 ⟨Ax9 _,Ay1 _,Ax9 _,λa=>⟨a,sI⟩,λd e a _ _ c=>⟨a,sI,by simpa using c⟩⟩
theorem DrL.step {d:Nat}{a:List α}{c:α}(p:∀c,1<=(enc c).length) (e:DrL enc ok d Z no a Z1 false) (w:a.length<d) (g:Dr enc ok c Z1 false Z' no'):DrL enc ok d Z no (a++[c]) Z' no':=by
 obtain⟨o,x⟩:=e.s D;have v:=ea p a;refine⟨by rw[Az,List.length_singleton];omega,Ay2 g.l e.l,by rw[Az,List.length_singleton];omega,λn=>⟨o,by have:=(g.s n).2;rw[List.flatMap_append,Az,List.flatMap_cons,List.flatMap_nil,Av3];omega⟩,λb j k l h m=>?_⟩;obtain⟨-,u,i⟩:=e.b b j k l h m;have f:a.length<b.length:=H
 rw[Av7 f,List.flatMap_cons,Az7]at i;obtain⟨r,s,t⟩:=g.b _ _ D (h _ (List.getElem_mem f)) i;refine⟨t,?_,?_⟩
 .have q:b.take (a.length+1)=b.take a.length++[b[a.length]]:=by rw[Ay3,Az4 f];rfl
  rw[Az,List.length_singleton,q,r];exact congrArg (·++_) u
 rw[Az,List.length_singleton];exact s
theorem DrL.fin {c:Nat}{a:List α}(e:DrL enc ok c Z no a Z' no') (o:no'=true\/a.length=c):Dr (λa=>a.flatMap enc) (λb=>b.length=c/\∀p∈b,ok p) a Z no Z' no' :=
 ⟨e.l,e.s,λb j k ⟨l,m⟩ n=>by
  obtain⟨g,h,i⟩:=e.b b j k l m n;have f:a.length=b.length:=by
   rcases o with d|d
   .rw[g]at d;cases d
   omega
  rw[f,Ay7]at h;rw[f,List.drop_length]at i;exact⟨h,by simpa using i,g⟩⟩
theorem DrL.list {d:Nat}{b:List α}(f:Dr zJ (λl=>0<=l/\l<=16777215) (d:Int) Z no Z1 no1) (e:DrL enc ok d Z1 no1 b Z' no') (k:no'=true\/b.length=d):Dr (zE enc) (okL ok) b Z no Z' no' :=
 ⟨Ay2 e.l f.l,λi=>by
  obtain⟨o,t⟩:=e.s i;obtain⟨p,j⟩:=f.s o;rcases k with a|a
  .rw[i]at a;cases a
  .refine⟨p,?_⟩
   unfold zE;unfold zJ at j;rw[Ay5,<-a]at j;rw[Az];omega,λc g m ⟨s,n⟩ h=>by
  unfold zE at h;obtain⟨u,q,r⟩:=f.b (c.length:Int) (c.flatMap enc++g) m ⟨H,H⟩ (by rw[h,Az7];unfold zJ;rw[Ay5]);exact (e.fin k).b c g r ⟨H,n⟩ q⟩
end
def Cp (b:Nat) (d:World) (a:Nat):Prop:=a=b\/∃c,d.cell? ⟨b,0,none⟩=some c/\c.ownBlock=some a
def POwn (w:World) (B:Nat) (v:Value) (X:List Int):Prop :=
 Own w B v X\/∃g,v=.slice (some ⟨g,0,none⟩) X.length X.length/\B<=g/\g<w.heap.size/\BytesAt w g 0 X
theorem POwn.chgB (c:POwn w a A X) (d:J S w v) (e:∀b,A.ownBlock=some b->¬S b):POwn v a A X:=by
 rcases c with c|⟨b,rfl,f,g,h⟩
 .exact .inl (fY.1 ((fY.2 c).chgB d e))
 exact .inr ⟨b,D,f,Ay9 g d.size,h.chg d (λ_=>e b D)⟩
theorem POwn.blk (b:POwn w a A X) {g:Nat}(c:A.ownBlock=some g):a<=g/\g<w.heap.size:=by
 rcases b with b|⟨d,rfl,f,h,-⟩
 .exact gx b c
 have e:d=g:=Az2 c
 omega
theorem POwn.shape3 (b:POwn w a A X):∃c e d,A=.slice c e d:=by
 rcases b with b|⟨f,rfl,-⟩
 .exact b.shape3
 exact⟨_,_,_,D⟩
theorem POwn.bytes (d:POwn w a A X) (h:X≠[]):∃b g,A=.slice (some ⟨b,0,none⟩) X.length g/\a<=b/\b<w.heap.size/\BytesAt w b 0 X:=by
 rcases d with d|⟨b,rfl,e,c,f⟩
 .obtain⟨b,i,rfl,e,c,f,j⟩:=d.some h
  exact⟨b,_,D,e,c.lt,c.bytes f⟩
 exact⟨b,_,D,e,c,f⟩
theorem POwn.append {w:World}{B:Nat}{v:Value}{X:List Int}(h:POwn w B v X) (n:B<=w.heap.size) (e:TypeId) (c:Value) (a:List Int) (l:Src prog 1 e c a.length (zU a) w) (o:∀r∈a,Byte r) (p:X.length+a.length<=1000000000000) (g:TypeId) :
  ∃d b,(Builtin.append_ #[45,e] g #[v,c]).run prog w=.ok d b/\POwn b B d (X++a)/\J (λR=>v.ownBlock=some R) w b/\(d.ownBlock=v.ownBlock\/d.ownBlock=some w.heap.size):=by
 rcases h with h|⟨f,rfl,x,y,i⟩
 .obtain⟨d,b,k,s,-,⟨t,u⟩,-⟩:=(fY.2 h).append n e c a (by rw[cJ];exact l) o p g
  exact⟨d,b,k,.inl (fY.1 s),t,u⟩
 rcases Ax6 a.length with m|m
 .have C:=Av1.1 m
  subst C;obtain⟨O,F,T,S,U⟩:=info_parts ao;refine⟨_,_,run_append_nothing (P:=prog) w 45 e g 5 O underlying45 F (some ⟨f,0,none⟩) X.length X.length (Ay1 _) c (by rw[S];exact l),?_,J.refl _ _,.inl D⟩;rw[Av3];exact .inr ⟨f,D,x,y,i⟩
 obtain⟨b,q,k,A,K,z,j⟩:=cj (.slice (some ⟨f,0,none⟩) X.length X.length) X _ X.length D (λb j=>by
  have E:=i.chg j iE;refine run_firstCells_some b 1 X.length ⟨f,0,none⟩ X.length X.length (zU X) sI (λQ W L=>?_);obtain⟨c,N,rfl⟩:=rW L;rw[Addr.add_lit];exact (E.c Q c N).1) i.byte e c a l o H p g
 exact⟨_,_,k,.inl (.inr ⟨_,q,D,n,A,K,z⟩),j.any,.inr D⟩
theorem pL {n:Array Oper}{rest:List Oper}{e:Oper}{c:Act}{m:Exit->Act->World->Prop}(v:e.guard=none) (k l:Operand) (g:TypeId)
  (y:e.op=.call { callee:=.builtin .append,args:=#[k,l],argTypes:=#[45,g] }) (i:Nat) (f:Value) (j b:List Int) (h:Value) (C:c.eval k=f) (B:c.eval l=h)
  (o:POwn w i f j) (s:i<=w.heap.size) (A:Src prog 1 g h b.length (zU b) w) (u:∀c∈b,Byte c) (x:j.length+b.length<=1000000000000)
  (t:∀a d,G (POwn d i a (j++b))->G (J (λE=>f.ownBlock=some E) w d/\(a.ownBlock=f.ownBlock\/a.ownBlock=some w.heap.size))->wpList prog n m rest (c.put e.dst a) d):wpList prog n m (e :: rest) c w:=by
 obtain⟨a,d,z,p,q,r⟩:=o.append s g h b A u x e.type;exact Lib.wpList_append_run w v k l 45 g y f h C B a d z (t a d (V p) (V ⟨q,r⟩))
structure PSt (pg B:Nat) (w:World) (Z:List Int):Prop where
 ex:∃v,w.cell? ⟨pg,0,none⟩=some v/\POwn w B v Z/\v.ownBlock≠some pg
 z:w.frozen? ⟨pg,0,none⟩=false
 le:B<=pg
structure Puts (pg B:Nat) (w w':World) (Z:List Int):Prop where
 st:PSt pg B w' Z
 chg:J (Cp pg w) w w'
 nx:∀k,Cp pg w' k->Cp pg w k\/w.heap.size<=k
theorem PSt.lt (c:PSt a b w X):a<w.heap.size:=by
 obtain⟨e,d,-⟩:=c.ex;exact Az8 _ _ d
theorem PSt.low (c:PSt a b w X) {e:Nat}(d:Cp a w e):b<=e/\e<w.heap.size:=by
 obtain⟨k,g,h,i⟩:=c.ex;rcases d with rfl|⟨j,f,d⟩
 .exact⟨c.le,c.lt⟩
 rw[g]at f
 obtain rfl:=Az2 f;exact h.blk d
theorem PSt.chg {S:Nat->Prop}{e w':World}(d:PSt a b e X) (h:J S e w') (m:∀c,S c->¬Cp a e c):PSt a b w' X/\∀c,Cp a w' c->Cp a e c:=by
 obtain⟨j,g,q,r⟩:=d.ex;have l:¬S a:=λf=>m _ f (.inl D)
 have k:=h.cellS g l;refine⟨⟨⟨j,k,q.chgB h (λo s f=>m o f (.inr ⟨j,g,s⟩)),r⟩,(h.frozen (p:=⟨a,0,none⟩) d.lt l).trans d.z,d.le⟩,λc i=>?_⟩;rcases i with rfl|⟨t,n,i⟩
 .exact .inl D
 rw[k]at n
 exact .inr ⟨j,g,by rw[Az2 n];exact i⟩
theorem PSt.fresh (c:PSt a b w X) (d:Cf w v):Puts a b w v X:=by
 obtain⟨e,f⟩:=c.chg d (λ_ c=>c.elim);exact⟨e,d.any,λh g=>.inl (f h g)⟩
theorem PSt.refl (c:PSt a b w X):Puts a b w w X:=c.fresh cR
theorem Puts.trans (c:Puts a b w v X) (f:Puts a b v u Y):Puts a b w u Y :=
 ⟨f.st,c.chg.trans2 f.chg (λd g h=>(c.nx d h).resolve_right H),λd g=>by
  rcases f.nx d g with e|e
  .exact c.nx d e
  exact .inr (Ay2 c.chg.size e)⟩
theorem Puts.below (e:PSt a b w Y) (c:Puts a b w v X):J (λf=>b<=f) w v:=c.chg.mono (λ_ _ d=>(e.low d).1)
theorem PSt.store (g:PSt a b w X) (h:w.cell? ⟨a,0,none⟩=some A) (e:Cf w v) (y:POwn u b B (X++Y))
  (j:J (λi=>A.ownBlock=some i) v u) (c:B.ownBlock=A.ownBlock\/B.ownBlock=some v.heap.size) :
  (u.cell? ⟨a,0,none⟩=some A/\u.frozen? ⟨a,0,none⟩=false)/\Puts a b w (u.setCell ⟨a,0,none⟩ B) (X++Y):=by
 obtain⟨z,n,E,k⟩:=g.ex;rw[h]at n;obtain rfl:=Az2 n;have o:=g.lt;have t:=e.cellS h iD;have l:u.cell? ⟨a,0,none⟩=some A:=j.cellS t k;have s:u.frozen? ⟨a,0,none⟩=false:=(j.frozen (p:=⟨a,0,none⟩) (Ay9 o e.size) k).trans ((e.frozen (p:=⟨a,0,none⟩) o iD).trans g.z);have q:B.ownBlock≠some a:=by
  rcases c with c|c
  .rw[c];exact k
  rw[c]
  intro d;have:=Az2 d;have:=e.size;omega
 have m:(u.setCell ⟨a,0,none⟩ B).cell? ⟨a,0,none⟩=some B:=Az9 _ _ _ l;refine⟨⟨l,s⟩,⟨⟨B,m,y.chgB (zA u a 0 B) (λC x d=>q (by subst d;exact x)),q⟩,(Az3 _ _ _ _).trans s,g.le⟩,
  ((e.any).trans (j.mono (λi _ d=>.inr ⟨A,h,d⟩))).trans ((zA u a 0 B).mono (λi _ d=>.inl d)),λi f=>?_⟩
 rcases f with rfl|⟨z,r,f⟩
 .exact .inl (.inl D)
 rw[m]at r
 obtain rfl:=Az2 r;rcases c with c|c
 .rw[c]at f;exact .inl (.inr ⟨A,h,f⟩)
 rw[c]at f
 obtain rfl:=Az2 f;exact .inr e.size
theorem qk (s:Str):byteCells s=zU (strB s):=by
 simp only[byteCells,zU,strB,List.map_map]
 rfl
theorem uN (v:Int) (l:World) (d:PSt a b l X) (U:0<=v/\v<4294967296) (aR:X.length<=1000000000) :
  Calls prog 27 #[.pointer (some ⟨a,0,none⟩),.int .i64 v] l λL aI=>L=.returned (.tuple #[])/\Puts a b l aI (X++zJ v):=by
 obtain⟨e,rfl⟩:=Ax3 U.1;have O:e<4294967296:=H
 rw[show zJ (e:Int)=putL e by unfold zJ;rw[Ay5]];clear U;obtain⟨aY,A,z,P⟩:=d.ex;obtain⟨h,j,i,rfl⟩:=z.shape3;have a4:=V d;have a5:=V A;have a2:G (¬(Value.slice h j i).ownBlock=some a):=V P;have aB:=d.lt;have aP:=d.le;obtain⟨g,B⟩:=rK l.drew;have s:G (Cf l g):=V (by rw[B];exact (J.refl _ _).drew);have a7:G (l.drew=g):=V B.symm;have a6:G (g.cell? ⟨a,0,none⟩=some (.slice h j i)):=V (s.o.cellS A iD);have a3:G (POwn g b (.slice h j i) X):=V (z.chgB s.o iF);have Z:G (a<g.heap.size):=V (Ay9 aB s.o.size);have aT:IntKind.u32.wrap (e:Int)=e:=by rw[IntKind.wrap_u32];omega
 clear d B A z P;go_enter func27,ntmps27
 refine zC (λaK=>J (λm=>(Value.slice h j i).ownBlock=some m) g aK) (λC=>decide (C=11)) M ?_;show yC _ _ _ _ _ _ 12 (Array.replicate 12 false) _ l.drew;rw[a7.o];have f:G (J (λm=>(Value.slice h j i).ownBlock=some m) g g):=V cR;refine lq 0 f.o ?_;refine lq 1 f.o ?_;refine lq 2 f.o ?_;refine lq 3 f.o ?_;(refine lf 4 f.o (λ_ a9=>a9.cellS a6.o a2.o) ?_);refine lq 5 f.o ?_;refine lq 6 f.o ?_;refine zY (i:=7) M D D 62 #[.slice none 0 0,.int .u32 e] (λW Y=>∃d,W=.slice (some ⟨d,0,none⟩) ([]++putL e).length ([]++putL e).length/\Row Y d ([]++putL e)/\Cf g Y) (by go_simp) ?_ ?_
 .refine (lh [] e none 0 0 0 g ⟨λm aM aD=>by simp at aD,λd=>(d D).elim⟩ (λd=>by simp at d) sI O).mono ?_
  rintro L u ⟨d,rfl,_,a8,k⟩;exact⟨_,D,λ_=>k.any,d,D,a8,k⟩
 rintro W u S ⟨d,rfl,Q,y⟩ w q;have f:=V (S dE);have a0:G (POwn u b (.slice h j i) X):=V (a3.o.chgB y iF);have K:=V Q;have E:=V y;rw[Av]at K ⊢;obtain⟨o,x⟩:=rM ((putL e).length);have F:=V x;rw[x];clear S Q y x;(try go_simp)
 refine q _ ?_;clear q w;refine yQ (i:=8) M D D (.tmp 8) (.tmp 11) 45 45 D (.slice h j i) (.slice (some ⟨d,0,none⟩) o o) D D (λn r=>POwn r b n (X++putL e)/\J (λm=>(Value.slice h j i).ownBlock=some m) u r/\(n.ownBlock=(Value.slice h j i).ownBlock\/n.ownBlock=some u.heap.size)) ?_ ?_
 .have T:=tS (c:=o) (K.o.bytes (Aw8 _)) (λ_=>rfl)
  rw[F.o]at T;have aO:=rS O;obtain⟨n,r,aF,p,k,t⟩:=a0.o.append (by have:=Z.o;have:=E.o.size;omega) 45 (.slice (some ⟨d,0,none⟩) o o) (putL e) (by rw[F.o];exact T) (bQ e) H 45;exact⟨n,r,aF,λ_=>f.o.trans k,p,k,t⟩
 rintro n r R ⟨p,k,t⟩ w q;have f:=V (R dE);obtain⟨aZ,b1,b0,aH⟩:=p.shape3;subst aH;obtain⟨⟨aV,aX⟩,N⟩:=a4.o.store a5.o (s.o.trans E.o) p k t;have a1:=V N;clear N p k t R;(try go_simp)
 refine q _ ?_;clear q w;refine lq 9 f.o ?_;refine lq 10 f.o ?_;refine ld 11 ?_;refine zQ M ?_ _;go_wp2;go_end0
 exact⟨D,a1.o⟩
theorem Aj (c:Str) (e:World) (o:PSt a b e X) (q:c.size<=1000000) (f:X.length<=1000000000) :
  Calls prog 26 #[.pointer (some ⟨a,0,none⟩),.string c] e λm K=>m=.returned (.tuple #[])/\Puts a b e K (X++xE c):=by
 obtain⟨v,k,u⟩:=rZ (uN (c.size:Int) e o H f) q f;clear o q f;go_enter func26,ntmps26
 go_wp2_with fail
 refine v.o.mono ?_;rintro m r ⟨rfl,d⟩;have j:=V d;obtain⟨P,A,g,z⟩:=d.st.ex;obtain⟨C,F,E,rfl⟩:=g.shape3;have x:=V A;have w:=V g;have s:G (b<=r.heap.size):=V (by have:=d.st.lt;have:=d.st.le;omega);have y:G ((X++zJ (c.size:Int)).length<=2000000000):=V (by
  have:=rS (n:=c.size) (by have:=k.o;omega);have L:=u.o;rw[Az];unfold zJ;rw[Ay5];omega)
 have l:=V (rC c);clear d g z;go_wp2_with (at_builtin;refine pL D _ _ 9 D b (.slice C F E) (X++zJ (c.size:Int)) (strB c) (.string c) D D w.o s.o (by rw[<-qk,l.o];exact Src.ofString r underlying9 c) (kz c) (by have:=y.o;have:=k.o;have:=l.o;omega) ?_;intro Q U i h;obtain⟨R,T,S,B⟩:=i.o.shape3;subst B;obtain⟨⟨N,O⟩,p⟩:=j.o.st.store x.o cR i.o h.o.1 h.o.2;have t:=V (j.o.trans p);clear p)
 go_wp2;go_end0
 refine⟨D,?_⟩;have:=t.o;rw[Az7]at this;unfold xE;unfold zJ at this;rw[Ay5]at this;exact this
section
variable {β δ:Type}
structure SideW (pg B:Nat) (C:World->Nat->Prop) (St:World->List δ->List Int->Prop):Prop where
 get:∀{w acc Z},St w acc Z->PSt pg B w Z
 sub:∀{w k},Cp pg w k->C w k
 low:∀{w acc Z k},St w acc Z->C w k->B<=k
 move:∀{w w' acc Z Z'},St w acc Z->Puts pg B w w' Z'->St w' acc Z'/\∀k,C w' k->C w k\/w.heap.size<=k
def uY (b:World->Nat->Prop) (f:World->List δ->List Int->Prop) (a:World) (e:List δ) (g:List Int) (h:Ending) (d:World):Prop :=
 h=.returned (.tuple #[])/\f d e g/\J (b a) a d/\∀c,b d c->b a c\/a.heap.size<=c
def bq (l:FuncId) (m n:Array Value) (g:δ->List Int) (o:δ->Prop) (j:Elt β) (p:β->Value) (k:Rp β δ) (h:Nat) (i:World->Nat->Prop) (f:World->List δ->List Int->Prop):Prop :=
 ∀(b:World) (d:List δ) (c:List Int) (e:β) (a:δ),f b d c->d.length<=1000000000->j.ok e->k b (·<h) e a->o a->(c++g a).length<=1000000000 ->
  Calls prog l (m++#[p e]++n) b (uY i f b (d++[a]) (c++g a))
theorem uY.trans {b:World->Nat->Prop}{c:World->List δ->List Int->Prop}{f g h:World}{m M:List δ}{n e:List Int}{o i:Ending}(p:uY b c f m n o g) (r:uY b c g M e i h):uY b c f M e i h:=by
 obtain⟨-,w,j,k⟩:=p;obtain⟨s,t,u,v⟩:=r;refine⟨s,t,j.trans2 u (λa l q=>(k a q).resolve_right H),λa l=>?_⟩;rcases v a l with d|d
 .exact k a d
 exact .inr (Ay2 j.size d)
theorem uY.puts {i c:Nat}{d:World->Nat->Prop}{a:World->List δ->List Int->Prop}(g:SideW i c d a) {b j:World}{f:List δ}{k e:List Int}(l:a b f k) (h:Puts i c b j e):uY d a b f e (.returned (.tuple #[])) j:=by
 obtain⟨m,n⟩:=g.move l h;exact⟨D,m,h.chg.mono (λp _ o=>g.sub o),n⟩
theorem yA {b:δ->List Int}{a:List δ}{c:Nat}{d:δ}(e:a[c]?=some d):(a.take (c+1)).flatMap b=(a.take c).flatMap b++b d:=by
 rw[Ay3,e,List.flatMap_append];simp
theorem yW {enc:δ->List Int}{L:List δ}(k:Nat):((L.take k).flatMap enc).length<=(L.flatMap enc).length:=by
 conv=>rhs;rw[<-List.take_append_drop k L,List.flatMap_append,Az]
 omega
end
def ql (n:Int):List Value:=[.int .i64 n]
theorem Ak {δ:Type}{s:Rp Str δ}(R:Good s) {a0 r:Nat}{g:World->Nat->Prop}{e:World->List δ->List Int->Prop}(v:SideW a0 r g e) (i:FuncId) (t x:Array Value) (d:δ->List Int) (Z:δ->Prop) (aV:∀L c,(callFunc i L).run prog c=.ok (.enter i L) c)
  (S:bq i t x d Z strE bJ s r g e) (a:List δ) (K:Option Addr) (N:Nat) (c:World) (f:List Int) (u:e c [] f) (Q:zL strE s c (·<r) (K,a.length,N) a) (U:∀l∈a,Z l) (aZ:a.length<=1000000000) (w:(f++zE d a).length<=1000000000) :
  Calls prog 25 #[.pointer (some ⟨a0,0,none⟩),.slice K a.length N,.func (.func i) t x] c (uY g e c a (f++zE d a)):=by
 obtain⟨aD,E,n,F,a3,a6,a5,B⟩:=sK S R v u Q U w (uN (a.length:Int) c (v.get u) H (by rw[Az]at w;omega));have a9:G (zJ (a.length:Int)=putL a.length):=V (by unfold zJ;rw[Ay5]);clear S R v u Q U w;go_enter func25,ntmps25
 go_wp2_with fail
 refine B.o.mono ?_;rintro P b2 ⟨rfl,j⟩;rw[a9.o]at j;have C:=V (uY.puts n.o F.o j);clear j B;go_wp2
 go_loopw [14] (λy wr=>∃b:Nat,b<=a.length/\y=.int .i64 b/\uY g e c (a.take b) (f++putL a.length++(a.take b).flatMap d) (.returned (.tuple #[])) wr) (λy _=>a.length-(intOf y).toNat)
 .exact⟨0,H,D,by simpa using C.o⟩
 clear C;obtain⟨b,aY,rfl,j⟩:=hrel;have k:=V j;clear j;by_cases aP:b<a.length
 .have aT:=rO b a.length
  have A:=V ((zL.good E.o).chg a3.o k.o.2.2.1 (λaI aX aM=>by have:=n.o.low F.o aM;omega));obtain⟨a1,l,aI,b0,Y,X,rfl,-,-,W,q⟩:=A.o.get1' (f:=fi) D aP D;have o:=V Y;have aB:=V X;have a7:=V W;have a4:G ((f++putL a.length++(a.take b).flatMap d++d l).length<=1000000000):=V (by
   have m:=a5.o;have h:=yW (enc:=d) (L:=a) (b+1);rw[yA o.o]at h;unfold zE at m;simp only[Az]at m h ⊢;omega)
  have z:G (∀p,Cf wr p->Calls prog i (t++#[bJ a1]++x) p (uY g e c (a.take (b+1)) (f++putL a.length++(a.take (b+1)).flatMap d))):=V (λp T=>by
   have m:=uY.puts n.o k.o.2.1 ((n.o.get k.o.2.1).fresh T);refine (aD.o p (a.take b) _ a1 l m.2.1 (by rw[Ay8];omega) a7.o (E.o.chg aB.o T iF) (a6.o l (Az1 o.o)) a4.o).mono ?_;intro P b1 h;have aK:=(k.o.trans m).trans h;rw[yA o.o,Ay3,o.o,<-Az7];exact aK)
  have aO:=q;clear Y X W A
  first|(have O:=q _ D)|(obtain⟨O,aF,aH⟩:=q _ _ _ D)
  clear q aO
  try unfold slV at aF
  try unfold slV at aH
  go_wp2_with fail
  refine (z.o _ (by first|exact J.refl _ _|exact rT)).mono ?_;rintro P aR ⟨rfl,h⟩;have a8:G (uY g e c (a.take (b+1)) (f++putL a.length++(a.take (b+1)).flatMap d) (.returned (.tuple #[])) aR):=V ⟨D,h⟩;clear h O z;go_wp2;go_roundw
  .exact⟨b+1,H,GN,a8.o⟩
  simp[intOf];omega
 obtain rfl:b=a.length:=H
 have a2:G (uY g e c a (f++zE d a) (.returned (.tuple #[])) wr):=V (by
  have:=k.o;rw[Ax8 (Ay1 _),Az7]at this;exact this)
 go_wp2;go_end0
 exact a2.o
theorem Al {δ:Type}{s:Rp Int δ}(R:Good s) {a0 r:Nat}{g:World->Nat->Prop}{e:World->List δ->List Int->Prop}(v:SideW a0 r g e) (i:FuncId) (t x:Array Value) (d:δ->List Int) (Z:δ->Prop) (aV:∀L c,(callFunc i L).run prog c=.ok (.enter i L) c)
  (S:bq i t x d Z intE cd s r g e) (a:List δ) (K:Option Addr) (N:Nat) (c:World) (f:List Int) (u:e c [] f) (Q:zL intE s c (·<r) (K,a.length,N) a) (U:∀l∈a,Z l) (aZ:a.length<=1000000000) (w:(f++zE d a).length<=1000000000) :
  Calls prog 69 #[.pointer (some ⟨a0,0,none⟩),.slice K a.length N,.func (.func i) t x] c (uY g e c a (f++zE d a)):=by
 obtain⟨aD,E,n,F,a3,a6,a5,B⟩:=sK S R v u Q U w (uN (a.length:Int) c (v.get u) H (by rw[Az]at w;omega));have a9:G (zJ (a.length:Int)=putL a.length):=V (by unfold zJ;rw[Ay5]);clear S R v u Q U w;go_enter func69,ntmps69
 go_wp2_with fail
 refine B.o.mono ?_;rintro P b2 ⟨rfl,j⟩;rw[a9.o]at j;have C:=V (uY.puts n.o F.o j);clear j B;go_wp2
 go_loopw [14] (λy wr=>∃b:Nat,b<=a.length/\y=.int .i64 b/\uY g e c (a.take b) (f++putL a.length++(a.take b).flatMap d) (.returned (.tuple #[])) wr) (λy _=>a.length-(intOf y).toNat)
 .exact⟨0,H,D,by simpa using C.o⟩
 clear C;obtain⟨b,aY,rfl,j⟩:=hrel;have k:=V j;clear j;by_cases aP:b<a.length
 .have aT:=rO b a.length
  have A:=V ((zL.good E.o).chg a3.o k.o.2.2.1 (λaI aX aM=>by have:=n.o.low F.o aM;omega));obtain⟨a1,l,aI,b0,Y,X,rfl,-,-,W,q⟩:=A.o.get1' (f:=ql) D aP D;have o:=V Y;have aB:=V X;have a7:=V W;have a4:G ((f++putL a.length++(a.take b).flatMap d++d l).length<=1000000000):=V (by
   have m:=a5.o;have h:=yW (enc:=d) (L:=a) (b+1);rw[yA o.o]at h;unfold zE at m;simp only[Az]at m h ⊢;omega)
  have z:G (∀p,Cf wr p->Calls prog i (t++#[cd a1]++x) p (uY g e c (a.take (b+1)) (f++putL a.length++(a.take (b+1)).flatMap d))):=V (λp T=>by
   have m:=uY.puts n.o k.o.2.1 ((n.o.get k.o.2.1).fresh T);refine (aD.o p (a.take b) _ a1 l m.2.1 (by rw[Ay8];omega) a7.o (E.o.chg aB.o T iF) (a6.o l (Az1 o.o)) a4.o).mono ?_;intro P b1 h;have aK:=(k.o.trans m).trans h;rw[yA o.o,Ay3,o.o,<-Az7];exact aK)
  have aO:=q;clear Y X W A
  first|(have O:=q _ D)|(obtain⟨O,aF,aH⟩:=q _ _ _ D)
  clear q aO
  try unfold slV at aF
  try unfold slV at aH
  go_wp2_with fail
  refine (z.o _ (by first|exact J.refl _ _|exact rT)).mono ?_;rintro P aR ⟨rfl,h⟩;have a8:G (uY g e c (a.take (b+1)) (f++putL a.length++(a.take (b+1)).flatMap d) (.returned (.tuple #[])) aR):=V ⟨D,h⟩;clear h O z;go_wp2;go_roundw
  .exact⟨b+1,H,GN,a8.o⟩
  simp[intOf];omega
 obtain rfl:b=a.length:=H
 have a2:G (uY g e c a (f++zE d a) (.returned (.tuple #[])) wr):=V (by
  have:=k.o;rw[Ax8 (Ay1 _),Az7]at this;exact this)
 go_wp2;go_end0
 exact a2.o
theorem Am {δ:Type}{s:Rp sU δ}(R:Good s) {a0 r:Nat}{g:World->Nat->Prop}{e:World->List δ->List Int->Prop}(v:SideW a0 r g e) (i:FuncId) (t x:Array Value) (d:δ->List Int) (Z:δ->Prop) (aV:∀L c,(callFunc i L).run prog c=.ok (.enter i L) c)
  (S:bq i t x d Z nY nW s r g e) (a:List δ) (K:Option Addr) (N:Nat) (c:World) (f:List Int) (u:e c [] f) (Q:zL nY s c (·<r) (K,a.length,N) a) (U:∀l∈a,Z l) (aZ:a.length<=1000000000) (w:(f++zE d a).length<=1000000000) :
  Calls prog 67 #[.pointer (some ⟨a0,0,none⟩),.slice K a.length N,.func (.func i) t x] c (uY g e c a (f++zE d a)):=by
 obtain⟨aD,E,n,F,a3,a6,a5,B⟩:=sK S R v u Q U w (uN (a.length:Int) c (v.get u) H (by rw[Az]at w;omega));have a9:G (zJ (a.length:Int)=putL a.length):=V (by unfold zJ;rw[Ay5]);clear S R v u Q U w;go_enter func67,ntmps67
 go_wp2_with fail
 refine B.o.mono ?_;rintro P b2 ⟨rfl,j⟩;rw[a9.o]at j;have C:=V (uY.puts n.o F.o j);clear j B;go_wp2
 go_loopw [14] (λy wr=>∃b:Nat,b<=a.length/\y=.int .i64 b/\uY g e c (a.take b) (f++putL a.length++(a.take b).flatMap d) (.returned (.tuple #[])) wr) (λy _=>a.length-(intOf y).toNat)
 .exact⟨0,H,D,by simpa using C.o⟩
 clear C;obtain⟨b,aY,rfl,j⟩:=hrel;have k:=V j;clear j;by_cases aP:b<a.length
 .have aT:=rO b a.length
  have A:=V ((zL.good E.o).chg a3.o k.o.2.2.1 (λaI aX aM=>by have:=n.o.low F.o aM;omega));obtain⟨a1,l,aI,b0,Y,X,rfl,-,-,W,q⟩:=A.o.get3 (f:=bz) D aP D;have o:=V Y;have aB:=V X;have a7:=V W;have a4:G ((f++putL a.length++(a.take b).flatMap d++d l).length<=1000000000):=V (by
   have m:=a5.o;have h:=yW (enc:=d) (L:=a) (b+1);rw[yA o.o]at h;unfold zE at m;simp only[Az]at m h ⊢;omega)
  have z:G (∀p,Cf wr p->Calls prog i (t++#[nW a1]++x) p (uY g e c (a.take (b+1)) (f++putL a.length++(a.take (b+1)).flatMap d))):=V (λp T=>by
   have m:=uY.puts n.o k.o.2.1 ((n.o.get k.o.2.1).fresh T);refine (aD.o p (a.take b) _ a1 l m.2.1 (by rw[Ay8];omega) a7.o (E.o.chg aB.o T iF) (a6.o l (Az1 o.o)) a4.o).mono ?_;intro P b1 h;have aK:=(k.o.trans m).trans h;rw[yA o.o,Ay3,o.o,<-Az7];exact aK)
  have aO:=q;clear Y X W A
  first|(have O:=q _ D)|(obtain⟨O,aF,aH⟩:=q _ _ _ D)
  clear q aO
  try unfold slV at aF
  try unfold slV at aH
  go_wp2_with fail
  refine (z.o _ (by first|exact J.refl _ _|exact rT)).mono ?_;rintro P aR ⟨rfl,h⟩;have a8:G (uY g e c (a.take (b+1)) (f++putL a.length++(a.take (b+1)).flatMap d) (.returned (.tuple #[])) aR):=V ⟨D,h⟩;clear h O z;go_wp2;go_roundw
  .exact⟨b+1,H,GN,a8.o⟩
  simp[intOf];omega
 obtain rfl:b=a.length:=H
 have a2:G (uY g e c a (f++zE d a) (.returned (.tuple #[])) wr):=V (by
  have:=k.o;rw[Ax8 (Ay1 _),Az7]at this;exact this)
 go_wp2;go_end0
 exact a2.o
theorem An {δ:Type}{s:Rp (Int×Sl×Sl) δ}(R:Good s) {a0 r:Nat}{g:World->Nat->Prop}{e:World->List δ->List Int->Prop}(v:SideW a0 r g e) (i:FuncId) (t x:Array Value) (d:δ->List Int) (Z:δ->Prop) (aV:∀L c,(callFunc i L).run prog c=.ok (.enter i L) c)
  (S:bq i t x d Z stE aq s r g e) (a:List δ) (K:Option Addr) (N:Nat) (c:World) (f:List Int) (u:e c [] f) (Q:zL stE s c (·<r) (K,a.length,N) a) (U:∀l∈a,Z l) (aZ:a.length<=1000000000) (w:(f++zE d a).length<=1000000000) :
  Calls prog 65 #[.pointer (some ⟨a0,0,none⟩),.slice K a.length N,.func (.func i) t x] c (uY g e c a (f++zE d a)):=by
 obtain⟨aD,E,n,F,a3,a6,a5,B⟩:=sK S R v u Q U w (uN (a.length:Int) c (v.get u) H (by rw[Az]at w;omega));have a9:G (zJ (a.length:Int)=putL a.length):=V (by unfold zJ;rw[Ay5]);clear S R v u Q U w;go_enter func65,ntmps65
 go_wp2_with fail
 refine B.o.mono ?_;rintro P b2 ⟨rfl,j⟩;rw[a9.o]at j;have C:=V (uY.puts n.o F.o j);clear j B;go_wp2
 go_loopw [14] (λy wr=>∃b:Nat,b<=a.length/\y=.int .i64 b/\uY g e c (a.take b) (f++putL a.length++(a.take b).flatMap d) (.returned (.tuple #[])) wr) (λy _=>a.length-(intOf y).toNat)
 .exact⟨0,H,D,by simpa using C.o⟩
 clear C;obtain⟨b,aY,rfl,j⟩:=hrel;have k:=V j;clear j;by_cases aP:b<a.length
 .have aT:=rO b a.length
  have A:=V ((zL.good E.o).chg a3.o k.o.2.2.1 (λaI aX aM=>by have:=n.o.low F.o aM;omega));obtain⟨a1,l,aI,b0,Y,X,rfl,-,-,W,q⟩:=A.o.get3 (f:=hJ) D aP D;have o:=V Y;have aB:=V X;have a7:=V W;have a4:G ((f++putL a.length++(a.take b).flatMap d++d l).length<=1000000000):=V (by
   have m:=a5.o;have h:=yW (enc:=d) (L:=a) (b+1);rw[yA o.o]at h;unfold zE at m;simp only[Az]at m h ⊢;omega)
  have z:G (∀p,Cf wr p->Calls prog i (t++#[aq a1]++x) p (uY g e c (a.take (b+1)) (f++putL a.length++(a.take (b+1)).flatMap d))):=V (λp T=>by
   have m:=uY.puts n.o k.o.2.1 ((n.o.get k.o.2.1).fresh T);refine (aD.o p (a.take b) _ a1 l m.2.1 (by rw[Ay8];omega) a7.o (E.o.chg aB.o T iF) (a6.o l (Az1 o.o)) a4.o).mono ?_;intro P b1 h;have aK:=(k.o.trans m).trans h;rw[yA o.o,Ay3,o.o,<-Az7];exact aK)
  have aO:=q;clear Y X W A
  first|(have O:=q _ D)|(obtain⟨O,aF,aH⟩:=q _ _ _ D)
  clear q aO
  try unfold slV at aF
  try unfold slV at aH
  go_wp2_with fail
  refine (z.o _ (by first|exact J.refl _ _|exact rT)).mono ?_;rintro P aR ⟨rfl,h⟩;have a8:G (uY g e c (a.take (b+1)) (f++putL a.length++(a.take (b+1)).flatMap d) (.returned (.tuple #[])) aR):=V ⟨D,h⟩;clear h O z;go_wp2;go_roundw
  .exact⟨b+1,H,GN,a8.o⟩
  simp[intOf];omega
 obtain rfl:b=a.length:=H
 have a2:G (uY g e c a (f++zE d a) (.returned (.tuple #[])) wr):=V (by
  have:=k.o;rw[Ax8 (Ay1 _),Az7]at this;exact this)
 go_wp2;go_end0
 exact a2.o
abbrev U32 (z:Int):Prop:=0<=z/\z<4294967296
def S0w (e:Type) (c a:Nat):World->List e->List Int->Prop:=λd _ b=>PSt c a d b
theorem qm (δ:Type) (pg B:Nat):SideW (δ:=δ) pg B (Cp pg) (S0w δ pg B) where
 get:=λh=>h
 sub:=λh=>h
 low:=λh hk=>(PSt.low h hk).1
 move:=λ_ hp=>⟨hp.st,hp.nx⟩
theorem uY.puts0 {e:Type}{f:List e}{d:Ending}(c:uY (Cp a) (S0w e a b) w f X d v):d=.returned (.tuple #[])/\Puts a b w v X:=⟨c.1,c.2.1,c.2.2.1,c.2.2.2⟩
theorem Puts.keep (h:Puts a b w v X) {c d:Nat}(f:¬Cp a w c) {e:Value}(g:w.cell? ⟨c,d,none⟩=some e):v.cell? ⟨c,d,none⟩=some e:=h.chg.cellS g f
theorem Puts.out (f:Puts a b w v X) {c:Nat}(h:c<w.heap.size) (e:¬Cp a w c):¬Cp a v c:=λd=>(f.nx c d).elim e (λg=>H)
theorem PSt.new (e:PSt a b w X) {c:Nat}(f:w.heap.size<=c):¬Cp a w c:=λd=>by have:=(e.low d).2;omega
structure PSb (pg B bx:Nat) (w:World) (Z:List Int):Prop where
 g:PSt pg B w Z
 c:w.cell? ⟨bx,0,none⟩=some (.pointer (some ⟨pg,0,none⟩))
 n:¬Cp pg w bx
theorem PSb.puts (d:PSb a b c w X) (e:Puts a b w v Y):PSb a b c v Y:=⟨e.st,e.keep d.n d.c,e.out (Az8 _ _ d.c) d.n⟩
def Sbw (f:Type) (d a c:Nat):World->List f->List Int->Prop:=λe _ b=>PSb d a c e b
theorem qn (δ:Type) (pg B bx:Nat):SideW (δ:=δ) pg B (Cp pg) (Sbw δ pg B bx) where
 get:=λh=>h.g
 sub:=λh=>h
 low:=λh hk=>(PSt.low h.g hk).1
 move:=λh hp=>⟨h.puts hp,hp.nx⟩
theorem PSb.post {f:Type}{g:List f}{e:Ending}(h:PSb a b c w X) (d:e=.returned (.tuple #[])/\Puts a b w v Y):uY (Cp a) (Sbw f a b c) w g Y e v:=⟨d.1,h.puts d.2,d.2.chg,d.2.nx⟩
theorem uY.putsB {f:Type}{g:List f}{e:Ending}(d:uY (Cp a) (Sbw f a b c) w g X e v):e=.returned (.tuple #[])/\Puts a b w v X:=⟨d.1,d.2.1.g,d.2.2.1,d.2.2.2⟩
theorem Ao (a d:Nat):bq 27 #[.pointer (some ⟨a,0,none⟩)] #[] zJ U32 intE cd eqR d (Cp a) (S0w Int a d):=by
 intro e l k c f g _ n j i h;obtain rfl:c=f:=j;show Calls prog 27 #[.pointer (some ⟨a,0,none⟩),.int .i64 c] e _;refine (uN c e g i (by rw[Az]at h;omega)).mono ?_;rintro m o ⟨rfl,b⟩;exact⟨D,b.st,b.chg,b.nx⟩
theorem Aq (a d:Nat):bq 26 #[.pointer (some ⟨a,0,none⟩)] #[] xE (λk=>k.size<=1000000) strE bJ eqR d (Cp a) (S0w Str a d):=by
 intro e m l c f g _ o j i h;obtain rfl:c=f:=j;show Calls prog 26 #[.pointer (some ⟨a,0,none⟩),.string c] e _;refine (Aj c e g i (by rw[Az]at h;omega)).mono ?_;rintro n p ⟨rfl,b⟩;exact⟨D,b.st,b.chg,b.nx⟩
theorem bS (c:List Int) (e:Option Addr) (f:Nat) (d:World) (g:PSt a b d X) (i:intE.InS d (·<b) (e,c.length,f) c) (l:∀n∈c,U32 n) (k:c.length<=1000000000) (j:(X++zE zJ c).length<=1000000000) :
  Calls prog 69 #[.pointer (some ⟨a,0,none⟩),.slice e c.length f,.func (.func 27) #[.pointer (some ⟨a,0,none⟩)] #[]] d λh m=>h=.returned (.tuple #[])/\Puts a b d m (X++zE zJ c) :=
 (Al eqR.good (qm Int a b) _ _ _ zJ U32 (enters_of func27 M D) (Ao a b) c e f d X g (zL.of i) l k j).mono λ_ _ g=>g.puts0
theorem Ar (c:List Str) (e:Option Addr) (f:Nat) (d:World) (g:PSt a b d X) (j:strE.InS d (·<b) (e,c.length,f) c) (m:∀h∈c,h.size<=1000000) (l:c.length<=1000000000) (k:(X++zE xE c).length<=1000000000) :
  Calls prog 25 #[.pointer (some ⟨a,0,none⟩),.slice e c.length f,.func (.func 26) #[.pointer (some ⟨a,0,none⟩)] #[]] d λi n=>i=.returned (.tuple #[])/\Puts a b d n (X++zE xE c) :=
 (Ak eqR.good (qm Str a b) _ _ _ xE (λh=>h.size<=1000000) (enters_of func26 M D) (Aq a b) c e f d X g (zL.of j) m l k).mono λ_ _ g=>g.puts0
def okE (e:sU):Prop:=(0<=e.1/\e.1<=255)/\U32 e.2.1/\U32 e.2.2
theorem As (f:sU) (d:World) (g:PSb a b c d X) (a0:okE f) (C:(X++sQ f).length<=1000000000) :
  Calls prog 68 #[nW f,.pointer (some ⟨c,0,none⟩)] d λY N=>Y=.returned (.tuple #[])/\Puts a b d N (X++sQ f):=by
 obtain⟨e,o,s⟩:=f;obtain⟨a1,y,z⟩:=a0;simp only at a1 y z;have E:X.length<=1000000000/\(X++zJ e).length<=1000000000/\((X++zJ e)++zJ o).length<=1000000000:=by
  simp only[sQ,Az]at C ⊢;omega
 have u:=V E;obtain⟨j,h⟩:=rK (d.alloc (.cells #[.int .u8 e,.int .i64 o,.int .i64 s] 71));have x:Puts a b d j X:=g.g.fresh (by rw[h];exact rT);have U:=V x;have p:=g.puts x;have q:¬Cp a j d.heap.size:=λf=>by
  have Z:=g.g.chg (S:=λ_=>False) (w':=j) (by rw[h];exact rT) (λ_ g=>g.elim);exact g.g.new (Ay1 _) (Z.2 _ f)
 have t:G (∀i B,Puts a b j i B->i.cell? ⟨c,0,none⟩=some (.pointer (some ⟨a,0,none⟩))/\i.cell? ⟨d.heap.size,0,none⟩=some (.int .u8 e)/\i.cell? ⟨d.heap.size,1,none⟩=some (.int .i64 o)/\i.cell? ⟨d.heap.size,2,none⟩=some (.int .i64 s)):=V (λi B r =>
  ⟨r.keep p.n p.c,r.keep q (by rw[h,Az5];rfl),r.keep q (by rw[h,Az5];rfl),r.keep q (by rw[h,Az5];rfl)⟩)
 have a5:IntKind.i64.wrap e=e:=by rw[IntKind.wrap_i64];omega
 have A:=V p.g;have Q:G (U32 e):=V ⟨H,H⟩;have R:=V y;have T:=V z;clear g x p q C E y z;show Calls prog 68 #[.agg #[.int .u8 e,.int .i64 o,.int .i64 s],.pointer (some ⟨c,0,none⟩)] d _;go_enter func68,ntmps68
 go_upto_region 1 with fail
 rw[<-h];clear h;obtain⟨k,l,m,n⟩:=t.o j X A.o.refl;go_wp2_with fail
 refine (uN e j A.o Q.o u.o.1).mono ?_;rintro a2 O ⟨rfl,F⟩;have v:=V F;clear F k l m n;obtain⟨k,l,m,n⟩:=t.o O _ v.o;go_wp2_with fail
 refine (uN o O v.o.st R.o u.o.2.1).mono ?_;rintro a3 P ⟨rfl,K⟩;have w:=V (v.o.trans K);clear K k l m n;obtain⟨k,l,m,n⟩:=t.o P _ w.o;go_wp2_with fail
 refine (uN s P w.o.st T.o u.o.2.2).mono ?_;rintro a4 a6 ⟨rfl,L⟩;have W:=V (U.o.trans (w.o.trans L));clear L k l m n;go_wp2;go_end0
 refine⟨D,?_⟩;have:=W.o;rw[Az7,Az7]at this;exact this
theorem Ba (e c a:Nat):bq 68 #[] #[.pointer (some ⟨a,0,none⟩)] sQ okE nY nW eqR c (Cp e) (Sbw sU e c a):=by
 intro f m l b g d _ n k i h;obtain rfl:b=g:=k;show Calls prog 68 #[nW b,.pointer (some ⟨a,0,none⟩)] f _;exact (As b f d i h).mono λ_ _ j=>PSb.post d j
def okS (s:StD):Prop:=U32 s.1/\(s.2.1.length<=1000000000/\∀e∈s.2.1,okE e)/\s.2.2.length<=1000000000/\∀z∈s.2.2,U32 z
theorem Bb (R:Int×Sl×Sl) (w:StD) (e:World) (g:PSb a b c e X) (aT:stR e (·<b) R w) (aR:okS w) (a1:(X++xU w).length<=1000000000) :
  Calls prog 66 #[aq R,.pointer (some ⟨c,0,none⟩)] e λaI a9=>aI=.returned (.tuple #[])/\Puts a b e a9 (X++xU w):=by
 obtain⟨b2,f,h⟩:=w;obtain⟨l,⟨p,b0,q⟩,⟨n,aV,o⟩⟩:=R;obtain⟨a7,a8,A,B⟩:=aT;simp only at a7 a8 A B;subst a7;obtain⟨rfl,-⟩:=A.len;obtain⟨rfl,-⟩:=B.len;obtain⟨L,⟨a5,N⟩,a6,O⟩:=aR;simp only at L a5 N a6 O;have E:G (X.length<=1000000000/\((X++zJ l)++zE sQ f).length<=1000000000/\(((X++zJ l)++zE sQ f)++zE zJ h).length<=1000000000):=V (by
  simp only[xU,Az]at a1 ⊢;omega)
 obtain⟨j,i⟩:=rK (e.alloc (.cells #[.int .i64 l,.slice p f.length q,.slice n h.length o] 74));have K:Puts a b e j X:=g.g.fresh (by rw[i];exact rT);have W:=V K;have r:=g.puts K;have T:=V r;have z:¬Cp a j e.heap.size:=λF=>by
  have aO:=g.g.chg (S:=λ_=>False) (w':=j) (by rw[i];exact rT) (λ_ g=>g.elim);exact g.g.new (Ay1 _) (aO.2 _ F)
 have C:G (∀d m,Puts a b j d m->d.cell? ⟨c,0,none⟩=some (.pointer (some ⟨a,0,none⟩))/\d.cell? ⟨e.heap.size,0,none⟩=some (.int .i64 l)/\d.cell? ⟨e.heap.size,1,none⟩=some (.slice p f.length q)/\d.cell? ⟨e.heap.size,2,none⟩=some (.slice n h.length o)):=V (λd m k =>
  ⟨k.keep r.n r.c,k.keep z (by rw[i,Az5];rfl),k.keep z (by rw[i,Az5];rfl),k.keep z (by rw[i,Az5];rfl)⟩)
 have U:G (∀d m,Puts a b j d m->nY.InS d (·<b) (p,f.length,q) f/\intE.InS d (·<b) (n,h.length,o) h):=V (λd m k=>by
  have a0:=(W.o.below g.g).trans ((k.below T.o.g));exact⟨A.chg a0 (λaM aP F=>H),B.chg a0 (λaM aP F=>H)⟩)
 have b1:=mkfn;have aK:=enters_of func68 M D;obtain⟨Y,aB,aD,aF⟩:=sB r.g L N O;clear g K r z a1 a8 A B L N O;show Calls prog 66 #[.agg #[.int .i64 l,.slice p f.length q,.slice n h.length o],.pointer (some ⟨c,0,none⟩)] e _;go_enter func66,ntmps66
 go_upto_region 1 with fail
 rw[<-i];clear i;obtain⟨s,t,u,v⟩:=C.o j X Y.o.refl;go_wp2_with fail
 refine (uN l j Y.o aB.o E.o.1).mono ?_;rintro aX P ⟨rfl,a2⟩;have x:=V a2;clear a2 s t u v;obtain⟨s,t,u,v⟩:=C.o P _ x.o;go_wp2_with fail
 refine (Am eqR.good (qn sU a b c) _ _ _ sQ okE aK (Ba a b c) f p q P _ (T.o.puts x.o) (zL.of (U.o P _ x.o).1) aD.o a5 E.o.2.1).mono ?_;intro aY Q Z;obtain⟨rfl,a3⟩:=Z.putsB;have y:=V (x.o.trans a3);clear a3 Z s t u v;obtain⟨s,t,u,v⟩:=C.o Q _ y.o;go_wp2_with fail
 refine (bS h n o Q y.o.st (U.o Q _ y.o).2 aF.o a6 E.o.2.2).mono ?_;rintro aZ b3 ⟨rfl,a4⟩;have aH:=V (W.o.trans (y.o.trans a4));clear a4 s t u v;go_wp2;go_end0
 refine⟨D,?_⟩;have:=aH.o;rw[Az7,Az7]at this;exact this
theorem Bc (d b a:Nat):bq 66 #[] #[.pointer (some ⟨a,0,none⟩)] xU okS stE aq stR b (Cp d) (Sbw StD d b a):=by
 intro e m l f g c _ n k i h;show Calls prog 66 #[aq f,.pointer (some ⟨a,0,none⟩)] e _;exact (Bb f g e c k i h).mono λ_ _ j=>PSb.post c j
theorem PSt.newF (c:PSt a b w X) (f:Cf w v) {d:Nat}(g:w.heap.size<=d):¬Cp a v d:=λe=>c.new g ((c.chg f (λ_ c=>c.elim)).2 _ e)
structure OkNt (n:NetD):Prop where
 st:n.st.length<=1000000000/\∀s∈n.st,okS s
 s:n.s.length<=1000000000/\∀z∈n.s,U32 z
 p:n.p.length<=1000000000/\∀z∈n.p,U32 z
 q:n.q.length<=1000000000/\∀z∈n.q,U32 z
theorem Bd (c:NetD) (Z:NetS) (d:World) (y:PSt a b d X) (aX:NetIn d (·<b) Z c) (aH:OkNt c) (aF:(X++dJ c).length<=1000000000) :
  Calls prog 29 #[.pointer (some ⟨a,0,none⟩),netV Z] d λaR aY=>aR=.returned (.tuple #[])/\Puts a b d aY (X++dJ c):=by
 obtain⟨⟨v,b7,w⟩,⟨p,aZ,q⟩,⟨r,b5,s⟩,⟨t,b6,u⟩,⟨a9,aD,aB⟩⟩:=Z;obtain⟨i,N,O,P,aV⟩:=aX;obtain⟨rfl,-⟩:=i.len;obtain⟨rfl,-⟩:=N.len;obtain⟨rfl,-⟩:=O.len;obtain⟨rfl,-⟩:=P.len;simp only at i N O P;have E:G ((X++zE xU c.st).length<=1000000000/\((X++zE xU c.st)++zE zJ c.s).length<=1000000000/\(((X++zE xU c.st)++zE zJ c.s)++zE zJ c.p).length<=1000000000/\((((X++zE xU c.st)++zE zJ c.s)++zE zJ c.p)++zE zJ c.q).length<=1000000000):=V (by
  simp only[dJ,Az]at aF ⊢;omega)
 obtain⟨e,h⟩:=rK ((d.alloc (.cells #[.pointer (some ⟨a,0,none⟩)] 81)).alloc (.cells #[.slice v c.st.length w,.slice p c.s.length q,.slice r c.p.length s,.slice t c.q.length u,.slice a9 aD aB] 31));have Q:Cf d e:=by rw[h];exact ((J.refl _ d).alloc _).alloc _
 have W:Puts a b d e X:=y.fresh Q;have a4:=V W;have a0:¬Cp a e d.heap.size:=y.newF Q (Ay1 _);have z:¬Cp a e (d.heap.size+1):=y.newF Q H;have S:e.cell? ⟨d.heap.size,0,none⟩=some (.pointer (some ⟨a,0,none⟩)):=by rw[h];exact yL _ (uE _ _ D)
 have a5:e.cell? ⟨d.heap.size+1,0,none⟩=some (.slice v c.st.length w):=by rw[h];exact zG _ sI D
 have a6:e.cell? ⟨d.heap.size+1,1,none⟩=some (.slice p c.s.length q):=by rw[h];exact zG _ sI D
 have a7:e.cell? ⟨d.heap.size+1,2,none⟩=some (.slice r c.p.length s):=by rw[h];exact zG _ sI D
 have a8:e.cell? ⟨d.heap.size+1,3,none⟩=some (.slice t c.q.length u):=by rw[h];exact zG _ sI D
 have C:G (∀f x,Puts a b e f x->f.cell? ⟨d.heap.size,0,none⟩=some (.pointer (some ⟨a,0,none⟩))/\f.cell? ⟨d.heap.size+1,0,none⟩=some (.slice v c.st.length w)/\f.cell? ⟨d.heap.size+1,1,none⟩=some (.slice p c.s.length q)/\f.cell? ⟨d.heap.size+1,2,none⟩=some (.slice r c.p.length s)/\f.cell? ⟨d.heap.size+1,3,none⟩=some (.slice t c.q.length u)):=V (λf x j =>
  ⟨j.keep a0 S,j.keep z a5,j.keep z a6,j.keep z a7,j.keep z a8⟩)
 have A:G (PSb a b d.heap.size e X):=V ⟨W.st,S,a0⟩;have B:G (∀f x,Puts a b e f x->zL stE stR f (·<b) (v,c.st.length,w) c.st/\intE.InS f (·<b) (p,c.s.length,q) c.s/\intE.InS f (·<b) (r,c.p.length,s) c.p/\intE.InS f (·<b) (t,c.q.length,u) c.q):=V (λf x j=>by
  have R:=(a4.o.below y).trans ((j.below A.o.g));exact⟨(zL.good stR.good).chg i R (λU Y T=>H),N.chg R (λU Y T=>H),O.chg R (λU Y T=>H),P.chg R (λU Y T=>H)⟩)
 have b4:=mkfn;have aT:=enters_of func66 M D;have g:=V aH;clear y W a0 z S a5 a6 a7 a8 aF i N O P aV aH Q;show Calls prog 29 #[.pointer (some ⟨a,0,none⟩),.agg #[.slice v c.st.length w,.slice p c.s.length q,.slice r c.p.length s,.slice t c.q.length u,.slice a9 aD aB]] d _;go_enter func29,ntmps29
 go_upto_region 1 with fail
 rw[<-h];clear h;obtain⟨k,l,m,n,o⟩:=C.o e X A.o.g.refl;go_wp2_with fail
 refine (An stR.good (qn StD a b d.heap.size) _ _ _ xU okS aT (Bc a b d.heap.size) c.st v w e _ A.o (B.o e _ A.o.g.refl).1 g.o.st.2 g.o.st.1 E.o.1).mono ?_;intro b0 a1 i;obtain⟨rfl,aI⟩:=i.putsB;have F:=V aI;clear aI i k l m n o;obtain⟨k,l,m,n,o⟩:=C.o a1 _ F.o;go_wp2_with fail
 refine (bS c.s p q a1 F.o.st (B.o a1 _ F.o).2.1 g.o.s.2 g.o.s.1 E.o.2.1).mono ?_;rintro b1 a2 ⟨rfl,aK⟩;have K:=V (F.o.trans aK);clear aK k l m n o;obtain⟨k,l,m,n,o⟩:=C.o a2 _ K.o;go_wp2_with fail
 refine (bS c.p r s a2 K.o.st (B.o a2 _ K.o).2.2.1 g.o.p.2 g.o.p.1 E.o.2.2.1).mono ?_;rintro b2 a3 ⟨rfl,aM⟩;have L:=V (K.o.trans aM);clear aM k l m n o;obtain⟨k,l,m,n,o⟩:=C.o a3 _ L.o;go_wp2_with fail
 refine (bS c.q t u a3 L.o.st (B.o a3 _ L.o).2.2.2 g.o.q.2 g.o.q.1 E.o.2.2.2).mono ?_;rintro b3 b8 ⟨rfl,aO⟩;have aP:=V (a4.o.trans (L.o.trans aO));clear aO k l m n o;go_wp2;go_end0
 refine⟨D,?_⟩;have:=aP.o;simp only[Az7]at this;exact this
theorem ih {b:List RowD}{O:List Int}(e:∀c∈b,c.2.length<=a):(vE ((a:Int),b,O)).length<=3+2 * b.length+2 * (b.length * a)+O.length:=by
 have h:∀(d:List (Int×Int)) (g:Int),(yG g d).length=2 * d.length:=by
  intro d
  induction d with
  | nil=>intro g;rfl
  | cons m d f=>intro g;simp only[yG,Ax2,f];omega
 have k:∀(b:List RowD),(∀c∈b,c.2.length<=a)->(b.flatMap xS).length<=2 * b.length+2 * (b.length * a):=by
  intro b
  induction b with
  | nil=>intro _;simp
  | cons c b f =>
   intro e;have n:=f (λl j=>e l (by simp[j]));have o:=e c sI;have i:(b.length+1) * a=b.length * a+a:=Nat.succ_mul _ _;simp only[List.flatMap_cons,Az,Ax2];rw[i];have p:(xS c).length=2+2 * c.2.length:=(by simp only[xS,Ax2,h];omega);omega
 have:=k b e;simp only[vE,Ax2,Az];omega
theorem Be (d:Nat) (c:List (List Int)) (h:Option Addr) (C:Nat) (p:World) (e:PSt a b p X) (Z:rN p 0 (h,c.length,C) c) (aY:d<=65536) (v:c.length<=65536) (u:uQ d c=true) (bM:c.length * d<=4194304)
  (g:(X++vJ d c).length<=1000000000) :
  Calls prog 63 #[.pointer (some ⟨a,0,none⟩),.int .i64 d,.slice h c.length C] p λaT bD=>aT=.returned (.tuple #[])/\Puts a b p bD (X++vJ d c):=by
 have N:∀i∈c,i.length=d:=λi g=>by
  have:=Aw0.1 u i g;simp only[nE,Ay6,decide_eq_true_eq]at this;omega
 obtain⟨R,S,aK,bH⟩:=sB (fe (W:=d) H H v u) (uu (d:Int) c h C 0 p Z H H v (λi g=>by rw[N i g];exact aY)) e (sE c);have aV:(yJ c).2.length<=65536:=by rw[(sE c).2];exact v
 have aX:(yJ c).1.length<=65536:=Ay2 (sE c).1 v;have z:G (∀o∈(yJ c).1,o.2.length<=d):=V (λo K=>by
  obtain⟨i,g,rfl⟩:=eJ c o K;rw[<-N i g];exact tG _ _ _)
 have T:G ((vE ((d:Int),(yJ c).1,(yJ c).2)).length<=10000000):=V (by
  have bI:=ih (O:=(yJ c).2) z.o;have bK:(yJ c).1.length * d<=c.length * d:=Nat.mul_le_mul_right _ (sE c).1;omega)
 have Y:=V g;have A:G (vJ d c=kW ((d:Int),(yJ c).1,(yJ c).2)):=V D;have Q:G (∀h∈vJ d c,Byte h):=V (ln _);obtain⟨B,a0⟩:=rM (vJ d c);rw[a0]at Y A Q ⊢;obtain⟨j,t⟩:=rM ((yJ c).1);obtain⟨f,s⟩:=rM ((yJ c).2);rw[t]at aX z;rw[s]at aV;rw[t,s]at R T A;clear e Z g N a0;go_enter func63,ntmps63
 go_wp2_with fail
 refine S.o.mono ?_;rintro aR m (⟨a1,-,-⟩|⟨-,O,x,rfl,L,F,a2⟩)
 .rw[u]at a1;cases a1
 rw[t]at L;rw[s]at F;simp only[t,s,tabV];have aO:=V L;have a9:=V a2;obtain⟨k,w,aI,aH⟩:∃(k w:Nat),G (I.BytesAt m k w f)/\G (0<f.length->x=some ⟨k,w,none⟩):=by
  rcases F with ⟨rfl,-⟩|⟨k,b0,b4,-⟩
  .exact⟨0,0,V ⟨λbP h b2=>by simp at b2,λe=>absurd D e⟩,V (λe=>absurd e sI)⟩
  exact⟨k,0,V (b4.bytes (Aw8 _)),V (λ_=>b0)⟩
 clear L F a2 S u;obtain⟨q,l⟩:=rK (m.alloc (.cells #[.int .i64 d,.slice O j.length j.length,.slice x f.length f.length] 201));have y:G (Cf m q):=V (by rw[l];exact rT);have b7:q.cell? ⟨m.heap.size,0,none⟩=some (.int .i64 d):=by rw[l,Az5];rfl
 have a6:q.cell? ⟨m.heap.size,1,none⟩=some (.slice O j.length j.length):=by rw[l,Az5];rfl
 have a7:q.cell? ⟨m.heap.size,2,none⟩=some (.slice x f.length f.length):=by rw[l,Az5];rfl
 go_upto_region 1 with fail
 rw[<-l];clear l;have r:=V (vm [] (d:Int) j f O x none j.length f.length 0 0 0 _ k w q ⟨H,H⟩ (aO.o.same y.o) H (λo K=>Ay2 (z.o o K) H) (aI.o.chg y.o iE) aH.o H R.o ⟨λbO h b1=>by simp at b1,λe=>absurd D e⟩ (λe=>absurd e sI) sI T.o);rw[Av,<-A.o]at r;simp only[Aw6]at r;go_wp2_with fail
 refine r.o.mono ?_;rintro aR bF ⟨aZ,rfl,-,a5,a3⟩;have aM:=V a5;have aB:=V (a9.o.trans (y.o.trans a3));clear a5 a3 b7 a6 a7 r;have n:=aK.o.fresh aB.o;have W:=V n;obtain⟨bT,b5,E,b3⟩:=n.st.ex;obtain⟨b8,bB,b9,rfl⟩:=E.shape3;have aP:=V b5;have aF:=V E;have a8:G (b<=bF.heap.size):=V (by have:=n.st.lt;have:=n.st.le;omega);clear n E b3;go_wp2_with (at_builtin;refine pL D _ _ 45 D b (.slice b8 bB b9) X B (.slice (some ⟨aZ,0,none⟩) B.length B.length) D D aF.o a8.o (tS (aM.o.bytes (Aw8 _)) (λ_=>rfl)) Q.o (by have:=Y.o;rw[Az]at this;omega) ?_;intro bV c1 U P;obtain⟨bX,c0,bZ,b6⟩:=U.o.shape3;subst b6;obtain⟨⟨a6,a7⟩,a4⟩:=W.o.st.store aP.o cR U.o P.o.1 P.o.2;have aD:=V (W.o.trans a4);clear a4)
 go_wp2;go_end0
 exact⟨D,aD.o⟩
structure OkLx (t:LexD):Prop where
 cl:t.c.length=t.r.length
 rl:t.r.length<=1000000000
 el:t.e.length<=1000000000
 rs:∀r∈t.r,U32 r.1/\U32 r.2
 cs:∀c∈t.c,0<=c/\c<=1000000000
 cw:vC t.c<=65536
 nl:t.n.length<=65536
 mo:uQ (vC t.c) t.n=true
 pr:(t.n.length:Int) * vC t.c<=4194304
 eb:∀e∈t.e,-1<=e/\e<=1000000000
theorem qo {a j:Nat}{x:Int}(b:I.Row w a X) (g:j<X.length) (i:I.Byte x):I.Row (w.setCell ⟨a,j,none⟩ (.int .i64 x)) a (X.set j x) :=
 ⟨λc e d=>by
  by_cases f:c=j
  .subst f
   rw[Aw7 g]at d;obtain rfl:=Az2 d;exact Az9 _ _ _ (b.c c _ (Az4 g))
  .rw[Av5 (Ne.symm f)]at d
   rw[Ay0 _ _ _ _ (by intro a;injection a with _ a;exact f a.symm)];exact b.c c e d,λc=>(Az3 _ _ _ _).trans (b.z c),Ay9 b.lt (zA _ _ _ _).size,λe h=>by
  rcases List.mem_or_eq_of_mem_set h with a|a
  .exact b.byte e a
  rw[a];exact i⟩
theorem dS (d:Nat) (a:List (Int×Int)):(yU d a).length=d+1:=by
 have:∀(a:List (Int×Int)) (b:List Int),(a.foldl (λf c=>f.set (c.1+1).toNat c.2) b).length=b.length:=by
  intro a
  induction a with
  | nil=>intro b;rfl
  | cons c a e=>intro b;rw[List.foldl_cons,e,Av9]
 unfold yU;rw[this,Av6]
theorem Bf (d:Nat) {b:List (Int×Int)}{c:Nat}{a:Int×Int}(e:b[c]?=some a):yU d (b.take (c+1))=(yU d (b.take c)).set (a.1+1).toNat a.2:=by
 unfold yU;rw[Ay3,e,List.foldl_append]
 rfl
structure OkL (tk:Nat) (d:LsD):Prop where
 k:0<=d.1/\d.1<=255
 a:d.2.1.length<=1000000000/\∀z∈d.2.1,U32 z
 el:d.2.2.length<=1000000000
 e:∀e∈d.2.2,-1<=e.1/\e.1<tk/\I.Byte e.2
def ptL (d:LsD):List Int:=ptLs (d.1,d.2.1)
theorem Bg (b:Nat) (a:List LsD):uA b a=zE ptL a++vJ ((b+1:Nat):Int) (a.map (λc=>yU b c.2.2)):=by
 unfold uA zE;rw[Ax4,List.flatMap_map]
 rfl
def sS (Z:List Int):Option TabsD:=if Z.take 4=tQ then match ai (Z.drop 4) with
 | none=>none
 | some (t,r)=>if r=[]/\yE t=true then some t else none
 else none
section
variable {β δ:Type}{E:Elt β}{R:Rp β δ}
theorem LSt.store (r:Good R) {e f:World->Nat->Prop}{j:World->List δ->List Int->Prop}{S:Nat->Prop}{u wr i:World}{t:Value}{l:List δ}{k:List Int}{q:List β}(c:LSt E R e f j u wr t l k q) (o:J S wr i) (m:∀a,S a->e wr a) (y:j i l k)
  (n:∀a,f i a->f wr a) (w:∀a,e i a->e wr a) (s:∀a,e wr a->f wr a):LSt E R e f j u i t l k q :=
 ⟨c.own.chgB o (λb d g=>c.ob b d (s b (m b g))),c.len,λA B v z x=>r.mono (r.chg (c.rel A B v z x) o (λb d g=>d.2.1 (s b (m b g)))) (λb _ d=>⟨d.1,λp=>d.2.1 (n b p),d.2.2⟩),y,
  c.chg.trans2 o (λb d g=>(c.cg b (m b g)).resolve_right H),λa h=>c.tg a (n a h),λa h=>c.cg a (w a h),λa h p=>c.ob a h (n a p)⟩
end
structure QSt (pg gb bx tb:Nat) (w8:World) (w:World) (Z:List Int):Prop where
 g:GetSb pg gb bx w Z
 lt:pg<tb/\gb<tb/\bx<tb/\tb<w.heap.size
 o:∀j u,j<12->w8.cell? ⟨tb,j,none⟩=some u->w.cell? ⟨tb,j,none⟩=some u
 z:∀j,w.frozen? ⟨tb,j,none⟩=false
def Tq (d c b e:Nat):World->Nat->Prop:=λ_ a=>a=d\/a=c\/a=b\/a=e
def Cq (b c:Nat):World->Nat->Prop:=λ_ a=>a=b\/a=c
theorem QSt.chg {g f e d:Nat}{k j w':World}{h:List Int}{S:Nat->Prop}(a:QSt g f e d k j h) (b:J S j w') (l:¬S g) (m:¬S f) (n:¬S e) (i:¬S d):QSt g f e d k w' h :=
 ⟨a.g.chg b l m n,⟨a.lt.1,a.lt.2.1,a.lt.2.2.1,Ay9 a.lt.2.2.2 b.size⟩,λc r o q=>b.cellS (a.o c r o q) i,λc=>(b.frozen (p:=⟨d,c,none⟩) a.lt.2.2.2 i).trans (a.z c)⟩
theorem QSt.go {b f h e:Nat}{l k g:World}{m j:List Int}(a:QSt b f h e l k m) (n:GetSt b f g j) (c:J (·=b) k g):QSt b f h e l g j:=by
 have i:¬e=b:=by have:=a.lt;omega
 exact⟨a.g.go n c,⟨a.lt.1,a.lt.2.1,a.lt.2.2.1,Ay9 a.lt.2.2.2 c.size⟩,λd r o q=>c.cellS (a.o d r o q) i,λd=>(c.frozen (p:=⟨e,d,none⟩) a.lt.2.2.2 i).trans (a.z d)⟩
theorem QSt.set {k i g c:Nat}{m e:World}{f:List Int}(a:QSt k i g c m e f) (l:Value):QSt k i g c m (e.setCell ⟨c,12,none⟩ l) f:=by
 have j:=zA e c 12 l;have b:=a.lt;exact⟨a.g.chg j H H H,⟨b.1,b.2.1,b.2.2.1,Ay9 b.2.2.2 j.size⟩,λd p n o=>by
  rw[Ay0 _ _ _ _ (by intro h;injection h with _ h;omega)];exact a.o d p n o,λd=>(Az3 _ _ _ _).trans (a.z d)⟩
theorem qp {δ:Type}(pg gb bx tb:Nat) (w8:World):Side pg gb (Cq pg tb) (Tq pg gb bx tb) (λw (_:List δ) Z=>QSt pg gb bx tb w8 w Z) where
 get:=λh=>h.g.g
 pgC:=λ_=>.inl D
 sub:=λh=>by
  rcases h with h|h
  .exact .inl h
  exact .inr (.inr (.inr h))
 lt:=λ{w acc Z k} h ht=>by
  rcases ht with rfl|rfl|rfl|rfl
  .exact h.g.g.lt
  .exact h.g.g.lb
  .exact h.g.lt
  exact h.lt.2.2.2
 keep:=λ{S w w' acc Z} h hc hs=>⟨QSt.chg h hc (λe=>hs _ e (.inl D)) (λe=>hs _ e (.inr (.inl D))) (λe=>hs _ e (.inr (.inr (.inl D)))) (λe=>hs _ e (.inr (.inr (.inr D)))),λ_ h=>h,λ_ h=>h⟩
 move:=λh hg hc=>⟨QSt.go h hg hc,λ_ h=>h,λ_ h=>h⟩
theorem ii:strOfNums tQ=⟨#[72,66,84,49]⟩:=dE
theorem Bh {d c j:Nat}{i:Option Addr}(a:World) (e:a.cell? ⟨d,0,none⟩=some (.slice i c j)) (o:c<4):Calls prog 55 #[.pointer (some ⟨d,0,none⟩)] a λg k=>g=sW/\Cf a k:=by
 have n:=Az8 _ _ e;have l:decide (4<=c)=false:=decide_eq_false H;have m:decide ((4:Int)<=(c:Int))=false:=decide_eq_false H;obtain⟨h,b⟩:=rK ((a.alloc (.cells #[.pointer (some ⟨d,0,none⟩)] 132)).alloc (.cells #[.slice none 0 0,.slice none 0 0,.slice none 0 0,.slice none 0 0,.slice none 0 0,.slice none 0 0,.slice none 0 0,.slice none 0 0,.slice none 0 0,.slice none 0 0,.slice none 0 0,.slice none 0 0,.slice none 0 0] 34));have f:G (Cf a h):=V (by rw[b];exact ((J.refl _ a).alloc _).alloc _);have p:h.cell? ⟨a.heap.size,0,none⟩=some (.pointer (some ⟨d,0,none⟩)):=by rw[b];exact yL _ (uE _ _ D)
 have q:=f.o.cellS e iD;clear e;go_enter func55,ntmps55
 go_upto_region 1 with fail
 rw[<-b];clear b;go_wp2_with fail
 refine (kQ _).mono ?_;rintro g r ⟨rfl,rfl⟩;exact⟨D,D,f.o⟩
end Go.Proofs.YtgnpmceimpjheaaGreat
