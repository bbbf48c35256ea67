/- A part of the proof: DGc DocE GetC CodZ SumsA SumsB SumsC SumsD Concat Seal OpenS GetW DGs. -/
import Derived.Test.YtgnpmceimpjheaaGreatGG11
import Derived.Recover
import Derived.Tactics
import Derived.Tactics2
import Derived.Defers
import Derived.Laws.Pointers
import Derived.Laws.LoneSync
import Derived.RegionTactic
import Derived.RegionCalls
import Derived.ChangeAlike
import Derived.OpenShut
set_option maxRecDepth 100000
set_option maxHeartbeats 16000000
namespace Go.Proofs.YtgnpmceimpjheaaGreat
open Go.RowKit Go.Proofs.Tryz
variable {a b c d e f g h i j k l m n o p q r:Nat}{w v u t s:World}{X Y W L T:List Int}{A B C E Z:Value}{x y z:Int}{N R:Bool}{F Q:Option Addr}{S P:Nat->Prop}
def ptTb (p:List (List Int)×Nat):List Int:=vJ p.2 p.1
def okTb (p:List (List Int)×Nat):Prop:=p.2<=65536/\p.1.length<=65536/\uQ p.2 p.1=true/\(p.1.length:Int) * p.2<=4194304
theorem Dr.tab {c:List (List Int)}(k:∀h∈X,Byte h) (e:qL X=some ((c,(a:Int)),Y)):Dr ptTb okTb (c,a) X false Y false:=by
 have l:X=ptTb (c,a)++Y:=(ig k e).1;have m:=congrArg List.length l;rw[Az]at m;refine⟨H,λ_=>⟨D,H⟩,λ⟨f,g⟩ d _ ⟨o,p,q,r⟩ n=>?_⟩;have b:qL X=some ((f,(g:Int)),d):=by rw[n];exact fp d o p q r
 rw[e]at b;injection b with b;injection b with b i;injection b with b j;exact⟨by rw[b,Int.ofNat.inj j],i,D⟩
theorem Dr.tabNo {l:List (List Int)×Nat}(a:qL X=none\/N=true):Dr ptTb okTb l X N X true :=
 Dr.bad D λ⟨d,e⟩ b f ⟨h,i,j,k⟩ g=>by
  rcases a with a|a
  .have c:qL X=some ((d,(e:Int)),b):=by rw[g];exact fp b h i j k
   rw[a]at c;cases c
  rw[f]at a;cases a
def DTab (i m:Nat) (j:World) (k:List Int) (o:Bool) (l:Ending) (c:World):Prop :=
 ∃(a:List (List Int)) (b:Nat) (e:Option Addr) (f:Nat) (d:List Int) (h:Bool),l=.returned (.tuple #[.slice e a.length f,.int .i64 b])/\zL pW (inR intE) c (λn=>j.heap.size<=n) (e,a.length,f) a/\RdSt i m c d h/\J (·=i) j c /\
  (a.length<=65536/\b<=65536/\∀g∈a,g.length=b/\∀p∈g,kE p)/\Dr ptTb okTb (a,b) k o d h
theorem DTab.bad (d:RdSt a b w X N) (f:qL X=none\/N=true) (c:Cf w v):DTab a b w X N (.returned (.tuple #[.slice none 0 0,.int .i64 0])) (v.setCell ⟨a,1,none⟩ (.bool true)) :=
 ⟨[],0,none,0,X,true,D,zL.nil _ _ _ _,(d.fresh c).fail,c.any.trans (zA _ _ _ _),⟨sI,sI,λg e=>by cases e⟩,Dr.tabNo f⟩
structure DVar (b:Nat) (w:World) (m:Nat) (R:List RowD) (O:List Int) (ra oa:Option Addr) (rc oc B g:Nat):Prop where
 c0:w.cell? ⟨b,0,none⟩=some (.int .i64 m)
 c1:w.cell? ⟨b,1,none⟩=some (.slice ra R.length rc)
 c2:w.cell? ⟨b,2,none⟩=some (.slice oa O.length oc)
 r:vW uW rowR w B (ra,R.length,rc) R
 o:I.BytesAt w g 0 O
theorem DVar.fresh {i:List RowD}(g:DVar a w b i X F Q c d e f) (h:Cf w v):DVar a v b i X F Q c d e f :=
 ⟨h.cellS g.c0 iD,h.cellS g.c1 iD,h.cellS g.c2 iD,g.r.same h,g.o.chg h iE⟩
theorem rz (k:World) (g:RdSt a b k X N):Calls prog 59 #[.pointer (some ⟨a,0,none⟩)] k (DTab a b k X N):=by
 obtain⟨a5,B,L,Z,aI⟩:=g.g.c;have z:=V (Cu X (some ⟨b,a5,none⟩) b a5 B k aI (λ_=>rfl) Z (λg=>by cases g) g.s);have t:=V g;obtain⟨a7,bZ⟩:=vv X;cases v:qA X vQ with
 | false =>
  rw[<-a7,v]at z;have T:G (∀s,Cf k s->DTab a b k X N (.returned (.tuple #[.slice none 0 0,.int .i64 0])) (s.setCell ⟨a,1,none⟩ (.bool true))):=V λs i=>DTab.bad t.o (.inl (by unfold qL;rw[v];rfl)) i
  clear a7 bZ Z aI v g;go_enter func59,ntmps59
  go_wp2_with fail
  refine z.o.mono ?_;rintro u n (⟨aO,_⟩|⟨-,rfl,i⟩)
  .cases aO
  obtain⟨l,q⟩:=rK (n.alloc (.cells #[.int .i64 0,.slice none 0 0,.slice none 0 0] 194));have aK:Cf k l:=by rw[q];exact i.alloc _
  have c7:=V (T.o l aK);have cS:=(t.o.fresh aK).n;have b1:=(t.o.fresh aK).z;clear i aK z L;go_upto_region 2 with fail
  rw[<-q];clear q;cases N with
  | true =>
   go_wp2;go_ret2
   exact c7.o
  | false =>
   go_wp2;go_ret2
   exact c7.o
 | true =>
  rw[<-a7,v,<-bZ (by rw[<-a7];exact v)]at z;clear a7 bZ;obtain⟨c,r,h,e,bK,d5,d6,d7,bM⟩:=hq v;have aD:G (qL X=if (e.length:Int) * (c:Int)<=4194304 then some ((tU ((c:Int),h,e),(c:Int)),X.drop r) else none):=V (by unfold qL;rw[v,bK];rfl);rw[bK]at z;have b5:=V d5;have c6:G (∀l,Cf k l->l.cell? ⟨a,0,none⟩=some (.slice (some ⟨b,a5,none⟩) X.length B)/\l.frozen? ⟨a,0,none⟩=false/\RdSt a b (l.setCell ⟨a,0,none⟩ (cutV b a5 B X.length r)) (X.drop r) N) :=
   V λl i=>⟨i.cellS L iD,(i.frozen (p:=⟨a,0,none⟩) g.g.lt iD).trans g.g.z,(g.fresh i).cut (i.cellS L iD) Z (aI.chg i iE) bM⟩
  have dV:G (X.length<=B):=V Z;have e2:=V bM;have f5:r<=10000000:=by have:=g.s;omega
  have d9:e.length * c<=4294967296:=Nat.mul_le_mul d7 d6;have eM:wrap64 ((e.length:Int) * (c:Int))=(e.length:Int) * (c:Int):=by
   rw[<-Int.natCast_mul]
   generalize e.length * c=P at d9
   simp only[wrap64];omega
  clear d9 Z aI v g bK d5 bM;go_enter func59,ntmps59
  go_wp2_with fail
  refine z.o.mono ?_;rintro u n (⟨-,aY,aV,aZ,aX,rfl,dB,d8,i⟩|⟨aO,_⟩)
  rotate_left
  .cases aO
  obtain⟨bX,cX,cZ⟩:=d8.at;obtain⟨l,q⟩:=rK (n.alloc (.cells #[.int .i64 c,.slice aY h.length aZ,.slice aV e.length aX] 194));have aM:Cf n l:=by rw[q];exact rT
  have aF:G (DVar n.heap.size l c h e aY aV aZ aX k.heap.size bX):=V (by
   refine⟨?_,?_,?_,dB.same aM,cX.chg aM iE⟩ <;> · rw[q,Az5];rfl)
  have cA:=V cZ;have e4:G (k.heap.size<=n.heap.size/\l.heap.size=n.heap.size+1):=V ⟨i.size,by rw[q];simp⟩;have y:=V (i.trans aM);have cS:=(t.o.fresh y.o).n;have b1:=(t.o.fresh y.o).z;have R:=aF.o.c0;have a6:=aF.o.c2;clear dB d8 cX cZ i aM z L;simp only at *;go_upto_region 2 with fail
  rw[<-q];clear q;cases N with
  | true =>
   have T:=V (DTab.bad t.o (.inr D) y.o);go_wp2;go_ret2
   exact T.o
  | false =>
   by_cases aP:(e.length:Int) * (c:Int)<=4194304
   .rw[if_pos aP]at aD
    have cT:decide (4194304<(e.length:Int) * (c:Int))=false:=decide_eq_false H;clear aP;go_upto_region 5 with fail
    clear cT eM cS b1 R a6;by_cases O:B=r
    all_goals
     have hcut:=c6.o l y.o;have bV:B=r->X.length-r=0:=λu=>by have:=dV.o;omega
     first|rw[cutV,if_pos O]at hcut|rw[cutV,if_neg O]at hcut
     obtain⟨eO,b1,o⟩:=hcut;obtain⟨b0,d2,d1,dH,dK⟩:∃aH,RdSt a b aH (X.drop r) false/\J (·=a) k aH/\DVar n.heap.size aH c h e aY aV aZ aX k.heap.size bX/\aH=_:=⟨_,o,y.o.any.trans (zA _ _ _ _),by
      have E:=zA l a 0 (cutV b a5 B X.length r)
      first|rw[cutV,if_pos O]at E|rw[cutV,if_neg O]at E
      have f4:=t.o.g.lt;have q:=e4.o;have a0:=aF.o;refine⟨E.cellS a0.c0 (by show ¬n.heap.size=a;omega),E.cellS a0.c1 (by show ¬n.heap.size=a;omega),E.cellS a0.c2 (by show ¬n.heap.size=a;omega),?_,?_⟩
      .exact a0.r.chgB E (λW o u=>H)
      refine a0.o.chg E (λeH u=>?_)
      have:=(cA.o (List.length_pos_iff.2 eH)).2;omega,D⟩
     first|have bV:=bV O|skip
     have eK:=e2.o;go_upto_region 6 with fail
     rw[<-dK];clear eK O dK o eO b1 bV;obtain⟨dT,c3,e3⟩:=rZ d2 d1 dH;clear d2 d1 dH aF c6 y;go_wp2
     go_loopw [7,8] (λc0 w wr=>∃j:Nat,j<=e.length/\w=.int .i64 j/\Gr pW (inR intE) b0.heap.size (λ_=>True) wr c0 ((tU ((c:Int),h,e)).take j)/\Cf b0 wr) (λ_ w _=>e.length-(intOf w).toNat)
     .exact⟨0,H,D,Gr.nil,cR⟩
     obtain⟨j,aO,rfl,Q,bI⟩:=hrel;obtain⟨dO,eZ,dP,rfl⟩:=Q.shape3;obtain⟨aB,a9,b7⟩:=rZ Q bI (e3.o.fresh bI);have a6:=b7.o.c2;obtain⟨x,rfl⟩:=rK wr;clear bI Q;by_cases eF:j<e.length
     .have cP:=rO j e.length
      have f3:j<65536:=H;have cD:G ((tU ((c:Int),h,e))[j]?=some ((List.range c).map (λ(f:Nat)=>eQ ((c:Int),h,e) j f))):=V (ol ((c:Int),h,e) eF);obtain⟨m,aR⟩:=rM ((List.range c).map (λ(f:Nat)=>eQ ((c:Int),h,e) j f));have e1:G (∀f,f<c->m[f]?=some (eQ ((c:Int),h,e) j f)):=V (λf d3=>by rw[<-aR];simp[d3]);have cB:G (m.length=c):=V (by rw[<-aR];simp);rw[aR]at cD;clear aR;go_upto_region 10 with fail
      clear a6 cP;go_wp2
      go_loopw [9,10] (λc0 w wr=>∃f:Nat,f<=c/\w=.int .i64 f/\intE.Own wr x.heap.size c0 (m.take f)/\Cf x wr) (λ_ w _=>c-(intOf w).toNat)
      .exact⟨0,H,D,by rw[List.take_zero];exact .nil _ _,cR⟩
      obtain⟨f,d3,rfl,bT,bH⟩:=hrel;obtain⟨a2,a4,a3,rfl⟩:=bT.shape3;obtain⟨b8,a8,U⟩:=rZ bT bH (b7.o.fresh bH);have R:=U.o.c0;clear bT bH;by_cases eD:f<c
      .have cO:=rO f c
       have f2:f<65536:=H;have eP:=U.o.c1;have a6:=U.o.c2;obtain⟨F,a1⟩:=rM (eQ ((c:Int),h,e) j f);have bD:=Cv (c:Int) (j:Int) (f:Int) h e aY aV aZ aX k.heap.size bX 0 wr ⟨H,H⟩ ⟨H,H⟩ ⟨H,H⟩ U.o.r (λeR eI=>by have:=(mU H ((jY b5.o).2.2.1 eR eI)).2.1;omega) U.o.o (λg=>(cA.o g).1) H;rw[a1]at bD;have dR:=V bD;have cH:=V a1;clear bD a1;go_wp2_with fail
       refine dR.o.mono ?_;rintro u c1 ⟨rfl,bF⟩;have aT:=hw b5.o (j:Int) (f:Int);rw[cH.o]at aT;have cI:G (∀c2∈[F],intE.ok c2):=V (λc2 dM=>by rw[Ay]at dM;subst dM;exact⟨by have:=aT.1;omega,by have:=aT.2;omega⟩);have C:Cf c1 (c1.alloc (.cells #[.int .i64 F] 3)):=rT;have dX:=V (b8.o.chg (bF.trans C) (λ_ _ _ g=>g));have c4:=V ((a8.o.trans bF).trans C);have b6:G (m.take f++[F]=m.take (f+1)):=V (by rw[Ay3,e1.o f eD,cH.o];rfl);have dU:G ((m.take f).length=f):=V (by rw[Ay8,cB.o];omega);clear bF aT C R eP a6 cO;go_wp2_with (at_builtin;refine Elt.wpList_append2 intE D _ _ 25 25 D D x.heap.size _ (m.take f) [F] (.slice (some ⟨c1.heap.size,0,none⟩) 1 1) D D dX.o c4.o.size (intE.srcLit 1 cI.o) cI.o (by have:=dU.o;simp;omega) ?_;intro eT f1 K b4 b2;obtain⟨eV,f0,eX,bO⟩:=K.o.shape3;subst bO)
       rw[b6.o]at K;have b3:=V (c4.o.trans2 b4.o (λW o u=>absurd o H));go_roundw
       .exact⟨f+1,H,GN,K.o,b3.o⟩
       simp[intOf];omega
      obtain rfl:f=c:=H
      have cO:=rP f;have dD:m.take f=m:=Ax8 (by rw[cB.o];exact Ay1 _);rw[dD]at b8;have b6:G ((tU ((f:Int),h,e)).take (j+1)=(tU ((f:Int),h,e)).take j++[m]):=V (by rw[Ay3,cD.o];rfl);have cK:G (∀F∈[((a2,a4,a3):Sl)],pW.ok F):=V (λ_ _=>trivial);obtain⟨cM,b9,bB,d0⟩:=aB.o;obtain⟨e5,e6,e7⟩:=rZ b9 bB d0;have cF:G (b0.heap.size<=x.heap.size/\x.heap.size<=wr.heap.size):=V ⟨a9.o.size,a8.o.size⟩;have e9:G (cM.length<=65536):=V (by rw[bB,Ay8];omega);have C:Cf wr (wr.alloc (.cells #[.slice a2 a4 a3] 25)):=rT;have c5:=V (a8.o.trans C);have e8:=V (b9.chg (a8.o.trans C) (λ_ _ _ g=>g));clear b9 bB d0 C dD;go_wp2_with (at_builtin;refine Elt.wpList_append2 pW D _ _ 26 26 D D b0.heap.size _ cM [(a2,a4,a3)] (.slice (some ⟨wr.heap.size,0,none⟩) 1 1) D D e8.o (by have:=cF.o;simp;omega) (pW.srcLit (Y:=[(a2,a4,a3)]) 1 cK.o) cK.o (by have:=e9.o;simp;omega) ?_;intro eT f1 K b4 b2;obtain⟨eV,f0,eX,bO⟩:=K.o.shape3;subst bO)
      have c9:=V (Gr.step (A:=λ_=>True) inR.good e5.o e6.o e7.o cF.o.1 c5.o (λ_ _ _ g=>g) (y:=(a2,a4,a3)) (d:=m) (by
       have L:=b8.o.inS.2;exact (inR.good.chg (R:=inR intE) (S:=(x.heap.size<=·)) L ((FR wr).alloc _) iF) |> λg=>inR.good.mono g (λW _ o=>⟨o,trivial⟩)) K.o b2.o.1 (b2.o.2.imp id (λu=>⟨_,u,Ay1 _⟩)))
      rw[<-b6.o]at c9;have b3:=V ((a9.o.trans c5.o).trans2 b4.o (λW o u=>absurd o H));go_roundw
      .exact⟨j+1,H,GN,c9.o,b3.o⟩
      simp[intOf];omega
     obtain rfl:j=e.length:=H
     have cP:=rP e.length;have dF:(tU ((c:Int),h,e)).take e.length=tU ((c:Int),h,e):=Ax8 (by rw[jG];exact Ay1 _);rw[dF]at aB;obtain⟨bP,d4⟩:=aB.o.list inR.good;have dI:(tU ((c:Int),h,e)).length=e.length:=jG _;have R:=b7.o.c0;have e0:=V (dT.o.fresh a9.o);have c8:G (∀s,Cf x s->DTab a b k X false (.returned (.tuple #[.slice dO eZ dP,.int .i64 c])) s):=V (λs i=>by
      refine⟨tU ((c:Int),h,e),c,dO,dP,X.drop r,false,by rw[bP],?_,e0.o.fresh i,(c3.o.trans a9.o.any).trans i.any,⟨by rw[dI];exact d7,d6,λf7 Q=>?_⟩,Dr.tab t.o.g.byte aD.o⟩
      .rw[<-bP]
       have:=c3.o.size;exact (zL.good inR.good).mono ((zL.good inR.good).chg d4 i iF) (λW _ o=>by show k.heap.size<=W;omega)
      simp only[tU,Au,Ay5]at Q
      obtain⟨f6,_,rfl⟩:=Q;refine⟨sI,λF a1=>?_⟩;obtain⟨f,_,rfl⟩:=Au.1 a1;exact hw b5.o _ _)
     clear dF d4 bP dI aB;go_upto_region 16 with fail
     (refine ws (λs=>Cf x s) ?_;(iterate 5 (first|(refine rq ?_ (by intro _ s _ eB;have w:=eB.cellS R iD;go_simp;try with_reducible rfl))|(refine sq ?_)));refine zW ?_;intro f8 cV);have dZ:=V (c8.o _ cV);clear cV R c8;go_wp2;go_ret2
     exact dZ.o
   rw[if_neg aP]at aD
   have cT:decide (4194304<(e.length:Int) * (c:Int))=true:=decide_eq_true H;have T:=V (DTab.bad t.o (.inl aD.o) y.o);clear aP;go_wp2;go_ret2
   exact T.o
def de (x:sU):List Value:=[.int .i64 x.1,.int .i64 x.2.1,.int .i64 x.2.2]
def nG:Elt sU where
 enc:=de
 sz:=3
 bs:=24
 e:=123
 sl:=119
 z:=(0,0,0)
 zv:=.agg #[.int .i64 0,.int .i64 0,.int .i64 0]
 ok:=λx=>I.Byte x.1/\I.Byte x.2.1/\I.Byte x.2.2
 pos:=H
 len:=λ_=>rfl
 one:=λa u hu=>by
  simp only[de,Ax5,Av4,or_false]at hu;rcases hu with rfl|rfl|rfl <;> rfl
 zok:=dE
 info:=M
 zc:=rfl
 und:=M
 bsl:=H
def dStE:Elt (Int×Sl×Sl) where
 enc:=hJ
 sz:=3
 bs:=56
 e:=121
 sl:=38
 z:=(0,(none,0,0),(none,0,0))
 zv:=.agg #[.int .i64 0,.slice none 0 0,.slice none 0 0]
 ok:=λx=>I.Byte x.1
 pos:=H
 len:=λ_=>rfl
 one:=λa u hu=>by
  simp only[hJ,Ax5,Av4,or_false]at hu;rcases hu with rfl|rfl|rfl <;> rfl
 zok:=dE
 info:=M
 zc:=rfl
 und:=M
 bsl:=H
def dLeE:Elt (Int×Int) where
 enc:=tY
 sz:=2
 bs:=16
 e:=147
 sl:=143
 z:=(0,0)
 zv:=.agg #[.int .i64 0,.int .i64 0]
 ok:=em
 pos:=H
 len:=λ_=>rfl
 one:=λa u hu=>by
  simp only[tY,Ax5,Av4,or_false]at hu;rcases hu with rfl|rfl <;> rfl
 zok:=dE
 info:=M
 zc:=rfl
 und:=M
 bsl:=H
def dLsE:Elt (Int×Sl×Sl) where
 enc:=hJ
 sz:=3
 bs:=56
 e:=145
 sl:=77
 z:=(0,(none,0,0),(none,0,0))
 zv:=.agg #[.int .i64 0,.slice none 0 0,.slice none 0 0]
 ok:=λx=>I.Byte x.1
 pos:=H
 len:=λ_=>rfl
 one:=λa u hu=>by
  simp only[hJ,Ax5,Av4,or_false]at hu;rcases hu with rfl|rfl|rfl <;> rfl
 zok:=dE
 info:=M
 zc:=rfl
 und:=M
 bsl:=H
def fG:Elt Sl where
 enc:=λs=>[slV s]
 sz:=1
 bs:=24
 e:=79
 sl:=41
 z:=(none,0,0)
 zv:=.agg #[.slice none 0 0]
 ok:=λ_=>True
 pos:=H
 len:=λ_=>rfl
 one:=λa u hu=>by
  simp only[Ax5,Av4,or_false]at hu;subst hu;rfl
 zok:=trivial
 info:=M
 zc:=rfl
 und:=M
 bsl:=H
def dStR:Rp (Int×Sl×Sl) StD:=λw S x d=>x.1=d.1/\I.Byte d.1/\nG.InS w S x.2.1 d.2.1/\intE.InS w S x.2.2 d.2.2
theorem dStR.good:Good dStR:=⟨λa c b=>⟨a.1,a.2.1,a.2.2.1.chg c b,a.2.2.2.chg c b⟩,λa b=>⟨a.1,a.2.1,a.2.2.1.mono b,a.2.2.2.mono b⟩⟩
def dLsR:Rp (Int×Sl×Sl) LsD:=λw S x d=>x.1=d.1/\I.Byte d.1/\intE.InS w S x.2.1 d.2.1/\dLeE.InS w S x.2.2 d.2.2
theorem dLsR.good:Good dLsR:=⟨λa c b=>⟨a.1,a.2.1,a.2.2.1.chg c b,a.2.2.2.chg c b⟩,λa b=>⟨a.1,a.2.1,a.2.2.1.mono b,a.2.2.2.mono b⟩⟩
def uJ:Rp Sl (List LsD):=zL dLsE dLsR
theorem uJ.good:Good uJ:=zL.good dLsR.good
structure DNetIn (w:World) (S:Nat->Prop) (m:NetS) (n:NetD):Prop where
 st:zL dStE dStR w S m.st n.st
 s:intE.InS w S m.s n.s
 p:intE.InS w S m.p n.p
 q:intE.InS w S m.q n.q
 d:intE.InS w S m.d n.d
theorem DNetIn.good:Good (λg d e f=>DNetIn g d e f) :=
 ⟨λa c b=>⟨(zL.good dStR.good).chg a.st c b,a.s.chg c b,a.p.chg c b,a.q.chg c b,a.d.chg c b⟩,λa b=>⟨(zL.good dStR.good).mono a.st b,a.s.mono b,a.p.mono b,a.q.mono b,a.d.mono b⟩⟩
structure DocIn (w:World) (S:Nat->Prop) (m:TabsS) (t:TabsD):Prop where
 rl:strE.InS w S m.rl t.rl
 tk:strE.InS w S m.tk t.tk
 dr:mL.InS w S m.dr t.dr
 lx:LexIn w S m.lx t.lx
 nt:DNetIn w S m.nt t.nt
 lk:zL fG uJ w S m.lk t.lk
theorem DocIn.good:Good (λg d e f=>DocIn g d e f) :=
 ⟨λa c b=>⟨a.rl.chg c b,a.tk.chg c b,a.dr.chg c b,LexIn.good.chg a.lx c b,DNetIn.good.chg a.nt c b,(zL.good uJ.good).chg a.lk c b⟩,λa b=>⟨a.rl.mono b,a.tk.mono b,a.dr.mono b,LexIn.good.mono a.lx b,DNetIn.good.mono a.nt b,(zL.good uJ.good).mono a.lk b⟩⟩
def tC:List Value:=[.slice none 0 0,.slice none 0 0,.slice none 0 0,.slice none 0 0,.slice none 0 0,.slice none 0 0,.slice none 0 0,.slice none 0 0,.slice none 0 0,.slice none 0 0,.slice none 0 0,.slice none 0 0,.slice none 0 0]
theorem Cw (e f:Nat) (d:World) (i:Nat->Value) (y:Int) (s:e≠f) (k:∀a,a<13->d.cell? ⟨e,a,none⟩=some (i a)) (m:∀a,d.frozen? ⟨e,a,none⟩=false) (j:d.cell? ⟨f,0,none⟩=some (.int .i64 y)) (n:d.frozen? ⟨f,0,none⟩=false) :
  CallsD prog 53 #[.pointer (some ⟨e,0,none⟩),.pointer (some ⟨f,0,none⟩)] (.panicking [{ v:=.iface 129 (.agg #[]),recovered:=false }]) d λq w x =>
   q=.returned (.tuple #[])/\w=.panicking [{ v:=.iface 129 (.agg #[]),recovered:=true }]/\x=(xC e 0 tC (d.alloc (.cells #[] 129))).setCell ⟨f,0,none⟩ (.int .i64 4):=by
 have C:∀d,(Instr.typeAssert (.iface 129 (.agg #[])) 20 129 true).run prog d=.ok (.tuple #[.agg #[],.bool true]) d:=λ_=>M
 obtain⟨l,h⟩:=rK (d.alloc (.cells #[] 129));have g:Cf d l:=by rw[h];exact rT
 have b:∀a,a<13->l.cell? ⟨e,a,none⟩=some (i a):=λa t=>g.cellS (k a t) iD
 have u:e<d.heap.size:=Az8 _ _ (k 0 dE);have c:∀a,l.frozen? ⟨e,a,none⟩=false:=λa=>(g.frozen (p:=⟨e,a,none⟩) u iD).trans (m a)
 have X:=g.cellS j iD;have aD:=(g.frozen (p:=⟨f,0,none⟩) (Az8 _ _ j) iD).trans n;clear m n j g k;refine callsD_of_wpS func53 D λA z v=>?_
 apply wpS_seq
 apply wpS_region
 simp[wpOpsS,go_sem,recoverD,v,ntmps53,Exit.thenS]
 refine wpS_of_wp ?_;go_upto_region 2 with fail
 rw[<-h];have o:=V h;clear h;have E:=b 0 dE;have Y:=c 0;have F:=b 1 dE;have Z:=c 1;have O:=b 2 dE;have a3:=c 2;have P:=b 3 dE;have a4:=c 3;have Q:=b 4 dE;have a5:=c 4;have R:=b 5 dE;have a6:=c 5;have S:=b 6 dE;have a7:=c 6;have T:=b 7 dE;have a8:=c 7;have U:=b 8 dE;have a9:=c 8;have W:=b 9 dE;have aB:=c 9;have K:=b 10 dE;have a0:=c 10;have L:=b 11 dE;have a1:=c 11;have N:=b 12 dE;have a2:=c 12;have B:¬f=e:=λr=>s r.symm
 go_upto_region 3 with fail
 go_wp2;refine⟨D,_,D,_,results_none D _ _ _,D,D,?_⟩;rw[<-o.o]
 rfl
theorem sa (f d:Nat) (a:World) :
  CallsD prog 53 #[.pointer (some ⟨f,0,none⟩),.pointer (some ⟨d,0,none⟩)] .returning a λc g h =>
   c=.returned (.tuple #[])/\g=.returning/\h=a.alloc (.cells #[] 129):=by
 have j:∀a,(Instr.typeAssert .nilIface 20 129 true).run prog a=.ok (.tuple #[.agg #[],.bool false]) a:=λ_=>M
 refine callsD_of_wpS func53 D λb i e=>?_
 apply wpS_seq
 apply wpS_region
 simp[wpOpsS,go_sem,recoverD,e,ntmps53,Exit.thenS]
 refine wpS_of_wp ?_;go_wp2;refine⟨D,_,?_,_,results_none D _ _ _,D,D,D⟩;cases b
 simp_all
def ix (h:Nat) (e:World) (a:List Int) (b:Ending) (f:World):Prop :=
 J (·=h) e f/\((sS a=none/\b=sW)\/∃d c,sS a=some d/\b=.returned (kN c)/\TabsIn f (λg=>e.heap.size<=g) c d)
theorem sc (d:∀b∈X,Byte b) (c:X≠tQ):((strOfNums X).toList == [72,66,84,49])=false:=by
 rw[beq_eq_false_iff_ne];intro a;rw[ByteArray.toList_eq]at a;refine c (ew d dE ?_);rw[ii];exact ByteArray.ext (Array.toList_inj.1 a)
theorem iy (b:Nat):∀(d:List Value) (a:Nat) (e:World) (c:Nat),(c<a\/a+d.length<=c)->(xC b a d e).cell? ⟨b,c,none⟩=e.cell? ⟨b,c,none⟩
 | [],_,_,_,_=>rfl
 | h :: d,a,e,c,g=>by
  rw[show xC b a (h :: d) e=xC b (a+1) d (e.setCell ⟨b,a,none⟩ h) from D,iy b d (a+1) _ c (by simp only[Ax2]at g;omega)];exact Ay0 _ _ _ _ (by intro f;injection f with _ f;simp only[Ax2]at g;omega)
theorem Cx {c:Sl}{a:List (Str×Bool)}(e:zL strE tokR w S c a):strE.InS w S c (a.map (·.1)):=by
 obtain⟨d,f,g,h⟩:=e;have:d=a.map (·.1):=List.ext_getElem (by rw[Ax4];exact g) (λj i b=>by
  rw[Ax4]at b;have:=h j _ _ (Az4 i) (Az4 b);rw[List.getElem_map];exact this)
 rw[<-this];exact f
theorem Cy (h:World) (v:List Int) (m:GetSt a b h v) (gV:4<=v.length):Calls prog 55 #[.pointer (some ⟨a,0,none⟩)] h (ix a h v):=by
 have d1:=V m;obtain⟨dB,c3,T,E,bI⟩:=m.c;have m5:=m.len;have m1:=mkfn;have kB:decide (4<=v.length)=true:=decide_eq_true gV;have kD:decide ((4:Int)<=(v.length:Int))=true:=decide_eq_true H;obtain⟨c9,cO⟩:=rK ((h.alloc (.cells #[.pointer (some ⟨a,0,none⟩)] 132)).alloc (.cells #[.slice none 0 0,.slice none 0 0,.slice none 0 0,.slice none 0 0,.slice none 0 0,.slice none 0 0,.slice none 0 0,.slice none 0 0,.slice none 0 0,.slice none 0 0,.slice none 0 0,.slice none 0 0,.slice none 0 0] 34));have bZ:G (Cf h c9):=V (by rw[cO];exact ((J.refl _ h).alloc _).alloc _);have k4:G (c9.heap.size=h.heap.size+2):=V (by rw[cO];simp);have bF:c9.cell? ⟨h.heap.size,0,none⟩=some (.pointer (some ⟨a,0,none⟩)):=by rw[cO];exact yL _ (uE _ _ D)
 have i7:G (∀c,c9.frozen? ⟨h.heap.size+1,c,none⟩=false):=V (λc=>by
  have e:h.heap.size+1=(h.alloc (.cells #[.pointer (some ⟨a,0,none⟩)] 132)).heap.size:=sI
  rw[cO,e];exact Az6 _ _ _ _)
 have dO:G (∀c,c<13->c9.cell? ⟨h.heap.size+1,c,none⟩=some (.slice none 0 0)/\c9.frozen? ⟨h.heap.size+1,c,none⟩=false):=V (λc x=>by
  rw[cO];refine⟨zG _ sI ?_,?_⟩
  .rcases (by omega:c=0\/c=1\/c=2\/c=3\/c=4\/c=5\/c=6\/c=7\/c=8\/c=9\/c=10\/c=11\/c=12) with rfl|rfl|rfl|rfl|rfl|rfl|rfl|rfl|rfl|rfl|rfl|rfl|rfl <;> rfl
  have e:h.heap.size+1=(h.alloc (.cells #[.pointer (some ⟨a,0,none⟩)] 132)).heap.size:=sI
  rw[e];exact Az6 _ _ _ _)
 have dD:=bZ.o.cellS T iD;have i0:=V bF;have hN:G (BytesAt c9 b dB v):=V (bI.chg bZ.o iE);have jR:G (BytesAt c9 b dB (v.take 4)):=V ⟨λc e4 x=>hN.o.c c e4 (by rw[List.getElem?_take_of_lt (by have:=(Az0.1 x).1;rw[Ay8]at this;omega)]at x;exact x),λ_=>Ay9 d1.o.lb bZ.o.size⟩;have eT:=au c3 jR.o (a:=some ⟨b,dB,none⟩) (λ_=>rfl);rw[Ay8,Nat.min_eq_left gV]at eT;have i9:G (v.length<=c3):=V E;have l6:4<=c3:=H
 obtain⟨d,f4⟩:=rK (h.heap.size+1);have A:G (d=h.heap.size+1):=V f4;rw[<-f4]at dO i7;clear m T E bI;go_enter func55,ntmps55
 go_upto_region 1 with fail
 rw[<-cO,<-f4];clear cO f4;by_cases d8:v.take 4=tQ
 .rw[d8,ii]at eT
  go_wp2_with fail
  refine (bW _).mono ?_;rintro e e3 ⟨rfl,rfl⟩;clear eT kB kD bF;have cF:G (sS v=match ai (v.drop 4) with
   | none=>none
   | some (aB,O)=>if O=[]/\yE aB=true then some aB else none):=V (by unfold sS;rw[if_pos d8];rfl)
  clear d8;go_upto_region 2 with fail
  obtain⟨k,cS⟩:=rM e3.drew;have K:G (Cf e3 k):=V (by rw[<-cS];exact (J.refl _ _).drew);refine zC (λe4=>e4=k) (λt=>decide (8<=t)) M ?_;show yC _ _ _ _ _ _ 9 (Array.replicate 9 false) _ e3.drew;rw[cS];clear cS;have fM:G (k.cell? ⟨h.heap.size,0,none⟩=some (.pointer (some ⟨a,0,none⟩))):=V (K.o.cellS i0.o iD);have eB:G (k.cell? ⟨a,0,none⟩=some (.slice (some ⟨b,dB,none⟩) v.length c3)):=V (K.o.cellS dD iD);have s:G (k=k):=V D;(refine lq 0 s.o ?_ (hr:=by intro r C;subst C;have a1:=fM.o;go_simp;try with_reducible rfl));(refine lq 1 s.o ?_ (hr:=by intro r C;subst C;have a1:=fM.o;go_simp;try with_reducible rfl));refine lq 2 s.o ?_;refine lq 3 s.o ?_;(refine lq 4 s.o ?_ (hr:=by intro r C;subst C;have a1:=eB.o;go_simp;try with_reducible rfl));have lA:(4:Int)<=(v.length:Int):=H
  refine lq 5 s.o ?_;obtain⟨l,b9⟩:∃l:Option Addr,(if c3=4 then some ⟨b,dB,none⟩ else some ⟨b,dB+4,none⟩)=l:=⟨_,D⟩;rw[b9];refine lq 6 s.o ?_;refine lq 7 s.o ?_;have hO:G (GetSt a b (k.setCell ⟨a,0,none⟩ (.slice l (v.length-4) (c3-4))) (v.drop 4)):=V (by
   have T:=(d1.o.fresh (bZ.o.trans K.o)).cut eB.o i9.o (hN.o.chg K.o iE) gV;unfold cutV at T;by_cases gR:c3=4
   .rw[if_pos gR]at T b9
    rw[<-b9];have dP:v.length-4=0:=(by have:=i9.o;omega);rw[dP,gR];exact T
   rw[if_neg gR]at T b9
   rw[<-b9];exact T)
  have lF:=eB.o;have h5:k.frozen? ⟨a,0,none⟩=false:=(d1.o.fresh (bZ.o.trans K.o)).z;refine ld 8 ?_;refine zQ M ?_ _;obtain⟨B,h3⟩:=rK (k.setCell ⟨a,0,none⟩ (.slice l (v.length-4) (c3-4)));rw[<-h3]at hO ⊢;have a4:G (J (·=a) e3 B):=V (by rw[h3];exact K.o.any.trans (zA _ _ _ _));have L:G (a<h.heap.size/\b<h.heap.size):=V ⟨d1.o.lt,d1.o.lb⟩;have eH:G (GetSb a b h.heap.size B (v.drop 4)):=V ⟨hO.o,a4.o.cellS i0.o (by have:=L.o;show ¬h.heap.size=a;omega),by have:=L.o;omega⟩;have d3:G (∀c,c<13->B.cell? ⟨d,c,none⟩=some (.slice none 0 0)/\B.frozen? ⟨d,c,none⟩=false):=V (λc x=>by
   have aM:¬d=a:=(by have:=L.o;have:=A.o;omega);exact⟨a4.o.cellS (dO.o c x).1 aM,(a4.o.frozen (p:=⟨d,c,none⟩) (Az8 _ _ (dO.o c x).1) aM).trans (dO.o c x).2⟩)
  have f5:d<e3.heap.size:=Az8 _ _ (dO.o 0 H).1;have k8:G (∀c,B.frozen? ⟨d,c,none⟩=false):=V (λc=>(a4.o.frozen (p:=⟨d,c,none⟩) f5 (by have:=L.o;have:=A.o;show ¬d=a;omega)).trans (i7.o c));clear f5 h3 b9 lF h5 lA dD eB fM s l6;have bF:=eH.o.c;go_wp2_with fail
  refine (xj B _ eH.o.g).mono ?_;rintro e b6 ⟨c4,⟨bI,rfl⟩|⟨dF,iS,Z,bI,rfl,gM,iM,iP⟩⟩
  .refine⟨D,bZ.o.any.trans (a4.o.trans c4),.inl ⟨?_,D⟩⟩
   rw[cF.o];simp only[ai,bI]
  obtain⟨u,aM⟩:=rM dF.length;rw[aM]at gM iP;simp only[aM];have lR:=V aM;have dK:=V bI;have h0:¬d=a:=by have:=L.o;have:=A.o;omega
  have eP:∀c,c<13->b6.cell? ⟨d,c,none⟩=some (.slice none 0 0)/\b6.frozen? ⟨d,c,none⟩=false:=λc x =>
   ⟨c4.cellS (d3.o c x).1 h0,(c4.frozen (p:=⟨d,c,none⟩) (Az8 _ _ (d3.o c x).1) h0).trans (d3.o c x).2⟩
  have g9:=(eP 0 H).1;have j4:=(eP 0 H).2;obtain⟨y,d9⟩:=rK (b6.setCell ⟨d,0,none⟩ (.slice Z u u));have dT:J (·=d) b6 y:=by rw[d9];exact zA _ _ _ _
  have h1:∀c,1<=c->c<13->y.cell? ⟨d,c,none⟩=some (.slice none 0 0):=λc T E=>by
   rw[d9,Ay0 _ _ _ _ (by intro e;injection e with _ e;omega)];exact (eP c E).1
  have cX:G (y.cell? ⟨d,0,none⟩=some (.slice Z u u)/\∀c,1<=c->c<13->y.cell? ⟨d,c,none⟩=some (.slice none 0 0)):=V ⟨by rw[d9];exact Az9 _ _ _ g9,h1⟩;have g6:G (TokSt a b h.heap.size d y y [] iS):=V (by
   have cK:=L.o;have c8:=A.o;have m0:=Az8 _ _ g9;have bO:∀c,y.frozen? ⟨d,c,none⟩=false:=λc=>by
    rw[d9];have l8:d<B.heap.size:=Az8 _ _ (d3.o 0 H).1;refine (Az3 _ _ _ _).trans ((c4.frozen (p:=⟨d,c,none⟩) l8 h0).trans ?_);exact k8.o c
   exact⟨(eH.o.go iM c4).chg dT H H H,H,⟨_,h1 2 H H,bO 2,.nil _ _⟩,λc X _ bK=>bK,bO⟩)
  have i1:G (strE.InS y (λg=>B.heap.size<=g/\g<y.heap.size) (Z,u,u) dF):=V ((gM.to.chg dT (λi f e=>by have:=Az8 _ _ (d3.o 0 H).1;simp only at this;omega)).mono (λi f bB=>⟨bB,f⟩));have fO:G (J (·=a) h y):=V ((bZ.o.any.trans (a4.o.trans c4)).trans2 dT (λi f e=>by have:=A.o;omega));have i5:G (h.heap.size+2<=B.heap.size/\B.heap.size<=y.heap.size):=V ⟨by have:=a4.o.size;have:=k4.o;omega,Ay2 c4.size dT.size⟩;clear c4 bI gM iM iP aM eP dT h1 bF a4 eH d3;go_upto_region 4 with fail
  rw[<-d9];clear d9 g9 j4;have bF:=g6.o.g.c;go_wp2_with fail
  refine (xt y iS g6.o).mono ?_;rintro e fD ⟨eR,⟨eK,rfl⟩|⟨b8,hH,aK,eK,rfl,gI,c7,iN,-,-,-⟩⟩
  .refine⟨D,fO.o.trans2 eR (λi f e=>?_),.inl ⟨?_,D⟩⟩
   .rcases e with e|e|⟨b5,bM,e⟩
    .exact e
    .have:=A.o;omega
    rw[cX.o.2 2 H H]at bM
    obtain rfl:=Az2 bM;cases e
   rw[cF.o]
   simp only[ai,dK.o,eK]
  obtain⟨q,aM⟩:=rM b8.length;rw[aM]at gI iN;simp only[aM];have k0:=V aM;have e6:=V eK;have gP:J (λg=>g=a\/g=d) y fD:=eR.mono (λi f e=>by
   rcases e with e|e|⟨b5,bM,e⟩
   .exact .inl e
   .exact .inr e
   rw[cX.o.2 2 H H]at bM
   obtain rfl:=Az2 bM;cases e)
  obtain⟨lT,eV⟩:=c7.f;obtain⟨R,w,cI,rfl⟩:=eV.own.shape3;have iB:=c7.o 1 _ H (cX.o.2 1 H H);have j5:=c7.z 1;obtain⟨z,cP⟩:=rK (fD.setCell ⟨d,1,none⟩ (.slice aK q q));have cM:J (·=d) fD z:=by rw[cP];exact zA _ _ _ _
  have f3:∀c X,c≠1->fD.cell? ⟨d,c,none⟩=some X->z.cell? ⟨d,c,none⟩=some X:=λc X x bK=>by
   rw[cP,Ay0 _ _ _ _ (by intro e;injection e with _ e;exact x e.symm)];exact bK
  have aH:G (z.cell? ⟨d,0,none⟩=some (.slice Z u u)/\z.cell? ⟨d,1,none⟩=some (.slice aK q q)/\z.cell? ⟨d,2,none⟩=some (.slice R w cI)/\∀c,3<=c->c<13->z.cell? ⟨d,c,none⟩=some (.slice none 0 0)):=V
   ⟨f3 0 _ H (c7.o 0 _ H cX.o.1),by rw[cP];exact Az9 _ _ _ iB,f3 2 _ H eV.c,λc T E=>f3 c _ H (c7.o c _ H (cX.o.2 c H E))⟩
  have i8:G (∀c,z.frozen? ⟨d,c,none⟩=false):=V (λc=>by rw[cP];exact (Az3 _ _ _ _).trans (c7.z c));have i3:G (d<z.heap.size):=V (Az8 _ _ aH.o.1);have dM:G (GetSb a b h.heap.size z hH):=V (by
   have cK:=L.o;have c8:=A.o;exact c7.g.chg cM H H H)
  have hP:G (mL.Own z (d+1) (.slice R w cI) (b8.map (·.2))):=V (eV.own.chg cM (λi f _ e=>H));have g4:G (strE.InS z (λg=>h.heap.size+2<=g/\g<z.heap.size) (Z,u,u) dF/\strE.InS z (λg=>h.heap.size+2<=g/\g<z.heap.size) (aK,q,q) (b8.map (·.1))):=V (by
   have cK:=L.o;have c8:=A.o;have lV:=i5.o;exact⟨((i1.o.chg gP (λi f e=>H)).chg cM (λi f e=>H)).mono (λi f bB=>⟨H,f⟩),((Cx gI).chg cM (λi f e=>H)).mono (λi f bB=>⟨H,f⟩)⟩)
  have fP:G (J (·=a) h z):=V ((fO.o.trans2 gP (λi f e=>by have:=A.o;omega)).trans2 cM (λi f e=>by have:=A.o;omega));have i6:G (h.heap.size+2<=z.heap.size):=V (by have:=i5.o;have:=eR.size;have:=cM.size;omega);clear eR gP eK gI c7 aM eV cM f3 bF g6 i1 cX fO;go_upto_region 5 with fail
  rw[<-cP];clear cP iB j5;refine rB 8 (·=a) (λt=>decide (5<=t)) ?_;intro k d0 s;have d2:=V (dM.o.fresh d0.o);(refine lf 0 s.o (λ_ C=>C.cellS d2.o.c d2.o.ne) ?_);(refine lf 2 s.o (λ_ C=>C.cellS d2.o.c d2.o.ne) ?_);refine sN (i:=1) M D D 107 #[.pointer (some ⟨a,0,none⟩)] (λb5 P=>∃(bP:LexD) (O:List Int) (aO:LexS),lexG hH=some (bP,O)/\b5=cq aO/\LexIn P (λg=>k.heap.size<=g) aO bP/\GetSt a b P O/\J (·=a) k P) (by go_simp) ?_ ?_
  .refine (yk k hH d2.o.g).mono ?_
   rintro e a2 ⟨d7,⟨d5,rfl⟩|⟨bP,fB,f8,d5,rfl,eM,eZ,-,-,-⟩⟩
   .refine .inr ⟨_,D,D,fP.o.trans (d0.o.any.trans d7),.inl ⟨?_,D⟩⟩
    rw[cF.o];simp only[ai,dK.o,e6.o,d5]
   exact .inl ⟨_,D,λ_=>d7,bP,fB,f8,d5,D,eM,eZ,d7⟩
  rintro b5 a2-⟨bP,fB,f8,d5,rfl,eM,eZ,d7⟩ b7 N;(try go_simp)
  refine N _ ?_;clear N b7 s;obtain⟨fI,cZ,hV,hR⟩:=sB d5 d7 eM eZ;have s:G (J (·=a) k a2):=cZ;clear d5 eM eZ d7;refine lq 4 s.o ?_;refine sN (i:=3) M D D 108 #[.pointer (some ⟨a,0,none⟩)] (λb5 P=>∃(n:NetD) (O:List Int) (aO:NetS),netG fB=some (n,O)/\b5=netV aO/\NetIn P (λg=>a2.heap.size<=g) aO n/\GetSt a b P O/\J (·=a) a2 P/\n.d.length<=16777215) (by go_simp) ?_ ?_
  .refine (xu a2 fB hR.o).mono ?_
   rintro e Q ⟨c5,⟨bD,rfl⟩|⟨n,bT,f9,bD,rfl,eO,f0,f2⟩⟩
   .refine .inr ⟨_,D,D,fP.o.trans (d0.o.any.trans (cZ.o.trans c5)),.inl ⟨?_,D⟩⟩
    rw[cF.o];simp only[ai,dK.o,e6.o,fI.o,bD]
   exact .inl ⟨_,D,λ_=>cZ.o.trans c5,n,bT,f9,bD,D,eO,f0,c5,f2⟩
  rintro b5 Q-⟨n,bT,f9,bD,rfl,eO,f0,c5,f2⟩ b7 N;(try go_simp)
  refine N _ ?_;clear N b7 s;have hL:=V bD;have c0:G (J (·=a) z Q):=V (d0.o.any.trans (cZ.o.trans c5));have eF:G (z.heap.size<=k.heap.size/\k.heap.size<=a2.heap.size/\a2.heap.size<=Q.heap.size):=V ⟨d0.o.size,cZ.o.size,c5.size⟩;have hW:G (LexIn Q (λg=>z.heap.size<=g/\g<Q.heap.size) f8 bP):=V (LexIn.good.mono (LexIn.good.chg hV.o c5 (λi f e=>by have:=L.o;have:=i6.o;have:=eF.o;omega)) (λi f bB=>⟨by have:=eF.o;omega,f⟩));have g2:G (NetIn Q (λg=>z.heap.size<=g/\g<Q.heap.size) f9 n):=V (NetIn.good.mono eO (λi f bB=>⟨by have:=eF.o;omega,f⟩));have hS:=V f0;have k1:=V f2;clear bD eO f0 c5 f2 hV hR;obtain⟨⟨aP,aR,aX⟩,⟨aY,aZ,b0⟩,⟨b1,b2,b3⟩,⟨b4,aT,aV⟩⟩:=f8;obtain⟨⟨u0,u1,u2⟩,⟨u3,u4,u5⟩,⟨u6,u7,u8⟩,⟨u9,u10,u11⟩,⟨u12,u13,u14⟩⟩:=f9;simp only[cq,netV,slV];have c6:¬d=a:=by have:=L.o;have:=A.o;omega
  have a5:G (∀c,3<=c->c<13->Q.cell? ⟨d,c,none⟩=some (.slice none 0 0)):=V (λc T E=>c0.o.cellS (aH.o.2.2.2 c T E) c6);have d4:G (∀c,Q.frozen? ⟨d,c,none⟩=false):=V (λc=>(c0.o.frozen (p:=⟨d,c,none⟩) i3.o c6).trans (i8.o c));have lI:=a5.o 3 H H;have lJ:=a5.o 4 H H;have lK:=a5.o 5 H H;have lL:=a5.o 6 H H;have j9:=d4.o 3;have jB:=d4.o 4;have jD:=d4.o 5;have jF:=d4.o 6;refine ld 5 ?_;clear lI lJ lK lL j9 jB jD jF;obtain⟨bH,f6⟩:=rK (xC d 3 [.slice aP aR aX,.slice aY aZ b0,.slice b1 b2 b3,.slice b4 aT aV] Q);have aI:G ((bH.cell? ⟨d,3,none⟩=some (.slice aP aR aX)/\bH.cell? ⟨d,4,none⟩=some (.slice aY aZ b0)/\bH.cell? ⟨d,5,none⟩=some (.slice b1 b2 b3)/\bH.cell? ⟨d,6,none⟩=some (.slice b4 aT aV))/\(∀c,c<3\/7<=c->bH.cell? ⟨d,c,none⟩=Q.cell? ⟨d,c,none⟩)/\J (·=d) Q bH/\∀c,bH.frozen? ⟨d,c,none⟩=false):=V (by
   obtain⟨a9,-,dH,dI⟩:=vY d [.slice aP aR aX,.slice aY aZ b0,.slice b1 b2 b3,.slice b4 aT aV] 3 Q (λc x=>by
    simp only[Ax2,Aw6]at x;rw[a5.o (3+c) H H];rfl)
   rw[f6];exact⟨⟨a9 0 _ D,a9 1 _ D,a9 2 _ D,a9 3 _ D⟩,λc x=>iy d _ 3 Q c (by simpa using x),dH,λc=>(dI _).trans (d4.o c)⟩)
  simp only[xC]at f6;rw[<-f6];clear f6;refine lt 6 (λm=>absurd m dE) ?_;have lM:=(aI.o.2.1 7 H).trans (a5.o 7 H H);have lN:=(aI.o.2.1 8 H).trans (a5.o 8 H H);have lO:=(aI.o.2.1 9 H).trans (a5.o 9 H H);have lG:=(aI.o.2.1 10 H).trans (a5.o 10 H H);have lH:=(aI.o.2.1 11 H).trans (a5.o 11 H H);have jH:=aI.o.2.2.2 7;have jI:=aI.o.2.2.2 8;have jK:=aI.o.2.2.2 9;have j6:=aI.o.2.2.2 10;have j7:=aI.o.2.2.2 11;refine ld 7 ?_;refine zQ M ?_ _;clear lM lN lO lG lH jH jI jK j6 j7;obtain⟨j,f7⟩:=rK (xC d 7 [.slice u0 u1 u2,.slice u3 u4 u5,.slice u6 u7 u8,.slice u9 u10 u11,.slice u12 u13 u14] bH);have c1:G ((j.cell? ⟨d,0,none⟩=some (.slice Z u u)/\j.cell? ⟨d,1,none⟩=some (.slice aK q q)/\j.cell? ⟨d,2,none⟩=some (.slice R w cI)/\j.cell? ⟨d,3,none⟩=some (.slice aP aR aX)/\j.cell? ⟨d,4,none⟩=some (.slice aY aZ b0)/\j.cell? ⟨d,5,none⟩=some (.slice b1 b2 b3)/\j.cell? ⟨d,6,none⟩=some (.slice b4 aT aV)/\j.cell? ⟨d,7,none⟩=some (.slice u0 u1 u2)/\j.cell? ⟨d,8,none⟩=some (.slice u3 u4 u5)/\j.cell? ⟨d,9,none⟩=some (.slice u6 u7 u8)/\j.cell? ⟨d,10,none⟩=some (.slice u9 u10 u11)/\j.cell? ⟨d,11,none⟩=some (.slice u12 u13 u14)/\j.cell? ⟨d,12,none⟩=some (.slice none 0 0))/\J (·=d) Q j/\∀c,j.frozen? ⟨d,c,none⟩=false):=V (by
   have a7:=aI.o;obtain⟨a9,-,dH,dI⟩:=vY d [.slice u0 u1 u2,.slice u3 u4 u5,.slice u6 u7 u8,.slice u9 u10 u11,.slice u12 u13 u14] 7 bH (λc x=>by
    simp only[Ax2,Aw6]at x;rw[a7.2.1 (7+c) H,a5.o (7+c) H H];rfl)
   have bV:=λc x=>iy d [.slice u0 u1 u2,.slice u3 u4 u5,.slice u6 u7 u8,.slice u9 u10 u11,.slice u12 u13 u14] 7 bH c x
   simp only[Ax2,Aw6]at bV;rw[f7];have gH:∀c X,z.cell? ⟨d,c,none⟩=some X->Q.cell? ⟨d,c,none⟩=some X:=λc X bK=>c0.o.cellS bK c6
   exact⟨⟨(bV 0 H).trans ((a7.2.1 0 H).trans (gH 0 _ aH.o.1)),(bV 1 H).trans ((a7.2.1 1 H).trans (gH 1 _ aH.o.2.1)),(bV 2 H).trans ((a7.2.1 2 H).trans (gH 2 _ aH.o.2.2.1)),(bV 3 H).trans a7.1.1,(bV 4 H).trans a7.1.2.1,(bV 5 H).trans a7.1.2.2.1,(bV 6 H).trans a7.1.2.2.2,a9 0 _ D,a9 1 _ D,a9 2 _ D,a9 3 _ D,a9 4 _ D,(bV 12 H).trans ((a7.2.1 12 H).trans (a5.o 12 H H))⟩,a7.2.2.1.trans dH,λc=>(dI _).trans (a7.2.2.2 c)⟩)
  simp only[xC]at f7;go_upto_region 6 with fail
  rw[<-f7];clear f7 aI;obtain⟨rfl,-⟩:=g2.o.d.len;have g3:G (QSt a b h.heap.size d j j bT):=V (by
   have cK:=L.o;have c8:=A.o;have l4:d<Q.heap.size:=Ay9 i3.o c0.o.size;exact⟨⟨hS.o.chg c1.o.2.1 H H,c1.o.2.1.cellS (c0.o.cellS dM.o.c dM.o.ne) (show ¬h.heap.size=d by omega),dM.o.ne⟩,⟨H,H,H,Ay9 l4 c1.o.2.1.size⟩,λc X _ bK=>bK,c1.o.2.2⟩)
  have e9:G ((strE.InS j (λg=>h.heap.size+2<=g/\g<j.heap.size) (Z,u,u) dF/\strE.InS j (λg=>h.heap.size+2<=g/\g<j.heap.size) (aK,q,q) (b8.map (·.1)))/\mL.Own j (d+1) (.slice R w cI) (b8.map (·.2))/\LexIn j (λg=>h.heap.size+2<=g/\g<j.heap.size) ⟨(aP,aR,aX),(aY,aZ,b0),(b1,b2,b3),(b4,aT,aV)⟩ bP/\NetIn j (λg=>h.heap.size+2<=g/\g<j.heap.size) ⟨(u0,u1,u2),(u3,u4,u5),(u6,u7,u8),(u9,u10,u11),(u12,n.d.length,u14)⟩ n):=V (by
   have cK:=L.o;have c8:=A.o;have cP:=i6.o;have bD:=c0.o;have dR:=c1.o.2.1;refine⟨⟨((g4.o.1.chg bD (λi f e=>H)).chg dR (λi f e=>H)).mono (λi f bB=>⟨bB.1,f⟩),((g4.o.2.chg bD (λi f e=>H)).chg dR (λi f e=>H)).mono (λi f bB=>⟨bB.1,f⟩)⟩,(hP.o.chg bD (λi f _ e=>H)).chg dR (λi f _ e=>H),LexIn.good.mono (LexIn.good.chg hW.o dR (λi f e=>H)) (λi f bB=>⟨H,f⟩),NetIn.good.mono (NetIn.good.chg g2.o dR (λi f e=>H)) (λi f bB=>⟨H,f⟩)⟩)
  have e8:G (J (·=a) h j):=V ((fP.o.trans c0.o).trans2 c1.o.2.1 (λi f e=>by have:=A.o;omega));have hY:G (LSt av gG (Cq a d) (Tq a b h.heap.size d) (λr (_:List (List LsD)) cH=>QSt a b h.heap.size d j r cH) j j (.slice none 0 0) [] bT []):=V (LSt.start (qp a b h.heap.size d j) g3.o g3.o.g.g cR);have cB:=V c1.o.1;have fK:G (ai (v.drop 4)=match repG (fW q) n.d.length [] bT with
   | none=>none
   | some (lP,g8)=>some (⟨dF,b8.map (·.1),b8.map (·.2),bP,n,lP⟩,g8)):=V (by
   rw[<-k0.o];simp only[ai,dK.o,e6.o,fI.o,hL.o];cases repG (fW b8.length) n.d.length [] bT <;> rfl)
  clear g4 hP hW g2 hS dM aH i8 a5 d4 d2 cZ eF d0 c1 c0;have e1:=cB.o.2.2.2.2.2.2.2.2.2.2.2.1;go_wp2;clear e1
  go_loopw [46] (λa1 wr=>∃(t:Nat) (j3:Value) (o:List (List LsD)) (W:List Int) (c2:List Sl),t<=n.d.length/\a1=.int .i64 t/\o.length=t/\repG (fW q) (n.d.length-t) o W=repG (fW q) n.d.length [] bT/\LSt av gG (Cq a d) (Tq a b h.heap.size d) (λr (_:List (List LsD)) cH=>QSt a b h.heap.size d j r cH) j wr j3 o W c2/\wr.cell? ⟨d,12,none⟩=some j3) (λa1 _=>n.d.length-(intOf a1).toNat)
  .exact⟨0,_,[],bT,[],H,D,D,D,hY.o,cB.o.2.2.2.2.2.2.2.2.2.2.2.2⟩
  clear hY;obtain⟨t,b5,o,W,c2,lX,rfl,iI,iQ,gX,iC⟩:=hrel;obtain⟨F,e2,bX,rfl⟩:=gX.own.shape3;obtain⟨U,eD,hM,fH⟩:=sB gX iQ iI iC;clear gX iQ iI iC;by_cases lZ:t<n.d.length
  .have kH:=rO t n.d.length
   have lY:t<16777215:=(by have:=k1.o;omega);obtain⟨g,gT⟩:∃g,n.d.length-t=g+1:=⟨n.d.length-t-1,H⟩;have g0:G (n.d.length-t=g+1/\n.d.length-(t+1)=g):=V ⟨gT,H⟩;clear gT;go_upto_region 8 with fail
   refine rB 11 (·=a) (λt=>decide (8<=t)) ?_;intro k K s;have a6:G (QSt a b h.heap.size d j k W):=V (U.o.st.chg K.o iD iD iD iD);have iG:=K.o.cellS fH.o iD;have cA:=V iG;have jT:G (J (·=a) h k):=V (e8.o.trans2 (U.o.chg.trans K.o.any) (λi f e=>by rcases e with e|e;exact e;have:=A.o;omega));have c6:¬d=a:=(by have:=L.o;have:=A.o;omega);clear iG;refine lq 0 s.o ?_;(refine lf 1 s.o (λ_ C=>C.cellS cA.o c6) ?_);(refine lf 2 s.o (λ_ C=>C.cellS a6.o.g.c a6.o.g.ne) ?_);refine lq 3 s.o ?_;(refine lf 4 s.o (λ_ C=>C.cellS (a6.o.o 1 _ H cB.o.2.1) c6) ?_);refine lq 5 s.o ?_;refine sN (i:=6) M D D 109 #[.pointer (some ⟨a,0,none⟩),.int .i64 q] (λb5 P=>∃(l:List LsD) (O:List Int) (aF:Option Addr),fW q W=some (l,O)/\b5=.agg #[.slice aF l.length l.length]/\gG P (λg=>k.heap.size<=g) (aF,l.length,l.length) l/\GetSt a b P O/\J (·=a) k P) (by go_simp) ?_ ?_
   .refine (ym iN k W a6.o.g.g).mono ?_
    rintro e B ⟨d6,⟨E,rfl⟩|⟨l,O,aF,E,rfl,b9,eX⟩⟩
    .refine .inr ⟨_,D,D,jT.o.trans d6,.inl ⟨?_,D⟩⟩
     rw[cF.o,fK.o,<-eD.o,g0.o.1];simp only[repG,E]
    exact .inl ⟨_,D,λ_=>d6,l,O,aF,E,D,b9,eX,d6⟩
   rintro b5 B-⟨l,O,aF,E,rfl,b9,eX,d6⟩ b7 N;(try go_simp)
   refine N _ ?_;clear N b7 s;have jO:=V b9;have jX:=V eX;have a4:=V d6;have k3:G (repG (fW q) (n.d.length-(t+1)) (o++[l]) O=repG (fW q) n.d.length [] bT):=V (by
    rw[g0.o.2,<-eD.o,g0.o.1]
    conv=>rhs;unfold repG
    rw[E])
   clear E b9 eX d6;have fT:G (J (·=a) wr B):=V (K.o.any.trans a4.o);refine lt 7 (λ_=>a4.o.alloc _) ?_;obtain⟨iA,gK⟩:=rK (Obj.cells #[.slice aF l.length l.length] 63);obtain⟨b6,dV⟩:=rK (B.alloc iA);have fR:G (Cf B b6):=V (by rw[dV];exact rT);have k5:G (Src prog av.sz av.sl (.slice (some ⟨B.heap.size,0,none⟩) 1 1) 1 (av.encs [(aF,l.length,l.length)]) b6):=V (by rw[dV,gK];exact av.srcLit (Y:=[(aF,l.length,l.length)]) 1 (λ_ _=>trivial));rw[<-gK,<-dV];have k2:G (av.Own b6 j.heap.size (.slice F e2 bX) c2):=V ((U.o.own.chgB fT.o (λi f e=>U.o.ob i f (.inl e))).chg fR.o (λ_ _ _ m=>m));have jP:G (j.heap.size<=b6.heap.size):=V (Ay2 U.o.chg.size (Ay2 fT.o.size fR.o.size));have k7:G (c2.length<=16777215):=V (by rw[U.o.len,hM.o];omega);have k6:=V dV;clear dV gK;refine yQ (i:=8) M D D (.tmp 49) (.tmp 55) 32 32 D (.slice F e2 bX) (.slice (some ⟨B.heap.size,0,none⟩) 1 1) D D (λcV y=>av.Own y j.heap.size cV (c2++[(aF,l.length,l.length)])/\(J (λg=>(Value.slice F e2 bX).ownBlock=some g) b6 y/\(cV.ownBlock=(Value.slice F e2 bX).ownBlock\/cV.ownBlock=some b6.heap.size))/\∃eI lQ kI,cV=.slice eI lQ kI) ?_ ?_
   .obtain⟨cV,y,l7,T,E,⟨bI,l3⟩,-⟩:=k2.o.append jP.o 32 (.slice (some ⟨B.heap.size,0,none⟩) 1 1) [(aF,l.length,l.length)] k5.o (λ_ _=>trivial) (by have:=k7.o;simp;omega) 32
    exact⟨cV,y,l7,(λm=>absurd m dE),T,⟨bI,l3⟩,T.shape3⟩
   rintro cV y-⟨iR,h6,dX,e0,dZ,rfl⟩ b7 N;have g1:G (LSt av gG (Cq a d) (Tq a b h.heap.size d) (λr (_:List (List LsD)) cH=>QSt a b h.heap.size d j r cH) j y (.slice dX e0 dZ) (o++[l]) O (c2++[(aF,l.length,l.length)])):=V (by
    have cK:=L.o;have m2:=U.o.st.lt;have m3:=U.o.chg.size;have lW:=K.o.size;refine LSt.step (zL.good lsR.good) (qp a b h.heap.size d j) iA U.o (zL.good lsR.good |>.mono jO.o (λg _ gT=>⟨H,λc8=>by rcases c8 with m|m|m|m <;> omega⟩)) (a6.o.go jX.o a4.o) (fT.o.mono (λg _ e=>.inl e)) (λg m=>.inl m) (λg m=>.inl m) iR (by rw[<-k6.o];exact h6))
   have hK:G (y.cell? ⟨d,12,none⟩=some (.slice F e2 bX)):=V (h6.1.cellS (fR.o.cellS (a4.o.cellS cA.o c6) iD) (λe=>U.o.ob _ e (.inr (.inr (.inr D)))));(try go_simp)
   refine N _ ?_;clear N b7 iR h6;have h4:=hK.o;have fF:=g1.o.st.z 12;refine lt 9 (λm=>absurd m dE) ?_;refine ld 10 ?_;refine zQ M ?_ _;have jZ:G (LSt av gG (Cq a d) (Tq a b h.heap.size d) (λr (_:List (List LsD)) cH=>QSt a b h.heap.size d j r cH) j (y.setCell ⟨d,12,none⟩ (.slice dX e0 dZ)) (.slice dX e0 dZ) (o++[l]) O (c2++[(aF,l.length,l.length)])):=V (by
    exact LSt.store (S:=(·=d)) (zL.good lsR.good) g1.o (zA _ _ _ _) (λg e=>.inr e) (g1.o.st.set _) (λg m=>m) (λg m=>m) (λg m=>by rcases m with m|m;exact .inl m;exact .inr (.inr (.inr m))))
   have jM:G ((y.setCell ⟨d,12,none⟩ (.slice dX e0 dZ)).cell? ⟨d,12,none⟩=some (.slice dX e0 dZ)):=V (Az9 _ _ _ hK.o);clear h4 fF;go_wp2;go_roundw
   .exact⟨t+1,_,o++[l],O,c2++[(aF,l.length,l.length)],H,GN,by simp[hM.o],k3.o,jZ.o,jM.o⟩
   simp[intOf];omega
  obtain rfl:t=n.d.length:=H
  have kH:=rP n.d.length;obtain⟨_,_,bM,l9,iO⟩:=U.o.final (zL.good lsR.good);injection bM with dP gD gF;subst dP gD gF;have hX:=V iO;obtain⟨_,_,bM,iK,gS⟩:=e9.o.2.1.clip;injection bM with dP gD gF;subst dP gD gF;obtain⟨w,iL⟩:=rM ((b8.map (·.2)).length);rw[iL]at iK gS cB e9;have hQ:=V gS;obtain⟨aB,h2⟩:∃aB:TabsD,aB=⟨dF,b8.map (·.1),b8.map (·.2),bP,n,o⟩:=⟨_,D⟩;obtain⟨aO,gZ⟩:∃aO:TabsS,aO=⟨(Z,u,u),(aK,q,q),(R,w,w),⟨(aP,aR,aX),(aY,aZ,b0),(b1,b2,b3),(b4,aT,aV)⟩,⟨(u0,u1,u2),(u3,u4,u5),(u6,u7,u8),(u9,u10,u11),(u12,n.d.length,u14)⟩,(F,o.length,o.length)⟩:=⟨_,D⟩;have i4:G (kN aO=.agg #[.slice Z u u,.slice aK q q,.slice R w w,.slice aP aR aX,.slice aY aZ b0,.slice b1 b2 b3,.slice b4 aT aV,.slice u0 u1 u2,.slice u3 u4 u5,.slice u6 u7 u8,.slice u9 u10 u11,.slice u12 n.d.length u14,.slice F o.length o.length]):=V (by rw[gZ];rfl);have i2:G (ai (v.drop 4)=some (aB,W)):=V (by
   rw[fK.o,<-eD.o,Au4,h2];rfl)
  have jV:=V (qc i2.o);have g7:G (sS v=if W=[]/\yE aB=true then some aB else none):=V (by rw[cF.o,i2.o]);clear iO gS iL cF fK eD dK e6 fI hL;go_upto_region 10 with fail
  have c6:¬d=a:=(by have:=L.o;have:=A.o;omega);obtain⟨k,cS⟩:=rM wr.drew;have K:G (Cf wr k):=V (by rw[<-cS];exact (J.refl _ _).drew);have a6:G (QSt a b h.heap.size d j k W):=V (U.o.st.chg K.o iD iD iD iD);have e5:G (k.cell? ⟨d,2,none⟩=some (.slice R w cI)):=V (a6.o.o 2 _ H cB.o.2.2.1);have cA:G (k.cell? ⟨d,12,none⟩=some (.slice F o.length bX)):=V (K.o.cellS fH.o iD);refine zC (λe4=>e4=k) (λt=>decide (7<=t)) M ?_;show yC _ _ _ _ _ _ 10 (Array.replicate 10 false) _ wr.drew;rw[cS];clear cS;have s:G (k=k):=V D;refine lq 0 s.o ?_;(refine lq 1 s.o ?_ (hr:=by intro r C;subst C;have a1:=e5.o;go_simp;try with_reducible rfl));refine lq 3 s.o ?_;(refine lq 4 s.o ?_ (hr:=by intro r C;subst C;have a1:=cA.o;go_simp;try with_reducible rfl));refine zY (i:=2) M D D 110 #[.slice R w cI] (λa1 P=>a1=.slice R w w/\k=P) (by go_simp) ?_ ?_
  .refine (wv k R w cI iK).mono ?_
   rintro e B ⟨rfl,rfl⟩;exact⟨_,D,λ_=>rfl,D,D⟩
  rintro a1 P-⟨rfl,rfl⟩ b7 N;(try go_simp)
  refine N _ ?_;clear N b7;refine lq 6 s.o ?_;refine zY (i:=5) M D D 111 #[.slice F o.length bX] (λa1 P=>a1=.slice F o.length o.length/\k=P) (by go_simp) ?_ ?_
  .refine (ww k F o.length bX l9).mono ?_
   rintro e B ⟨rfl,rfl⟩;exact⟨_,D,λ_=>rfl,D,D⟩
  rintro a1 P-⟨rfl,rfl⟩ b7 N;(try go_simp)
  refine N _ ?_;clear N b7;have h5:=e5.o;have h4:=cA.o;have j8:=a6.o.z 2;have fF:=a6.o.z 12;refine ld 7 ?_;refine lt 8 (λm=>absurd m dE) ?_;refine ld 9 ?_;refine zQ M ?_ _;clear h5 h4 j8 fF;obtain⟨aD,cT⟩:=rK ((k.setCell ⟨d,2,none⟩ (.slice R w w)).setCell ⟨d,12,none⟩ (.slice F o.length o.length));have e7:G (J (·=d) k aD):=V (by rw[cT];exact (zA _ _ _ _).trans (zA _ _ _ _));have k9:G (∀c,aD.frozen? ⟨d,c,none⟩=false):=V (λc=>by rw[cT];exact (Az3 _ _ _ _).trans ((Az3 _ _ _ _).trans (a6.o.z c)));have fX:G (∀r,Cf aD r->r.cell? ⟨d,0,none⟩=some (.slice Z u u)/\r.cell? ⟨d,1,none⟩=some (.slice aK q q)/\r.cell? ⟨d,2,none⟩=some (.slice R w w)/\r.cell? ⟨d,3,none⟩=some (.slice aP aR aX)/\r.cell? ⟨d,4,none⟩=some (.slice aY aZ b0)/\r.cell? ⟨d,5,none⟩=some (.slice b1 b2 b3)/\r.cell? ⟨d,6,none⟩=some (.slice b4 aT aV)/\r.cell? ⟨d,7,none⟩=some (.slice u0 u1 u2)/\r.cell? ⟨d,8,none⟩=some (.slice u3 u4 u5)/\r.cell? ⟨d,9,none⟩=some (.slice u6 u7 u8)/\r.cell? ⟨d,10,none⟩=some (.slice u9 u10 u11)/\r.cell? ⟨d,11,none⟩=some (.slice u12 n.d.length u14)/\r.cell? ⟨d,12,none⟩=some (.slice F o.length o.length)):=V (λr gO=>by
   have a8:∀c X,c≠2->c<12->j.cell? ⟨d,c,none⟩=some X->r.cell? ⟨d,c,none⟩=some X:=λc X T E bK=>by
    refine gO.cellS ?_ iD;rw[cT,Ay0 _ _ _ _ (by intro e;injection e with _ e;omega),Ay0 _ _ _ _ (by intro e;injection e with _ e;omega)];exact a6.o.o c X E bK
   obtain⟨kK,kM,-,kT,kV,kX,kZ,l0,l1,a7,kO,kP,-⟩:=cB.o;refine⟨a8 0 _ H H kK,a8 1 _ H H kM,gO.cellS ?_ iD,a8 3 _ H H kT,a8 4 _ H H kV,a8 5 _ H H kX,a8 6 _ H H kZ,a8 7 _ H H l0,a8 8 _ H H l1,a8 9 _ H H a7,a8 10 _ H H kO,a8 11 _ H H kP,gO.cellS ?_ iD⟩
   .rw[cT,Ay0 _ _ _ _ (by intro e;injection e with _ e;omega)]
    exact Az9 _ _ _ e5.o
   rw[cT]
   refine Az9 _ _ _ (u:=.slice F o.length bX) ?_;rw[Ay0 _ _ _ _ (by intro e;injection e with _ e;omega)];exact cA.o)
  have g5:G (J (λg=>g=a\/g=d) j aD):=V (((U.o.chg.mono (λg _ e=>e)).trans K.o.any).trans (e7.o.mono (λg _ e=>.inr e)));have hU:G (TabsIn aD (λg=>h.heap.size<=g/\g≠d) aO aB):=V (by
   have cK:=L.o;have c8:=A.o;have dU:=g5.o;have m6:=U.o.chg.size;obtain⟨⟨lB,lC⟩,m7,lD,lE⟩:=e9.o;rw[gZ,h2];refine⟨(lB.chg dU (λi f e=>H)).mono (λi _ f=>⟨H,H⟩),(lC.chg dU (λi f e=>H)).mono (λi _ f=>⟨H,H⟩),?_,LexIn.good.mono (LexIn.good.chg lD dU (λi f e=>H)) (λi _ f=>⟨H,H⟩),NetIn.good.mono (NetIn.good.chg lE dU (λi f e=>H)) (λi _ f=>⟨H,H⟩),?_⟩
   .exact (((hQ.o.chg dU (λi f _ e=>H)).in' (c':=w) (Ay1 _)).inS).mono (λi _ f=>⟨H,H⟩)
   have l2:=(zL.good gG.good).chg ((zL.good gG.good).chg hX.o K.o iF) e7.o (λi f e=>f.2 (.inr (.inr (.inr e))))
   exact (zL.good gG.good).mono l2 (λi _ f=>⟨Ay2 e8.o.size f.1,λe=>f.2 (.inr (.inr (.inr e)))⟩))
  have hT:G (GetSb a b h.heap.size aD W):=V (by
   have cK:=L.o;have c8:=A.o;exact a6.o.g.chg e7.o H H H)
  have fV:G (J (·=a) h aD):=V (e8.o.trans2 g5.o (λi f e=>by have:=A.o;omega));clear gZ h2;go_upto_region 11 with fail
  rw[<-cT];clear cT e9 cB hX hQ a6 e5 cA g5 e7 U fH e8 g3;obtain⟨m9,m8,m4,-,-⟩:=hT.o.g.c;have lU:=hT.o.c;by_cases bO:W=[]
  .have g8:((W.length:Int) == 0)=true:=by rw[bO];rfl
   have kF:(W.length == 0)=true:=(by rw[bO];rfl);obtain⟨bF,dD,h9,hA,hB,hC,hD,hE,hF,hG,h7,e1,h8⟩:=fX.o aD cR;have hZ:G (Calls prog 12 #[.agg #[.slice Z u u,.slice aK q q,.slice R w w,.slice aP aR aX,.slice aY aZ b0,.slice b1 b2 b3,.slice b4 aT aV,.slice u0 u1 u2,.slice u3 u4 u5,.slice u6 u7 u8,.slice u9 u10 u11,.slice u12 n.d.length u14,.slice F o.length o.length]] aD λe r=>e=.returned (.bool (yE aB))/\Cf aD r):=V (by rw[<-i4.o];exact dz aB aO _ aD hU.o jV.o);go_wp2_with fail
   refine hZ.o.mono ?_;rintro e z ⟨rfl,iJ⟩;have aH:=V iJ;clear iJ hZ bF dD h9 hA hB hC hD hE hF hG h7 e1 h8;cases f1:yE aB with
   | false =>
    have cD:G (sS v=none):=V (by rw[g7.o,f1];simp);clear f1;go_wp2_with fail
    refine (kQ _).mono ?_;rintro e a2 ⟨rfl,rfl⟩;exact⟨D,fV.o.trans aH.o.any,.inl ⟨cD.o,D⟩⟩
   | true =>
    have cD:G (sS v=some aB):=V (by rw[g7.o,f1,if_pos ⟨bO,rfl⟩]);clear f1;go_wp2_with fail
    refine (bW _).mono ?_;rintro e a2 ⟨rfl,rfl⟩;obtain⟨bF,dD,h9,hA,hB,hC,hD,hE,hF,hG,h7,e1,h8⟩:=fX.o a2 aH.o;have f5:d<aD.heap.size:=Az8 _ _ (fX.o aD cR).1;have a0:∀c,a2.frozen? ⟨d,c,none⟩=false:=λc=>(aH.o.frozen (p:=⟨d,c,none⟩) f5 iD).trans (k9.o c)
    have j4:=a0 0;have j5:=a0 1;have j8:=a0 2;have j9:=a0 3;have jB:=a0 4;have jD:=a0 5;have jF:=a0 6;have jH:=a0 7;have jI:=a0 8;have jK:=a0 9;have j6:=a0 10;have j7:=a0 11;have fF:=a0 12;obtain⟨a3,-,hI,-⟩:=vY d [.slice Z u u,.slice aK q q,.slice R w w,.slice aP aR aX,.slice aY aZ b0,.slice b1 b2 b3,.slice b4 aT aV,.slice u0 u1 u2,.slice u3 u4 u5,.slice u6 u7 u8,.slice u9 u10 u11,.slice u12 n.d.length u14,.slice F o.length o.length] 0 a2 (λc x=>by
     simp only[Ax2,Aw6]at x;rcases (by omega:c=0\/c=1\/c=2\/c=3\/c=4\/c=5\/c=6\/c=7\/c=8\/c=9\/c=10\/c=11\/c=12) with rfl|rfl|rfl|rfl|rfl|rfl|rfl|rfl|rfl|rfl|rfl|rfl|rfl
     .rw[bF];rfl
     .rw[dD];rfl
     .rw[h9];rfl
     .rw[hA];rfl
     .rw[hB];rfl
     .rw[hC];rfl
     .rw[hD];rfl
     .rw[hE];rfl
     .rw[hF];rfl
     .rw[hG];rfl
     .rw[h7];rfl
     .rw[e1];rfl
     rw[h8];rfl)
    have iT:=a3 0 _ D;have a9:=a3 1 _ D;have iX:=a3 2 _ D;have dH:=a3 3 _ D;have dI:=a3 4 _ D;have iY:=a3 5 _ D;have iZ:=a3 6 _ D;have j0:=a3 7 _ D;have j1:=a3 8 _ D;have j2:=a3 9 _ D;have iU:=a3 10 _ D;have iV:=a3 11 _ D;have iW:=a3 12 _ D;have fZ:G (ix a h v (.returned (kN aO)) (xC d 0 [.slice Z u u,.slice aK q q,.slice R w w,.slice aP aR aX,.slice aY aZ b0,.slice b1 b2 b3,.slice b4 aT aV,.slice u0 u1 u2,.slice u3 u4 u5,.slice u6 u7 u8,.slice u9 u10 u11,.slice u12 n.d.length u14,.slice F o.length o.length] a2)):=V (by
     refine⟨(fV.o.trans aH.o.any).trans2 hI (λi f e=>by have:=A.o;omega),.inr ⟨_,_,cD.o,D,?_⟩⟩;exact TabsIn.good.mono (TabsIn.good.chg (TabsIn.good.chg hU.o aH.o iF) hI (λi f e=>f.2 e)) (λi _ f=>f.1))
    rw[i4.o]at fZ;simp only[xC,Ax]at iT a9 iX dH dI iY iZ j0 j1 j2 iU iV iW fZ;clear a3 hI a0;go_wp2;exact bodyPost_ret (v:=.agg #[.slice Z u u,.slice aK q q,.slice R w w,.slice aP aR aX,.slice aY aZ b0,.slice b1 b2 b3,.slice b4 aT aV,.slice u0 u1 u2,.slice u3 u4 u5,.slice u6 u7 u8,.slice u9 u10 u11,.slice u12 n.d.length u14,.slice F o.length o.length]) (by simp[results,results55,go_sem,iT,a9,iX,dH,dI,iY,iZ,j0,j1,j2,iU,iV,iW]) D fZ.o
  have cD:G (sS v=none):=V (by rw[g7.o,if_neg (λm=>bO m.1)])
  have g8:((W.length:Int) == 0)=false:=(by simpa using bO);have kF:(W.length == 0)=false:=(by simpa using bO);go_wp2_with fail
  refine (kQ _).mono ?_;rintro e a2 ⟨rfl,rfl⟩;exact⟨D,fV.o,.inl ⟨cD.o,D⟩⟩
 have cD:G (sS v=none):=V (by unfold sS;rw[if_neg d8])
 have a8:=sc (λeI l5=>d1.o.byte eI (Av8 l5)) d8;obtain⟨lS,iH⟩:=rM (strOfNums (v.take 4));rw[iH]at eT a8;clear iH d8;go_wp2_with fail
 refine (kQ _).mono ?_;rintro e b6 ⟨rfl,rfl⟩;exact⟨D,bZ.o.any,.inl ⟨cD.o,D⟩⟩
theorem disable (w:World):(callFunc 197 #[]).run prog w=.ok (.value (.tuple #[])) w:=run_call_mark0 func197 M M M .disable M w
theorem enable (w:World):(callFunc 199 #[]).run prog w=.ok (.value (.tuple #[])) w:=run_call_mark0 func199 M M M .enable M w
theorem acquire (a:Addr) (w:World):(callFunc 200 #[.pointer (some a)]).run prog w=.ok (.value (.tuple #[])) w:=run_call_marked func200 M M M .acquire M a w
theorem releaseMerge (a:Addr) (w:World):(callFunc 202 #[.pointer (some a)]).run prog w=.ok (.value (.tuple #[])) w:=run_call_marked func202 M M M .releaseMerge M a w
theorem Cz (a:Addr) (d:Value) (c:FrameMode) (b:World) (j:b.cell? a=some d) (m:b.frozen? a=false) :
  CallsD prog 185 #[.pointer (some a),.bool true] c b λe h i=>h=c/\(e=.returned (.tuple #[])/\i=b.drew.setCell a (.int .u32 1)):=by
 have f:b.drew.cell? a=some d:=by go_simp
 have g:b.drew.frozen? a=false:=by go_simp
 have l:=run_call_store (P:=prog) func193 M M M M (k:=.u32) (y:=1) f g;go_enter_d func185,ntmps185
 go_wp2;go_region_calls
 all_goals (go_end0;exact⟨D,D⟩)
theorem Da (a:Addr) (d:FrameMode) (b:World) (c:b.cell? a=some (.int .i32 1)) (f:b.frozen? a=false) :
  CallsD prog 184 #[.pointer (some a)] d b λe g h=>g=d/\(e=.returned (.tuple #[])/\h=b.setCell a (.int .i32 0)):=by
 have k:=disable;have l:=enable;have m:=releaseMerge;have i:=run_call_add (P:=prog) func203 M M M .i32 M (y:=-1) (s:=0) c f (by simp[go_sem];rfl);have j:=run_convert_to_unsafe (P:=prog) (src:=284) (dst:=288) underlying284 underlying288 M c;go_enter_d func184,ntmps184
 go_wp2;go_end0
 first|exact⟨D,D⟩|(go_wp2;go_end0;exact⟨D,D⟩)
theorem Db (a:Addr) (b:World) (c:b.cell? a=some (.int .i32 0)) (f:b.frozen? a=false) :
  Calls prog 183 #[.pointer (some a)] b λd g=>d=.returned (.tuple #[])/\g=b.setCell a (.int .i32 1):=by
 have k:=disable;have l:=enable;have h:=acquire;have i:=run_call_cas_hit (P:=prog) func198 M M M .i32 M (y:=1) c f;have e:(b.setCell a (.int .i32 1)).cell? a=some (.int .i32 1):=Az9 b a _ c;have j:=run_convert_to_unsafe (P:=prog) (src:=284) (dst:=288) underlying284 underlying288 M e;go_enter func183,ntmps183
 go_wp2
 first|go_end0|(simp only[Exit.inBlock,Exit.then];refine bodyPost_ret (results_none D _ _ _) D ?_)|refine bodyPost_ret (results_none D _ _ _) D ?_
 first|exact⟨D,D⟩|(go_wp2;go_end0;exact⟨D,D⟩)
structure SumsAt (w:World) (b:Nat) (d l:Int) (T:Nat->Int):Prop where
 c0:w.cell? ⟨b,0,none⟩=some (.int .u32 d)
 c1:w.cell? ⟨b,1,none⟩=some (.int .i32 l)
 tab:∀i,i<256->w.cell? ⟨b,3+i,none⟩=some (.int .u32 (T i))
 z:∀j,w.frozen? ⟨b,j,none⟩=false
theorem SumsAt.chg {S:Nat->Prop}{g w':World}{e:Nat->Int}(b:SumsAt g a x y e) (c:J S g w') (d:¬S a):SumsAt w' a x y e :=
 ⟨c.cellS b.c0 d,c.cellS b.c1 d,λi h=>c.cellS (b.tab i h) d,λf=>(c.frozen (p:=⟨a,f,none⟩) (by have:=Az8 _ _ b.c0;exact this) d).trans (b.z f)⟩
theorem SumsAt.tabs {d T':Nat->Int}(c:SumsAt w a x y d) (f:∀b,b<256->T' b=d b):SumsAt w a x y T' :=
 ⟨c.c0,c.c1,λb e=>by rw[f b e];exact c.tab b e,c.z⟩
theorem SumsAt.put {e:Nat->Int}(c:SumsAt w a x y e) {k:Nat}(j:k<256) (h:Int):SumsAt (w.setCell ⟨a,3+k,none⟩ (.int .u32 h)) a x y (λd=>if d=k then h else e d):=by
 refine⟨(Ay0 _ _ _ _ sI).trans c.c0,(Ay0 _ _ _ _ (by intro b;injection b with _ b;omega)).trans c.c1,λd g=>?_,λi=>(Az3 _ _ _ _).trans (c.z i)⟩;by_cases f:d=k
 .subst f
  rw[if_pos D];exact Az9 _ _ _ (c.tab _ g)
 rw[if_neg f,Ay0 _ _ _ _ (by intro b;injection b with _ b;omega)]
 exact c.tab d g
def fq (y:Int):Int:=bits BinOp.xor IntKind.u32 (y / 2) (3988292384 * bits BinOp.and IntKind.u32 y 1 % 4294967296)
def eg:Nat->Int->Int
 | 0,y=>y
 | j+1,y=>fq (eg j y)
def tabI (i:Nat):Int:=eg 8 i
theorem Dc (c:Nat) (i k:Int) (h:Nat->Int) (l:World) (f:SumsAt l c i k h) :
  Calls prog 120 #[.pointer (some ⟨c,0,none⟩)] l λv u=>v=.returned (.tuple #[])/\SumsAt u c i k tabI/\J (·=c) l u:=by
 have H:=V (f.tabs (T':=λa=>if a<0 then tabI a else h a) (λa _=>by rw[if_neg oM]));clear f;go_enter func120,ntmps120
 go_wp2
 go_loopw [2,4] (λE a wr=>∃(b:Nat),b<=256/\a=.int .i64 b/\SumsAt wr c i k (λa=>if a<b then tabI a else h a)/\J (·=c) l wr) (λ_ a _=>256-(intOf a).toNat)
 .exact⟨0,oM,D,H.out,cR⟩
 clear H;obtain⟨b,C,rfl,f,q⟩:=hrel;have H:=V f;have m:=V q;clear f q;by_cases s:b<256
 .have y:decide ((b:Int)<256)=true:=by simp;omega
  go_wp2;obtain⟨o,rfl⟩:∃o:World,o=wr:=⟨_,D⟩
  go_loopw [3,9] (λw a wr=>∃(d:Nat) (e:Int),d<=8/\a=.int .i64 d/\w=.int .u32 e/\e=eg d b/\wr=o) (λ_ a _=>8-(intOf a).toNat)
  .exact⟨0,b,oM,D,D,D,D⟩
  obtain⟨d,e,A,rfl,rfl,t,rfl⟩:=hrel;have n:=V t;clear t;by_cases B:d<8
  .have x:decide ((d:Int)<8)=true:=by simp;omega
   go_wp2;go_roundw
   .exact⟨d+1,_,oM,GN,D,by rw[n.o];rfl,trivial⟩
   simp[intOf];omega
  obtain rfl:d=8:=oM
  have z:=H.out.tab b s;have F:=H.out.z (3+b);have g:G (SumsAt (wr.setCell ⟨c,3+b,none⟩ (.int .u32 e)) c i k (λa=>if a<b+1 then tabI a else h a)):=V ((H.out.put s e).tabs (λa _=>by
   by_cases r:a=b
   .subst r
    rw[if_pos oM,if_pos D,n.o]
    rfl
   rw[if_neg r]
   by_cases j:a<b
   .rw[if_pos oM,if_pos j]
   rw[if_neg oM,if_neg j]))
  have p:=V (m.o.trans (zA wr c (3+b) (.int .u32 e)));clear H m n;go_wp2;go_roundw
  .first|exact⟨b+1,oM,GN,g.o,p.o⟩|((repeat apply Ay4);exact⟨⟨b+1,oM,D,g.o,p.o⟩,D⟩)
  simp[intOf];omega
 obtain rfl:b=256:=oM
 have g:=V (H.out.tabs (T':=tabI) (λa j=>by rw[if_pos j]));go_wp2;go_end0
 exact⟨D,g.o,m.o⟩
theorem SumsAt.lock {c:Nat->Int}(b:SumsAt w a x y c) (e:Int):SumsAt (w.setCell ⟨a,1,none⟩ (.int .i32 e)) a x e c :=
 ⟨(Ay0 _ _ _ _ sI).trans b.c0,Az9 _ _ _ b.c1,λg f=>(Ay0 _ _ _ _ (by intro d;injection d with _ d;omega)).trans (b.tab g f),λh=>(Az3 _ _ _ _).trans (b.z h)⟩
theorem SumsAt.mark {c:Nat->Int}(b:SumsAt w a x y c) (d:Int):SumsAt (w.drew.setCell ⟨a,0,none⟩ (.int .u32 d)) a d y c :=
 ⟨Az9 _ _ _ ((World.cell?_drew _ _).trans b.c0),(Ay0 _ _ _ _ sI).trans ((World.cell?_drew _ _).trans b.c1),λg f=>(Ay0 _ _ _ _ (by intro e;injection e with _ e;omega)).trans ((World.cell?_drew _ _).trans (b.tab g f)),λh=>(Az3 _ _ _ _).trans (b.z h)⟩
theorem Dd (b:Nat) (l:Nat->Int) (c:World) (h:SumsAt c b 0 0 l) :
  Calls prog 162 #[.pointer (some ⟨b,0,none⟩),.func (.func 120) #[.pointer (some ⟨b,0,none⟩)] #[]] c λe i=>e=.returned (.tuple #[])/\SumsAt i b 1 0 tabI/\J (·=b) c i:=by
 obtain⟨H,g,k⟩:=rZ h (h.lock 1) (zA c b 1 (.int .i32 1));have r:=run_call_load (P:=prog) func182 M M M .u32 M (w:=c.setCell ⟨b,1,none⟩ (.int .i32 1)) (a:=⟨b,0,none⟩) (x:=0) g.o.c0;have u:∀(j:Bool) (c:World),(Op.unary .not (.bool j)).run prog c=.ok (.bool (!j)) c:=λ_ _=>rfl
 clear h;go_enter_defers func162,ntmps162
 go_wp2_with (first|(go_at_call 183;refine (Db ⟨b,1,none⟩ _ H.out.c1 (H.out.z 1)).mono ?_;rintro e i ⟨rfl,rfl⟩)|(go_at_call 161;go_in))
 refine (Dc b 0 1 l _ g.o).mono ?_;rintro e o ⟨rfl,m,n⟩;have d:=V m;have p:=V (k.o.trans n);clear m n H g k r;go_wp2;refine leaves_cons (f:=185) (args:=#[.pointer (some ⟨b,0,none⟩),.bool true]) sI (by simp[go_sem]) ?_;refine (Cz ⟨b,0,none⟩ (.int .u32 0) .returning _ d.o.c0 (d.o.z 0)).mono ?_;rintro e s t ⟨rfl,rfl,rfl⟩;refine leaves_cons (f:=184) (args:=#[.pointer (some ⟨b,1,none⟩)]) (by simp[settle]) (by simp[go_sem]) ?_;refine (Da ⟨b,1,none⟩ _ _ (d.o.mark 1).c1 ((d.o.mark 1).z 1)).mono ?_;rintro e s t ⟨rfl,rfl,rfl⟩;have q:G (SumsAt ((o.drew.setCell ⟨b,0,none⟩ (.int .u32 1)).setCell ⟨b,1,none⟩ (.int .i32 0)) b 1 0 tabI/\J (·=b) c ((o.drew.setCell ⟨b,0,none⟩ (.int .u32 1)).setCell ⟨b,1,none⟩ (.int .i32 0))) :=
  V ⟨(d.o.mark 1).lock 0,(p.o.drew.trans (zA _ b 0 _)).trans (zA _ b 1 _)⟩
 simp[Leaves,settle,results,results162]
 exact q.o
theorem De (a:Nat) (e:Nat->Int) (b:World) (c:SumsAt b a 0 0 e) :
  Calls prog 119 #[.pointer (some ⟨a,0,none⟩),.func (.func 120) #[.pointer (some ⟨a,0,none⟩)] #[]] b λf d=>f=.returned (.tuple #[])/\SumsAt d a 1 0 tabI/\J (·=a) b d:=by
 have H:=V c;have j:=run_call_load (P:=prog) func182 M M M .u32 M c.c0;have k:∀(g:Bool) (b:World),(Op.unary .not (.bool g)).run prog b=.ok (.bool (!g)) b:=λ_ _=>rfl
 clear c;go_enter func119,ntmps119
 go_wp2_with (first|(go_at_call 162;refine (Dd a e _ H.out).mono ?_;rintro f d ⟨rfl,h,i⟩)|(go_at_call 161;go_in))
 go_end0
 exact⟨D,h,i⟩
theorem Df (b:Nat) (h:Int) (e:Nat->Int) (g:Value) (a:World) (c:SumsAt a b 1 h e) :
  Calls prog 119 #[.pointer (some ⟨b,0,none⟩),g] a λf i=>f=.returned (.tuple #[])/\i=a:=by
 have j:=run_call_load (P:=prog) func182 M M M .u32 M c.c0;have k:∀(d:Bool) (a:World),(Op.unary .not (.bool d)).run prog a=.ok (.bool (!d)) a:=λ_ _=>rfl
 clear c;go_enter func119,ntmps119
 go_wp2;go_end0
 exact⟨D,D⟩
def ch:Array Value:=#[.int .u32 0,.int .i32 0,.int .u32 0]++Array.replicate 256 (.int .u32 0)
theorem sd (w:World):(zeroValue 104).run prog w=.ok (.agg ch) w:=M
theorem SumsAt.made (a:World) (b:TypeId):SumsAt (a.alloc (.cells ch b)) a.heap.size 0 0 (λ_=>0):=by
 refine⟨by rw[Az5];simp[ch],by rw[Az5];simp[ch],λd c=>?_,λe=>Az6 _ _ _ _⟩;rw[Az5,ch,Array.getElem?_append_right sI];simp[c]
def bj (y c:Int):Int:=bits BinOp.xor IntKind.u32 (y / 256) (tabI (bits BinOp.xor IntKind.u8 (y % 256) c).toNat)
def df (Z:List Int):Int:=Z.foldl bj 4294967295
def ofI (Z:List Int):Int:=bits BinOp.xor IntKind.u32 IntKind.u32.max (df Z)
def kL (w:World) (b:Nat):Prop:=∃(d:Int) (T:Nat->Int),SumsAt w b d 0 T/\(d=0\/(d=1/\T=tabI))
theorem kL.chg {S:Nat->Prop}{b w':World}(e:kL b a) (h:J S b w') (i:¬S a):kL w' a:=by
 obtain⟨d,c,f,g⟩:=e;exact⟨d,c,f.chg h i,g⟩
theorem kL.lt (b:kL w a):a<w.heap.size:=by
 obtain⟨e,d,c,f⟩:=b;exact Az8 _ _ c.c0
theorem Dg (a:Nat) (b:World) (g:kL b a) :
  Calls prog 119 #[.pointer (some ⟨a,0,none⟩),.func (.func 120) #[.pointer (some ⟨a,0,none⟩)] #[]] b λe d=>e=.returned (.tuple #[])/\SumsAt d a 1 0 tabI/\J (·=a) b d:=by
 obtain⟨k,f,c,h⟩:=g;rcases h with rfl|⟨rfl,rfl⟩
 .exact De a f b c
 exact (Df a 0 tabI _ b c).mono λe d ⟨i,j⟩=>by subst j;exact⟨i,c,cR⟩
theorem se (c:Nat) (a:List Int) (r:Option Addr) (k A N:Nat) (e:World) (y:kL e c) (f:BytesAt e k A a) (x:a≠[]->k≠c) (u:0<a.length->r=some ⟨k,A,none⟩) (Y:a.length<=1000000000) :
  Calls prog 76 #[.pointer (some ⟨c,0,none⟩),.slice r a.length N] e λs B=>s=.returned (.int .u32 (ofI a))/\kL B c/\J (·=c) e B:=by
 obtain⟨L,C,q,F⟩:=sB f u y x;clear f u y x;go_enter func76,ntmps76
 go_wp2_with fail
 refine (Dg c e q.o).mono ?_;rintro s Z ⟨rfl,l,w⟩;have n:=V l;have o:=V w;clear l w q;go_wp2
 go_loopw [5,20] (λS m wr=>∃(b:Nat) (d:Int),b<=a.length/\m=.int .i64 b/\S=.int .u32 d/\d=df (a.take b)/\SumsAt wr c 1 0 tabI/\J (·=c) e wr) (λ_ m _=>a.length-(intOf m).toNat)
 .exact⟨0,_,oM,D,D,D,n.o,o.o⟩
 clear n o;obtain⟨b,d,X,rfl,rfl,z,t,v⟩:=hrel;obtain⟨j,H,i⟩:=rZ z t v;clear z t v;by_cases P:b<a.length
 .have T:=rO b a.length
  obtain⟨h,f,U,a0,a1⟩:=(L.o.chg i.o F.o).get P;have O:=C.o oM;subst O;obtain⟨g,Q,R⟩:∃g:Nat,bits BinOp.xor IntKind.u8 (d % 256) h=(g:Int)/\g<256:=by
   have l:=bounds_u8 (wf_bits BinOp.xor IntKind.u8 (d % 256) h);exact⟨(bits BinOp.xor IntKind.u8 (d % 256) h).toNat,oM,oM⟩
  have W:=H.out.tab g R;have p:G (bits BinOp.xor IntKind.u32 (d / 256) (tabI g)=df (a.take (b+1))):=V (by
   rw[Ay3,f];show _=List.foldl bj 4294967295 (a.take b++[h]);rw[List.foldl_append];show _=bj (df (a.take b)) h;rw[<-j.o];unfold bj;rw[Q]
   rfl)
  clear f j;go_wp2;go_roundw
  .first|exact⟨b+1,_,oM,GN,D,p.o,H.out,i.o⟩|((repeat apply Ay4);exact⟨⟨b+1,_,oM,D,D,p.o,H.out,i.o⟩,D⟩)
  simp[intOf];omega
 obtain rfl:b=a.length:=oM
 have E:G (d=df a):=V (by rw[j.o,Ay7]);have K:G (kL wr c):=V ⟨1,tabI,H.out,.inr ⟨D,D⟩⟩;clear j H;go_wp2;go_ret
 exact⟨by unfold ofI;rw[<-E.o];rfl,K.o,i.o⟩
def kG (n:Int):List Int:=[n % 256,n / 256 % 256,n / 65536 % 256,n / 16777216]
theorem Dh (c:0<=x) (d:x<=4294967295):∀a∈kG x,Byte a:=by
 intro a b;simp[kG]at b
 rcases b with rfl|rfl|rfl|rfl <;> constructor <;> omega
theorem sf (a:Int) (b:World) (g:0<=a) (h:a<=4294967295) :
  Calls prog 75 #[.int .u32 a] b λf d=>∃c,f=.returned (.slice (some ⟨c,0,none⟩) 4 4)/\b.heap.size<=c/\Row d c (kG a)/\Cf b d:=by
 have e:=V (Row.alloc b (kG a) 5 (Dh g h));go_enter func75,ntmps75
 go_wp2;go_ret
 exact⟨_,D,Ay1 _,e.o,rT⟩
theorem Di (a c:List Int) (o p:Option Addr) (q A r B P Q:Nat) (h:World) (y:BytesAt h q A a) (s:0<a.length->o=some ⟨q,A,none⟩) (z:BytesAt h r B c) (t:0<c.length->p=some ⟨r,B,none⟩) (a2:a.length<=1000000000000) :
  Calls prog 100 #[.slice o a.length P,.slice p c.length Q] h λR W=>R=.returned (.bool (decide (a=c)))/\Cf h W:=by
 obtain⟨L,N,F,K⟩:=sB y z s t;clear y z s t;by_cases l:a.length=c.length
 .have O:((a.length:Int) != (c.length:Int))=false:=by simp[l]
  go_enter func100,ntmps100
  go_wp2
  go_loopw [13] (λm wr=>∃b:Nat,b<=a.length/\m=.int .i64 b/\Cf h wr/\a.take b=c.take b) (λm _=>a.length-(intOf m).toNat)
  .exact⟨0,H,D,J.refl _ _,sI⟩
  obtain⟨b,a1,rfl,u,v⟩:=hrel;have d:=V u;have f:=V v;clear u v;by_cases U:b<a.length
  .have X:=rO b a.length
   obtain⟨C,w,Z,a3,a4⟩:=(L.o.chg d.o iE).get U;obtain⟨E,x,a0,a5,a6⟩:=(N.o.chg d.o iE).get (k:=b) H;have S:=F.o H;have T:=K.o H;subst S T;have g:=V w;have i:=V x;clear w x;by_cases j:C=E
   .subst j
    have n:G (a.take (b+1)=c.take (b+1)):=V (by rw[Ay3,Ay3,f.o,g.o,i.o]);clear f g i;go_upto_region 6 with fail
    go_still M
    go_wp2;go_roundw
    .first|exact⟨b+1,H,GN,d.o.drew,n.o⟩|((repeat apply Ay4);exact⟨⟨b+1,H,by first|rfl|go_num,d.o.drew,n.o⟩,D,D,D⟩)
    simp[intOf];omega
   have Y:(C != E)=true:=by simpa using j
   have e:G (decide (a=c)=false):=V (by
    apply decide_eq_false
    intro k;rw[k,i.o]at g;exact j (Az2 g.o).symm)
   clear f g i j;go_upto_region 6 with fail
   go_still M
   go_wp2;go_ret
   exact⟨by rw[e.o];rfl,d.o.drew⟩
  obtain rfl:b=a.length:=H
  have e:G (decide (a=c)=true):=V (by
   have:=f.o;rw[Ay7,l,Ay7]at this;simp[this])
  clear f;go_wp2;go_ret
  exact⟨by rw[e.o];rfl,d.o⟩
 have O:((a.length:Int) != (c.length:Int))=true:=by simp;omega
 have e:G (decide (a=c)=false):=V (by
  apply decide_eq_false
  intro k;exact l (by rw[k]))
 go_enter func100,ntmps100
 go_wp2;go_ret
 exact⟨by rw[e.o];rfl,cR⟩
theorem Dj (c a:List Int) (e:Option Addr) (f h i g d:Nat) (b:World) (n:BytesAt b f h c) (m:0<c.length->e=some ⟨f,h,none⟩) (p:BytesAt b g 0 a) (o:0<a.length) (s:c.length<=100000000) (t:a.length<=100000000)
  (q:b.cell? ⟨d,0,none⟩=some (.slice e c.length i)) (r:b.cell? ⟨d,1,none⟩=some (.slice (some ⟨g,0,none⟩) a.length a.length)) :
  Calls prog 74 #[.slice (some ⟨d,0,none⟩) 2 2] b λl k=>∃j,l=.returned j/\Own k b.heap.size j (c++a)/\Cf b k :=
 gv c a e f h i g a.length d b n m p o H H q r
theorem iz (Z:List Int):0<=ofI Z/\ofI Z<=4294967295:=bounds_u32 (wf_bits BinOp.xor IntKind.u32 _ _)
def rG (Z:List Int):List Int:=Z++kG (ofI Z)
theorem gW (Z:List Int):(rG Z).length=Z.length+4:=by simp[rG,kG]
theorem Dk (w:World) (u v:Value) (e:TypeId):(w.alloc (.cells #[u,v] e)).cell? ⟨w.heap.size,0,none⟩=some u/\(w.alloc (.cells #[u,v] e)).cell? ⟨w.heap.size,1,none⟩=some v:=by
 constructor <;> · rw[Az5];rfl
theorem Dl (b:Nat) (a:List Int) (d:Option Addr) (g n e:Nat) (c:World) (w:kL c b) (x:BytesAt c g n a) (v:a≠[]->g≠b) (u:0<a.length->d=some ⟨g,n,none⟩) (aP:a.length<=20000000) :
  Calls prog 31 #[.pointer (some ⟨b,0,none⟩),.slice d a.length e] c λf y=>∃r,f=.returned (.slice (some ⟨r,0,none⟩) (rG a).length (rG a).length)/\c.heap.size<=r/\Row y r (rG a)/\kL y b/\J (·=b) c y:=by
 obtain⟨q,a6,Z,a0,aH⟩:=sD (se b a d g n e c w x v u H) x u v w.lt;obtain⟨T,U⟩:=iz a;obtain⟨j,t⟩:=rM (ofI a);rw[t]at q T U;have F:G (rG a=a++kG j):=V (by rw[rG,t]);clear w x v u t;go_enter func31,ntmps31
 go_wp2_with fail
 refine q.o.mono ?_;rintro f aF ⟨rfl,S,N⟩;have a5:=V S;have o:=V N;clear S N q;go_wp2_with fail
 refine (sf j aF T U).mono ?_;rintro f z ⟨s,rfl,aO,R,O⟩;have a4:=V R;have p:=V O;clear R O;go_wp2_with fail
 have E:=V (Dk z (.slice d a.length e) (.slice (some ⟨s,0,none⟩) 4 4) 45);have i:=V ((FR z).alloc (.cells #[.slice d a.length e,.slice (some ⟨s,0,none⟩) 4 4] 45));refine (Dj a (kG j) d g n e s z.heap.size _ (((a6.o.chg o.o a0.o).chg p.o iE).chg i.o iE) Z.o ((a4.o.chg i.o iD).bytes (Aw8 _)) (by simp[kG]) H (by simp[kG]) E.o.1 E.o.2).mono ?_;rintro f W ⟨aT,rfl,Q,P⟩;obtain⟨k,Y,L,a7,h,m,aR⟩:=Q.some (by simp[kG]);have B:=V (p.o.trans (i.o.trans P));obtain⟨K,l⟩:=rM ((a++kG j).length);have a2:G (K<=Y.length):=V (by rw[<-l];exact m.length_le);have a1:G (K=(rG a).length):=V (by rw[F.o,l]);rw[l]at L;subst L;have a3:G (Row W k (rG a)):=V (by
  rw[F.o];exact⟨λaD A a9=>by have:=(h.bytes m).c aD A a9;rw[Ax]at this;exact this.1,h.z,h.lt,λA aB=>h.byte A (m.subset aB)⟩)
 have a8:c.heap.size<=k:=by have aI:=o.o.size;have aK:=p.o.size;have aM:=i.o.size;omega
 clear h m Q P a7 l;go_wp2_with fail
 refine (ez W k _ _ a2.o).mono ?_;rintro f X ⟨rfl,rfl⟩;have C:G (kL X b/\J (·=b) c X):=V ⟨a5.o.chg B.o iD,o.o.trans B.o.any⟩;go_wp2;go_ret
 exact⟨k,by rw[<-a1.o];rfl,a8,a3.o,C.o.1,C.o.2⟩
structure Fresh (w0 w:World) (v:Value) (X:List Int) (pg:Option Nat):Prop where
 val:v=.slice (pg.map λg=>⟨g,0,none⟩) X.length X.length
 own:∀g,pg=some g->w0.heap.size<=g/\Row w g X
 nil:pg=none->X=[]
theorem Dm (m a:World) (j:Value) (h:List Int) (d:Own a m.heap.size j h) :
  Calls prog 73 #[j] a λi l=>∃k t,i=.returned k/\l=a/\Fresh m a k h t:=by
 rcases d with ⟨rfl,rfl⟩|⟨c,u,rfl,e,b,f,w⟩
 .go_enter func73,ntmps73
  go_wp2;go_ret
  exact⟨_,none,D,D,D,(λc e=>by cases e),λ_=>rfl⟩
 refine (ez a c _ _ f.length_le).mono λi l ⟨n,q⟩=>?_
 subst q;exact⟨_,some c,n,D,D,λv o=>by
  obtain rfl:=Az2 o;exact⟨e,λs g p=>by have:=(b.bytes f).c s g p;rw[Ax]at this;exact this.1,b.z,b.lt,λg r=>b.byte g (f.subset r)⟩,λd=>by cases d⟩
theorem Dn (f:Value) (a:List Int) (c:Option Addr) (d:Nat) (b:World) (i:a.length<4) :
  Calls prog 54 #[f,.slice c a.length d] b λe g=>e=.returned (.tuple #[.slice none 0 0,.int .i64 4])/\g=b:=by
 have h:(a.length:Int)-4<0:=H
 go_enter func54,ntmps54
 go_wp2;go_ret2
 exact⟨D,D⟩
theorem Do (k:Nat) (c:List Int) (a:Nat) (g j n:Nat) (f:World) (aF:kL f k) (v:BytesAt f g j c) (y:g≠k) (bD:c.length<=20000000) (C:c.length=a+4) (t:c.length<=n) :
  Calls prog 54 #[.pointer (some ⟨k,0,none⟩),.slice (some ⟨g,j,none⟩) c.length n] f λl e=>kL e k/\J (·=k) f e/\((c.drop a=kG (ofI (c.take a))/\∃m T,l=.returned (.tuple #[m,.int .i64 0])/\Fresh f e m (c.take a) T)\/(c.drop a≠kG (ofI (c.take a))/\l=.returned (.tuple #[.slice none 0 0,.int .i64 5]))):=by
 have a5:(c.take a).length=a:=by rw[Ay8];omega
 have aV:(c.drop a).length=4:=by rw[Av0];omega
 have b1:=V v;have Z:G (∀e,J (·=k) f e->BytesAt e g j (c.take a)):=V (λe t=>⟨λR X u=>(v.chg t (λ_=>y)).c R X (by rw[List.getElem?_take_of_lt (by have:=(Az0.1 u).1;omega)]at u;exact u),λ_=>(v.chg t (λ_=>y)).lt (by intro l;rw[l]at C;simp at C)⟩);have aM:G (∀e,J (·=k) f e->BytesAt e g (j+a) (c.drop a)):=V (λe t=>⟨λR X u=>by
  have:=(v.chg t (λ_=>y)).c (a+R) X (by rw[List.getElem?_drop]at u;exact u);rw[Au0];exact this,λ_=>(v.chg t (λ_=>y)).lt (by intro l;rw[l]at C;simp at C)⟩)
 have B:=V (λe aX=>se k (c.take a) (some ⟨g,j,none⟩) g j n e aX);have aR:=V aF;obtain⟨aI,aK⟩:=iz (c.take a);obtain⟨r,a4⟩:=rM (ofI (c.take a));rw[a4]at B aI aK ⊢;rw[a5]at B;have b2:(c.length:Int)-4=a:=H
 have b3:(a:Int)<=(c.length:Int):=H
 have b4:(c.length:Int)<=(n:Int):=H
 have b5:¬((a:Int)<0):=H
 have b6:c.length-a=4:=H
 have b7:a<=c.length:=H
 have b8:a<=n:=H
 have b9:(a:Int)<=(a:Int)+4:=H
 have bB:¬n=a:=H
 have o:G True:=V trivial;clear v aF a4;go_enter func54,ntmps54
 go_upto_region 4 with fail
 refine wp_region_held (S:=λ_=>True) M ?_;show wpAnyH _ _ _ _ _ 12 (Array.replicate 12 false) _ f.drew;(refine sJ (i:=0) D M M M (λ_ _ _ _ h=>h) D o.o λd b=>?_;apply Ay4;refine⟨λe s=>?_,?_⟩;((skip);go_simp;try with_reducible rfl);(try go_simp);refine b _ ?_;clear b d);(refine sJ (i:=1) D M M M (λ_ _ _ _ h=>h) D o.o λd b=>?_;apply Ay4;refine⟨λe s=>?_,?_⟩;((skip);go_simp;try with_reducible rfl);(try go_simp);refine b _ ?_;clear b d);(refine sJ (i:=2) D M M M (λ_ _ _ _ h=>h) D o.o λd b=>?_;apply Ay4;refine⟨λe s=>?_,?_⟩;((skip);go_simp;try with_reducible rfl);(try go_simp);refine b _ ?_;clear b d);(refine sJ (i:=3) D M M M (λ_ _ _ _ h=>h) D o.o λd b=>?_;apply Ay4;refine⟨λe s=>?_,?_⟩;((skip);go_simp;try with_reducible rfl);(try go_simp);refine b _ ?_;clear b d);(refine sJ (i:=4) D M M M (λ_ _ _ _ h=>h) D o.o λd b=>?_;apply Ay4;refine⟨λe s=>?_,?_⟩;((skip);go_simp;try with_reducible rfl);(try go_simp);refine b _ ?_;clear b d);(refine sJ (i:=5) D M M M (λ_ _ _ _ h=>h) D o.o λd b=>?_;apply Ay4;refine⟨λe s=>?_,?_⟩;((skip);go_simp;try with_reducible rfl);(try go_simp);refine b _ ?_;clear b d);(refine sJ (i:=6) D M M M (λ_ _ _ _ h=>h) D o.o λd b=>?_;apply Ay4;refine⟨λe s=>?_,?_⟩;((skip);go_simp;try with_reducible rfl);(try go_simp);refine b _ ?_;clear b d);refine cz (i:=7) M D D 76 #[.pointer (some ⟨k,0,none⟩),.slice (some ⟨g,j,none⟩) a n] (λm q=>m=.int .u32 r/\kL q k/\J (·=k) f q) (by go_simp) ?_ ?_
 .refine (B.o f.drew (aR.o.chg (FR f).drew iD) ((Z.o f cR).chg (FR f).drew iE) (λ_=>y) (λ_=>rfl) H).mono ?_
  rintro l E ⟨rfl,x,O⟩;exact⟨_,D,trivial,D,x,(J.refl _ _).drew.trans O⟩
 rintro m E-⟨rfl,aH,a6⟩ d b;have a3:=V aH;have F:=V a6;clear aH a6 B;(try go_simp)
 refine b _ ?_;clear b d;refine cz (i:=8) M D D 75 #[.int .u32 r] (λm q=>∃p,m=.slice (some ⟨p,0,none⟩) 4 4/\Row q p (kG r)/\Cf E q) (by go_simp) ?_ ?_
 .refine (sf r E aI aK).mono ?_
  rintro l U ⟨p,rfl,_,x,O⟩;exact⟨_,D,trivial,p,D,x,O⟩
 rintro m U-⟨p,rfl,aD,a7⟩ d b;have a2:=V aD;have z:=V a7;clear aD a7;(try go_simp)
 refine b _ ?_;clear b d;have A:=V (Di (c.drop a) (kG r) (some ⟨g,j+a,none⟩) (some ⟨p,0,none⟩) g (j+a) p 0 (n-a) 4 U ((aM.o E F.o).chg z.o iE) (λ_=>rfl) (a2.o.bytes (Aw8 _)) (λ_=>rfl) H);rw[aV]at A;obtain⟨Y,P⟩:=rM (decide (c.drop a=kG r));have a0:=V P;rw[P]at A;clear P;refine cz (i:=9) M D D 100 #[.slice (some ⟨g,j+a,none⟩) 4 (n-a),.slice (some ⟨p,0,none⟩) 4 4] (λm q=>m=.bool Y/\Cf U q) (by go_simp) ?_ ?_
 .refine A.o.mono ?_
  rintro l W ⟨rfl,x⟩;exact⟨_,D,trivial,D,x⟩
 rintro m W-⟨rfl,Q⟩ d b;have w:=V (F.o.trans (z.o.trans Q).any);have N:=V (a3.o.chg (z.o.trans Q) iD);clear Q A z a2 F a3;(try go_simp)
 refine b _ ?_;clear b d;(refine ar (i:=10) M D D o.o λd b=>?_;apply Ay4;refine⟨?_,?_⟩;((skip);go_simp;try with_reducible rfl);(try go_simp);refine b _ ?_;clear b d);(refine ar (i:=11) M D D o.o λd b=>?_;apply Ay4;refine⟨?_,?_⟩;((skip);go_simp;try with_reducible rfl);(try go_simp);refine b _ ?_;clear b d);refine wpAnyH_done M ?_ _;have L:=V (lg (c.take a) (some ⟨g,j,none⟩) g j n W (Z.o W w.o) (λ_=>rfl) H);rw[a5]at L;cases Y with
 | false =>
  go_wp2;go_ret2
  exact⟨N.o,w.o,.inr ⟨of_decide_eq_false a0.o,D⟩⟩
 | true =>
  go_wp2_with fail
  refine L.o.mono ?_;rintro l b0 ⟨aY,rfl,aB,a8⟩;have a1:=V aB;have K:=V a8;clear aB a8 L;go_wp2_with fail
  refine (Dm f b0 aY (c.take a) (a1.o.lower (by have:=w.o.size;omega))).mono ?_;rintro l bF ⟨aZ,T,rfl,rfl,a9⟩;obtain⟨aP,aO,aT⟩:=rZ a9 (w.o.trans K.o.any) (N.o.chg K.o iD);clear a9 w K N a1;go_wp2;go_ret2
  exact⟨aT.o,aO.o,.inl ⟨of_decide_eq_true a0.o,aZ,T,D,aP.o⟩⟩
def getB:Option TabsD->Int×Option TabsD
 | none=>(4,none)
 | some t=>(0,some t)
def getR (Z:List Int):Int×Option TabsD :=
 if Z.length<4 then (4,none) else if Z.drop (Z.length-4)=kG (ofI (Z.take (Z.length-4))) then getB (sS (Z.take (Z.length-4))) else (5,none)
def nilT:TabsS:=⟨(none,0,0),(none,0,0),(none,0,0),⟨(none,0,0),(none,0,0),(none,0,0),(none,0,0)⟩,⟨(none,0,0),(none,0,0),(none,0,0),(none,0,0),(none,0,0)⟩,(none,0,0)⟩
def Dp (d:World) (a:List Int) (f:Ending) (e:World):Prop :=
 Cf d e/\∃b,f=.returned (.tuple #[kN b,.int .i64 (getR a).1])/\(((getR a).2=none/\b=nilT)\/∃c,(getR a).2=some c/\TabsIn e (λg=>d.heap.size<=g) b c)
structure ResAt (tb eb:Nat) (w:World) (vs:List Value) (e:Int):Prop where
 c:∀j v,vs[j]?=some v->w.cell? ⟨tb,j,none⟩=some v
 e:w.cell? ⟨eb,0,none⟩=some (.int .i64 e)
 z:∀j,w.frozen? ⟨tb,j,none⟩=false
 z1:w.frozen? ⟨eb,0,none⟩=false
theorem ResAt.chg {S:Nat->Prop}{g w':World}{k:List Value}(c:ResAt a b g k x) (d:J S g w') (l:a<g.heap.size) (h:∀f,S f->f≠a/\f≠b):ResAt a b w' k x:=by
 have i:¬S a:=λx=>(h _ x).1 D
 have j:¬S b:=λx=>(h _ x).2 D
 exact⟨λe n m=>d.cellS (c.c e n m) i,d.cellS c.e j,λe=>(d.frozen (p:=⟨a,e,none⟩) l i).trans (c.z e),(d.frozen (p:=⟨b,0,none⟩) (Az8 _ _ c.e) j).trans c.z1⟩
theorem ResAt.set {j:List Value}(e:ResAt a b w j x) (g:a≠b) (d:List Value) (r:d.length=j.length) (f:Int):ResAt a b ((xC a 0 d w).setCell ⟨b,0,none⟩ (.int .i64 f)) d f/\J (λk=>k=a\/k=b) w ((xC a 0 d w).setCell ⟨b,0,none⟩ (.int .i64 f)):=by
 obtain⟨o,-,h,i⟩:=vY a d 0 w (λc q=>by
  rw[Ax,e.c c _ (Az4 H)];rfl)
 have m:∀c,(⟨b,0,none⟩:Addr)≠⟨a,c,none⟩:=λc x=>by injection x with x _;exact g x.symm
 have l:=h.cellS e.e (by show ¬b=a;exact λx=>g x.symm);refine⟨⟨λc p n=>?_,Az9 _ _ _ l,λc=>(Az3 _ _ _ _).trans ((i _).trans (e.z c)),(Az3 _ _ _ _).trans ((i _).trans e.z1)⟩,(h.mono (λk _ x=>.inl x)).trans ((zA _ _ _ _).mono (λk _ x=>.inr x))⟩;rw[Ay0 _ _ _ _ (m c)];have:=o c p n;rwa [Ax]at this
theorem Fresh.st {b:Option Nat}(d:Fresh w v A X b) (g:X≠[]):∃a,b=some a/\A=.slice (some ⟨a,0,none⟩) X.length X.length/\w.heap.size<=a/\Row v a X:=by
 obtain⟨e,c,f⟩:=d;cases b with
 | none=>exact absurd (f D) g
 | some a=>exact⟨a,D,e,(c a D).1,(c a D).2⟩
structure GS (pr gb tb:Nat) (w:World) (Z:List Int) (no:Bool) (m:TabsS):Prop where
 r:RdSt pr gb w Z no
 c:∀j v,(ey m)[j]?=some v->w.cell? ⟨tb,j,none⟩=some v
 z:∀j,w.frozen? ⟨tb,j,none⟩=false
 ne:pr≠tb/\gb≠tb
section
variable {pr gb tb:Nat}{w w':World}{Z Z':List Int}{no no':Bool}{m m':TabsS}{S:Nat->Prop}
theorem GS.lt (h:GS pr gb tb w Z no m):tb<w.heap.size:=Az8 _ _ (h.c 0 _ D)
theorem GS.all (h:GS pr gb tb w Z no m):pr<w.heap.size/\gb<w.heap.size/\tb<w.heap.size:=⟨h.r.g.lt,h.r.g.lb,h.lt⟩
theorem GS.chg (a:GS pr gb tb w Z no m) (d:J S w w') (b:¬S pr/\¬S gb/\¬S tb):GS pr gb tb w' Z no m :=
 ⟨a.r.chg d b.1 b.2.1,λc v e=>d.cellS (a.c c v e) b.2.2,λc=>(d.frozen (p:=⟨tb,c,none⟩) a.lt b.2.2).trans (a.z c),a.ne⟩
theorem GS.fresh (a:GS pr gb tb w Z no m) (b:Cf w w'):GS pr gb tb w' Z no m:=a.chg b ⟨λa=>a,λa=>a,λa=>a⟩
theorem GS.call (a:GS pr gb tb w Z no m) (e:RdSt pr gb w' Z' no') (d:J (·=pr) w w'):GS pr gb tb w' Z' no' m :=
 ⟨e,λb v f=>d.cellS (a.c b v f) (λc=>a.ne.1 c.symm),λb=>(d.frozen (p:=⟨tb,b,none⟩) a.lt (λc=>a.ne.1 c.symm)).trans (a.z b),a.ne⟩
theorem GS.put (e:GS pr gb tb w Z no m) {v v':Value}(a:Nat) (h:(ey m)[a]?=some v) (l:ey m'=(ey m).set a v') (k:J S w w') (j:¬S pr/\¬S gb/\¬S tb) :
  (w'.cell? ⟨tb,a,none⟩=some v/\w'.frozen? ⟨tb,a,none⟩=false)/\GS pr gb tb (w'.setCell ⟨tb,a,none⟩ v') Z no m'/\J (·=tb) w' (w'.setCell ⟨tb,a,none⟩ v'):=by
 have b:=e.chg k j;have i:=zA w' tb a v';refine⟨⟨b.c a v h,b.z a⟩,⟨b.r.chg i e.ne.1 e.ne.2,λd u c=>?_,λd=>(Az3 _ _ _ _).trans (b.z d),e.ne⟩,i⟩;rw[l]at c;by_cases f:d=a
 .subst f
  rw[Aw7 (Az0.1 h).1]at c;obtain rfl:=Az2 c;exact Az9 _ _ _ (b.c d v h)
 rw[Av5 (Ne.symm f)]at c
 rw[Ay0 _ _ _ _ (by intro g;injection g with _ g;exact f g.symm)];exact b.c d u c
end
def TP (pr tb:Nat):Nat->Prop:=λk=>k=tb\/k=pr
section
variable {α β:Type}{E:Elt α}{F:Elt β}{pr gb tb B:Nat}{S:Nat->Prop}{w wa wb:World}{Z:List Int}{no:Bool}{m m':TabsS}{v v' u u':Value}{L X X':List α}{Y Y':List β}{x:α}
theorem Elt.Own.non (b:E.Own w B v X) (c:pr<B/\gb<B/\tb<B):¬v.ownBlock=some pr/\¬v.ownBlock=some gb/\¬v.ownBlock=some tb :=
 ⟨λa=>by have:=(b.blk a).1;omega,λa=>by have:=(b.blk a).1;omega,λa=>by have:=(b.blk a).1;omega⟩
structure W2 (E:Elt α) (F:Elt β) (B:Nat) (w:World) (v u:Value) (X:List α) (Y:List β):Prop where
 a:E.Own w B v X
 b:F.Own w B u Y
 ne:∀g,v.ownBlock=some g->u.ownBlock=some g->False
theorem W2.chg (c:W2 E F B w v u X Y) (e:J S w wa) (d:∀f,S f->f<B):W2 E F B wa v u X Y :=
 ⟨c.a.chg e (λb g _ a=>by have:=d b a;omega),c.b.chg e (λb g _ a=>by have:=d b a;omega),c.ne⟩
theorem W2.swap (h:W2 E F B w v u X Y):W2 F E B w u v Y X:=⟨h.b,h.a,λg a b=>h.ne g b a⟩
theorem W2.app (c:W2 E F B w v u X Y) (g:E.Own wb B v' X') (h:J (λf=>v.ownBlock=some f) w wb) (i:v'.ownBlock=v.ownBlock\/v'.ownBlock=some w.heap.size):W2 E F B wb v' u X' Y :=
 ⟨g,c.b.chgB h (λd a b=>c.ne d b a),λd a e=>by
  rcases i with b|b
  .rw[b]at a;exact c.ne d a e
  rw[b]at a;injection a with a;have:=(c.b.blk e).2;omega⟩
end
section
variable {α:Type}{ops:Array Oper}{Q:Exit->Act->World->Prop}{md:Region.Mode}{S:World->Prop}{late:Nat->Bool}{oi:Oper}{fuel:Nat}{listed:Array Bool}{a:Act}{w:World}
theorem dW (j:Nat) (E:Elt α) {m x:Operand}{k:TypeId}{B:Nat}{v u:Value}{X:List α}(Y:List α) (h:E.Own w B v X) (p:B<=w.heap.size) (r:∀a∈Y,E.ok a) (F:Src prog E.sz k u Y.length (E.encs Y) w) (y:X.length+Y.length<=1000000000000)
  (A:Region.ready md ops listed=[j]) (s:ops[j]?=some oi) (N:Region.wanted oi (yielded ops a.tmps)=true) (z:oi.op=.call { callee:=.builtin .append,args:=#[m,x],argTypes:=#[E.sl,k] }) (L:a.eval m=v) (K:a.eval x=u) (t:late j=true)
  (f:∀b d c e,E.Own e B (.slice b d c) (X++Y)->J (λf=>v.ownBlock=some f) w e->((Value.slice b d c).ownBlock=v.ownBlock\/(Value.slice b d c).ownBlock=some w.heap.size)->∀g:Act->Prop,(∀a,yC prog md ops Q S late fuel (listed.setIfInBounds j true) a e->g a)->g (a.put oi.dst (.slice b d c))) :
  yC prog md ops Q S late (fuel+1) listed a w:=by
 refine yQ A s N m x E.sl k z v u L K (λv' e=>∃b d c,v'=.slice b d c/\E.Own e B v' (X++Y)/\J (λf=>v.ownBlock=some f) w e/\(v'.ownBlock=v.ownBlock\/v'.ownBlock=some w.heap.size)) ?_ ?_
 .obtain⟨v',w',C,i,n,l,-⟩:=h.append p k u Y F r y oi.type
  obtain⟨b,d,c,o⟩:=i.shape3;exact⟨v',w',C,(λh=>by rw[t]at h;cases h),b,d,c,o,i,l⟩
 rintro v' e-⟨b,d,c,rfl,i,n,l⟩ g q
 exact f b d c e i n l g q
theorem dg (l:Nat) {n:α->Value}{g:α->List Int}{m e:α->Prop}{pr gb:Nat}{Z:List Int}{no:Bool}{h:FuncId}{f:Array Value}(r:Calls prog h f w (ef n g m e pr gb w Z no)) (q:∀b,J (·=pr) w b->S b)
  (t:Region.ready md ops listed=[l]) (s:ops[l]?=some oi) (y:Region.wanted oi (yielded ops a.tmps)=true) (u:(execOp a.eval oi).run prog w=.ok (.enter h f) w)
  (z:∀x Z' no' b,RdSt pr gb b Z' no'->J (·=pr) w b->e x->Dr g m x Z no Z' no'->∀c:Act->Prop,(∀a,yC prog md ops Q S late fuel (listed.setIfInBounds l true) a b->c a)->c (a.put oi.dst (n x))) :
  yC prog md ops Q S late (fuel+1) listed a w:=by
 refine zY t s y h f (λv b=>∃x Z' no',v=n x/\RdSt pr gb b Z' no'/\J (·=pr) w b/\e x/\Dr g m x Z no Z' no') u ?_ ?_
 .refine r.mono ?_
  rintro A o ⟨x,Z',no',rfl,i,d,j,k⟩;exact⟨_,D,λ_=>q _ d,x,Z',no',D,i,d,j,k⟩
 rintro v o-⟨x,Z',no',rfl,i,d,j,k⟩ c p
 exact z x Z' no' o i d j k c p
end
theorem Dq {w:World}{gb d b k:Nat}{Z:List Int}(p:Z.length<=b) (f:BytesAt w gb d Z) (q:k<=Z.length):∃i e,cutV gb d b Z.length k=.slice (some ⟨gb,i,none⟩) (Z.drop k).length e/\(Z.drop k).length<=e/\BytesAt w gb i (Z.drop k):=by
 by_cases g:b=k
 .have n:Z.drop k=[]:=List.drop_eq_nil_of_le H
  rw[n];exact⟨d,0,by rw[cutV,if_pos g];rfl,Ay1 _,⟨λh a c=>by simp at c,λl=>absurd D l⟩⟩
 refine⟨d+k,b-k,by rw[cutV,if_neg g,Av0],by rw[Av0];omega,⟨λh a c=>?_,λo=>f.lt (λj=>o (by rw[j,List.drop_nil]))⟩⟩
 rw[List.getElem?_drop]at c;have m:=f.c (k+h) a c;rw[Au0];exact m
def SF (w:World) (pr tb:Nat):Nat->Prop:=λk=>w.heap.size<=k/\¬TP pr tb k
theorem sfOf {w:World}{pr gb tb B:Nat}(c:pr<B/\gb<B/\tb<B) (e:w.heap.size<=B):∀b,B<=b->SF w pr tb b:=λb d=>⟨H,λa=>by rcases a with a|a <;> omega⟩
theorem aj {a:Nat->Prop}{w w':World}{b:World->Prop}(c:∀X,J a w X->b X) (d:J a w w'):∀X,J a w' X->b X:=λX e=>c X (d.trans e)
theorem addF {a:Nat->Prop}{w:World}{b Q:World->Prop}(d:∀X,J a w X->b X) (e:∀X,J a w X->Q X):∀X,J a w X->b X/\Q X:=λX c=>⟨d X c,e X c⟩
theorem Good.keep {β e:Type}{a:Rp β e}(d:Good a) {w v:World}{pr gb tb B:Nat}{x:β}{c:e}(b:a v (B<=·) x c) (f:pr<B/\gb<B/\tb<B) (h:w.heap.size<=B):∀X,J (TP pr tb) v X->a X (SF w pr tb) x c :=
 λ_ i=>d.chg (d.mono b λj _ g=>sfOf f h j g) i λ_ b=>b.2
theorem inS.good {α:Type}(E:Elt α):Good (λw S (x:Sl) (L:List α)=>E.InS w S x L):=inR.good
theorem sg (L:List StD) (x:StD):vA (L++[x])=vA L++(if 0<x.2.2.length then [(L.length:Int)] else []):=by
 unfold vA;rw[mA,Ax]
structure R13 (rb:Nat) (w:World) (vs:List Value):Prop where
 c:∀j v,vs[j]?=some v->w.cell? ⟨rb,j,none⟩=some v
 z:∀j,w.frozen? ⟨rb,j,none⟩=false
theorem R13.chg {S:Nat->Prop}{a:Nat}{w w':World}{f:List Value}(c:R13 a w f) (e:J S w w') (g:a<w.heap.size) (d:¬S a):R13 a w' f :=
 ⟨λb v h=>e.cellS (c.c b v h) d,λb=>(e.frozen (p:=⟨a,b,none⟩) g d).trans (c.z b)⟩
theorem R13.set {a:Nat}{w:World}{f:List Value}(d:R13 a w f) (c:List Value) (j:c.length=f.length):R13 a (xC a 0 c w) c/\J (·=a) w (xC a 0 c w):=by
 obtain⟨g,-,h,i⟩:=vY a c 0 w (λb e=>by
  rw[j]at e;rw[Ax,d.c b _ (Az4 e)]
  rfl)
 exact⟨⟨λb v k=>by have:=g b v k;rwa [Ax]at this,λb=>(i _).trans (d.z b)⟩,h⟩
theorem R13.all {b:Nat}{w:World}{a d e f g h i j k l n o m:Value}(c:R13 b w [a,d,e,f,g,h,i,j,k,l,n,o,m]) :
  (w.cell? ⟨b,0,none⟩=some a/\w.cell? ⟨b,1,none⟩=some d/\w.cell? ⟨b,2,none⟩=some e/\w.cell? ⟨b,3,none⟩=some f/\w.cell? ⟨b,4,none⟩=some g/\w.cell? ⟨b,5,none⟩=some h/\w.cell? ⟨b,6,none⟩=some i/\w.cell? ⟨b,7,none⟩=some j/\w.cell? ⟨b,8,none⟩=some k/\w.cell? ⟨b,9,none⟩=some l/\w.cell? ⟨b,10,none⟩=some n/\w.cell? ⟨b,11,none⟩=some o/\w.cell? ⟨b,12,none⟩=some m) /\
  w.frozen? ⟨b,0,none⟩=false/\w.frozen? ⟨b,1,none⟩=false/\w.frozen? ⟨b,2,none⟩=false/\w.frozen? ⟨b,3,none⟩=false/\w.frozen? ⟨b,4,none⟩=false/\w.frozen? ⟨b,5,none⟩=false/\w.frozen? ⟨b,6,none⟩=false/\w.frozen? ⟨b,7,none⟩=false/\w.frozen? ⟨b,8,none⟩=false/\w.frozen? ⟨b,9,none⟩=false/\w.frozen? ⟨b,10,none⟩=false/\w.frozen? ⟨b,11,none⟩=false/\w.frozen? ⟨b,12,none⟩=false :=
 ⟨⟨c.c 0 _ D,c.c 1 _ D,c.c 2 _ D,c.c 3 _ D,c.c 4 _ D,c.c 5 _ D,c.c 6 _ D,c.c 7 _ D,c.c 8 _ D,c.c 9 _ D,c.c 10 _ D,c.c 11 _ D,c.c 12 _ D⟩,c.z 0,c.z 1,c.z 2,c.z 3,c.z 4,c.z 5,c.z 6,c.z 7,c.z 8,c.z 9,c.z 10,c.z 11,c.z 12⟩
def pS (w:World) (Z:List Int) (e:Ending) (w':World):Prop :=
 Cf w w'/\∃m,e=.returned (.tuple #[kN m,.int .i64 (getR Z).1])/\(((getR Z).2=none/\m=nilT)\/∃t,(getR Z).2=some t/\DocIn w' (λk=>w.heap.size<=k) m t)
end Go.Proofs.YtgnpmceimpjheaaGreat
