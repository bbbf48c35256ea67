/- A part of the proof: MayU CodF CodV CodW CodA CodI ConcatI EqI CodJ CodC. -/
import Derived.Test.YtgnpmceimpjheaaGreatGG7
import Derived.Laws.EntriesVeiled
set_option maxRecDepth 100000
set_option maxHeartbeats 16000000
namespace Go.Proofs.YtgnpmceimpjheaaGreat
open Go.RowKit Go.Proofs.Tryz
variable {a b c d e f g h i j k l m n o p q r:Nat}{w v u t s:World}{X Y W L T:List Int}{A B C E Z:Value}{x y z:Int}{N R:Bool}{F Q:Option Addr}{S P:Nat->Prop}
theorem yx (a:LexD) (b4 aR b3 aV:Sl) (q:Nat) (e:World) (a1:TabIn e q b4 aR b3 aV a) (cA:Fair a) :
  Calls prog 84 #[lexV b4 aR b3 aV] e λt cH=>t=.returned (.bool (mayT a))/\Cf e cH:=by
 obtain⟨o,d0,p⟩:=b4;obtain⟨z,cK,s⟩:=aR;obtain⟨v,cZ,w⟩:=b3;obtain⟨A,cM,B⟩:=aV;obtain⟨b0,aX,aZ,aY⟩:=a1;obtain⟨a0,bI,c8,c7,bK⟩:=cA;obtain⟨rfl,cT⟩:=b0.len;obtain⟨rfl,cO⟩:=aX.len;obtain⟨rfl,cS⟩:=aZ.len;obtain⟨rfl,cP⟩:=aY.len;obtain⟨X,aI,c2,bV,c1⟩:=sD b0 aX aZ aY bK;have Y:G (∀T,Cf (e.alloc (.cells #[.slice o a.r.length p,.slice z a.c.length s,.slice v a.n.length w,.slice A a.e.length B] 28)) T->T.cell? ⟨e.heap.size,0,none⟩=some (.slice o a.r.length p)/\T.cell? ⟨e.heap.size,1,none⟩=some (.slice z a.c.length s)/\T.cell? ⟨e.heap.size,2,none⟩=some (.slice v a.n.length w)/\T.cell? ⟨e.heap.size,3,none⟩=some (.slice A a.e.length B)) :=
  V (λT aB=>(ky e (o,a.r.length,p) (z,a.c.length,s) (v,a.n.length,w) (A,a.e.length,B) 28).chg aB iD)
 clear b0 aX aZ aY bK;show Calls prog 84 #[.agg #[.slice o a.r.length p,.slice z a.c.length s,.slice v a.n.length w,.slice A a.e.length B]] e _;cases P:fN a.r with
 | false =>
  have f:G (mayT a=false):=V (tW (λh=>by rw[h.ap]at P;cases P));have L:=V P;clear P;go_enter func84,ntmps84
  go_wp2_with fail
  refine (aN a.r o p q _ (X.o.same (rT)) a0).mono ?_;rintro t i ⟨rfl,g⟩;rw[L.o];have x:=V (((J.refl _ e).alloc _).trans g);clear g;go_wp2;go_ret
  exact⟨by rw[f.o];rfl,x.o⟩
 | true =>
  have L:=V P;clear P;by_cases u:a.c.length=a.r.length
  .by_cases bM:0<a.n.length
   .by_cases a6:a.e.length=a.n.length
    .have aT:((a.c.length:Int) != (a.r.length:Int))=false:=by simp[u]
     have bF:decide ((a.n.length:Int)<1)=false:=decide_eq_false H;have c4:((a.e.length:Int) != (a.n.length:Int))=false:=(by simp[a6]);have bH:decide (a.n.length<1)=false:=decide_eq_false H;have aK:=V u;have c0:=V a6;clear u a6;go_enter func84,ntmps84
     go_wp2_with fail
     refine (aN a.r o p q _ (X.o.same (rT)) a0).mono ?_;rintro t i ⟨rfl,g⟩;rw[L.o];have x:=V (((J.refl _ e).alloc _).trans g);obtain⟨k,l,j,m⟩:=Y.o i g;have a4:=V (Y.o i g);have cD:e.heap.size<i.heap.size:=(by have:=g.size;simp at this;omega);clear g;have aO:G (MayW e i.heap.size (o,a.r.length,p) (z,a.c.length,s) (v,a.n.length,w) (A,a.e.length,B) (vC (a.c.take 0)) (i.alloc (.cells #[.int .i64 0] 3))):=V (by
      have a7:=(FR i).alloc (.cells #[.int .i64 0] 3);exact⟨⟨a7.cellS a4.o.1 iD,a7.cellS a4.o.2.1 iD,a7.cellS a4.o.2.2.1 iD,a7.cellS a4.o.2.2.2 iD⟩,⟨by simp[vC],Az6 _ _ _ _⟩,x.o.alloc _,cD⟩)
     obtain⟨⟨b5,b6,b7,b8⟩,-,-,-⟩:=aO.o;unfold slV at b5 b6 b7 b8;simp only at b5 b6 b7 b8;go_wp2;clear b5 b6 b7 b8
     go_loopw [38] (λN wr=>∃b:Nat,b<=a.c.length/\N=.int .i64 b/\(∀(d:Nat) c,d<b->a.c[d]?=some c->0<=c/\c<a.c.length)/\MayW e i.heap.size (o,a.r.length,p) (z,a.c.length,s) (v,a.n.length,w) (A,a.e.length,B) (vC (a.c.take b)) wr) (λN _=>a.c.length-(intOf N).toNat)
     .exact⟨0,H,D,λd bT a1=>absurd a1 (Ax1 _),aO.o⟩
     clear aO;obtain⟨b,cB,rfl,F,h⟩:=hrel;have O:=V F;have y:=V h;obtain⟨⟨k,l,j,m⟩,⟨S,aD⟩,a3,-⟩:=h;unfold slV at k l j m;simp only at k l j m;have r:=V a3;clear F a3;obtain⟨n,a9⟩:=rM (vC (a.c.take b));rw[a9]at S;have E:=V a9;by_cases a8:b<a.c.length
     .have bD:=rO b a.c.length
      obtain⟨c,c9,cF,aB,rfl,cI,d2,d3,-,-⟩:=(aI.o.same r.o).getI a8;have a5:=V aB;clear aB a9;by_cases a2:c<0
      .have c5:decide (c<0)=true:=by simpa using a2
       have f:G (mayT a=false):=V (tW (λh=>by have:=h.cb c (Az1 a5.o);omega));go_wp2;go_ret
       exact⟨by rw[f.o];rfl,r.o⟩
      have c5:decide (c<0)=false:=by simpa using a2
      by_cases bO:(a.c.length:Int)<=c
      .have c6:decide ((a.c.length:Int)<=c)=true:=by simpa using bO
       have f:G (mayT a=false):=V (tW (λh=>by have:=h.cb c (Az1 a5.o);omega));go_wp2;go_ret
       exact⟨by rw[f.o];rfl,r.o⟩
      have c6:decide ((a.c.length:Int)<=c)=false:=by simpa using bO
      have aH:G (∀(d:Nat) c,d<b+1->a.c[d]?=some c->0<=c/\c<a.c.length):=V (λd bT R b2=>by
       by_cases K:d=b
       .subst K;rw[a5.o]at b2;obtain rfl:=Az2 b2;omega
       exact O.o d bT H b2)
      have c3:G (vC (a.c.take (b+1))=max n (c+1)):=V (by rw[eu a5.o,E.o]);have W:G (MayW e i.heap.size (o,a.r.length,p) (some ⟨c9,cF,none⟩,a.c.length,s) (v,a.n.length,w) (A,a.e.length,B) (vC (a.c.take (b+1))) (wr.setCell ⟨i.heap.size,0,none⟩ (.int .i64 (if n<c+1 then c+1 else n)))):=V (by
       rw[c3.o,show max n (c+1)=if n<c+1 then c+1 else n by split <;> omega];exact y.o.set _)
      clear y;go_wp2;go_roundw
      .exact⟨b+1,H,GN,aH.o,W.o⟩
      simp[intOf];omega
     obtain rfl:b=a.c.length:=H
     rw[Ay7]at E;have aP:=y;rw[Ay7,E.o]at aP;have bB:G (∀c∈a.c,0<=c/\c<a.c.length):=V (λc b1=>by
      obtain⟨d,R⟩:=Aw1 b1;exact O.o d c (Az0.1 R).1 R)
     have cV:0<=n:=(by rw[<-E.o];exact tE _);have cX:n<=a.c.length:=(by rw[<-E.o];exact cE H (λc b1=>(bB.o c b1).2));clear a9 y O;go_wp2
     go_loopw [57] (λN wr=>∃b:Nat,(b:Int)<=n/\N=.int .i64 b/\(∀(d:Nat),d<b->hasB d a.c=true)/\MayW e i.heap.size (o,a.r.length,p) (z,a.c.length,s) (v,a.n.length,w) (A,a.e.length,B) n wr) (λN _=>n.toNat-(intOf N).toNat)
     .exact⟨0,H,D,λd a1=>absurd a1 (Ax1 _),aP.o⟩
     clear aP k l j m S aD r;obtain⟨b,cB,rfl,F,h⟩:=hrel;have O:=V F;have y:=V h;obtain⟨⟨k,l,j,m⟩,⟨S,aD⟩,a3,-⟩:=h;unfold slV at k l j m;simp only at k l j m;have r:=V a3;clear F a3;by_cases a8:(b:Int)<n
     .have bD:decide ((b:Int)<n)=true:=by simpa using a8
      cases Q:hasB b a.c with
      | true =>
       have aH:G (∀(d:Nat),d<b+1->hasB d a.c=true):=V (λd R=>by
        by_cases K:d=b
        .subst K;exact Q
        exact O.o d H)
       have aM:=V Q;clear Q;go_wp2_with fail
       refine (pa b a.c z s q wr (aI.o.same r.o) bI).mono ?_;rintro t aF ⟨rfl,C⟩;rw[aM.o];have W:=V (y.o.chg C);clear C y;go_wp2;go_roundw
       .exact⟨b+1,H,GN,aH.o,W.o⟩
       .simp[intOf];omega
      | false =>
       have f:G (mayT a=false):=V (tW (λh=>by
        have a2:=h.fill;rw[ph (j:=b) (by rw[E.o];exact a8) Q]at a2;cases a2))
       have aM:=V Q;clear Q;go_wp2_with fail
       refine (pa b a.c z s q wr (aI.o.same r.o) bI).mono ?_;rintro t aF ⟨rfl,C⟩;rw[aM.o];have U:=V (r.o.trans C);clear C;go_wp2;go_ret
       exact⟨by rw[f.o];rfl,U.o⟩
     obtain rfl:(b:Int)=n:=H
     have bD:=rP b;have bX:G (bg a.c=true):=V (pf (λd R=>O.o d (by rw[E.o]at R;omega)));have Z:=enters_of func126 M D;go_wp2_with fail
     refine (mC _ _ cf a.e A B q wr Z (bV.o.same r.o) (ys wr) c7).mono ?_;rintro t aF ⟨rfl,C⟩;have W:=V (y.o.chg C);have U:=V (r.o.trans C);clear C y r Z k l j m S aD;cases K:a.e.any cf with
     | true =>
      have f:G (mayT a=false):=V (yv K);clear K;go_wp2;go_ret
      exact⟨by rw[f.o];rfl,U.o⟩
     | false =>
      have f:G (mayT a=!a.n.any (cY (b:Int) a.n.length)):=V (by
       have:=yw L.o aK.o bM c0.o bB.o bX.o K;rw[E.o]at this;exact this)
      clear K;obtain⟨⟨k,l,j,m⟩,⟨S,aD⟩,-,-⟩:=W.o;unfold slV at k l j m;simp only at k l j m;have Z:=enters_of func128 M D;have bZ:=V (yu i.heap.size e.heap.size a.n.length q b v w aF S j);go_wp2_with fail
      refine (yq _ _ (cY (b:Int) a.n.length) a.n v w q aF Z (c2.o.same U.o) bZ.o c8 c1.o).mono ?_;rintro t d1 ⟨rfl,bP⟩;have b9:=V (U.o.trans bP);clear bP Z;cases F:a.n.any (cY (b:Int) a.n.length) with
      | true =>
       rw[F]at f;go_wp2;go_ret
       exact⟨by rw[f.o];rfl,b9.o⟩
      | false =>
       rw[F]at f;go_wp2;go_ret
       exact⟨by rw[f.o];rfl,b9.o⟩
    have aT:((a.c.length:Int) != (a.r.length:Int))=false:=by simp[u]
    have bF:decide ((a.n.length:Int)<1)=false:=decide_eq_false H;have bH:decide (a.n.length<1)=false:=decide_eq_false H;have c4:((a.e.length:Int) != (a.n.length:Int))=true:=sO;have aK:=V u;clear u;have f:G (mayT a=false):=V (tW (λh=>a6 h.el));go_enter func84,ntmps84
    go_wp2_with fail
    refine (aN a.r o p q _ (X.o.same (rT)) a0).mono ?_;rintro t i ⟨rfl,g⟩;rw[L.o];have x:=V (((J.refl _ e).alloc _).trans g);obtain⟨k,l,j,m⟩:=Y.o i g;clear g;go_wp2;go_ret
    exact⟨by rw[f.o];rfl,x.o⟩
   have aT:((a.c.length:Int) != (a.r.length:Int))=false:=by simp[u]
   have bF:decide ((a.n.length:Int)<1)=true:=decide_eq_true H;have bH:decide (a.n.length<1)=true:=decide_eq_true H;have aK:=V u;clear u;have f:G (mayT a=false):=V (tW (λh=>bM h.nl));go_enter func84,ntmps84
   go_wp2_with fail
   refine (aN a.r o p q _ (X.o.same (rT)) a0).mono ?_;rintro t i ⟨rfl,g⟩;rw[L.o];have x:=V (((J.refl _ e).alloc _).trans g);obtain⟨k,l,j,m⟩:=Y.o i g;clear g;go_wp2;go_ret
   exact⟨by rw[f.o];rfl,x.o⟩
  have aT:((a.c.length:Int) != (a.r.length:Int))=true:=by simp;omega
  have f:G (mayT a=false):=V (tW (λh=>u h.cl));go_enter func84,ntmps84
  go_wp2_with fail
  refine (aN a.r o p q _ (X.o.same (rT)) a0).mono ?_;rintro t i ⟨rfl,g⟩;rw[L.o];have x:=V (((J.refl _ e).alloc _).trans g);obtain⟨k,l,j,m⟩:=Y.o i g;clear g;go_wp2;go_ret
  exact⟨by rw[f.o];rfl,x.o⟩
def jA {b d:Type}(f:Elt b) (m:b->Value) (g:Rp b d) (h:Nat->Prop) (j:FuncId) (k:Array Value) (l:d->Bool) (n:World):Prop:=∀(c:b) (e:d) (a:World),g a h c e->f.ok c->Cf n a ->
 Calls prog j (#[m c]++k) a λi o=>i=.returned (.bool (l e))/\Cf a o
theorem zL.get2 {j m:Type}{g:Elt j}{n:Rp j m}{k:List m}(r:zL g n w S (F,a,b) k) (B:g.sz=2) {i:Nat}(A:i<k.length) {f:j->List Value}(z:g.enc=f) :
  ∃(e:j) (h:m) (c d:Nat),k[i]?=some h/\n w S e h/\F=some ⟨c,d,none⟩/\S c/\c<w.heap.size/\g.ok e/\∀u0 u1,f e=[u0,u1]->w.cell? ⟨c,d+i * 2,none⟩=some u0/\w.cell? ⟨c,d+i * 2+1,none⟩=some u1:=by
 obtain⟨e,h,c,d,s,t,u,v,x,y,q⟩:=r.get A;refine⟨e,h,c,d,s,t,u,v,x,y,λu0 u1 l=>?_⟩;rw[<-z]at l;have o:=q 0 u0 (by rw[l];rfl);have p:=q 1 u1 (by rw[l];rfl);rw[B]at o p;exact⟨by simpa using o,by rw[Au0];exact p⟩
theorem zL.get1' {i l:Type}{e:Elt i}{m:Rp i l}{j:List l}(p:zL e m w S (F,a,b) j) (A:e.sz=1) {k:Nat}(z:k<j.length) {f:i->List Value}(y:e.enc=f) :
  ∃(d:i) (g:l) (c h:Nat),j[k]?=some g/\m w S d g/\F=some ⟨c,h,none⟩/\S c/\c<w.heap.size/\e.ok d/\∀u0,f d=[u0]->w.cell? ⟨c,h+k,none⟩=some u0:=by
 obtain⟨d,g,c,h,q,r,s,t,u,v,x⟩:=p.get z;refine⟨d,g,c,h,q,r,s,t,u,v,λu0 o=>?_⟩;rw[<-y]at o;have n:=x 0 u0 (by rw[o];rfl);rw[A,Nat.mul_one,Nat.add_zero]at n;exact n
def fi (s:Str):List Value:=[.string s]
def ib (p:Int×Int):Value:=.agg #[.int .i32 p.1,.int .i32 p.2]
theorem yy {x:Type}{s:Rp Str x}(L:Good s) {A:Nat->Prop}(i:FuncId) (S:Array Value) (f:x->Bool) (a:List x) (B:Option Addr) (E:Nat) (d:World) (a6:∀C d,(callFunc i C).run prog d=.ok (.enter i C) d) (n:zL strE s d A (B,a.length,E) a) (P:jA strE bJ s A i S f d) (aB:a.length<=1000000000) :
  Calls prog 82 #[.slice B a.length E,.func (.func i) #[] S] d λt a2=>t=.returned (.int .i64 (idxV f a))/\Cf d a2:=by
 obtain⟨U,W,X⟩:=rZ n P L;clear n P L;go_enter func82,ntmps82
 go_wp2
 go_loopw [8] (λw wr=>∃b:Nat,b<=a.length/\w=.int .i64 b/\(∀(c:Nat) e,c<b->a[c]?=some e->f e=false)/\Cf d wr) (λw _=>a.length-(intOf w).toNat)
 .exact⟨0,H,D,λc e n=>absurd n (Ax1 _),cR⟩
 obtain⟨b,a9,rfl,N,u⟩:=hrel;obtain⟨o,l,y⟩:=rZ N u ((zL.good X.o).chg U.o u iF);clear N u;by_cases a1:b<a.length
 .have a5:=rO b a.length
  obtain⟨a4,K,a7,aD,R,Q,rfl,-,-,O,k⟩:=y.o.get1' (f:=fi) D a1 D;have z:=V R;have g:=W.o a4 K wr Q O l.o;have Z:=k;clear R Q O y
  first|(have m:=k _ D)|(obtain⟨m,F⟩:=k _ _ D)|(obtain⟨m,F,Y⟩:=k _ _ _ D)
  clear k Z
  try unfold slV at F
  try unfold slV at Y
  cases h:f K with
  | true =>
   rw[h]at g;have r:G (idxV f a=b):=V (tJ z.o h o.o);have q:=V g;clear g h;go_wp2_with fail
   refine q.o.mono ?_;rintro t a3 ⟨rfl,j⟩;have p:=V (l.o.trans j);clear j m;go_wp2;go_ret
   exact⟨by rw[r.o];rfl,p.o⟩
  | false =>
   rw[h]at g;have T:G (∀(c:Nat) e,c<b+1->a[c]?=some e->f e=false):=V (λc e a8 v=>by
    by_cases a0:c=b
    .subst a0;rw[z.o]at v;obtain rfl:=Az2 v;exact h
    exact o.o c e H v)
   have q:=V g;clear g h;go_wp2_with fail
   refine q.o.mono ?_;rintro t a3 ⟨rfl,j⟩;have p:=V (l.o.trans j);clear j m;go_wp2;go_roundw
   .exact⟨b+1,H,GN,T.o,p.o⟩
   simp[intOf];omega
 obtain rfl:b=a.length:=H
 have r:G (idxV f a=-1):=V (qW o.o);go_wp2;go_ret
 exact⟨by rw[r.o];rfl,l.o⟩
theorem pi {k:Type}{e:Rp Str k}(p:Good e) {l:Nat->Prop}(c:FuncId) (j:Array Value) (d:k->Bool) (a:List k) (f:Option Addr) (g:Nat) (b:World) (y:∀m b,(callFunc c m).run prog b=.ok (.enter c m) b) (o:zL strE e b l (f,a.length,g) a) (r:jA strE bJ e l c j d b) (z:a.length<=1000000000) :
  Calls prog 36 #[.slice f a.length g,.func (.func c) #[] j] b λn A=>n=.returned (.bool (a.any d))/\Cf b A:=by
 obtain⟨u,w,x⟩:=rZ o r p;clear o r p;rcases sG d a with ⟨B,E,-,-,h,-,i⟩|⟨h,-,i⟩
 all_goals
  have t:=V h;have v:=V i;clear h i;go_enter func36,ntmps36
  go_wp2_with fail
  refine (yy x.o c j d a f g _ y u.o w.o z).mono ?_;rintro n C ⟨rfl,q⟩;rw[t.o];have s:=V q;clear q;go_wp2;go_ret
  exact⟨by rw[v.o];rfl,s.o⟩
theorem yz {x:Type}{s:Rp (Int×Int) x}(L:Good s) {A:Nat->Prop}(i:FuncId) (S:Array Value) (f:x->Bool) (a:List x) (B:Option Addr) (E:Nat) (d:World) (a6:∀C d,(callFunc i C).run prog d=.ok (.enter i C) d) (n:zL rngE s d A (B,a.length,E) a) (P:jA rngE ib s A i S f d) (aB:a.length<=1000000000) :
  Calls prog 130 #[.slice B a.length E,.func (.func i) #[] S] d λt a2=>t=.returned (.int .i64 (idxV f a))/\Cf d a2:=by
 obtain⟨U,W,X⟩:=rZ n P L;clear n P L;go_enter func130,ntmps130
 go_wp2
 go_loopw [8] (λw wr=>∃b:Nat,b<=a.length/\w=.int .i64 b/\(∀(c:Nat) e,c<b->a[c]?=some e->f e=false)/\Cf d wr) (λw _=>a.length-(intOf w).toNat)
 .exact⟨0,H,D,λc e n=>absurd n (Ax1 _),cR⟩
 obtain⟨b,a9,rfl,N,u⟩:=hrel;obtain⟨o,l,y⟩:=rZ N u ((zL.good X.o).chg U.o u iF);clear N u;by_cases a1:b<a.length
 .have a5:=rO b a.length
  obtain⟨a4,K,a7,aD,R,Q,rfl,-,-,O,k⟩:=y.o.get2 (f:=dp) D a1 D;have z:=V R;have g:=W.o a4 K wr Q O l.o;have Z:=k;clear R Q O y
  first|(have m:=k _ D)|(obtain⟨m,F⟩:=k _ _ D)|(obtain⟨m,F,Y⟩:=k _ _ _ D)
  clear k Z
  try unfold slV at F
  try unfold slV at Y
  cases h:f K with
  | true =>
   rw[h]at g;have r:G (idxV f a=b):=V (tJ z.o h o.o);have q:=V g;clear g h;go_wp2_with fail
   refine q.o.mono ?_;rintro t a3 ⟨rfl,j⟩;have p:=V (l.o.trans j);clear j m;go_wp2;go_ret
   exact⟨by rw[r.o];rfl,p.o⟩
  | false =>
   rw[h]at g;have T:G (∀(c:Nat) e,c<b+1->a[c]?=some e->f e=false):=V (λc e a8 v=>by
    by_cases a0:c=b
    .subst a0;rw[z.o]at v;obtain rfl:=Az2 v;exact h
    exact o.o c e H v)
   have q:=V g;clear g h;go_wp2_with fail
   refine q.o.mono ?_;rintro t a3 ⟨rfl,j⟩;have p:=V (l.o.trans j);clear j m;go_wp2;go_roundw
   .exact⟨b+1,H,GN,T.o,p.o⟩
   simp[intOf];omega
 obtain rfl:b=a.length:=H
 have r:G (idxV f a=-1):=V (qW o.o);go_wp2;go_ret
 exact⟨by rw[r.o];rfl,l.o⟩
theorem za {k:Type}{e:Rp (Int×Int) k}(p:Good e) {l:Nat->Prop}(c:FuncId) (j:Array Value) (d:k->Bool) (a:List k) (f:Option Addr) (g:Nat) (b:World) (y:∀m b,(callFunc c m).run prog b=.ok (.enter c m) b) (o:zL rngE e b l (f,a.length,g) a) (r:jA rngE ib e l c j d b) (z:a.length<=1000000000) :
  Calls prog 85 #[.slice f a.length g,.func (.func c) #[] j] b λn A=>n=.returned (.bool (a.any d))/\Cf b A:=by
 obtain⟨u,w,x⟩:=rZ o r p;clear o r p;rcases sG d a with ⟨B,E,-,-,h,-,i⟩|⟨h,-,i⟩
 all_goals
  have t:=V h;have v:=V i;clear h i;go_enter func85,ntmps85
  go_wp2_with fail
  refine (yz x.o c j d a f g _ y u.o w.o z).mono ?_;rintro n C ⟨rfl,q⟩;rw[t.o];have s:=V q;clear q;go_wp2;go_ret
  exact⟨by rw[v.o];rfl,s.o⟩
theorem zb {x:Type}{s:Rp sU x}(L:Good s) {A:Nat->Prop}(i:FuncId) (S:Array Value) (f:x->Bool) (a:List x) (B:Option Addr) (E:Nat) (d:World) (a6:∀C d,(callFunc i C).run prog d=.ok (.enter i C) d) (n:zL nY s d A (B,a.length,E) a) (P:jA nY nW s A i S f d) (aB:a.length<=1000000000) :
  Calls prog 98 #[.slice B a.length E,.func (.func i) #[] S] d λt a2=>t=.returned (.int .i64 (idxV f a))/\Cf d a2:=by
 obtain⟨U,W,X⟩:=rZ n P L;clear n P L;go_enter func98,ntmps98
 go_wp2
 go_loopw [8] (λw wr=>∃b:Nat,b<=a.length/\w=.int .i64 b/\(∀(c:Nat) e,c<b->a[c]?=some e->f e=false)/\Cf d wr) (λw _=>a.length-(intOf w).toNat)
 .exact⟨0,H,D,λc e n=>absurd n (Ax1 _),cR⟩
 obtain⟨b,a9,rfl,N,u⟩:=hrel;obtain⟨o,l,y⟩:=rZ N u ((zL.good X.o).chg U.o u iF);clear N u;by_cases a1:b<a.length
 .have a5:=rO b a.length
  obtain⟨a4,K,a7,aD,R,Q,rfl,-,-,O,k⟩:=y.o.get3 (f:=bz) D a1 D;have z:=V R;have g:=W.o a4 K wr Q O l.o;have Z:=k;clear R Q O y
  first|(have m:=k _ D)|(obtain⟨m,F⟩:=k _ _ D)|(obtain⟨m,F,Y⟩:=k _ _ _ D)
  clear k Z
  try unfold slV at F
  try unfold slV at Y
  cases h:f K with
  | true =>
   rw[h]at g;have r:G (idxV f a=b):=V (tJ z.o h o.o);have q:=V g;clear g h;go_wp2_with fail
   refine q.o.mono ?_;rintro t a3 ⟨rfl,j⟩;have p:=V (l.o.trans j);clear j m;go_wp2;go_ret
   exact⟨by rw[r.o];rfl,p.o⟩
  | false =>
   rw[h]at g;have T:G (∀(c:Nat) e,c<b+1->a[c]?=some e->f e=false):=V (λc e a8 v=>by
    by_cases a0:c=b
    .subst a0;rw[z.o]at v;obtain rfl:=Az2 v;exact h
    exact o.o c e H v)
   have q:=V g;clear g h;go_wp2_with fail
   refine q.o.mono ?_;rintro t a3 ⟨rfl,j⟩;have p:=V (l.o.trans j);clear j m;go_wp2;go_roundw
   .exact⟨b+1,H,GN,T.o,p.o⟩
   simp[intOf];omega
 obtain rfl:b=a.length:=H
 have r:G (idxV f a=-1):=V (qW o.o);go_wp2;go_ret
 exact⟨by rw[r.o];rfl,l.o⟩
theorem aC {k:Type}{e:Rp sU k}(p:Good e) {l:Nat->Prop}(c:FuncId) (j:Array Value) (d:k->Bool) (a:List k) (f:Option Addr) (g:Nat) (b:World) (y:∀m b,(callFunc c m).run prog b=.ok (.enter c m) b) (o:zL nY e b l (f,a.length,g) a) (r:jA nY nW e l c j d b) (z:a.length<=1000000000) :
  Calls prog 42 #[.slice f a.length g,.func (.func c) #[] j] b λn A=>n=.returned (.bool (a.any d))/\Cf b A:=by
 obtain⟨u,w,x⟩:=rZ o r p;clear o r p;rcases sG d a with ⟨B,E,-,-,h,-,i⟩|⟨h,-,i⟩
 all_goals
  have t:=V h;have v:=V i;clear h i;go_enter func42,ntmps42
  go_wp2_with fail
  refine (zb x.o c j d a f g _ y u.o w.o z).mono ?_;rintro n C ⟨rfl,q⟩;rw[t.o];have s:=V q;clear q;go_wp2;go_ret
  exact⟨by rw[v.o];rfl,s.o⟩
theorem zd {x:Type}{s:Rp (Int×Sl×Sl) x}(L:Good s) {A:Nat->Prop}(i:FuncId) (S:Array Value) (f:x->Bool) (a:List x) (B:Option Addr) (E:Nat) (d:World) (a6:∀C d,(callFunc i C).run prog d=.ok (.enter i C) d) (n:zL stE s d A (B,a.length,E) a) (P:jA stE aq s A i S f d) (aB:a.length<=1000000000) :
  Calls prog 97 #[.slice B a.length E,.func (.func i) #[] S] d λt a2=>t=.returned (.int .i64 (idxV f a))/\Cf d a2:=by
 obtain⟨U,W,X⟩:=rZ n P L;clear n P L;go_enter func97,ntmps97
 go_wp2
 go_loopw [8] (λw wr=>∃b:Nat,b<=a.length/\w=.int .i64 b/\(∀(c:Nat) e,c<b->a[c]?=some e->f e=false)/\Cf d wr) (λw _=>a.length-(intOf w).toNat)
 .exact⟨0,H,D,λc e n=>absurd n (Ax1 _),cR⟩
 obtain⟨b,a9,rfl,N,u⟩:=hrel;obtain⟨o,l,y⟩:=rZ N u ((zL.good X.o).chg U.o u iF);clear N u;by_cases a1:b<a.length
 .have a5:=rO b a.length
  obtain⟨a4,K,a7,aD,R,Q,rfl,-,-,O,k⟩:=y.o.get3 (f:=hJ) D a1 D;have z:=V R;have g:=W.o a4 K wr Q O l.o;have Z:=k;clear R Q O y
  first|(have m:=k _ D)|(obtain⟨m,F⟩:=k _ _ D)|(obtain⟨m,F,Y⟩:=k _ _ _ D)
  clear k Z
  try unfold slV at F
  try unfold slV at Y
  cases h:f K with
  | true =>
   rw[h]at g;have r:G (idxV f a=b):=V (tJ z.o h o.o);have q:=V g;clear g h;go_wp2_with fail
   refine q.o.mono ?_;rintro t a3 ⟨rfl,j⟩;have p:=V (l.o.trans j);clear j m;go_wp2;go_ret
   exact⟨by rw[r.o];rfl,p.o⟩
  | false =>
   rw[h]at g;have T:G (∀(c:Nat) e,c<b+1->a[c]?=some e->f e=false):=V (λc e a8 v=>by
    by_cases a0:c=b
    .subst a0;rw[z.o]at v;obtain rfl:=Az2 v;exact h
    exact o.o c e H v)
   have q:=V g;clear g h;go_wp2_with fail
   refine q.o.mono ?_;rintro t a3 ⟨rfl,j⟩;have p:=V (l.o.trans j);clear j m;go_wp2;go_roundw
   .exact⟨b+1,H,GN,T.o,p.o⟩
   simp[intOf];omega
 obtain rfl:b=a.length:=H
 have r:G (idxV f a=-1):=V (qW o.o);go_wp2;go_ret
 exact⟨by rw[r.o];rfl,l.o⟩
theorem ze {k:Type}{e:Rp (Int×Sl×Sl) k}(p:Good e) {l:Nat->Prop}(c:FuncId) (j:Array Value) (d:k->Bool) (a:List k) (f:Option Addr) (g:Nat) (b:World) (y:∀m b,(callFunc c m).run prog b=.ok (.enter c m) b) (o:zL stE e b l (f,a.length,g) a) (r:jA stE aq e l c j d b) (z:a.length<=1000000000) :
  Calls prog 40 #[.slice f a.length g,.func (.func c) #[] j] b λn A=>n=.returned (.bool (a.any d))/\Cf b A:=by
 obtain⟨u,w,x⟩:=rZ o r p;clear o r p;rcases sG d a with ⟨B,E,-,-,h,-,i⟩|⟨h,-,i⟩
 all_goals
  have t:=V h;have v:=V i;clear h i;go_enter func40,ntmps40
  go_wp2_with fail
  refine (zd x.o c j d a f g _ y u.o w.o z).mono ?_;rintro n C ⟨rfl,q⟩;rw[t.o];have s:=V q;clear q;go_wp2;go_ret
  exact⟨by rw[v.o];rfl,s.o⟩
theorem zf {x:Type}{s:Rp (Int×Sl×Sl) x}(L:Good s) {A:Nat->Prop}(i:FuncId) (S:Array Value) (f:x->Bool) (a:List x) (B:Option Addr) (E:Nat) (d:World) (a6:∀C d,(callFunc i C).run prog d=.ok (.enter i C) d) (n:zL lsE s d A (B,a.length,E) a) (P:jA lsE cx s A i S f d) (aB:a.length<=1000000000) :
  Calls prog 137 #[.slice B a.length E,.func (.func i) #[] S] d λt a2=>t=.returned (.int .i64 (idxV f a))/\Cf d a2:=by
 obtain⟨U,W,X⟩:=rZ n P L;clear n P L;go_enter func137,ntmps137
 go_wp2
 go_loopw [8] (λw wr=>∃b:Nat,b<=a.length/\w=.int .i64 b/\(∀(c:Nat) e,c<b->a[c]?=some e->f e=false)/\Cf d wr) (λw _=>a.length-(intOf w).toNat)
 .exact⟨0,H,D,λc e n=>absurd n (Ax1 _),cR⟩
 obtain⟨b,a9,rfl,N,u⟩:=hrel;obtain⟨o,l,y⟩:=rZ N u ((zL.good X.o).chg U.o u iF);clear N u;by_cases a1:b<a.length
 .have a5:=rO b a.length
  obtain⟨a4,K,a7,aD,R,Q,rfl,-,-,O,k⟩:=y.o.get3 (f:=dq) D a1 D;have z:=V R;have g:=W.o a4 K wr Q O l.o;have Z:=k;clear R Q O y
  first|(have m:=k _ D)|(obtain⟨m,F⟩:=k _ _ D)|(obtain⟨m,F,Y⟩:=k _ _ _ D)
  clear k Z
  try unfold slV at F
  try unfold slV at Y
  cases h:f K with
  | true =>
   rw[h]at g;have r:G (idxV f a=b):=V (tJ z.o h o.o);have q:=V g;clear g h;go_wp2_with fail
   refine q.o.mono ?_;rintro t a3 ⟨rfl,j⟩;have p:=V (l.o.trans j);clear j m;go_wp2;go_ret
   exact⟨by rw[r.o];rfl,p.o⟩
  | false =>
   rw[h]at g;have T:G (∀(c:Nat) e,c<b+1->a[c]?=some e->f e=false):=V (λc e a8 v=>by
    by_cases a0:c=b
    .subst a0;rw[z.o]at v;obtain rfl:=Az2 v;exact h
    exact o.o c e H v)
   have q:=V g;clear g h;go_wp2_with fail
   refine q.o.mono ?_;rintro t a3 ⟨rfl,j⟩;have p:=V (l.o.trans j);clear j m;go_wp2;go_roundw
   .exact⟨b+1,H,GN,T.o,p.o⟩
   simp[intOf];omega
 obtain rfl:b=a.length:=H
 have r:G (idxV f a=-1):=V (qW o.o);go_wp2;go_ret
 exact⟨by rw[r.o];rfl,l.o⟩
theorem zg {k:Type}{e:Rp (Int×Sl×Sl) k}(p:Good e) {l:Nat->Prop}(c:FuncId) (j:Array Value) (d:k->Bool) (a:List k) (f:Option Addr) (g:Nat) (b:World) (y:∀m b,(callFunc c m).run prog b=.ok (.enter c m) b) (o:zL lsE e b l (f,a.length,g) a) (r:jA lsE cx e l c j d b) (z:a.length<=1000000000) :
  Calls prog 94 #[.slice f a.length g,.func (.func c) #[] j] b λn A=>n=.returned (.bool (a.any d))/\Cf b A:=by
 obtain⟨u,w,x⟩:=rZ o r p;clear o r p;rcases sG d a with ⟨B,E,-,-,h,-,i⟩|⟨h,-,i⟩
 all_goals
  have t:=V h;have v:=V i;clear h i;go_enter func94,ntmps94
  go_wp2_with fail
  refine (zf x.o c j d a f g _ y u.o w.o z).mono ?_;rintro n C ⟨rfl,q⟩;rw[t.o];have s:=V q;clear q;go_wp2;go_ret
  exact⟨by rw[v.o];rfl,s.o⟩
def vG:List Int->Int->Int->Bool
 | [],_,_=>true
 | a :: c,d,b=>if a<d\/b<=a then false else vG c (a+1) b
def aL (b:Int) (a:Int×Int):Bool:=decide (a.2<0) || decide (b<=a.2)
def bc (a:Int) (b c:Nat):Bool :=
 if a=0 then decide (b=0) else if a=1 then decide (b=1) && decide (c=0) else if a=3 then decide (1<b) && decide (c=0) else decide (a=2) && decide (b=0) && decide (c=0)
def qG (c b d:Int) (a:LsD):Bool :=
 !a.2.2.any (aL c) && vG a.2.1 0 b && vG (a.2.2.map (·.1)) (-1) d && bc a.1 a.2.1.length a.2.2.length
def xY (a:List LsD) (b d:Int):Bool:=decide (1<=a.length) && decide (a.length<=4096) && !a.any (λc=>!qG a.length b d c)
theorem pj (a:List Int) (d b:Int) (p:Option Addr) (q:Nat) (w:Nat->Prop) (k:World) (r:intE.InS k w (p,a.length,q) a) (O:a.length<=1000000000) (l:-1<=d/\d<=1000000001) (K:b<=1000000000) (L:-1000000000<=b) :
  Calls prog 138 #[.slice p a.length q,.int .i64 d,.int .i64 b] k λA C=>A=.returned (.bool (vG a d b))/\C=k:=by
 have u:=V r;clear r;go_enter func138,ntmps138
 go_wp2
 go_loopw [1,11] (λB o wr=>∃(c:Nat) (e:Int),c<=a.length/\o=.int .i64 c/\B=.int .i64 e/\-1<=e/\e<=1000000001/\vG (a.drop c) e b=vG a d b/\wr=k) (λ_ o _=>a.length-(intOf o).toNat)
 .exact⟨0,d,H,D,D,l.1,l.2,D,D⟩
 obtain⟨c,e,N,rfl,rfl,P,Q,s,rfl⟩:=hrel;have h:=V s;clear s l;by_cases m:c<a.length
 .have x:=rO c a.length
  obtain⟨f,F,R,n,rfl,E,S,T,-,-⟩:=u.o.getI m;have t:G (a.drop c=f :: a.drop (c+1)):=V (by
   rw[Av7 m];rw[Az4 m]at n;rw[Az2 n])
  rw[t.o]at h;clear n;by_cases i:f<e
  .have y:decide (f<e)=true:=decide_eq_true i
   have g:G (vG a d b=false):=V (by rw[<-h.o];simp[vG,i]);go_wp2;go_ret
   exact⟨by rw[g.o];rfl,D⟩
  have y:decide (f<e)=false:=decide_eq_false i
  by_cases j:b<=f
  .have z:decide (b<=f)=true:=decide_eq_true j
   have g:G (vG a d b=false):=V (by rw[<-h.o];simp[vG,j]);go_wp2;go_ret
   exact⟨by rw[g.o];rfl,D⟩
  have z:decide (b<=f)=false:=decide_eq_false j
  have v:G (vG (a.drop (c+1)) (f+1) b=vG a d b):=V (by rw[<-h.o];simp[vG,i,j]);go_wp2;go_roundw
  .exact⟨c+1,_,H,GN,D,H,H,v.o,by trivial⟩
  simp[intOf];omega
 obtain rfl:c=a.length:=H
 have x:=rP a.length;have g:G (vG a d b=true):=V (by rw[<-h.o,List.drop_length];rfl);go_wp2;go_ret
 exact⟨by rw[g.o];rfl,D⟩
theorem pk (a:U8 x):x=0\/x=1\/x=2\/x=3\/3<x:=by
 have:=a.1;omega
theorem zh (l:LsD) (x N:Option Addr) (y O:Nat) (d j k:Nat) (a3:Nat->Prop) (i:World) (bT:U8 l.1) (aR:intE.InS i a3 (x,l.2.1.length,y) l.2.1) (U:mN.InS i a3 (N,l.2.2.length,O) l.2.2) (bI:l.2.1.length<=1000000000) (bO:l.2.2.length<=1000000000)
  (d9:d<=1000000000) (bF:j<=1000000000) (dB:k<=1000000000) :
  Calls prog 96 #[.agg #[.int .u8 l.1,.slice x l.2.1.length y,.slice N l.2.2.length O],.int .i64 d,.int .i64 j,.int .i64 k] i λh d3=>h=.returned (.bool (qG d j k l))/\Cf i d3:=by
 obtain⟨c,b,a⟩:=l;simp only at bT aR U bI bO ⊢;have c8:=V aR;have cA:=V (zL.of U);have b6:G (∀a0,Cf (i.alloc (.cells #[.int .u8 c,.slice x b.length y,.slice N a.length O] 67)) a0->a0.cell? ⟨i.heap.size,0,none⟩=some (.int .u8 c)/\a0.cell? ⟨i.heap.size,1,none⟩=some (.slice x b.length y)/\a0.cell? ⟨i.heap.size,2,none⟩=some (.slice N a.length O)) :=
  V λa0 aV=>⟨aV.cellS sI iD,aV.cellS sI iD,aV.cellS sI iD⟩
 clear aR U;go_enter func96,ntmps96
 go_wp2_with (at_make;refine intE.wpList_make D _ _ _ D D _ _ _ _ a.length a.length D D D H H H ?_;intro Q u aK;obtain⟨a4,a5,a6⟩:=b6.o Q aK.o)
 clear a4 a5 a6;obtain⟨g,aB⟩:=rK (i.heap.size+1);have aI:G (g=i.heap.size+1):=V aB;have b3:G (Cf i Q):=V (((J.refl _ i).alloc _).trans aK.o);have b8:G (intE.Own Q g (.slice (some ⟨g,0,none⟩) a.length a.length) (List.replicate a.length 0)):=V (by
  have bX:=u.o;rw[show (i.alloc (.cells #[.int .u8 c,.slice x b.length y,.slice N a.length O] 67)).heap.size=g by rw[aB];simp]at bX;exact .inr ⟨g,List.replicate a.length 0,sI,Ay1 _,bX,Aw8 _,by simp[maxLen];omega⟩)
 rw[<-aB];clear aB u
 go_loopw [19] (λaZ wr=>∃(e:Nat) (L:List Int),e<=a.length/\aZ=.int .i64 e/\L.length=a.length/\(∀m,m<e->L[m]?=(a.map (·.1))[m]?)/\(∀(r:Nat) h,r<e->a[r]?=some h->aL d h=false)/\intE.Own wr g (.slice (some ⟨g,0,none⟩) a.length a.length) L/\J (·=g) Q wr) (λaZ _=>a.length-(intOf aZ).toNat)
 .exact⟨0,_,H,D,sI,λm aD=>absurd aD (Ax1 _),λr h X=>absurd X (Ax1 _),b8.o,cR⟩
 clear b8;obtain⟨e,L,dH,rfl,c0,bZ,bV,c1,P⟩:=hrel;have K:=V c0;have aO:=V bZ;have aM:=V bV;have T:=V c1;have c9:=V P;have n:G (Cf i wr):=V (b3.o.trans2 P (λa7 cT h=>by have:=aI.o;omega));have cB:G (wr.cell? ⟨i.heap.size,0,none⟩=some (.int .u8 c)/\wr.cell? ⟨i.heap.size,1,none⟩=some (.slice x b.length y)/\wr.cell? ⟨i.heap.size,2,none⟩=some (.slice N a.length O)):=V (by
  obtain⟨a4,a5,a6⟩:=b6.o Q aK.o;have aT:¬i.heap.size=g:=(by have:=aI.o;omega);exact⟨P.cellS a4 aT,P.cellS a5 aT,P.cellS a6 aT⟩)
 clear c0 bZ bV c1 P;by_cases aF:e<a.length
 .have cM:=rO e a.length
  obtain⟨c7,l,a7,dR,bM,cZ,rfl,-,dF,cX,bK⟩:=((zL.good eqR.good).chg cA.o n.o iF).get2 (f:=tY) D aF D;obtain rfl:c7=l:=cZ;obtain⟨bB,bD⟩:=bK _ _ D;obtain⟨v,C⟩:=c7;simp only at bB bD;have a1:=V bM;obtain⟨⟨c2,c3⟩,d0,d1⟩:=cX;simp only at c2 c3 d0 d1;have cI:G (I.Byte v):=V ⟨c2,c3⟩;obtain⟨s,Z⟩:=rK (wr.alloc (.cells #[.int .i64 v,.int .i64 C] 149));have b4:G (Cf wr s):=V (by rw[Z];exact rT);have b9:=V (T.o.chg b4.o (λ_ _ _ aP=>aP));obtain⟨d8,e4,-,-,W,-,d6,d7,-⟩:=rU b9.o (k:=e) (by rw[K.o];exact aF);injection W with W;injection W with W;subst W;have cF:=V (gk b9.o (k:=e) (by rw[K.o];exact aF) cI.o);have aY:=zA s g e (.int .i64 v);have e0:(s.setCell ⟨g,e,none⟩ (.int .i64 v)).cell? ⟨wr.heap.size,1,none⟩=some (.int .i64 C):=by
   refine aY.cellS (p:=⟨wr.heap.size,1,none⟩) ?_ (by have:=T.o.blk (g:=g) D;show ¬wr.heap.size=g;omega);rw[Z,Az5];rfl
  have b7:G (J (·=g) Q (s.setCell ⟨g,e,none⟩ (.int .i64 v))):=V ((c9.o.trans b4.o.any).trans aY);have cK:G (∀m,m<e+1->(L.set e v)[m]?=(a.map (·.1))[m]?):=V (λm aD=>by
   by_cases bP:m=e
   .subst bP
    rw[Aw7 (by rw[K.o];exact aF),List.getElem?_map,a1.o];rfl
   rw[Av5 (Ne.symm bP)]
   exact aO.o m H)
  have dD:g<wr.heap.size:=(T.o.blk (g:=g) D).2;have cH:G (s.cell? ⟨wr.heap.size,0,none⟩=some (.int .i64 v)):=V (by rw[Z,Az5];rfl);clear bM bK aY;go_upto_region 5 with fail
  rw[<-Z];clear Z bB bD;have e1:s.cell? ⟨wr.heap.size,0,none⟩=some (.int .i64 v):=cH.o;have b5:G (Cf i (s.setCell ⟨g,e,none⟩ (.int .i64 v))):=V (b3.o.trans2 b7.o (λa7 cT h=>by have:=aI.o;omega));have dI:(d:Int)<=1000000000:=H;by_cases a8:C<0
  .have cO:decide (C<0)=true:=decide_eq_true a8
   have o:G (qG d j k (c,b,a)=false):=V (by
    have:a.any (aL d)=true:=Au8.2 ⟨_,Az1 a1.o,by simp[aL,a8]⟩;simp[qG,this])
   go_wp2;go_ret
   exact⟨by rw[o.o];rfl,b5.o⟩
  have cO:decide (C<0)=false:=decide_eq_false a8
  by_cases a9:(d:Int)<=C
  .have cP:decide ((d:Int)<=C)=true:=decide_eq_true a9
   have o:G (qG d j k (c,b,a)=false):=V (by
    have:a.any (aL d)=true:=Au8.2 ⟨_,Az1 a1.o,by simp[aL,a9]⟩;simp[qG,this])
   go_wp2;go_ret
   exact⟨by rw[o.o];rfl,b5.o⟩
  have cP:decide ((d:Int)<=C)=false:=decide_eq_false a9
  have cD:G (∀(r:Nat) h,r<e+1->a[r]?=some h->aL d h=false):=V (λr h X aX=>by
   by_cases cV:r=e
   .subst cV
    rw[a1.o]at aX;obtain rfl:=Az2 aX;simp[aL,a8,a9]
   exact aM.o r h H aX)
  go_wp2;go_roundw
  .exact⟨e+1,_,H,GN,by rw[Av9];exact K.o,cK.o,cD.o,cF.o,b7.o⟩
  simp[intOf];omega
 obtain rfl:e=a.length:=H
 have cM:=rP a.length;have bH:L=a.map (·.1):=List.ext_getElem? (λm=>by
  by_cases aD:m<a.length
  .exact aO.o m aD
  rw[List.getElem?_eq_none (by rw[K.o];omega),List.getElem?_eq_none (by rw[Ax4];omega)])
 have b0:G (a.any (aL d)=false):=V (by
  rw[Aw4];intro h U;obtain⟨r,X⟩:=Aw1 U;rw[aM.o r h (Az0.1 X).1 X];exact Au6)
 have E:G (qG d j k (c,b,a)=(vG b 0 j && vG (a.map (·.1)) (-1) k && bc c b.length a.length)):=V (by simp[qG,b0.o]);have b2:G (intE.InS wr (λ_=>True) (some ⟨g,0,none⟩,(a.map (·.1)).length,a.length) (a.map (·.1))):=V (by
  rw[<-bH];have aP:=(T.o.in' (c':=a.length) (Ay1 _));have bF:=(Elt.In.inS aP).mono (S':=λ_=>True) (λ_ _ _=>trivial);rw[K.o];exact bF)
 have b1:G (intE.InS wr a3 (x,b.length,y) b):=V (c8.o.chg n.o iF);obtain⟨a4,a5,a6⟩:=cB.o;clear bH aO aM T;have A:=pj b 0 j x y a3 wr b1.o bI ⟨H,H⟩ H H;have B:=pj (a.map (·.1)) (-1) k (some ⟨g,0,none⟩) a.length (λ_=>True) wr b2.o (by rw[Ax4];exact bO) ⟨H,H⟩ H H;rw[Ax4]at B;cases Y:vG b 0 j with
 | false =>
  rw[Y]at A E;have o:G (qG d j k (c,b,a)=false):=V (by rw[E.o];rfl);have u:=V A;clear A B Y;go_wp2_with fail
  refine u.o.mono ?_;rintro h s ⟨rfl,rfl⟩;go_wp2;go_ret
  exact⟨by rw[o.o];rfl,n.o⟩
 | true =>
  rw[Y]at A E;cases aH:vG (a.map (·.1)) (-1) k with
  | false =>
   rw[aH]at B E;have o:G (qG d j k (c,b,a)=false):=V (by rw[E.o];rfl);have u:=V A;have a2:=V B;clear A B Y aH;go_wp2_with fail
   refine u.o.mono ?_;rintro h s ⟨rfl,rfl⟩;go_wp2_with fail
   refine a2.o.mono ?_;rintro h d4 ⟨rfl,rfl⟩;go_wp2;go_ret
   exact⟨by rw[o.o];rfl,n.o⟩
  | true =>
   rw[aH]at B E;have o:G (qG d j k (c,b,a)=bc c b.length a.length):=V (by rw[E.o];rfl);have u:=V A;have a2:=V B;clear A B Y aH;go_wp2_with fail
   refine u.o.mono ?_;rintro h s ⟨rfl,rfl⟩;go_wp2_with fail
   refine a2.o.mono ?_;rintro h d4 ⟨rfl,rfl⟩;have d5:=n;clear u a2 b0 b2 b1;have cS:∃w F R t:Bool,(((b.length:Int) == 0)=w/\(b.length == 0)=w/\decide (b.length=0)=w)/\(((b.length:Int) == 1)=F/\(b.length == 1)=F/\decide (b.length=1)=F)/\(decide ((1:Int)<(b.length:Int))=R/\decide (1<b.length)=R)/\(((a.length:Int) == 0)=t/\(a.length == 0)=t/\decide (a.length=0)=t):=by
    refine⟨_,_,_,_,⟨?_,?_,D⟩,⟨?_,?_,D⟩,⟨?_,D⟩,⟨?_,?_,D⟩⟩
    all_goals first|rfl|(rw[Au7];simp <;> omega)
   obtain⟨w,F,R,t,⟨dT,dU,c4⟩,⟨dV,dX,c5⟩,⟨dZ,d2⟩,⟨e2,e3,c6⟩⟩:=cS;have S:G (bc c b.length a.length=if c=0 then w else if c=1 then F && t else if c=3 then R && t else decide (c=2) && w && t):=V (by rw[bc,c4,c5,d2,c6]);clear c4 c5 c6;rcases pk bT with z|z|z|z|z
   .subst z
    have q:G (qG d j k (0,b,a)=w):=V (by rw[o.o,S.o];rfl);go_wp2;go_ret
    exact⟨by rw[q.o];rfl,n.o⟩
   .subst z
    have q:G (qG d j k (1,b,a)=(F && t)):=V (by rw[o.o,S.o];rfl);cases F
    .go_wp2
     go_ret
     exact⟨by rw[q.o];rfl,n.o⟩
    go_wp2
    go_ret
    exact⟨by rw[q.o];rfl,n.o⟩
   .subst z
    have q:G (qG d j k (2,b,a)=(w && t)):=V (by rw[o.o,S.o];rfl);cases w
    .go_wp2
     go_ret
     exact⟨by rw[q.o];rfl,n.o⟩
    go_wp2
    go_ret
    exact⟨by rw[q.o];rfl,n.o⟩
   .subst z
    have q:G (qG d j k (3,b,a)=(R && t)):=V (by rw[o.o,S.o];rfl);cases R
    .go_wp2
     go_ret
     exact⟨by rw[q.o];rfl,n.o⟩
    go_wp2
    go_ret
    exact⟨by rw[q.o];rfl,n.o⟩
   have q:G (qG d j k (c,b,a)=false):=V (by rw[o.o,S.o,if_neg H,if_neg H,if_neg H,decide_eq_false (show ¬c=2 by omega)];rfl)
   have dK:(c == 0)=false:=sO;have dM:(c == 1)=false:=sO;have dO:(c == 2)=false:=sO;have dP:(c == 3)=false:=sO;go_wp2;go_ret
   exact⟨by rw[q.o];rfl,n.o⟩
def bR {β δ:Type}(R:Rp β δ) (P:δ->Prop):Rp β δ:=λw S x d=>R w S x d/\P d
theorem bR.good {h e:Type}{c:Rp h e}{f:e->Prop}(d:Good c):Good (bR c f):=⟨λa g b=>⟨d.chg a.1 g b,a.2⟩,λa b=>⟨d.mono a.1 b,a.2⟩⟩
theorem zL.bnd {i c:Type}{d:Elt i}{f:Rp i c}{e:c->Prop}{h:Sl}{b:List c}(k:zL d f w S h b) (o:∀a∈b,e a):zL d (bR f e) w S h b:=by
 obtain⟨j,l,m,n⟩:=k;exact⟨j,l,m,λq r a p g=>⟨n q r a p g,o a (Az1 g)⟩⟩
theorem uE (b:Value) (c:TypeId) (d:a=w.heap.size):(w.alloc (.cells #[b] c)).cell? ⟨a,0,none⟩=some b:=by
 rw[d,Az5];rfl
theorem yL {b:Addr}(a:Obj) (c:w.cell? b=some A):(w.alloc a).cell? b=some A:=((FR w).alloc a).cellS c iD
def lsB (d:LsD):Prop:=d.2.1.length<=1000000000/\d.2.2.length<=1000000000
theorem zi (p o q i h j:Nat) (v:Nat->Prop) (m:World) (O:i<=1000000000) (P:h<=1000000000) (Q:j<=1000000000) (x:m.cell? ⟨p,0,none⟩=some (.int .i64 i)) (w:m.cell? ⟨o,0,none⟩=some (.int .i64 h)) (y:m.cell? ⟨q,0,none⟩=some (.int .i64 j)) :
  jA lsE cx (bR lsR lsB) v 95 #[.pointer (some ⟨p,0,none⟩),.pointer (some ⟨o,0,none⟩),.pointer (some ⟨q,0,none⟩)] (λR=>!qG i h j R) m:=by
 intro S N u ⟨⟨E,C,k,l⟩,z,A⟩ X s;obtain⟨Y,a,b⟩:=N;obtain⟨c,⟨d,T,e⟩,⟨f,W,g⟩⟩:=S;simp only at E C k l z A;obtain⟨rfl,-⟩:=k.len;obtain⟨rfl,-⟩:=l.len;subst E;have t:=(FR u).alloc (.cells #[.int .u8 c,.slice d a.length e,.slice f b.length g] 67);have n:=V (zh (c,a,b) d f e g i h j v _ C (k.chg t iF) (l.chg t iF) z A O P Q);have a0:=yL (.cells #[.int .u8 c,.slice d a.length e,.slice f b.length g] 67) (s.cellS x iD);have Z:=yL (.cells #[.int .u8 c,.slice d a.length e,.slice f b.length g] 67) (s.cellS w iD);have a1:=yL (.cells #[.int .u8 c,.slice d a.length e,.slice f b.length g] 67) (s.cellS y iD);clear x w y t k l;show Calls prog 95 #[.agg #[.int .u8 c,.slice d a.length e,.slice f b.length g],.pointer (some ⟨p,0,none⟩),.pointer (some ⟨o,0,none⟩),.pointer (some ⟨q,0,none⟩)] u _;obtain⟨L,r⟩:=rM (qG i h j (c,a,b));rw[r]at n;have F:=V r;clear r;simp only at n;go_enter func95,ntmps95
 go_wp2_with fail
 refine n.o.mono ?_;rintro U a2 ⟨rfl,B⟩;have K:=V (((J.refl _ u).alloc _).trans B);clear B;go_wp2;go_ret
 exact⟨by show Ending.returned (.bool (!L))=_;rw[<-F.o],K.o⟩
theorem zj (a:List LsD) (h:Option Addr) (i c d:Nat) (m:Nat->Prop) (b:World) (o:gG b m (h,a.length,i) a) (r:a.length<=1000000000) (j:∀z∈a,lsB z) (K:c<=1000000000) (L:d<=1000000000) :
  Calls prog 39 #[.agg #[.slice h a.length i],.int .i64 c,.int .i64 d] b λn N=>n=.returned (.bool (xY a c d))/\Cf b N:=by
 have y:=V (zL.bnd o j);clear o j;have P:=mkfn;by_cases p:a.length<1
 .have A:decide (a.length<1)=true:=decide_eq_true p
  have B:decide ((a.length:Int)<1)=true:=decide_eq_true H;have g:G (xY a c d=false):=V (by simp only[xY,decide_eq_false (show ¬1<=a.length by omega),Aw3]);go_enter func39,ntmps39
  go_wp2;go_ret
  exact⟨by rw[g.o];rfl,((((J.refl _ b).alloc _).alloc _).alloc _).alloc _⟩
 have A:decide (a.length<1)=false:=decide_eq_false p
 have B:decide ((a.length:Int)<1)=false:=decide_eq_false H;by_cases q:4096<a.length
 .have C:decide (4096<a.length)=true:=decide_eq_true q
  have E:decide ((4096:Int)<(a.length:Int))=true:=decide_eq_true H;have g:G (xY a c d=false):=V (by simp only[xY,decide_eq_false (show ¬a.length<=4096 by omega),Av2,Aw3]);go_enter func39,ntmps39
  go_wp2;go_ret
  exact⟨by rw[g.o];rfl,((((J.refl _ b).alloc _).alloc _).alloc _).alloc _⟩
 have C:decide (4096<a.length)=false:=decide_eq_false q
 have E:decide ((4096:Int)<(a.length:Int))=false:=decide_eq_false H;have g:G (xY a c d=!a.any (λk=>!qG a.length c d k)):=V (by simp only[xY,decide_eq_true (show 1<=a.length by omega),decide_eq_true (show a.length<=4096 by omega),Au1]);have F:=enters_of func95 M D;go_enter func39,ntmps39
 go_upto_region 4 with fail
 obtain⟨f,e⟩:=rK ((((b.alloc (.cells #[.slice h a.length i] 63)).alloc (.cells #[.int .i64 c] 3)).alloc (.cells #[.int .i64 d] 3)).alloc (.cells #[.int .i64 a.length] 3));have l:G (Cf b f):=V (by rw[e];exact ((((J.refl _ b).alloc _).alloc _).alloc _).alloc _);have Q:f.cell? ⟨b.heap.size,0,none⟩=some (.slice h a.length i):=(by rw[e];exact yL _ (yL _ (yL _ (uE _ _ D))));have t:f.cell? ⟨b.heap.size+1,0,none⟩=some (.int .i64 c):=(by rw[e];exact yL _ (yL _ (uE _ _ sI)));have u:f.cell? ⟨b.heap.size+1+1,0,none⟩=some (.int .i64 d):=(by rw[e];exact yL _ (uE _ _ sI));have v:f.cell? ⟨b.heap.size+1+1+1,0,none⟩=some (.int .i64 a.length):=(by rw[e];exact uE _ _ sI);rw[<-e];clear e;have w:=V (zg (bR.good lsR.good) 95 _ _ a h i f F ((zL.good (bR.good lsR.good)).chg y.o l.o iF) (zi (b.heap.size+1+1+1) (b.heap.size+1) (b.heap.size+1+1) a.length c d m f r K L v t u) r);clear t u v;go_wp2_with fail
 refine w.o.mono ?_;rintro n R ⟨rfl,s⟩;have x:=V (l.o.trans s);clear s;obtain⟨O,j⟩:=rM (a.any (λk=>!qG a.length c d k));rw[j]at g ⊢;clear j;go_wp2;go_ret
 exact⟨by rw[g.o];rfl,x.o⟩
def xW (b:Nat) (a:Int):Bool:=decide (0<=a) && decide (a<b)
def ax (c b:Nat) (a:Int):Int:=if a=2 then c else if a=3 then b else 1
def vL (c d b:Nat) (a:sU):Bool:=decide (3<a.1) || decide (a.2.1<0) || (decide (a.1≠1) && decide (ax d b a.1<=a.2.1)) || !xW c a.2.2
def pE (e:sU):Bool:=!decide (e.1=0)
def gJ (b e d:Nat) (a:StD):Bool:=!a.2.1.any (vL b e d) && (decide (a.2.2.length=0) || (decide (a.2.2.length=a.2.1.length) && decide (2<=a.2.2.length) && !a.2.1.any pE && !a.2.2.any (λc=>!xW b c)))
theorem zk (a:Int) (g b:Nat) (i:Option Addr) (j:Nat) (e:World) (l:e.cell? ⟨g,0,none⟩=some (.slice i b j)) :
  Calls prog 87 #[.int .i64 a,.pointer (some ⟨g,0,none⟩)] e λh k=>h=.returned (.bool (xW b a))/\k=e:=by
 by_cases f:0<=a
 .have d:decide (0<=a)=true:=decide_eq_true f
  have c:G (xW b a=decide (a<b)):=V (by rw[xW,d,Au1]);go_enter func87,ntmps87
  go_wp2;go_ret
  exact⟨by rw[c.o];rfl,D⟩
 have d:decide (0<=a)=false:=decide_eq_false f
 have c:G (xW b a=false):=V (by rw[xW,d,Aw3]);go_enter func87,ntmps87
 go_wp2;go_ret
 exact⟨by rw[c.o];rfl,D⟩
theorem pl (a:Int) (g b:Nat) (i:Option Addr) (j:Nat) (e:World) (l:e.cell? ⟨g,0,none⟩=some (.slice i b j)) :
  Calls prog 133 #[.int .i64 a,.pointer (some ⟨g,0,none⟩)] e λh k=>h=.returned (.bool (xW b a))/\k=e:=by
 by_cases f:0<=a
 .have d:decide (0<=a)=true:=decide_eq_true f
  have c:G (xW b a=decide (a<b)):=V (by rw[xW,d,Au1]);go_enter func133,ntmps133
  go_wp2;go_ret
  exact⟨by rw[c.o];rfl,D⟩
 have d:decide (0<=a)=false:=decide_eq_false f
 have c:G (xW b a=false):=V (by rw[xW,d,Aw3]);go_enter func133,ntmps133
 go_wp2;go_ret
 exact⟨by rw[c.o];rfl,D⟩
theorem zm (d c a:Nat) (k:Option Addr) (l:Nat) (e:World) (j:e.cell? ⟨d,0,none⟩=some (.func (.func 87) #[] #[.pointer (some ⟨c,0,none⟩)])) (i:e.cell? ⟨c,0,none⟩=some (.slice k a l)) :
  ce 88 #[.pointer (some ⟨d,0,none⟩)] (λp=>!xW a p) e:=by
 intro f m t h;have s:=h.cellS j iD;have g:=V (zk f c a k l m (h.cellS i iD));have r:=enters_of func87 M D;clear j i;show Calls prog 88 #[.int .i64 f,.pointer (some ⟨d,0,none⟩)] m _;obtain⟨o,b⟩:=rM (xW a f);rw[b]at g;have n:=V b;clear b;go_enter func88,ntmps88
 go_wp2_with fail
 refine g.o.mono ?_;rintro q u ⟨rfl,rfl⟩;go_wp2;go_ret
 exact⟨by show Ending.returned (.bool (!o))=_;rw[<-n.o],cR⟩
theorem zn (d c a:Nat) (k:Option Addr) (l:Nat) (e:World) (j:e.cell? ⟨d,0,none⟩=some (.func (.func 133) #[] #[.pointer (some ⟨c,0,none⟩)])) (i:e.cell? ⟨c,0,none⟩=some (.slice k a l)) :
  ce 136 #[.pointer (some ⟨d,0,none⟩)] (λp=>!xW a p) e:=by
 intro f m t h;have s:=h.cellS j iD;have g:=V (pl f c a k l m (h.cellS i iD));have r:=enters_of func133 M D;clear j i;show Calls prog 136 #[.int .i64 f,.pointer (some ⟨d,0,none⟩)] m _;obtain⟨o,b⟩:=rM (xW a f);rw[b]at g;have n:=V b;clear b;go_enter func136,ntmps136
 go_wp2_with fail
 refine g.o.mono ?_;rintro q u ⟨rfl,rfl⟩;go_wp2;go_ret
 exact⟨by show Ending.returned (.bool (!o))=_;rw[<-n.o],cR⟩
def pJ (b:Nat) (a:Int):Bool:=decide (a<0) || decide ((b:Int)-1<=a)
theorem zo (e b:Nat) (j:Option Addr) (k:Nat) (h:World) (m:b<=1000000000) (g:h.cell? ⟨e,0,none⟩=some (.slice j b k)):ce 91 #[.pointer (some ⟨e,0,none⟩)] (pJ b) h:=by
 intro a l o i;have n:=i.cellS g iD;clear g;show Calls prog 91 #[.int .i64 a,.pointer (some ⟨e,0,none⟩)] l _;by_cases f:a<0
 .have d:decide (a<0)=true:=decide_eq_true f
  have c:G (pJ b a=true):=V (by rw[pJ,d,Bool.true_or]);go_enter func91,ntmps91
  go_wp2;go_ret
  exact⟨by rw[c.o];rfl,cR⟩
 have d:decide (a<0)=false:=decide_eq_false f
 have c:G (pJ b a=decide ((b:Int)-1<=a)):=V (by rw[pJ,d,Au9]);go_enter func91,ntmps91
 go_wp2;go_ret
 exact⟨by rw[c.o];rfl,cR⟩
theorem zp (a:sU) (b:World) (d:U8 a.1):Calls prog 134 #[nW a] b λe g=>e=.returned (.bool (decide (a.1=0)))/\Cf b g:=by
 obtain⟨c,h,f⟩:=a;show Calls prog 134 #[.agg #[.int .u8 c,.int .i64 h,.int .i64 f]] b _;simp only;have i:G ((c == 0)=decide (c=0)):=V D;clear d;go_enter func134,ntmps134
 go_wp2;go_ret
 exact⟨D,(J.refl _ b).alloc _⟩
theorem zq (g:Nat) (n:Nat->Prop) (k:World) (j:k.cell? ⟨g,0,none⟩=some (.func (.func 134) #[] #[])):jA nY nW eqR n 135 #[.pointer (some ⟨g,0,none⟩)] pE k:=by
 intro b p h t r q;obtain rfl:b=p:=t;have s:=yL (.cells #[.int .u8 b.1,.int .i64 b.2.1,.int .i64 b.2.2] 71) (q.cellS j iD);have v:=enters_of func134 M D;obtain⟨a,d,c⟩:=b;have e:=V (zp (a,d,c) (h.alloc (.cells #[.int .u8 a,.int .i64 d,.int .i64 c] 71)) r.1);clear j;show Calls prog 135 #[.agg #[.int .u8 a,.int .i64 d,.int .i64 c],.pointer (some ⟨g,0,none⟩)] h _;simp only at s e;obtain⟨o,f⟩:=rM (decide (a=0));rw[f]at e;have m:G (pE (a,d,c)=!o):=V (by rw[pE,f]);clear f;go_enter func135,ntmps135
 go_wp2_with fail
 refine e.o.mono ?_;rintro u w ⟨rfl,i⟩;have l:=V (((J.refl _ h).alloc _).trans i);clear i;go_wp2;go_ret
 exact⟨by rw[m.o];rfl,l.o⟩
theorem zG {w:World}{cs:Array Value}(c:TypeId) (d:a=w.heap.size) (e:cs[b]?=some A):(w.alloc (.cells cs c)).cell? ⟨a,b,none⟩=some A:=by
 rw[d,Az5];exact e
theorem zr (o:StD) (U Z:Option Addr) (W a0 d l k c1 c2 X aY bH aZ bI:Nat) (T aV bD aX bF:Option Addr) (aT:Nat->Prop) (j:World) (b0:nY.InS j aT (U,o.2.1.length,W) o.2.1) (a3:intE.InS j aT (Z,o.2.2.length,a0) o.2.2) (bP:o.2.1.length<=1000000000) (bZ:o.2.2.length<=1000000000) :
  Calls prog 92 #[.agg #[.int .i64 o.1,.slice U o.2.1.length W,.slice Z o.2.2.length a0],.agg #[.slice T d X,.slice aV l aY,.slice bD c2 bH,.slice aX k aZ,.slice bF c1 bI]] j λi cZ=>i=.returned (.bool (gJ d l k o))/\Cf j cZ:=by
 obtain⟨w,c,a⟩:=o;simp only at b0 a3 bP bZ ⊢;have b6:=V (zL.of b0);have c7:=V a3;clear b0 a3;have d8:=mkfn;have d2:=enters_of func133 M D;have cI:=enters_of func135 M D;have cK:=enters_of func136 M D;go_enter func92,ntmps92
 go_upto_region 2 with fail
 obtain⟨u,a4⟩:=rK (((j.alloc (.cells #[.int .i64 w,.slice U c.length W,.slice Z a.length a0] 74)).alloc (.cells #[.slice T d X,.slice aV l aY,.slice bD c2 bH,.slice aX k aZ,.slice bF c1 bI] 31)).alloc (.cells #[.func (.func 133) #[] #[.pointer (some ⟨j.heap.size+1,0,none⟩)]] 174));have c6:G (Cf j u):=V (by rw[a4];exact (((J.refl _ j).alloc _).alloc _).alloc _);have d0:G (u.heap.size=j.heap.size+3):=V (by rw[a4];simp);have s:G ((u.cell? ⟨j.heap.size,1,none⟩=some (.slice U c.length W)/\u.cell? ⟨j.heap.size,2,none⟩=some (.slice Z a.length a0))/\(u.cell? ⟨j.heap.size+1,0,none⟩=some (.slice T d X)/\u.cell? ⟨j.heap.size+1,1,none⟩=some (.slice aV l aY)/\u.cell? ⟨j.heap.size+1,3,none⟩=some (.slice aX k aZ))/\u.cell? ⟨j.heap.size+1+1,0,none⟩=some (.func (.func 133) #[] #[.pointer (some ⟨j.heap.size+1,0,none⟩)])):=V (by
  rw[a4];exact⟨⟨yL _ (yL _ (zG _ D D)),yL _ (yL _ (zG _ D D))⟩,⟨yL _ (zG _ sI D),yL _ (zG _ sI D),yL _ (zG _ sI D)⟩,zG _ sI D⟩)
 rw[<-a4];clear a4;have aM:=s.o.1.1;go_wp2;clear aM
 go_loopw [15] (λb5 wr=>∃p:Nat,p<=c.length/\b5=.int .i64 p/\(∀(t:Nat) i,t<p->c[t]?=some i->vL d l k i=false)/\Cf u wr) (λb5 _=>c.length-(intOf b5).toNat)
 .exact⟨0,H,D,λt i a1=>absurd a1 (Ax1 _),cR⟩
 obtain⟨p,d7,rfl,a2,b1⟩:=hrel;have b7:=V a2;have B:=V b1;have aP:G (Cf j wr):=V (c6.o.trans b1);clear a2 b1;by_cases cO:p<c.length
 .have cH:=rO p c.length
  obtain⟨c3,o,d6,dK,bX,cV,rfl,-,-,cP,bV⟩:=((zL.good eqR.good).chg b6.o aP.o iF).get3 (f:=bz) D cO D;obtain rfl:c3=o:=cV;obtain⟨bK,bM,bO⟩:=bV _ _ _ D;obtain⟨L,g,x⟩:=c3;obtain⟨c0,cT,cS⟩:=cP;simp only at bK bM bO c0 cT cS;have bB:=V bX;have q:G (vL d l k (L,g,x)=true->gJ d l k (w,c,a)=false):=V (λa1=>by
   have:c.any (vL d l k)=true:=Au8.2 ⟨_,Az1 bB.o,a1⟩;simp[gJ,this])
  have aB:G (vL d l k (L,g,x)=false->∀(t:Nat) i,t<p+1->c[t]?=some i->vL d l k i=false):=V (λa1 t i b2 b3=>by
   by_cases cM:t=p
   .subst cM
    rw[bB.o]at b3;obtain rfl:=Az2 b3;exact a1
   exact b7.o t i H b3)
  obtain⟨N,P⟩:=rK (wr.alloc (.cells #[.int .u8 L,.int .i64 g,.int .i64 x] 71));have b8:G (Cf wr N):=V (by rw[P];exact rT);have d3:N.cell? ⟨wr.heap.size,0,none⟩=some (.int .u8 L):=(by rw[P];exact zG _ D D);have d4:N.cell? ⟨wr.heap.size,1,none⟩=some (.int .i64 g):=(by rw[P];exact zG _ D D);have d5:N.cell? ⟨wr.heap.size,2,none⟩=some (.int .i64 x):=(by rw[P];exact zG _ D D);have z:G (Cf u N):=V (B.o.trans b8.o);have r:G (Cf j N):=V (aP.o.trans b8.o);have dF:=z.o.cellS s.o.2.1.2.1 iD;have dH:=z.o.cellS s.o.2.1.2.2 iD;have dI:=z.o.cellS s.o.2.2 iD;have h:=V (pl x (j.heap.size+1) d T X N (z.o.cellS s.o.2.1.1 iD));clear bX bV;go_upto_region 5 with fail
  rw[<-P];clear P bK bM bO;rcases pk c0 with v|v|v|v|v
  rotate_left 4
  .have d9:(L == 2)=false:=by rw[beq_eq_false_iff_ne];omega
   have dB:(L == 3)=false:=(by rw[beq_eq_false_iff_ne];omega);have dD:decide (3<L)=true:=decide_eq_true v;have b:=V (q.o (by simp[vL,v]));clear h;go_wp2;go_ret
   exact⟨by rw[b.o];rfl,r.o⟩
  .subst v
   by_cases m:g<0
   .have F:decide (g<0)=true:=decide_eq_true m
    have b:=V (q.o (by simp[vL,m]));clear h;go_wp2;go_ret
    exact⟨by rw[b.o];rfl,r.o⟩
   have F:decide (g<0)=false:=decide_eq_false m
   by_cases n:1<=g
   .have Y:decide (1<=g)=true:=decide_eq_true n
    have b:=V (q.o (by simp[vL,ax,n]));clear h;go_wp2;go_ret
    exact⟨by rw[b.o];rfl,r.o⟩
   have Y:decide (1<=g)=false:=decide_eq_false n
   cases e:xW d x with
   | false =>
    have b:=V (q.o (by simp[vL,e]));rw[e]at h;clear e;go_wp2_with fail
    refine h.o.mono ?_;rintro i O ⟨rfl,rfl⟩;go_wp2;go_ret
    exact⟨by rw[b.o];rfl,r.o⟩
   | true =>
    have E:=V (aB.o (by simp[vL,ax,m,n,e]));rw[e]at h;clear e;go_wp2_with fail
    refine h.o.mono ?_;rintro i O ⟨rfl,rfl⟩;go_wp2;go_roundw
    .exact⟨p+1,H,GN,E.o,z.o⟩
    simp[intOf];omega
  .subst v
   by_cases m:g<0
   .have F:decide (g<0)=true:=decide_eq_true m
    have b:=V (q.o (by simp[vL,m]));clear h;go_wp2;go_ret
    exact⟨by rw[b.o];rfl,r.o⟩
   have F:decide (g<0)=false:=decide_eq_false m
   cases e:xW d x with
   | false =>
    have b:=V (q.o (by simp[vL,e]));rw[e]at h;clear e;go_wp2_with fail
    refine h.o.mono ?_;rintro i O ⟨rfl,rfl⟩;go_wp2;go_ret
    exact⟨by rw[b.o];rfl,r.o⟩
   | true =>
    have E:=V (aB.o (by simp[vL,m,e]));rw[e]at h;clear e;go_wp2_with fail
    refine h.o.mono ?_;rintro i O ⟨rfl,rfl⟩;go_wp2;go_roundw
    .exact⟨p+1,H,GN,E.o,z.o⟩
    simp[intOf];omega
  .subst v
   by_cases m:g<0
   .have F:decide (g<0)=true:=decide_eq_true m
    have b:=V (q.o (by simp[vL,m]));clear h;go_wp2;go_ret
    exact⟨by rw[b.o];rfl,r.o⟩
   have F:decide (g<0)=false:=decide_eq_false m
   by_cases n:(l:Int)<=g
   .have Y:decide ((l:Int)<=g)=true:=decide_eq_true n
    have b:=V (q.o (by simp[vL,ax,n]));clear h;go_wp2;go_ret
    exact⟨by rw[b.o];rfl,r.o⟩
   have Y:decide ((l:Int)<=g)=false:=decide_eq_false n
   cases e:xW d x with
   | false =>
    have b:=V (q.o (by simp[vL,e]));rw[e]at h;clear e;go_wp2_with fail
    refine h.o.mono ?_;rintro i O ⟨rfl,rfl⟩;go_wp2;go_ret
    exact⟨by rw[b.o];rfl,r.o⟩
   | true =>
    have E:=V (aB.o (by simp[vL,ax,m,n,e]));rw[e]at h;clear e;go_wp2_with fail
    refine h.o.mono ?_;rintro i O ⟨rfl,rfl⟩;go_wp2;go_roundw
    .exact⟨p+1,H,GN,E.o,z.o⟩
    simp[intOf];omega
  subst v
  by_cases m:g<0
  .have F:decide (g<0)=true:=decide_eq_true m
   have b:=V (q.o (by simp[vL,m]));clear h;go_wp2;go_ret
   exact⟨by rw[b.o];rfl,r.o⟩
  have F:decide (g<0)=false:=decide_eq_false m
  by_cases n:(k:Int)<=g
  .have Y:decide ((k:Int)<=g)=true:=decide_eq_true n
   have b:=V (q.o (by simp[vL,ax,n]));clear h;go_wp2;go_ret
   exact⟨by rw[b.o];rfl,r.o⟩
  have Y:decide ((k:Int)<=g)=false:=decide_eq_false n
  cases e:xW d x with
  | false =>
   have b:=V (q.o (by simp[vL,e]));rw[e]at h;clear e;go_wp2_with fail
   refine h.o.mono ?_;rintro i O ⟨rfl,rfl⟩;go_wp2;go_ret
   exact⟨by rw[b.o];rfl,r.o⟩
  | true =>
   have E:=V (aB.o (by simp[vL,ax,m,n,e]));rw[e]at h;clear e;go_wp2_with fail
   refine h.o.mono ?_;rintro i O ⟨rfl,rfl⟩;go_wp2;go_roundw
   .exact⟨p+1,H,GN,E.o,z.o⟩
   simp[intOf];omega
 obtain rfl:p=c.length:=H
 have cH:=rP c.length;have c4:G (c.any (vL d l k)=false):=V (by
  rw[Aw4];intro i a3;obtain⟨t,b2⟩:=Aw1 a3;rw[b7.o t i (Az0.1 b2).1 b2];exact Au6)
 have R:G (gJ d l k (w,c,a)=(decide (a.length=0) || (decide (a.length=c.length) && decide (2<=a.length) && !c.any pE && !a.any (λK=>!xW d K)))):=V (by simp only[gJ,c4.o,Bool.not_false,Au1]);have aM:=B.o.cellS s.o.1.1 iD;have Q:=B.o.cellS s.o.1.2 iD;have cX:=B.o.cellS s.o.2.2 iD;go_upto_region 15 with fail
 obtain⟨a6,aI⟩:=rK (wr.alloc (.cells #[.func (.func 134) #[] #[]] 112));have a7:G (Cf wr a6):=V (by rw[aI];exact rT);have c8:G (a6.cell? ⟨wr.heap.size,0,none⟩=some (.func (.func 134) #[] #[])):=V (by rw[aI];exact uE _ _ D);have C:G (Cf j a6):=V (aP.o.trans a7.o);rw[<-aI];clear aI aM Q cX;have aM:=a7.o.cellS (B.o.cellS s.o.1.1 iD) iD;have Q:=a7.o.cellS (B.o.cellS s.o.1.2 iD) iD;by_cases aK:a.length=c.length
 .have cA:((a.length:Int) == (c.length:Int))=true:=by rw[beq_iff_eq];omega
  have cB:(a.length == c.length)=true:=(by rw[beq_iff_eq];omega);have aR:=V aK;clear aK;by_cases a5:2<=a.length
  .have cD:decide (2<=a.length)=true:=decide_eq_true a5
   have cF:decide ((2:Int)<=(a.length:Int))=true:=decide_eq_true H;have a9:=V (aC eqR.good 135 _ _ c U W a6 cI ((zL.good eqR.good).chg b6.o C.o iF) (zq wr.heap.size aT a6 c8.o) bP);have aD:((a.length:Int) == 0)=false:=(by rw[beq_eq_false_iff_ne];omega);have aF:(a.length == 0)=false:=(by rw[beq_eq_false_iff_ne];omega);have S:G (gJ d l k (w,c,a)=(!c.any pE && !a.any (λK=>!xW d K))):=V (by rw[R.o,decide_eq_false (show ¬a.length=0 by omega),decide_eq_true aR.out,decide_eq_true a5,Au9,Au1,Au1]);cases aH:c.any pE with
   | true =>
    rw[aH]at a9 S;have b:G (gJ d l k (w,c,a)=false):=V (by rw[S.o];rfl);clear aH;go_wp2_with fail
    refine a9.o.mono ?_;rintro i aO ⟨rfl,A⟩;have a8:=V (C.o.trans A);have Q:=A.cellS Q iD;clear A;go_wp2;go_ret
    exact⟨by rw[b.o];rfl,a8.o⟩
   | false =>
    rw[aH]at a9 S;clear aH;go_wp2_with fail
    refine a9.o.mono ?_;rintro i aO ⟨rfl,A⟩;have a8:=V (C.o.trans A);have b4:Cf u aO:=B.o.trans (a7.o.trans A);have Q:=A.cellS Q iD;have b9:=V (mC _ #[.pointer (some ⟨j.heap.size+1+1,0,none⟩)] (λK=>!xW d K) a Z a0 0 aO cK ((c7.o.chg a8.o iF).in' (λ_ _=>Ax9 _)) (zn (j.heap.size+1+1) (j.heap.size+1) d T X aO (b4.cellS s.o.2.2 iD) (b4.cellS s.o.2.1.1 iD)) bZ);obtain⟨d1,a2⟩:=rM (a.any (λK=>!xW d K));rw[a2]at b9 S;clear A b4 a2;go_wp2_with fail
    refine b9.o.mono ?_;rintro i wc ⟨rfl,bT⟩;have c5:=V (a8.o.trans bT);clear bT;go_wp2;go_ret
    exact⟨by rw[S.o];rfl,c5.o⟩
  have cD:decide (2<=a.length)=false:=decide_eq_false a5
  have cF:decide ((2:Int)<=(a.length:Int))=false:=decide_eq_false H;have c9:=V a5;clear a5;by_cases y:a.length=0
  .have aD:((a.length:Int) == 0)=true:=by rw[beq_iff_eq];omega
   have aF:(a.length == 0)=true:=(by rw[beq_iff_eq];omega);have b:G (gJ d l k (w,c,a)=true):=V (by rw[R.o,decide_eq_true y,Bool.true_or]);clear y;go_wp2;go_ret
   exact⟨by rw[b.o];rfl,C.o⟩
  have aD:((a.length:Int) == 0)=false:=by rw[beq_eq_false_iff_ne];omega
  have aF:(a.length == 0)=false:=(by rw[beq_eq_false_iff_ne];omega);have b:G (gJ d l k (w,c,a)=false):=V (by rw[R.o,decide_eq_false y,Au9];rw[decide_eq_false c9.out];simp);clear y;go_wp2;go_ret
  exact⟨by rw[b.o];rfl,C.o⟩
 have cA:((a.length:Int) == (c.length:Int))=false:=by rw[beq_eq_false_iff_ne];omega
 have cB:(a.length == c.length)=false:=(by rw[beq_eq_false_iff_ne];omega);have aR:=V aK;clear aK;by_cases y:a.length=0
 .have aD:((a.length:Int) == 0)=true:=by rw[beq_iff_eq];omega
  have aF:(a.length == 0)=true:=(by rw[beq_iff_eq];omega);have b:G (gJ d l k (w,c,a)=true):=V (by rw[R.o,decide_eq_true y,Bool.true_or]);clear y;go_wp2;go_ret
  exact⟨by rw[b.o];rfl,C.o⟩
 have aD:((a.length:Int) == 0)=false:=by rw[beq_eq_false_iff_ne];omega
 have aF:(a.length == 0)=false:=(by rw[beq_eq_false_iff_ne];omega);have b:G (gJ d l k (w,c,a)=false):=V (by rw[R.o,decide_eq_false y,Au9];rw[decide_eq_false aR.out];simp);clear y;go_wp2;go_ret
 exact⟨by rw[b.o];rfl,C.o⟩
end Go.Proofs.YtgnpmceimpjheaaGreat
namespace Go.Proofs.YtgnpmceimpjheaaGreat.I
open Go.RowKit Go.Proofs.Tryz
theorem dt {w:World}(i:Option Addr) (C0:List Int) (s:∀d:World,Cf w d->(Builtin.firstCells 1 C0.length (.slice i C0.length C0.length)).run prog d=.ok (zU C0).toArray d)
  (p:∀c∈C0,Byte c) (a:Nat) (n:0<a) (y:C0.length+a<=1000000000000) (l:TypeId) :
  ∃(d:World) (b:List Int),(Builtin.append_ #[25,3] l #[.slice i C0.length C0.length,.int .i64 a]).run prog w=.ok (.slice (some ⟨w.heap.size,0,none⟩) (C0.length+a) b.length) d/\Row d w.heap.size b/\C0 <+: b/\C0.length+a<=b.length/\b.length<=maxLen/\Cf w d:=by
 obtain⟨u,q,t,o,k⟩:=info_parts ao;have v:=grownCap_ge w (C0.length+a) C0.length 3;have x:=grownCap_le_maxLen w (C0.length+a) C0.length 3 (by unfold maxLen;omega);have g:=Lib.run_append_grow_zeros (P:=prog) w 25 3 l 3 u (.int .i64 0) .i64 .i64 underlying25 underlying3 q t i C0.length C0.length (zU C0) (by rw[o];exact s _ (J.refl _ _).drew) a n H H H (by rw[k];omega)
  (by rw[k];exact growslice_fits H H)
 have m:∀c h j:List Int,(zU c).toArray++(zU h).toArray++(zU j).toArray=(zU (c++h++j)).toArray:=λc h j=>by simp[zU]
 rw[mQ,mQ,m]at g;obtain⟨b,f⟩:=rK (C0++List.replicate a 0++List.replicate (grownCap w (C0.length+a) C0.length 3-(C0.length+a)) 0);rw[<-f]at g;have r:b.length=grownCap w (C0.length+a) C0.length 3:=by rw[f];simp only[Az,Av6];omega
 rw[<-r]at g;refine⟨w.drew.alloc (.cells (zU b).toArray 3),b,g,Row.alloc w.drew _ _ (λc e=>?_),by rw[f,Az7];exact List.prefix_append _ _,H,H,(J.refl _ _).drew.alloc _⟩;rw[f]at e;simp only[Aw9,At2]at e;rcases e with (e|⟨_,rfl⟩)|⟨_,rfl⟩
 .exact p c e
 .exact⟨H,H⟩
 exact⟨H,H⟩
theorem gu (a:World) (b:Nat) (q:0<b) (s:b<=1000000000) :
  Calls prog 132 #[.slice none 0 0,.int .i64 b] a λo c=>∃j,o=.returned j/\Own c a.heap.size j []/\Cf a c:=by
 obtain⟨k,d,e,f,i,r,h,g⟩:=dt (w:=a) none [] (λc _=>run_firstCells_none c 1 0 0 0) (λ_ p=>by cases p) b q sO 0;simp only[Aw6,Ax]at r e;have n:G ((Builtin.append_ #[25,3] 0 #[.slice none 0 0,.int .i64 b]).run prog a=.ok (.slice (some ⟨a.heap.size,0,none⟩) b d.length) k):=V e;have m:G (Own k a.heap.size (.slice (some ⟨a.heap.size,0,none⟩) 0 d.length) []):=V (.inr ⟨_,d,D,Ay1 _,f,i,h⟩);have l:=V g;unfold maxLen at h;clear e f i g;go_enter func132,ntmps132
 go_wp2_with (at_builtin;refine Lib.wpList_append_run _ D _ _ _ _ D _ _ D D _ _ n.o ?_)
 go_ret
 exact⟨_,D,m.o,l.o⟩
theorem zs (a:World):Calls prog 132 #[.slice none 0 0,.int .i64 0] a λd c=>∃b,d=.returned b/\Own c a.heap.size b []/\Cf a c:=by
 go_enter func132,ntmps132
 go_wp2;go_ret
 exact⟨_,D,.inl ⟨D,D⟩,cR⟩
theorem gn (a:World) (b:Nat) (g:b<=1000000000):Calls prog 132 #[.slice none 0 0,.int .i64 b] a λe d=>∃c,e=.returned c/\Own d a.heap.size c []/\Cf a d:=by
 rcases Ax6 b with rfl|f
 .exact zs a
 exact gu a b f g
theorem gv (a b:List Int) (m n:Option Addr) (B O s C P t l:Nat) (d:World) (v:BytesAt d B O a) (F:0<a.length->m=some ⟨B,O,none⟩) (w:BytesAt d C P b) (K:0<b.length->n=some ⟨C,P,none⟩) (a2:a.length<=100000000) (a3:b.length<=100000000)
  (o:d.cell? ⟨l,0,none⟩=some (.slice m a.length s)) (p:d.cell? ⟨l,1,none⟩=some (.slice n b.length t)) :
  Calls prog 90 #[.slice (some ⟨l,0,none⟩) 2 2] d λA h=>∃j,A=.returned j/\Own h d.heap.size j (a++b)/\Cf d h:=by
 obtain⟨T,Q,W,R⟩:=sB v F w K;have S:G (∀h,Cf d h->h.cell? ⟨l,0,none⟩=some (.slice m a.length s)/\h.cell? ⟨l,1,none⟩=some (.slice n b.length t)):=V λh i=>⟨i.cellS o iD,i.cellS p iD⟩
 have U:=V v.byte;have X:=V w.byte;clear v F w K;go_enter func90,ntmps90
 go_wp2_with fail
 go_loopw [3,11] (λx c wr=>((c=.int .i64 0/\x=.int .i64 0)\/(c=.int .i64 1/\x=.int .i64 a.length)\/(c=.int .i64 2/\x=.int .i64 ((a.length:Int)+b.length)))/\wr=d) (λ_ c _=>2-(intOf c).toNat)
 .exact⟨.inl ⟨D,D⟩,D⟩
 obtain⟨u,rfl⟩:=hrel;rcases u with ⟨rfl,rfl⟩|⟨rfl,rfl⟩|⟨rfl,rfl⟩
 .go_wp2_with fail
  go_roundw
  .first|exact⟨.inr (.inl ⟨D,D⟩),D⟩|simp
  simp[intOf]
 .go_wp2_with fail
  go_roundw
  .first|exact⟨.inr (.inr ⟨D,D⟩),D⟩|simp
  simp[intOf]
 clear o p
 go_wp2_with fail
 have N:(a.length:Int)+b.length=((a.length+b.length:Nat):Int):=H;rw[N];refine (gn wr (a.length+b.length) H).mono ?_;rintro A a5 ⟨a4,rfl,E,L⟩;have y:=V E;have z:=V L;clear E L N;go_wp2_with fail
 obtain⟨e,rfl⟩:∃e:World,e=wr:=⟨_,D⟩
 go_loopw [6,27] (λj c wr=>((c=.int .i64 0/\Own wr e.heap.size j [])\/(c=.int .i64 1/\Own wr e.heap.size j ([]++a))\/(c=.int .i64 2/\Own wr e.heap.size j ([]++a++b)))/\J (λZ=>e.heap.size<=Z) e wr) (λ_ c _=>2-(intOf c).toNat)
 .exact⟨.inl ⟨D,y.o⟩,z.o.any⟩
 clear y z;obtain⟨u,i⟩:=hrel;have g:=V i;obtain⟨o,p⟩:=S.o wr i.fresh;clear i;rcases u with ⟨rfl,f⟩|⟨rfl,f⟩|⟨rfl,f⟩
 .have k:=V f
  clear f;go_wp2_with (at_builtin;refine xJ D _ _ 25 D e.heap.size _ [] a (.slice m a.length s) D D k.o g.o.size (tS (T.o.chg g.o.fresh iE) Q.o) U.o sO ?_;intro a0 a1 q r Y)
  go_roundw
  .exact⟨.inr (.inl ⟨D,q.out⟩),g.o.trans r.out⟩
  simp[intOf]
 .have k:=V f
  clear f;go_wp2_with (at_builtin;refine xJ D _ _ 25 D e.heap.size _ ([]++a) b (.slice n b.length t) D D k.o g.o.size (tS (W.o.chg g.o.fresh iE) R.o) X.o sO ?_;intro a0 a1 q r Y)
  go_roundw
  .exact⟨.inr (.inr ⟨D,q.out⟩),g.o.trans r.out⟩
  simp[intOf]
 have k:=V f
 clear f o p;go_wp2_with fail
 go_ret
 exact⟨_,D,k.o,g.o.fresh⟩
end Go.Proofs.YtgnpmceimpjheaaGreat.I
namespace Go.Proofs.YtgnpmceimpjheaaGreat
open Go.RowKit Go.Proofs.Tryz
variable {a b c d e f g h i j k l m n o p q r:Nat}{w v u t s:World}{X Y W L T:List Int}{A B C E Z:Value}{x y z:Int}{N R:Bool}{F Q:Option Addr}{S P:Nat->Prop}
theorem zt (a b:List Int) (x y:Option Addr) (z A L N:Nat) (i:World) (g:intE.In i L (x,a.length,z) a) (h:intE.In i N (y,b.length,A) b) (a1:a.length<=1000000000) :
  Calls prog 93 #[.slice x a.length z,.slice y b.length A] i λU n=>U=.returned (.bool (decide (a=b)))/\Cf i n:=by
 have P:=V g;have Q:=V h;clear g h;by_cases m:a.length=b.length
 .have R:((a.length:Int) != (b.length:Int))=false:=by simp[m]
  have w:=V m;clear m;go_enter func93,ntmps93
  go_wp2
  go_loopw [13] (λs wr=>∃c:Nat,c<=a.length/\s=.int .i64 c/\Cf i wr/\a.take c=b.take c) (λs _=>a.length-(intOf s).toNat)
  .exact⟨0,H,D,J.refl _ _,sI⟩
  obtain⟨c,a0,rfl,F,K⟩:=hrel;have j:=V F;have f:=V K;clear F K;by_cases W:c<a.length
  .have S:=rO c a.length
   have X:c<b.length:=(by have:=w.o;omega);obtain⟨t,Y,a2,g,rfl,p,-,-,-,-⟩:=(P.o.same j.o).getI W;obtain⟨u,Z,a3,h,rfl,q,-,-,-,-⟩:=(Q.o.same j.o).getI X;obtain⟨k,l,o⟩:=rZ g h (show _/\_ from ⟨p,q⟩);clear g h p q;go_upto_region 6 with fail
   refine ws (λn=>Cf wr n) ?_;(iterate 9 (refine rq ?_ (by intro _ n _ C;have p:=C.cellS o.o.1 iD;have q:=C.cellS o.o.2 iD;go_simp;try with_reducible rfl)))
   refine zW ?_;intro a4 E;have v:=V (j.o.trans E);clear E o;by_cases d:t=u
   .have T:(t != u)=false:=by simp[d]
    have O:G (a.take (c+1)=b.take (c+1)):=V (by rw[Ay3,Ay3,f.o,k.o,l.o,d]);clear f k l d;go_wp2;go_roundw
    .exact⟨c+1,H,GN,v.o,O.o⟩
    simp[intOf];omega
   have T:(t != u)=true:=by simp[d]
   have e:G (decide (a=b)=false):=V (by
    apply decide_eq_false
    intro r;have B:=k.o;rw[r,l.o]at B;exact d (Az2 B).symm)
   clear f k l d;go_wp2;go_ret
   exact⟨by rw[e.o];rfl,v.o⟩
  obtain rfl:c=a.length:=H
  have S:=rP a.length;have e:G (decide (a=b)=true):=V (by
   have:=f.o;rw[Ay7,w.o,Ay7]at this;simp[this])
  clear f;go_wp2;go_ret
  exact⟨by rw[e.o];rfl,j.o⟩
 have R:((a.length:Int) != (b.length:Int))=true:=by simp;omega
 have e:G (decide (a=b)=false):=V (by
  apply decide_eq_false
  intro r;exact m (by rw[r]))
 go_enter func93,ntmps93
 go_wp2;go_ret
 exact⟨by rw[e.o];rfl,cR⟩
def stOk (d b c:Nat) (a:StD):Bool:=gJ d b c a && decide (0<=a.1) && decide (a.1<b)
def sY (n:NetD):Bool:=decide (n.s.length=n.p.length) && !(n.s++n.p).any (λi=>!xW n.st.length i) && !n.q.any (pJ n.st.length) && n.st.all (stOk n.st.length n.s.length n.q.length) && decide (vA n.st=n.d)
def stB (d:StD):Prop:=d.2.1.length<=1000000000/\d.2.2.length<=1000000000
structure FairN (n:NetD):Prop where
 st:n.st.length<=1000000000
 s:n.s.length<=100000000
 p:n.p.length<=100000000
 q:n.q.length<=1000000000
 d:n.d.length<=1000000000
 e:∀s∈n.st,stB s
theorem Elt.InS.bytes (e:intE.InS w S (F,a,b) X):∃c d,I.BytesAt w c d X/\(0<X.length->F=some ⟨c,d,none⟩):=by
 obtain⟨-,-,c,d,f,g⟩:=e;exact⟨c,d,er.1 f,λh=>(g h).1⟩
theorem zu (b:I.Own w a A X):intE.Own w a A X:=by
 rcases b with b|⟨d,c,e,f,g,h⟩
 .exact .inl b
 exact .inr ⟨d,c,e,f,bY.2 g,h⟩
theorem Elt.Own.inC {f:Type}{d:Elt f}{e:List f}(k:d.Own w a (.slice F b c) e):d.In w a (F,b,c) e:=by
 obtain⟨p,j,q,l,m,n,o⟩:=k.at';injection l with g h i;subst g h i;exact⟨D,m,j,0,n,o⟩
theorem zw {e:Type}{d:e->Bool}{c:List e}(f:∀(b:Nat) a,c[b]?=some a->d a=true):c.all d=true:=by
 rw[Aw0];intro a h;obtain⟨b,g⟩:=Aw1 h;exact f b a g
theorem zx (aO:NetD) (bO:NetS) (cK:Nat->Prop) (c:World) (m:NetIn c cK bO aO) (eM:FairN aO) :
  Calls prog 38 #[netV bO] c λn f6=>n=.returned (.bool (sY aO))/\Cf c f6:=by
 obtain⟨⟨R,fT,F⟩,⟨u,fV,w⟩,⟨v,fX,x⟩,⟨S,fZ,U⟩,⟨T,g0,W⟩⟩:=bO;obtain⟨b3,b4,b5,b6,b7⟩:=m;obtain⟨rfl,-⟩:=b3.len;obtain⟨rfl,-⟩:=b4.len;obtain⟨rfl,-⟩:=b5.len;obtain⟨rfl,-⟩:=b6.len;obtain⟨rfl,-⟩:=b7.len;obtain⟨cM,cO,cP,cS,eF,cT⟩:=eM;obtain⟨bZ,c0,c1,c2,c3⟩:=sD (zL.bnd b3 cT) b4 b5 b6 b7;clear b3 b4 b5 b6 b7 cT;have fR:=mkfn;have eB:=enters_of func88 M D;have eD:=enters_of func91 M D;obtain⟨a,b,g,i,k⟩:=aO;simp only at cM cO cP cS eF bZ c0 c1 c2 c3 ⊢;show Calls prog 38 #[.agg #[.slice R a.length F,.slice u b.length w,.slice v g.length x,.slice S i.length U,.slice T k.length W]] c _;go_enter func38,ntmps38
 go_upto_region 3 with fail
 obtain⟨h,aF⟩:=rK ((c.alloc (.cells #[.slice R a.length F,.slice u b.length w,.slice v g.length x,.slice S i.length U,.slice T k.length W] 31)).alloc (.cells #[.func (.func 87) #[] #[.pointer (some ⟨c.heap.size,0,none⟩)]] 174));have q:G (Cf c h):=V (by rw[aF];exact ((J.refl _ c).alloc _).alloc _);have l:G ((h.cell? ⟨c.heap.size,0,none⟩=some (.slice R a.length F)/\h.cell? ⟨c.heap.size,1,none⟩=some (.slice u b.length w)/\h.cell? ⟨c.heap.size,2,none⟩=some (.slice v g.length x)/\h.cell? ⟨c.heap.size,3,none⟩=some (.slice S i.length U)/\h.cell? ⟨c.heap.size,4,none⟩=some (.slice T k.length W))/\h.cell? ⟨c.heap.size+1,0,none⟩=some (.func (.func 87) #[] #[.pointer (some ⟨c.heap.size,0,none⟩)])):=V (by
  rw[aF];exact⟨⟨yL _ (zG _ D D),yL _ (zG _ D D),yL _ (zG _ D D),yL _ (zG _ D D),yL _ (zG _ D D)⟩,zG _ sI D⟩)
 rw[<-aF];clear aF;have f4:=l.o.1.2.1;have f5:=l.o.1.2.2.1;by_cases bF:b.length=g.length
 .have e4:((b.length:Int) != (g.length:Int))=false:=by simp;omega
  have e5:(b.length != g.length)=false:=by simp;omega
  have dU:=V bF;clear bF;obtain⟨eI,f1,cZ,cV⟩:=(c0.o.chg q.o iF).bytes;obtain⟨eK,f2,d0,cX⟩:=(c1.o.chg q.o iF).bytes;have aB:=(FR h).alloc (.cells #[.slice u b.length w,.slice v g.length x] 25);have c6:=V (I.gv b g u v eI f1 w eK f2 x h.heap.size _ (cZ.chg aB iE) cV (d0.chg aB iE) cX cO cP (zG (w:=h) (cs:=#[.slice u b.length w,.slice v g.length x]) 25 D D) (zG (w:=h) (cs:=#[.slice u b.length w,.slice v g.length x]) 25 D D));have dR:=V aB;clear cZ d0 cV cX aB;go_wp2_with fail
  refine c6.o.mono ?_;rintro n bT ⟨g3,rfl,bI,d1⟩;obtain⟨a1,a2,rfl⟩:=bI.shape;have Q:G (Cf h bT):=V (dR.o.trans d1);have b9:=mC 88 #[.pointer (some ⟨c.heap.size+1,0,none⟩)] (λbM=>!xW a.length bM) (b++g) a1 a2 0 bT eB ((zu bI).inC.lower (Ax9 _)) (zm (c.heap.size+1) c.heap.size a.length R F bT (Q.o.cellS l.o.2 iD) (Q.o.cellS l.o.1.1 iD)) (by rw[Az];omega);rw[Az]at b9;have a6:=V b9;clear b9;have a0:=Q.o.cellS l.o.1.2.2.2.1 iD;clear bI d1 c6 f4 f5;cases L:(b++g).any (λbM=>!xW a.length bM) with
  | true =>
   rw[L]at a6;have o:G (sY ⟨a,b,g,i,k⟩=false):=V (by simp only[sY,L,Bool.not_true,Av2,Aw3]);clear L;go_wp2_with fail
   refine a6.o.mono ?_;rintro n aP ⟨rfl,A⟩;have dM:=V (q.o.trans (Q.o.trans A));have a0:=A.cellS a0 iD;clear A;go_wp2;go_ret
   exact⟨by rw[o.o];rfl,dM.o⟩
  | false =>
   rw[L]at a6;have dI:=V L;clear L;go_wp2_with fail
   refine a6.o.mono ?_;rintro n aP ⟨rfl,A⟩;have a8:G (Cf h aP):=V (Q.o.trans A);have a5:=V (mC 91 #[.pointer (some ⟨c.heap.size,0,none⟩)] (pJ a.length) i S U 0 aP eD ((c2.o.chg (q.o.trans a8.o) iF).in' (λ_ _=>Ax9 _)) (zo c.heap.size a.length R F aP cM (a8.o.cellS l.o.1.1 iD)) cS);have a0:=A.cellS a0 iD;clear A;cases K:i.any (pJ a.length) with
   | true =>
    rw[K]at a5;have o:G (sY ⟨a,b,g,i,k⟩=false):=V (by simp only[sY,K,Bool.not_true,Av2,Aw3]);clear K;go_wp2_with fail
    refine a5.o.mono ?_;rintro n dD ⟨rfl,Z⟩;have dO:=V (q.o.trans (a8.o.trans Z));clear Z;go_wp2;go_ret
    exact⟨by rw[o.o];rfl,dO.o⟩
   | false =>
    rw[K]at a5;have cB:G (sY ⟨a,b,g,i,k⟩=(a.all (stOk a.length b.length i.length) && decide (vA a=k))):=V (by simp only[sY,dI.o,K,decide_eq_true dU.o,Bool.not_false,Au1,Bool.and_true]);clear K;go_wp2_with fail
    refine a5.o.mono ?_;rintro n dD ⟨rfl,Z⟩;have cH:G (Cf h dD):=V (a8.o.trans Z);have f3:=cH.o.cellS l.o.1.1 iD;clear Z a0;go_wp2;clear f3
    go_loopw [5,36] (λd8 bP wr=>∃(e:Nat) (d9:Value),d9=d8/\e<=a.length/\bP=.int .i64 e/\(∀(p:Nat) B,p<e->a[p]?=some B->stOk a.length b.length i.length B=true)/\intE.Own wr h.heap.size d9 (yN 0 (a.take e))/\Cf h wr) (λ_ bP _=>a.length-(intOf bP).toNat)
    .exact⟨0,_,D,H,D,λp n m=>absurd m (Ax1 _),.nil _ _,cH.o⟩
    obtain⟨e,d8,rfl,fO,rfl,X,bH,b8⟩:=hrel;obtain⟨c4,aV,c5⟩:=rZ X bH b8;have aT:G (Cf c wr):=V (q.o.trans b8);obtain⟨a1,dB,a2,rfl⟩:=bH.shape3;clear X bH b8;by_cases eP:e<a.length
    .have e7:=rO e a.length
     have fP:e<1000000000:=H;obtain⟨a3,⟨fI,E,s⟩,eH,f0,bB,⟨aH,eR⟩,a9,-,-,-,d2⟩:=((zL.good (bR.good stR.good)).chg bZ.o aT.o iF).get3 (f:=hJ) D eP D;obtain⟨j,⟨aZ,fF,b0⟩,⟨b1,fK,b2⟩⟩:=a3;obtain⟨d3,bK,aI,aK⟩:=aH;simp only at d3 bK aI aK;obtain⟨rfl,-⟩:=aI.len;obtain⟨rfl,-⟩:=aK.len;subst d3;obtain⟨dF,bV,bX⟩:=d2 _ _ _ D;unfold slV at bV bX;simp only at dF bV bX;subst a9;have c7:=V bB;have e1:=V aI;have e2:=V aK;have fB:=V bK;obtain⟨d4,d5⟩:=eR;simp only at d4 d5;obtain⟨O,N⟩:=rK (wr.alloc (.cells #[.int .i64 j,.slice aZ E.length b0,.slice b1 s.length b2] 74));have a4:G (Cf wr O):=V (by rw[N];exact rT);have P:O.cell? ⟨wr.heap.size,0,none⟩=some (.int .i64 j):=(by rw[N];exact zG _ D D);have f8:O.cell? ⟨wr.heap.size,1,none⟩=some (.slice aZ E.length b0):=(by rw[N];exact zG _ D D);have dH:O.cell? ⟨wr.heap.size,2,none⟩=some (.slice b1 s.length b2):=(by rw[N];exact zG _ D D);have r:G (Cf h O):=V (c5.o.trans a4.o);have eT:=r.o.cellS l.o.1.1 iD;have aM:=r.o.cellS l.o.1.2.1 iD;have eV:=r.o.cellS l.o.1.2.2.1 iD;have eX:=r.o.cellS l.o.1.2.2.2.1 iD;have eZ:=r.o.cellS l.o.1.2.2.2.2 iD;have C:=V (zr (j,E,s) aZ b1 b0 b2 a.length b.length i.length k.length g.length F w x U W (some ⟨eH,f0,none⟩) u v S T cK O (e1.o.chg a4.o iF) (e2.o.chg a4.o iF) d4 d5);have a7:=V (nn bB);have aR:G (stOk a.length b.length i.length (j,E,s)=false->sY ⟨a,b,g,i,k⟩=false):=V (λm=>by
      have:a.all (stOk a.length b.length i.length)=false:=by
       rw[List.all_eq_false];exact⟨_,Az1 c7.o,by rw[m];exact Au6⟩
      rw[cB.o,this,Aw3])
     have dV:G (stOk a.length b.length i.length (j,E,s)=true->∀(p:Nat) B,p<e+1->a[p]?=some B->stOk a.length b.length i.length B=true):=V (λm p B fM bD=>by
      by_cases eO:p=e
      .subst eO
       rw[c7.o]at bD;obtain rfl:=Az2 bD;exact m
      exact c4.o p B H bD)
     clear bB aI aK bK d2;go_upto_region 9 with fail
     rw[<-N];clear N dF bV bX;cases y:gJ a.length b.length i.length (j,E,s) with
     | false =>
      have o:=V (aR.o (by simp only[stOk,y,Aw3]));rw[y]at C;clear y;go_wp2_with fail
      refine C.o.mono ?_;rintro n t ⟨rfl,d⟩;have z:=V (q.o.trans (r.o.trans d));clear d;go_wp2;go_ret
      exact⟨by rw[o.o];rfl,z.o⟩
     | true =>
      rw[y]at C;by_cases d6:j<0
      .have e8:decide (j<0)=true:=decide_eq_true d6
       have o:=V (aR.o (by simp only[stOk,decide_eq_false (show ¬0<=j by omega),Av2,Aw3]));clear y;go_wp2_with fail
       refine C.o.mono ?_;rintro n t ⟨rfl,d⟩;have z:=V (q.o.trans (r.o.trans d));have P:=d.cellS P iD;clear d;go_wp2;go_ret
       exact⟨by rw[o.o];rfl,z.o⟩
      have e8:decide (j<0)=false:=decide_eq_false d6
      by_cases d7:(b.length:Int)<=j
      .have e9:decide ((b.length:Int)<=j)=true:=decide_eq_true d7
       have o:=V (aR.o (by simp only[stOk,decide_eq_false (show ¬j<(b.length:Int) by omega),Av2]));clear y;go_wp2_with fail
       refine C.o.mono ?_;rintro n t ⟨rfl,d⟩;have z:=V (q.o.trans (r.o.trans d));have P:=d.cellS P iD;have aM:=d.cellS aM iD;clear d;go_wp2;go_ret
       exact⟨by rw[o.o];rfl,z.o⟩
      have e9:decide ((b.length:Int)<=j)=false:=decide_eq_false d7
      have cD:=V (dV.o (by simp only[stOk,y,decide_eq_true (show 0<=j by omega),decide_eq_true (show j<(b.length:Int) by omega),Bool.and_self]));clear y;go_wp2_with fail
      refine C.o.mono ?_;rintro n t ⟨rfl,d⟩;have aY:G (Cf h t):=V (r.o.trans d);have aX:=V ((aV.o.chg a4.o (λ_ _ _ m=>m)).chg d (λ_ _ _ m=>m));have P:=d.cellS P iD;have dH:=d.cellS dH iD;have aM:=d.cellS aM iD;clear d eT eV eX eZ f8;by_cases aD:0<s.length
      .have e6:decide (0<s.length)=true:=decide_eq_true aD
       rw[if_pos aD]at a7;have e3:G ((yN 0 (a.take e)).length<=1000000000):=V (by have:=vS (a.take e) 0;rw[Ay8]at this;omega);have cI:G (∀a3∈[(e:Int)],intE.ok a3):=V (λfD a9=>by rw[Ay]at a9;rw[a9];exact⟨H,H⟩);have dX:G (Src prog intE.sz intE.sl (.slice (some ⟨t.heap.size,0,none⟩) 1 1) 1 (intE.encs [(e:Int)]) (t.alloc (.cells #[.int .i64 e] 3))):=V (intE.srcLit (Y:=[(e:Int)]) 1 cI.o);have dZ:G (h.heap.size<=t.heap.size):=V aY.o.size;go_wp2_with (at_builtin;refine Elt.wpList_append intE D _ _ 25 25 D D h.heap.size (.slice a1 dB a2) (yN 0 (a.take e)) [(e:Int)] (.slice (some ⟨t.heap.size,0,none⟩) 1 1) D D (aX.o.chg ((FR _).alloc _) (λ_ _ _ m=>m)) (by have:=dZ.o;simp;omega) dX.o cI.o (by have:=e3.o;simp;omega) ?_;intro g2 f7 cF dP f9)
       rw[<-a7.o]at cF;have e0:G (Cf h f7):=V (((aY.o.alloc _).any.trans dP.o).fresh);go_roundw
       .exact⟨e+1,_,D,H,GN,cD.o,cF.o,e0.o⟩
       simp[intOf];omega
      have e6:decide (0<s.length)=false:=decide_eq_false aD
      rw[if_neg aD,Av3]at a7;rw[<-a7.o]at aX;go_wp2;go_roundw
      .exact⟨e+1,_,D,H,GN,cD.o,aX.o,aY.o⟩
      simp[intOf];omega
    obtain rfl:e=a.length:=H
    have e7:=rP a.length;rw[Ay7]at aV;have dK:G (a.all (stOk a.length b.length i.length)=true):=V (zw (λp a3 aH=>c4.o p a3 (Az0.1 aH).1 aH));have cA:G (sY ⟨a,b,g,i,k⟩=decide (yN 0 a=k)):=V (by rw[cB.o,dK.o,Au1];rfl);have c8:G (intE.In wr 0 (a1,dB,a2) (yN 0 a)):=V (aV.o.inC.lower (Ax9 _));obtain⟨rfl,-⟩:=c8.o.len;have dT:G ((yN 0 a).length<=1000000000):=V (by have:=vS a 0;omega);have c9:=V (zt (yN 0 a) k a1 T a2 W 0 0 wr c8.o ((c3.o.chg aT.o iF).in' (λ_ _=>Ax9 _)) dT.o);have g1:=c5.o.cellS l.o.1.2.2.2.2 iD;obtain⟨fH,X⟩:=rM (decide (yN 0 a=k));rw[X]at c9 cA;clear X;go_wp2_with fail
    refine c9.o.mono ?_;rintro n t ⟨rfl,d⟩;have z:=V (aT.o.trans d);clear d;go_wp2;go_ret
    exact⟨by rw[cA.o];rfl,z.o⟩
 have e4:((b.length:Int) != (g.length:Int))=true:=by simp;omega
 have e5:(b.length != g.length)=true:=by simp;omega
 have o:G (sY ⟨a,b,g,i,k⟩=false):=V (by simp only[sY,decide_eq_false bF,Aw3]);go_wp2;go_ret
 exact⟨by rw[o.o];rfl,q.o⟩
def qC (r:Int×Int):Bool:=decide (r.1<0) || decide (1114111<r.2)
def pG (a:LexD) (b:Nat):Bool:=mayT a && decide (a.n.length<=65536) && decide ((a.n.length:Int) * vC a.c<=4194304) && !a.r.any qC && decide (maxI a.e<(b:Int))
theorem zy (h:Nat->Prop) (p:World):jA rngE ib eqR h 83 #[] qC p:=by
 intro g i e k j q;obtain rfl:g=i:=k;obtain⟨a,b⟩:=g;obtain⟨⟨l,m⟩,n,o⟩:=j;simp only at l m n o;show Calls prog 83 #[.agg #[.int .i32 a,.int .i32 b]] e _;by_cases f:a<0
 .have d:decide (a<0)=true:=decide_eq_true f
  have c:G (qC (a,b)=true):=V (by simp only[qC,d,Bool.true_or]);go_enter func83,ntmps83
  go_wp2;go_ret
  exact⟨by rw[c.o];rfl,(J.refl _ e).alloc _⟩
 have d:decide (a<0)=false:=decide_eq_false f
 have c:G (qC (a,b)=decide (1114111<b)):=V (by simp only[qC,d,Au9]);go_enter func83,ntmps83
 go_wp2;go_ret
 exact⟨by rw[c.o];rfl,(J.refl _ e).alloc _⟩
theorem zz (a:LexD) (aR:LexS) (v:Nat) (b7:Nat->Prop) (s:World) (g:LexIn s b7 aR a) (T:Fair a) :
  Calls prog 37 #[cq aR,.int .i64 v] s λd b=>d=.returned (.bool (pG a v))/\Cf s b:=by
 obtain⟨⟨h,bH,i⟩,⟨m,S,n⟩,⟨o,bF,p⟩,⟨j,bD,k⟩⟩:=aR;obtain⟨aK,O,a1,aM⟩:=LexIn.good.mono g (S':=(0<=·)) (λ_ _ _=>Ax9 _);obtain⟨rfl,-⟩:=aK.len;obtain⟨rfl,-⟩:=O.len;obtain⟨rfl,-⟩:=a1.len;obtain⟨rfl,-⟩:=aM.len;have b6:G (LexIn s (0<=·) ⟨(h,a.r.length,i),(m,a.c.length,n),(o,a.n.length,p),(j,a.e.length,k)⟩ a):=V ⟨aK,O,a1,aM⟩;have L:=V T;clear g aK O a1 aM;show Calls prog 37 #[.agg #[.slice h a.r.length i,.slice m a.c.length n,.slice o a.n.length p,.slice j a.e.length k],.int .i64 v] s _;have b8:=enters_of func83 M D;go_enter func37,ntmps37
 go_upto_region 2 with fail
 obtain⟨R,a6⟩:=rK (s.alloc (.cells #[.slice h a.r.length i,.slice m a.c.length n,.slice o a.n.length p,.slice j a.e.length k] 28));rw[<-a6];have Z:G (R.cell? ⟨s.heap.size,0,none⟩=some (.slice h a.r.length i)/\R.cell? ⟨s.heap.size,1,none⟩=some (.slice m a.c.length n)/\R.cell? ⟨s.heap.size,2,none⟩=some (.slice o a.n.length p)/\R.cell? ⟨s.heap.size,3,none⟩=some (.slice j a.e.length k)):=V (by
  rw[a6];exact⟨zG _ D D,zG _ D D,zG _ D D,zG _ D D⟩)
 obtain⟨r,F⟩:=rK R.drew;have K:G (Cf s r):=V (by rw[F,a6];exact ((J.refl _ s).alloc _).drew);have q:G (∀b,Cf r b->b.cell? ⟨s.heap.size,0,none⟩=some (.slice h a.r.length i)/\b.cell? ⟨s.heap.size,1,none⟩=some (.slice m a.c.length n)/\b.cell? ⟨s.heap.size,2,none⟩=some (.slice o a.n.length p)/\b.cell? ⟨s.heap.size,3,none⟩=some (.slice j a.e.length k)):=V (λb t=>by
  have a5:Cf R b:=J.trans (by rw[F];exact (J.refl _ _).drew) t;exact⟨a5.cellS Z.o.1 iD,a5.cellS Z.o.2.1 iD,a5.cellS Z.o.2.2.1 iD,a5.cellS Z.o.2.2.2 iD⟩)
 have W:G (∀b,Cf r b->LexIn b (0<=·) ⟨(h,a.r.length,i),(m,a.c.length,n),(o,a.n.length,p),(j,a.e.length,k)⟩ a):=V (λb t=>LexIn.good.chg b6.o (K.o.trans t) iF);have Y:G (∀b,Cf r b->Calls prog 84 #[.agg #[.slice h a.r.length i,.slice m a.c.length n,.slice o a.n.length p,.slice j a.e.length k]] b λd f=>d=.returned (.bool (mayT a))/\Cf b f):=V (λb t=>yx a (h,a.r.length,i) (m,a.c.length,n) (o,a.n.length,p) (j,a.e.length,k) 0 b (W.o b t).tab L.o);clear a6;cases E:mayT a with
 | false =>
  have z:G (pG a v=false):=V (by simp only[pG,E,Aw3]);have N:G (∀b,Cf r b->Calls prog 84 #[.agg #[.slice h a.r.length i,.slice m a.c.length n,.slice o a.n.length p,.slice j a.e.length k]] b λd f=>d=.returned (.bool false)/\Cf b f):=V (by rw[<-E];exact Y.o);clear E Y;refine zS (λB=>Cf r B) M M ?_ ?_
  .rw[F];exact J.refl _ _
  refine rf q.o ?_;refine xA D (.bool false )  84  ( #[.agg #[.slice h a.r.length i,.slice m a.c.length n,.slice o a.n.length p,.slice j a.e.length k]]) (λb=>by go_simp) (λ_ b _ c=>?_) (λl e=>?_)
  .refine (N.o b c).mono ?_
   rintro d f ⟨rfl,g⟩;exact⟨D,c.trans g⟩
  ((try go_simp);refine e _ ?_;clear e l)
  (iterate 30 (first|refine sq ?_|refine rq ?_))
  refine zW ?_;intro a8 u;have y:=V (K.o.trans u);clear u;go_wp2;go_ret
  exact⟨by rw[z.o];rfl,y.o⟩
 | true =>
  have N:G (∀b,Cf r b->Calls prog 84 #[.agg #[.slice h a.r.length i,.slice m a.c.length n,.slice o a.n.length p,.slice j a.e.length k]] b λd f=>d=.returned (.bool true)/\Cf b f):=V (by rw[<-E];exact Y.o);have b4:=V E;have X:=V (dL.1 E);clear E Y;by_cases A:a.n.length<=65536
  .have x:G (decide (a.n.length<=65536)=true/\decide ((a.n.length:Int)<=65536)=true):=V ⟨decide_eq_true A,decide_eq_true H⟩
   have aX:G (∀b,Cf r b->Calls prog 64 #[.agg #[.slice h a.r.length i,.slice m a.c.length n,.slice o a.n.length p,.slice j a.e.length k]] b λd f=>d=.returned (.int .i64 (vC a.c))/\Cf b f):=V (λb t=>hy a.c h o j m a.r.length i a.n.length p a.e.length k n 0 b (W.o b t).c L.o.c (λaF t=>by have O:=X.o.cb aF t;have a1:=L.o.c;omega));have a3:0<=vC a.c:=tE _;have a4:vC a.c<=a.c.length:=cE H (λaF t=>(X.o.cb aF t).2);obtain⟨w,a2⟩:=rM (vC a.c);have aV:=V a2;rw[a2]at a3 a4;have aB:G (∀b,Cf r b->Calls prog 64 #[.agg #[.slice h a.r.length i,.slice m a.c.length n,.slice o a.n.length p,.slice j a.e.length k]] b λd f=>d=.returned (.int .i64 w)/\Cf b f):=V (by rw[<-a2];exact aX.o);clear a2 aX;have a9:G (IntKind.i64.wrap ((a.n.length:Int) * w)=(a.n.length:Int) * w):=V (by
    obtain⟨S,rfl⟩:∃S:Nat,w=S:=⟨w.toNat,H⟩;have O:a.n.length * S<=65536 * 1000000000:=Nat.mul_le_mul A (by have:=L.o.c;omega);rw[<-Int.natCast_mul,IntKind.wrap_i64]
    generalize a.n.length * S=P at O
    omega)
   by_cases C:(a.n.length:Int) * w<=4194304
   .have U:G (decide ((a.n.length:Int) * w<=4194304)=true):=V (decide_eq_true C)
    have a0:G (∀b,Cf r b->Calls prog 85 #[.slice h a.r.length i,.func (.func 83) #[] #[]] b λd f=>d=.returned (.bool (a.r.any qC))/\Cf b f):=V (λb t=>za eqR.good _ _ qC a.r h i b b8 (zL.of (W.o b t).r) (zy (0<=·) b) L.o.r);cases Q:a.r.any qC with
    | true =>
     have z:G (pG a v=false):=V (by simp only[pG,Q,Bool.not_true,Av2,Aw3]);have aD:G (∀b,Cf r b->Calls prog 85 #[.slice h a.r.length i,.func (.func 83) #[] #[]] b λd f=>d=.returned (.bool true)/\Cf b f):=V (by rw[<-Q];exact a0.o);clear Q a0 A C a3 a4 T;refine zS (λB=>Cf r B) M M ?_ ?_
     .rw[F];exact J.refl _ _
     refine rf q.o ?_;refine xA D (.bool true )  84  ( #[.agg #[.slice h a.r.length i,.slice m a.c.length n,.slice o a.n.length p,.slice j a.e.length k]]) (λb=>by go_simp) (λ_ b _ c=>?_) (λl e=>?_)
     .refine (N.o b c).mono ?_
      rintro d f ⟨rfl,g⟩;exact⟨D,c.trans g⟩
     ((try go_simp);refine e _ ?_;clear e l)
     (iterate 2 (refine rq ?_));refine rf q.o ?_;refine rq ?_;(refine rq ?_ (by intro _ b _ c;have aH:=x.out.1;have aI:=x.out.2;go_simp;try with_reducible rfl));(iterate 3 (refine rq ?_));refine rf q.o ?_;refine rq ?_;refine rf q.o ?_
     refine xA D (.int .i64 w )  64  ( #[.agg #[.slice h a.r.length i,.slice m a.c.length n,.slice o a.n.length p,.slice j a.e.length k]]) (λb=>by go_simp) (λ_ b _ c=>?_) (λl e=>?_)
     .refine (aB.o b c).mono ?_
      rintro d f ⟨rfl,g⟩;exact⟨D,c.trans g⟩
     ((try go_simp);refine e _ ?_;clear e l)
     (refine rq ?_ (by intro _ b _ c;have b2:=a9.out;go_simp;try with_reducible rfl));(refine rq ?_ (by intro _ b _ c;have b1:=U.out;go_simp;try with_reducible rfl));(iterate 3 (refine rq ?_));refine rf q.o ?_;refine rq ?_;refine xA D (.bool true )  85  ( #[.slice h a.r.length i,.func (.func 83) #[] #[]]) (λb=>by go_simp) (λ_ b _ c=>?_) (λl e=>?_)
     .refine (aD.o b c).mono ?_
      rintro d f ⟨rfl,g⟩;exact⟨D,c.trans g⟩
     ((try go_simp);refine e _ ?_;clear e l)
     (iterate 10 (first|refine sq ?_|refine rq ?_))
     refine zW ?_;intro a8 u;have y:=V (K.o.trans u);clear u;go_wp2;go_ret
     exact⟨by rw[z.o];rfl,y.o⟩
    | false =>
     have aD:G (∀b,Cf r b->Calls prog 85 #[.slice h a.r.length i,.func (.func 83) #[] #[]] b λd f=>d=.returned (.bool false)/\Cf b f):=V (by rw[<-Q];exact a0.o);have b3:0<a.e.length:=(by have:=X.o.nl;have:=X.o.el;omega);have aZ:G (∀b,Cf r b->Calls prog 86 #[.slice j a.e.length k] b λd f=>d=.returned (.int .i64 (maxI a.e))/\Cf b f):=V (λb t=>(ou a.e j k 0 b (W.o b t).e L.o.e b3).mono (λd f g=>⟨g.1,by rw[g.2];exact J.refl _ _⟩));have aY:G (pG a v=decide (maxI a.e<(v:Int))):=V (by simp only[pG,b4.o,aV.o,Q,decide_eq_true A,decide_eq_true C,Bool.not_false,Au1]);obtain⟨a7,aP⟩:=rM (maxI a.e);have b5:G (∀b,Cf r b->Calls prog 86 #[.slice j a.e.length k] b λd f=>d=.returned (.int .i64 a7)/\Cf b f):=V (by rw[<-aP];exact aZ.o);rw[aP]at aY;clear aP aZ b3 Q a0 A C a3 a4 T;obtain⟨b0,aO⟩:=rM (decide (a7<(v:Int)));have z:G (pG a v=b0):=V (by rw[aY.o,aO]);have aT:G (decide (a7<(v:Int))=b0/\True):=V ⟨aO,trivial⟩;clear aO;refine zS (λB=>Cf r B) M M ?_ ?_
     .rw[F];exact J.refl _ _
     refine rf q.o ?_;refine xA D (.bool true )  84  ( #[.agg #[.slice h a.r.length i,.slice m a.c.length n,.slice o a.n.length p,.slice j a.e.length k]]) (λb=>by go_simp) (λ_ b _ c=>?_) (λl e=>?_)
     .refine (N.o b c).mono ?_
      rintro d f ⟨rfl,g⟩;exact⟨D,c.trans g⟩
     ((try go_simp);refine e _ ?_;clear e l)
     (iterate 2 (refine rq ?_));refine rf q.o ?_;refine rq ?_;(refine rq ?_ (by intro _ b _ c;have aH:=x.out.1;have aI:=x.out.2;go_simp;try with_reducible rfl));(iterate 3 (refine rq ?_));refine rf q.o ?_;refine rq ?_;refine rf q.o ?_
     refine xA D (.int .i64 w )  64  ( #[.agg #[.slice h a.r.length i,.slice m a.c.length n,.slice o a.n.length p,.slice j a.e.length k]]) (λb=>by go_simp) (λ_ b _ c=>?_) (λl e=>?_)
     .refine (aB.o b c).mono ?_
      rintro d f ⟨rfl,g⟩;exact⟨D,c.trans g⟩
     ((try go_simp);refine e _ ?_;clear e l)
     (refine rq ?_ (by intro _ b _ c;have b2:=a9.out;go_simp;try with_reducible rfl));(refine rq ?_ (by intro _ b _ c;have b1:=U.out;go_simp;try with_reducible rfl));(iterate 3 (refine rq ?_));refine rf q.o ?_;refine rq ?_;refine xA D (.bool false )  85  ( #[.slice h a.r.length i,.func (.func 83) #[] #[]]) (λb=>by go_simp) (λ_ b _ c=>?_) (λl e=>?_)
     .refine (aD.o b c).mono ?_
      rintro d f ⟨rfl,g⟩;exact⟨D,c.trans g⟩
     ((try go_simp);refine e _ ?_;clear e l)
     (iterate 5 (refine rf q.o ?_))
     refine xA D (.int .i64 a7 )  86  ( #[.slice j a.e.length k]) (λb=>by go_simp) (λ_ b _ c=>?_) (λl e=>?_)
     .refine (b5.o b c).mono ?_
      rintro d f ⟨rfl,g⟩;exact⟨D,c.trans g⟩
     ((try go_simp);refine e _ ?_;clear e l)
     (iterate 4 (refine rq ?_ (by intro _ b _ c;have b9:=aT.out.1;have bB:=aT.out.2;go_simp;try with_reducible rfl)))
     refine zW ?_;intro a8 u;have y:=V (K.o.trans u);clear u;go_wp2;go_ret
     exact⟨by rw[z.o];rfl,y.o⟩
   have U:G (decide ((a.n.length:Int) * w<=4194304)=false):=V (decide_eq_false C)
   have z:G (pG a v=false):=V (by simp only[pG,aV.o,decide_eq_false C,Av2,Aw3]);clear A C a3 a4 T;refine zS (λB=>Cf r B) M M ?_ ?_
   .rw[F];exact J.refl _ _
   refine rf q.o ?_;refine xA D (.bool true )  84  ( #[.agg #[.slice h a.r.length i,.slice m a.c.length n,.slice o a.n.length p,.slice j a.e.length k]]) (λb=>by go_simp) (λ_ b _ c=>?_) (λl e=>?_)
   .refine (N.o b c).mono ?_
    rintro d f ⟨rfl,g⟩;exact⟨D,c.trans g⟩
   ((try go_simp);refine e _ ?_;clear e l)
   (iterate 2 (refine rq ?_));refine rf q.o ?_;refine rq ?_;(refine rq ?_ (by intro _ b _ c;have aH:=x.out.1;have aI:=x.out.2;go_simp;try with_reducible rfl));(iterate 3 (refine rq ?_));refine rf q.o ?_;refine rq ?_;refine rf q.o ?_
   refine xA D (.int .i64 w )  64  ( #[.agg #[.slice h a.r.length i,.slice m a.c.length n,.slice o a.n.length p,.slice j a.e.length k]]) (λb=>by go_simp) (λ_ b _ c=>?_) (λl e=>?_)
   .refine (aB.o b c).mono ?_
    rintro d f ⟨rfl,g⟩;exact⟨D,c.trans g⟩
   ((try go_simp);refine e _ ?_;clear e l)
   (refine rq ?_ (by intro _ b _ c;have b2:=a9.out;go_simp;try with_reducible rfl));(refine rq ?_ (by intro _ b _ c;have b1:=U.out;go_simp;try with_reducible rfl));(iterate 2 (refine rq ?_));(iterate 5 (refine sq ?_));(iterate 2 (refine rq ?_));(iterate 5 (refine sq ?_));(iterate 2 (refine rq ?_));refine zW ?_;intro a8 u;have y:=V (K.o.trans u);clear u;go_wp2;go_ret
   exact⟨by rw[z.o];rfl,y.o⟩
  have x:G (decide (a.n.length<=65536)=false/\decide ((a.n.length:Int)<=65536)=false):=V ⟨decide_eq_false A,decide_eq_false H⟩
  have z:G (pG a v=false):=V (by simp only[pG,decide_eq_false A,Av2,Aw3]);clear A T;refine zS (λB=>Cf r B) M M ?_ ?_
  .rw[F];exact J.refl _ _
  refine rf q.o ?_;refine xA D (.bool true )  84  ( #[.agg #[.slice h a.r.length i,.slice m a.c.length n,.slice o a.n.length p,.slice j a.e.length k]]) (λb=>by go_simp) (λ_ b _ c=>?_) (λl e=>?_)
  .refine (N.o b c).mono ?_
   rintro d f ⟨rfl,g⟩;exact⟨D,c.trans g⟩
  ((try go_simp);refine e _ ?_;clear e l)
  (iterate 2 (refine rq ?_));refine rf q.o ?_;refine rq ?_;(refine rq ?_ (by intro _ b _ c;have aH:=x.out.1;have aI:=x.out.2;go_simp;try with_reducible rfl));(iterate 2 (refine rq ?_));(iterate 7 (refine sq ?_));(iterate 2 (refine rq ?_));(iterate 5 (refine sq ?_));(iterate 2 (refine rq ?_));(iterate 5 (refine sq ?_));(iterate 2 (refine rq ?_))
  refine zW ?_;intro a8 u;have y:=V (K.o.trans u);clear u;go_wp2;go_ret
  exact⟨by rw[z.o];rfl,y.o⟩
end Go.Proofs.YtgnpmceimpjheaaGreat
