/- A part of the proof: RowsR RowsT Lin Tab1 Elts Strs CodE Twins PutA PutB TakeA TakeL ConcatG RowsP. -/
import Derived.Test.YtgnpmceimpjheaaGreatGG2
import Derived.Laws.BytesArg
import Derived.Lib.SlBytesConst
import Derived.Lib.SliceRun
import Derived.Lib.VarintBits
import Derived.Handy
set_option maxRecDepth 100000
set_option maxHeartbeats 16000000
namespace Go.Proofs.YtgnpmceimpjheaaGreat
open Go.RowKit Go.Proofs.Tryz
variable {a b c d e f g h i j k l m n o p q r:Nat}{w v u t s:World}{X Y W L T:List Int}{A B C E Z:Value}{x y z:Int}{N R:Bool}{F Q:Option Addr}{S P:Nat->Prop}
def addL (t:List RowD×List Int) (r:RowD):List RowD×List Int:=if eN r t.1 then (t.1,t.2++[idxV (uL r) t.1]) else (t.1++[r],t.2++[(t.1.length:Int)])
theorem Elt.In.chg0 {i:Type}{f:Elt i}{e:Sl}{b:List i}(j:f.In w a e b) (n:J S w v) (p:0<b.length->∀c d,e.1=some ⟨c,d,none⟩->¬S c):f.In v a e b:=by
 obtain⟨k,l,c,d,m,g⟩:=j;exact⟨k,l,c,d,m.chg n (λo=>by
  have h:0<b.length:=by cases b with
   | nil=>exact absurd D o
   | cons q b=>simp
  exact p h c d (g h).1),g⟩
theorem kU.chg0 {e:Elt (Int×Int)}{d:Int×Sl}{c:RowD}(b:kU e w a d c) (g:J S w v) (h:0<c.2.length->∀f i,d.2.1=some ⟨f,i,none⟩->¬S f):kU e v a d c:=⟨b.1,b.2.1,b.2.2.chg0 g h⟩
structure TabSt (E:Elt (Int×Int)) (F:Elt (Int×Sl)) (bt:Nat) (w:World) (W:Int) (R:List RowD) (O:List Int) (v u:Value):Prop where
 c0:w.cell? ⟨bt,0,none⟩=some (.int .i64 W)
 c1:w.cell? ⟨bt,1,none⟩=some v
 z1:w.frozen? ⟨bt,1,none⟩=false
 c2:w.cell? ⟨bt,2,none⟩=some u
 z2:w.frozen? ⟨bt,2,none⟩=false
 rows:∃X:List (Int×Sl),F.Own w (bt+1) v X/\X.length=R.length/\∀(j:Nat) x r,X[j]?=some x->R[j]?=some r->kU E w (bt+1) x r/\(0<r.2.length->∀g o,x.2.1=some ⟨g,o,none⟩->v.ownBlock≠some g/\u.ownBlock≠some g/\bt<g)
 of:intE.Own w (bt+1) u O
 apart:∀g,v.ownBlock=some g->u.ownBlock≠some g
theorem TabSt.lt {b:Elt (Int×Int)}{c:Elt (Int×Sl)}{d:List RowD}(e:TabSt b c a w x d X A B):a<w.heap.size:=Az8 _ _ e.c0
theorem TabSt.same {d:Elt (Int×Int)}{e:Elt (Int×Sl)}{f:List RowD}(b:TabSt d e a w x f X A B) (c:Cf w v):TabSt d e a v x f X A B:=by
 obtain⟨m,n,o,g⟩:=b.rows;exact⟨c.cellS b.c0 iD,c.cellS b.c1 iD,(c.frozen (p:=⟨a,1,none⟩) b.lt iD).trans b.z1,c.cellS b.c2 iD,(c.frozen (p:=⟨a,2,none⟩) b.lt iD).trans b.z2,
  ⟨m,n.chg c (λ_ _ _ b=>b),o,λj l k i h=>⟨(g j l k i h).1.same c,(g j l k i h).2⟩⟩,b.of.chg c (λ_ _ _ b=>b),b.apart⟩
theorem TabSt.rowsIn {e:Elt (Int×Int)}{f:Elt (Int×Sl)}{d:List RowD}(n:TabSt e f a w x d X (.slice F b c) A):vW e f w (a+1) (F,b,c) d/\b=d.length/\b<=c:=by
 obtain⟨j,g,h,o⟩:=n.rows;obtain⟨v,z,y,q,i,-⟩:=g.at';injection q with k l m;subst k l m;exact⟨⟨j,g.in' i,h,λs u t r p=>(o s u t r p).1⟩,h,i⟩
theorem J.cellNe {b a:Addr}(d:w.cell? a=some B) (c:b≠a):(w.setCell b A).cell? a=some B:=by
 rw[Ay0 _ _ _ _ c];exact d
theorem TabSt.addRow {q:Elt (Int×Int)}{t:Elt (Int×Sl)}{E:List RowD}(f:TabSt q t a w x E X A C) {z:Int×Sl}{N:RowD}(a6:kU q w (a+1) z N) (a7:0<N.2.length->∀c i,z.2.1=some ⟨c,i,none⟩->A.ownBlock≠some c/\C.ownBlock≠some c/\a<c)
  (a5:∀l,t.Own w (a+1) A l->l.length=E.length->t.Own v (a+1) B (l++[z])) (m:J (λg=>A.ownBlock=some g) w v) (e:B.ownBlock=A.ownBlock\/B.ownBlock=some w.heap.size\/B.ownBlock=some (w.heap.size+1)) :
  (v.cell? ⟨a,1,none⟩=some A/\v.frozen? ⟨a,1,none⟩=false)/\TabSt q t a (v.setCell ⟨a,1,none⟩ B) x (E++[N]) X B C/\J (λg=>a<=g) w (v.setCell ⟨a,1,none⟩ B):=by
 obtain⟨l,P,F,Q⟩:=f.rows;have u:=f.lt;have R:∀c,A.ownBlock=some c->a+1<=c/\c<w.heap.size:=λc d=>P.blk d
 have r:¬A.ownBlock=some a:=λb=>by have:=(R a b).1;omega
 have O:=m.cellS f.c1 r;have a0:=(m.frozen (p:=⟨a,1,none⟩) u r).trans f.z1;have K:=zA v a 1 B;have a1:∀c,c<w.heap.size->A.ownBlock≠some c->B.ownBlock≠some c:=λc d a4 b=>by
  rcases e with e|e|e
  .rw[e]at b;exact a4 b
  .rw[e]at b;obtain rfl:=Az2 b;omega
  rw[e]at b;obtain rfl:=Az2 b;omega
 have S:J (λg=>A.ownBlock=some g\/g=a) w (v.setCell ⟨a,1,none⟩ B):=(m.mono (λg _ b=>.inl b)).trans (K.mono (λg _ b=>.inr b));have Z:∀(k:Int×Sl) (j:RowD),kU q w (a+1) k j->(0<j.2.length->∀c i,k.2.1=some ⟨c,i,none⟩->A.ownBlock≠some c/\C.ownBlock≠some c/\a<c) ->
  kU q (v.setCell ⟨a,1,none⟩ B) (a+1) k j/\(0<j.2.length->∀c i,k.2.1=some ⟨c,i,none⟩->B.ownBlock≠some c/\C.ownBlock≠some c/\a<c):=λk j h U=>by
  refine⟨h.chg0 S (λo c i d b=>?_),λo c i d=>?_⟩
  .obtain⟨L,W,Y⟩:=U o c i d
   rcases b with b|b
   .exact L b
   omega
  obtain⟨L,W,Y⟩:=U o c i d
  obtain⟨_,_,aB,aD,a8,a9⟩:=h.2.2;have u:c<w.heap.size:=by
   have n:=(a9 o).1;rw[d]at n;injection n with n;injection n with n;subst n;exact a8.lt (by intro b;rw[b]at o;simp at o)
  exact⟨a1 c u L,W,Y⟩
 refine⟨⟨O,a0⟩,⟨J.cellNe (m.cellS f.c0 r) (by intro b;injection b with _ b;cases b),Az9 _ _ _ O,(Az3 _ _ _ _).trans a0,J.cellNe (m.cellS f.c2 r) (by intro b;injection b with _ b;cases b),(Az3 _ _ _ _).trans ((m.frozen (p:=⟨a,2,none⟩) u r).trans f.z2),
  ⟨l++[z],(a5 l P F).chg K (λc d _ b=>H),by simp[F],λy k j h s=>?_⟩,?_,λc d T=>?_⟩,S.mono (λg _ b=>by
   rcases b with b|b
   .have:=(R g b).1;omega
   omega)⟩
 .by_cases a2:y<l.length
  .rw[Ax0 a2]at h
   rw[Ax0 H]at s;exact Z k j (Q y k j h s).1 (Q y k j h s).2
  have a3:=(Az0.1 h).1
  simp at a3
  obtain rfl:y=l.length:=H;rw[Ax7 (Ay1 _),Au4]at h;rw[F,Ax7 (Ay1 _),Au4]at s;obtain rfl:=Az2 h;obtain rfl:=Az2 s;exact Z _ _ a6 a7
 .refine (f.of.chgB m (λc d b=>f.apart c b d)).chg K (λc d _ b=>H)
 have:=(f.of.blk T)
 rcases e with e|e|e
 .rw[e]at d;exact f.apart c d T
 .rw[e]at d;obtain rfl:=Az2 d;omega
 rw[e]at d;obtain rfl:=Az2 d;omega
theorem TabSt.addOf {q:Elt (Int×Int)}{r:Elt (Int×Sl)}{s:List RowD}(e:TabSt q r a w x s X A B)
  (U:intE.Own v (a+1) C (X++[y])) (g:J (λf=>B.ownBlock=some f) w v) (Y:C.ownBlock=B.ownBlock\/C.ownBlock=some w.heap.size\/C.ownBlock=some (w.heap.size+1)) :
  (v.cell? ⟨a,2,none⟩=some B/\v.frozen? ⟨a,2,none⟩=false)/\TabSt q r a (v.setCell ⟨a,2,none⟩ C) x s (X++[y]) A C/\J (λf=>a<=f) w (v.setCell ⟨a,2,none⟩ C):=by
 obtain⟨Q,u,R,S⟩:=e.rows;have l:=e.lt;have z:∀c,B.ownBlock=some c->a+1<=c/\c<w.heap.size:=λc d=>e.of.blk d
 have j:¬B.ownBlock=some a:=λb=>by have:=(z a b).1;omega
 have t:=g.cellS e.c2 j;have P:=(g.frozen (p:=⟨a,2,none⟩) l j).trans e.z2;have m:=zA v a 2 C;have F:∀c,c<w.heap.size->B.ownBlock≠some c->C.ownBlock≠some c:=λc d T b=>by
  rcases Y with k|k|k
  .rw[k]at b;exact T b
  .rw[k]at b;obtain rfl:=Az2 b;omega
  rw[k]at b;obtain rfl:=Az2 b;omega
 have E:J (λf=>B.ownBlock=some f\/f=a) w (v.setCell ⟨a,2,none⟩ C):=(g.mono (λf _ b=>.inl b)).trans (m.mono (λf _ b=>.inr b));refine⟨⟨t,P⟩,⟨J.cellNe (g.cellS e.c0 j) (by intro b;injection b with _ b;cases b),J.cellNe (g.cellS e.c1 j) (by intro b;injection b with _ b;cases b),(Az3 _ _ _ _).trans ((g.frozen (p:=⟨a,1,none⟩) l j).trans e.z1),Az9 _ _ _ t,(Az3 _ _ _ _).trans P,
  ⟨Q,(u.chgB g (λc d b=>e.apart c d b)).chg m (λc d _ b=>H),R,λa1 a5 a4 a0 W=>?_⟩,U.chg m (λc d _ b=>H),λc d Z=>?_⟩,E.mono (λf _ b=>by
   rcases b with b|b
   .have:=(z f b).1;omega
   omega)⟩
 .obtain⟨K,L⟩:=S a1 a5 a4 a0 W
  refine⟨K.chg0 E (λi c o d b=>?_),λi c o d=>?_⟩
  .obtain⟨N,n,O⟩:=L i c o d
   rcases b with b|b
   .exact n b
   omega
  obtain⟨N,n,O⟩:=L i c o d
  obtain⟨_,_,a6,a7,a2,a3⟩:=K.2.2;have l:c<w.heap.size:=by
   have h:=(a3 i).1;rw[d]at h;injection h with h;injection h with h;subst h;exact a2.lt (by intro b;rw[b]at i;simp at i)
  exact⟨N,F c l n,O⟩
 exact F c (u.blk d).2 (λb=>e.apart c d b) Z
theorem eY {b c:List (Int×Sl)}(y:rowE.Own w a A b) (t:rowE.Own w a A c):b=c:=by
 have L:∀(n:Nat) (b c:List (Int×Sl)) (g D:List (Int×Sl)) (j:Nat),b.length=n->c.length=n->rowE.Row w j g->rowE.Row w j D->b <+: g->c <+: D->b=c:=by
  intro n b c g D j O P l m C E
  apply List.ext_getElem H
  intro d z B;have o:=(l.at' C);have p:=(m.at' E);have r:b[d]?=some b[d]:=Az4 z;have s:c[d]?=some c[d]:=Az4 B;have v:=o.get r (i:=0) (u:=.int .i64 b[d].1) rfl;have f:=p.get s (i:=0) (u:=.int .i64 c[d].1) rfl;have x:=o.get r (i:=1) (u:=slV b[d].2) rfl;have h:=p.get s (i:=1) (u:=slV c[d].2) rfl;rw[v]at f;rw[x]at h;injection f with f;injection f with _ f;injection h with h;unfold slV at h;injection h with e k q;exact Prod.ext f (Prod.ext e (Prod.ext k q))
 rcases y with ⟨rfl,rfl⟩|⟨j,g,rfl,_,l,F,_⟩
 .rcases t with ⟨_,rfl⟩|⟨j,D,i,_⟩
  .rfl
  cases i
 rcases t with ⟨i,_⟩|⟨N,D,i,_,m,K,_⟩
 .cases i
 injection i with e k q
 injection e with e;injection e with e;subst e;exact L b.length b c g D _ rfl k.symm l m F K
theorem uo (d:Nat) (b9:Int) (a:List RowD) (i:List Int) (aY bV:Value) (c:Int) (b:List (Int×Int)) (e:Option Addr) (g:Nat) (r:World) (K:TabSt vU rowE d r b9 a i aY bV) (q:kU vU r (d+1) (c,e,b.length,g) (c,b)) (bO:0<b.length->∀s cI,e=some ⟨s,cI,none⟩->aY.ownBlock≠some s/\bV.ownBlock≠some s/\d<s)
  (d0:a.length<=1000000) (cZ:i.length<=1000000) (bF:b.length<=1000000000) :
  Calls prog 155 #[.pointer (some ⟨d,0,none⟩),.agg #[.int .i64 c,.slice e b.length g]] r λF j=>∃u aX,F=.returned (.tuple #[])/\TabSt vU rowE d j b9 (addL (a,i) (c,b)).1 (addL (a,i) (c,b)).2 u aX/\J (λf=>d<=f) r j:=by
 obtain⟨b5,Y,c5⟩:=rZ K q bO;obtain⟨k,d7,l,rfl⟩:∃aD aV aF,aY=.slice aD aV aF:=by obtain⟨E,o,_⟩:=K.rows;exact o.shape3
 obtain⟨bX,c0,bZ,rfl⟩:=K.of.shape3;obtain⟨bI,rfl,d4⟩:=K.rowsIn;have b3:=V bI;obtain⟨a0,Z⟩:=rK (r.alloc (.cells #[.int .i64 c,.slice e b.length g] 241));have w:G (Cf r a0):=V (by rw[Z];exact rT);have U:G (∀a2,Cf a0 a2->a2.cell? ⟨r.heap.size,0,none⟩=some (.int .i64 c)/\a2.cell? ⟨r.heap.size,1,none⟩=some (.slice e b.length g)):=V (λa2 q=>by subst Z;exact⟨q.cellS sI iD,q.cellS sI iD⟩);have b8:=V Z;have X:=V (b5.o.same w.o);have d2:=K.lt;clear K q bO bI Z;rcases sG (uL (c,b)) a with ⟨f,A,o,-,p,-,T⟩|⟨p,-,T⟩
 .have a8:=V p
  have d3:=(Az0.1 o).1;have a3:G (addL (a,i) (c,b)=(a,i++[(f:Int)])):=V (by unfold addL;rw[show eN (c,b) (a,i).1=true from T,if_pos D];rw[show idxV (uL (c,b)) (a,i).1=(f:Int) from p]);clear o p T;go_enter func155,ntmps155
  go_upto_region 1 with fail
  rw[<-b8.o];refine ws (λj=>Cf a0 j) ?_;(iterate 3 (refine rq ?_));(refine rq ?_ (by intro _ j _ h;have cK:=h.cellS X.o.c1 iD;go_simp;try with_reducible rfl));refine rf U.o ?_;refine rq ?_
  refine xA D (Value.int .i64 (f:Int) )  178  ( #[.slice k a.length l,.func (.func 179) #[.agg #[.int .i64 c,.slice e b.length g]] #[]]) (λj=>by go_simp) (λ_ j _ h=>?_) (λR x=>?_)
  .refine (fE a k l (d+1) (d+1) c b e g j (b3.o.same (w.o.trans h)) (Y.o.2.2.same (w.o.trans h)) H bF).mono ?_
   rintro F m ⟨rfl,aK⟩;exact⟨by rw[a8.o],h.trans aK⟩
  ((try go_simp);refine x _ ?_;clear x R)
  refine rq ?_;refine zW ?_;intro m t;have W:=V t;have B:=V (X.o.same t);have aH:=B.o.c2;have bB:=B.o.c1;obtain⟨aZ,b0⟩:=U.o m t;clear t;have C:=V (B.o.same ((FR m).alloc (.cells #[.int .i64 f] 3)));have a4:G (d+1<=(m.alloc (.cells #[.int .i64 f] 3)).heap.size):=V C.o.lt;have P:G (∀A∈[(f:Int)],intE.ok A):=V (by intro A q;rw[Ay]at q;subst q;exact⟨H,H⟩);have a9:G (i.length+1<=1000000000000):=V H;go_wp2_with (at_builtin;refine Elt.wpList_append2 intE D (.tmp 33) (.tmp 35) 25 25 D D (d+1) (.slice bX c0 bZ) i [(f:Int)] (.slice (some ⟨m.heap.size,0,none⟩) 1 1) D D C.o.of a4.o (intE.srcLit 1 P.o) P.o a9.o ?_;intro aX cX N c2 O;obtain⟨cM,cP,cO,aM⟩:=N.o.shape3;subst aM;obtain⟨⟨aR,aT⟩,y,z⟩:=C.o.addOf N.o O.o.1 (O.o.2.imp id Or.inl);have a6:=V y;have a5:=V ((w.o.trans W.o).any.trans (((J.refl (λf=>d<=f) m).alloc _).trans z));clear y z)
  go_end0
  exact⟨_,_,D,by rw[a3.o];exact a6.o,a5.o⟩
 have a8:=V p
 have a3:G (addL (a,i) (c,b)=(a++[(c,b)],i++[(a.length:Int)])):=V (by unfold addL;rw[show eN (c,b) (a,i).1=false from T];rfl);clear p T;go_enter func155,ntmps155
 go_upto_region 1 with fail
 rw[<-b8.o];refine ws (λj=>Cf a0 j) ?_;(iterate 3 (refine rq ?_));(refine rq ?_ (by intro _ j _ h;have cK:=h.cellS X.o.c1 iD;go_simp;try with_reducible rfl));refine rf U.o ?_;refine rq ?_
 refine xA D (Value.int .i64 (-1) )  178  ( #[.slice k a.length l,.func (.func 179) #[.agg #[.int .i64 c,.slice e b.length g]] #[]]) (λj=>by go_simp) (λ_ j _ h=>?_) (λR x=>?_)
 .refine (fE a k l (d+1) (d+1) c b e g j (b3.o.same (w.o.trans h)) (Y.o.2.2.same (w.o.trans h)) H bF).mono ?_
  rintro F m ⟨rfl,aK⟩;exact⟨by rw[a8.o],h.trans aK⟩
 ((try go_simp);refine x _ ?_;clear x R)
 refine rq ?_;refine zW ?_;intro m t;have W:=V t;have B:=V (X.o.same t);have aH:=B.o.c2;have bB:=B.o.c1;obtain⟨aZ,b0⟩:=U.o m t;clear t;go_upto_region 4 with fail
 obtain⟨n,aO⟩:=rK m.drew;have c4:G (m.drew=n):=V aO.symm;have Q:G (Cf m n):=V (by rw[aO];exact (J.refl _ _).drew);have b6:=V (B.o.same Q.o);have b7:G (∀s,(Value.slice k a.length l).ownBlock=some s->d+1<=s/\s<r.heap.size):=V (λs cF=>by obtain⟨E,o,_⟩:=b5.o.rows;exact o.blk cF);have c6:=V (Q.o.cellS aZ iD);have c8:=V (Q.o.cellS b0 iD);clear aO bB aH aZ b0;refine zC (λA=>J (λaP=>(Value.slice k a.length l).ownBlock=some aP) n A) (λbT=>decide (bT=10)) M ?_;show yC _ _ _ _ _ _ 11 (Array.replicate 11 false) _ m.drew;rw[c4.o];have v:G (J (λaP=>(Value.slice k a.length l).ownBlock=some aP) n n):=V cR;have c3:G (¬(Value.slice k a.length l).ownBlock=some d):=V (λF=>by have:=(b7.o _ F).1;omega);have b2:G (¬(Value.slice k a.length l).ownBlock=some r.heap.size):=V (λF=>by have:=(b7.o _ F).2;omega);refine lq 0 v.o ?_;refine lq 1 v.o ?_;refine lq 2 v.o ?_;refine lq 3 v.o ?_;(refine lf 4 v.o (λ_ h=>h.cellS b6.o.c1 c3.o) ?_);(refine lq 5 v.o ?_ (hr:=by intro j h;have d5:=h.cellS c6.o b2.o;have d6:=h.cellS c8.o b2.o;go_simp;try with_reducible rfl));refine lt 6 (λ_=>v.o.alloc _) ?_;have aB:=V (b6.o.same ((FR n).alloc (.cells #[.int .i64 c,.slice e b.length g] 241)));have c7:=V (Y.o.same ((w.o.trans W.o).trans (Q.o.trans ((FR n).alloc (.cells #[.int .i64 c,.slice e b.length g] 241)))));refine yQ (i:=7) M D D (.tmp 23) (.tmp 25) 199 199 D (.slice k a.length l) (.slice (some ⟨n.heap.size,0,none⟩) 1 1) D D (λu L=>(∀E,rowE.Own (n.alloc (.cells #[.int .i64 c,.slice e b.length g] 241)) (d+1) (.slice k a.length l) E->E.length=a.length->rowE.Own L (d+1) u (E++[(c,e,b.length,g)]))/\J (λf=>(Value.slice k a.length l).ownBlock=some f) (n.alloc (.cells #[.int .i64 c,.slice e b.length g] 241)) L/\(u.ownBlock=(Value.slice k a.length l).ownBlock\/u.ownBlock=some (n.alloc (.cells #[.int .i64 c,.slice e b.length g] 241)).heap.size)/\∃aD aV aF,u=.slice aD aV aF) ?_ ?_
 .obtain⟨E,bD,cD,-⟩:=aB.o.rows
  have bH:∀c1∈[(c,e,b.length,g)],rowE.ok c1:=(by intro c1 bP;rw[Ay]at bP;subst bP;exact Y.o.2.1);obtain⟨u,L,cH,o,aI,⟨p,cA⟩,-⟩:=bD.append (by have:=aB.o.lt;omega) 199 (.slice (some ⟨n.heap.size,0,none⟩) 1 1) [(c,e,b.length,g)] (rowE.srcLit 1 bH) bH sO 199;rw[cD]at *;refine⟨u,L,cH,λ_=>(v.o.alloc _).trans p,λc9 cB d1=>?_,p,cA,o.shape3⟩;have:c9=E:=eY cB bD;rw[this];exact o
 rintro u L bK ⟨o,aI,p,cS,cV,cT,rfl⟩ R x;obtain⟨⟨aR,aT⟩,y,z⟩:=aB.o.addRow c7.o c5.o o aI (p.imp id Or.inl);obtain⟨a7,b1,b4⟩:=rZ y (((w.o.trans (W.o.trans Q.o)).any (S:=λf=>d<=f)).trans (((J.refl _ n).alloc _).trans z)) (bK dE);clear y z o aI p bK;(try go_simp)
 refine x _ ?_;clear x R;refine lt 8 (λ_=>b4.o) ?_;refine lt 9 (λ_=>b4.o) ?_;refine ld 10 ?_;refine zQ M ?_ _;clear aR aT;obtain⟨a1,bM⟩:=rK (L.setCell ⟨d,1,none⟩ (.slice cS cV cT));rw[<-bM]at a7 b1 ⊢;have aH:=a7.o.c2;clear bM;have C:=V (a7.o.same ((FR a1).alloc (.cells #[.int .i64 a.length] 3)));have a4:G (d+1<=(a1.alloc (.cells #[.int .i64 a.length] 3)).heap.size):=V C.o.lt;have P:G (∀A∈[(a.length:Int)],intE.ok A):=V (by intro A q;rw[Ay]at q;subst q;exact⟨H,H⟩);have a9:G (i.length+1<=1000000000000):=V H;go_wp2_with (at_builtin;refine Elt.wpList_append2 intE D (.tmp 33) (.tmp 35) 25 25 D D (d+1) (.slice bX c0 bZ) i [(a.length:Int)] (.slice (some ⟨a1.heap.size,0,none⟩) 1 1) D D C.o.of a4.o (intE.srcLit 1 P.o) P.o a9.o ?_;intro aX cX N c2 O;obtain⟨cM,cP,cO,aM⟩:=N.o.shape3;subst aM;obtain⟨⟨aR,aT⟩,y,z⟩:=C.o.addOf N.o O.o.1 (O.o.2.imp id Or.inl);have a6:=V y;have a5:=V (b1.o.trans (((J.refl (λf=>d<=f) a1).alloc _).trans z));clear y z)
 go_end0
 exact⟨_,_,D,by rw[a3.o];exact a6.o,a5.o⟩
def yJ (a:List (List Int)):List RowD×List Int:=a.foldl (λc b=>addL c (rowL b)) ([],[])
theorem et (a:List (List Int)) (b:List Int):yJ (a++[b])=addL (yJ a) (rowL b):=by simp[yJ,List.foldl_append]
def nE (W:Int) (l:List Int):Bool:=!tN l && decide ((l.length:Int)=W)
def uQ (b:Int) (a:List (List Int)):Bool:=a.all (nE b)
theorem uq (t:List RowD×List Int) (r:RowD):(addL t r).1.length<=t.1.length+1/\(addL t r).2.length=t.2.length+1:=by
 unfold addL
 split <;> simp
theorem sE (a:List (List Int)):(yJ a).1.length<=a.length/\(yJ a).2.length=a.length:=by
 have e:∀(a:List (List Int)) (b:List RowD×List Int),(a.foldl (λb c=>addL b (rowL c)) b).1.length<=b.1.length+a.length/\(a.foldl (λb c=>addL b (rowL c)) b).2.length=b.2.length+a.length:=by
  intro a
  induction a with
  | nil=>intro b;simp
  | cons c a d =>
   intro b;have f:=d (addL b (rowL c));have g:=uq b (rowL c);simp only[List.foldl_cons,Ax2];omega
 have:=e a ([],[]);simpa [yJ] using this
def rN (f:World) (b:Nat) (h:Sl) (c:List (List Int)):Prop:=∃a:List Sl,pW.In f b h a/\a.length=c.length/\∀(d:Nat) g e,a[d]?=some g->c[d]?=some e->intE.In f b g e
theorem rN.same {d:Sl}{b:List (List Int)}(f:rN w a d b) (c:Cf w v):rN v a d b:=by
 obtain⟨e,g,h,i⟩:=f;exact⟨e,g.same c,h,λl n m k j=>(i l n m k j).same c⟩
theorem rN.get {d:List (List Int)}(x:rN w a (F,b,c) d) {k:Nat}(A:k<d.length) :
  ∃(h:List Int) (e j:Nat) (s:Option Addr) (t g l:Nat),d[k]?=some h/\F=some ⟨e,j,none⟩/\w.cell? ⟨e,j+k,none⟩=some (.slice s h.length t)/\h.length<=t/\I.BytesAt w g l h/\(0<h.length->s=some ⟨g,l,none⟩/\a<=g)/\e<w.heap.size/\a<=e:=by
 obtain⟨f,⟨K,L,e,j,n,m⟩,o,y⟩:=x;have r:f[k]?=some f[k]:=Az4 H;have q:d[k]?=some d[k]:=Az4 A;obtain⟨B,N,g,l,C,E⟩:=y k _ _ r q;have p:=n.get r (i:=0) (u:=slV f[k]) D;rw[Nat.add_zero,show pW.sz=1 from D,Nat.mul_one]at p;obtain⟨m,z⟩:=m H;refine⟨d[k],e,j,f[k].1,f[k].2.2,g,l,q,m,?_,H,er.1 C,E,n.lt (by intro v;rw[v]at o;simp at o;omega),z⟩;rw[p,<-B]
 rfl
theorem rN.len {d:List (List Int)}(e:rN w a (F,b,c) d):b=d.length/\b<=c:=by
 obtain⟨i,⟨f,g,_⟩,h,_⟩:=e;exact⟨by rw[<-h];exact f,g⟩
def OfIn (w:World) (B:Nat) (a:Option Addr) (O:List Int):Prop:=(O=[]/\a=none)\/∃g,a=some ⟨g,0,none⟩/\I.Row w g O/\B<=g
def tabV (a:Int) (f:Option Addr) (h g:Nat) (c:Option Addr) (e d:Nat) (b:Int):Value:=.tuple #[.agg #[.int .i64 a,.slice f h g,.slice c e d],.int .i64 b]
theorem vW.lower {h:Elt (Int×Int)}{i:Elt (Int×Sl)}{g B':Nat}{l:Sl}{j:List RowD}(n:vW h i w g l j) (k:B'<=g):vW h i w B' l j:=by
 obtain⟨m,o,p,a⟩:=n;exact⟨m,o.lower k,p,λd f e c b=>⟨(a d f e c b).1,(a d f e c b).2.1,(a d f e c b).2.2.lower k⟩⟩
theorem OfIn.lower {b B':Nat}(a:OfIn w b F X) (g:B'<=b):OfIn w B' F X:=by
 rcases a with a|⟨c,d,e,f⟩
 .exact .inl a
 exact .inr ⟨c,d,e,H⟩
theorem TabSt.final {y:Elt (Int×Int)}{z:Elt (Int×Sl)}{p:List RowD}(l:TabSt y z a w x p X (.slice F b c) (.slice Q d e)) (s:J (λt=>t<=a) w v) :
  vW y z v (a+1) (F,b,b) p/\OfIn v (a+1) Q X/\b=p.length/\d=X.length/\b<=c/\d<=e:=by
 obtain⟨O,A,B,C⟩:=l.rows;have P:=A.chg s (λg E _ f=>H);obtain⟨Y,g,Z,T,S,-⟩:=A.at';injection T with h i j;subst h i j;refine⟨⟨O,P.in' (Ay1 _),B,λL o N n K=>(C L o N n K).1.chg0 s (λk g U E f=>by have:=((C L o N n K).2 k g U E).2.2;omega)⟩,?_,B,?_,S,?_⟩
 .rcases l.of with ⟨f,rfl⟩|⟨g,u,f,q,r,k,_⟩
  .injection f with h i j
   exact .inl ⟨D,h⟩
  injection f with h i j
  have m:=(r.chg s (show ¬g<=a by omega));refine .inr ⟨g,h,bY.1 ⟨λt W R=>?_,m.z,m.lt,λo n=>m.ok o (k.subset n)⟩,q⟩;have:=(m.at' k).c t W R;rwa [Ax]at this
 .rcases l.of with ⟨f,rfl⟩|⟨g,u,f,q,r,k,_⟩
  .injection f
  injection f
 rcases l.of with ⟨f,rfl⟩|⟨g,u,f,q,r,k,_⟩
 .injection f with h i j
  subst i j;exact Ay1 _
 injection f with h i j
 subst i j;exact k.length_le
theorem ur (a:List Int) (b:∀e∈a,I.Byte e):I.Byte (xL a):=by
 rcases pY a with ⟨_,d⟩|⟨c,_⟩
 .rw[d];exact⟨H,H⟩
 exact b _ c
def ut (b:World) (d:Int) (a:List (List Int)) (e:Ending) (c:World):Prop :=
 (uQ d a=false/\e=.returned (tabV 0 none 0 0 none 0 0 1)/\Cf b c) \/
 (uQ d a=true/\∃g f,e=.returned (tabV d g (yJ a).1.length (yJ a).1.length f (yJ a).2.length (yJ a).2.length 0)/\vW vU rowE c b.heap.size (g,(yJ a).1.length,(yJ a).1.length) (yJ a).1/\OfIn c b.heap.size f (yJ a).2/\Cf b c)
theorem uu (f:Int) (b:List (List Int)) (a8:Option Addr) (a9 cX:Nat) (a:World) (E:rN a cX (a8,b.length,a9) b) (eD:0<=f) (c5:f<=65536) (eM:b.length<=65536) (cA:∀d∈b,d.length<=65536) :
  Calls prog 116 #[.int .i64 f,.slice a8 b.length a9] a (ut a f b):=by
 have d1:=V E;have d3:=V cA;have e5:decide (f<0)=false:=by simp;omega
 have e6:decide (65536<f)=false:=by simp;omega
 have bI:=V ((J.refl (λc=>a.heap.size<=c) a).alloc (.cells #[.int .i64 0,.slice none 0 0,.slice none 0 0] 201));have N:G (∀wr,J (λc=>a.heap.size+1<=c) (a.alloc (.cells #[.int .i64 0,.slice none 0 0,.slice none 0 0] 201)) wr->(wr.cell? ⟨a.heap.size,0,none⟩=some (.int .i64 0)/\wr.cell? ⟨a.heap.size,1,none⟩=some (.slice none 0 0)/\wr.cell? ⟨a.heap.size,2,none⟩=some (.slice none 0 0))/\∀aI,wr.frozen? ⟨a.heap.size,aI,none⟩=false):=V λwr A =>
  ⟨⟨A.cellS sI (by show ¬a.heap.size+1<=a.heap.size;omega),A.cellS sI (by show ¬a.heap.size+1<=a.heap.size;omega),A.cellS sI (by show ¬a.heap.size+1<=a.heap.size;omega)⟩,λaI=>(A.frozen (p:=⟨a.heap.size,aI,none⟩) sI (by show ¬a.heap.size+1<=a.heap.size;omega)).trans (Az6 _ _ _ _)⟩
 obtain⟨a1,aH⟩:=rK (a.alloc (.cells #[.int .i64 0,.slice none 0 0,.slice none 0 0] 201));have cI:a1.heap.size=a.heap.size+1:=by rw[aH];simp
 have bZ:G (TabSt vU rowE (a.heap.size+1) (a1.alloc (.cells #[.int .i64 f,.slice none 0 0,.slice none 0 0] 201)) f [] [] (.slice none 0 0) (.slice none 0 0)):=V (by
  rw[<-cI];exact⟨by rw[Az5];rfl,by rw[Az5];rfl,Az6 _ _ _ _,by rw[Az5];rfl,Az6 _ _ _ _,⟨[],.nil _ _,D,λaI cV eP dR=>by simp at dR⟩,.nil _ _,λK b4=>by cases b4⟩)
 have bK:G (J (λc=>a.heap.size+1<=c) a1 (a1.alloc (.cells #[.int .i64 f,.slice none 0 0,.slice none 0 0] 201))):=V (rT);rw[<-aH]at bI N;have dB:=V aH;clear E cA aH cI;go_enter func116,ntmps116
 go_wp2;rw[<-dB.o]
 go_loopw [27] (λm wr=>∃(c:Nat) (C Z:Value),c<=b.length/\m=.int .i64 c/\uQ f (b.take c)=true/\TabSt vU rowE (a.heap.size+1) wr f (yJ (b.take c)).1 (yJ (b.take c)).2 C Z/\J (λc=>a.heap.size+1<=c) a1 wr) (λm _=>b.length-(intOf m).toNat)
 .exact⟨0,_,_,H,D,D,bZ.o,bK.o⟩
 clear bZ bK;obtain⟨c,C,Z,eI,rfl,cH,cK,A⟩:=hrel;obtain⟨aV,O,U,a4⟩:=sB cH cK A ((bI.o.trans (A.mono (T:=λc=>a.heap.size<=c) (λc _ e=>H))).fresh);obtain⟨⟨i,n,o⟩,g⟩:=N.o wr A;have e3:=V (And.intro (And.intro i (And.intro n o)) g);clear cH cK A i n o g;by_cases dI:c<b.length
 .have e4:=rO c b.length
  obtain⟨d,K,b9,b8,cO,b1,bB,aF,rfl,W,eK,cD,cF,-,-⟩:=(d1.o.same a4.o).get dI;have d2:=V aF;have aR:=V cD;have bP:G (0<d.length->b8=some ⟨b1,bB,none⟩):=V (λE=>(cF E).1);have cB:=d3.o d (Az1 aF);have c0:G (b.take (c+1)=b.take c++[d]):=V (by rw[Ay3,aF];rfl);have bF:G (nE f d=false->uQ f b=false):=V (λE=>by
   unfold uQ;rw[List.all_eq_false];exact⟨d,Az1 d2.o,by simp[E]⟩)
  clear aF cD cF;by_cases L:tN d=true
  .have aT:=V (bF.o (by unfold nE;rw[L];rfl))
   go_wp2_with fail
   refine (ui d b8 b1 bB cO wr aR.o bP.o cB L).mono ?_;rintro e l ⟨rfl,B⟩;unfold ofV slV;obtain⟨⟨i,n,o⟩,-⟩:=N.o l (U.o.trans B.any);obtain⟨-,g⟩:=N.o l (U.o.trans B.any);have aK:=g 0;have aM:=g 1;have aO:=g 2;have a3:=V (a4.o.trans B);have dO:a.heap.size<l.heap.size:=Az8 _ _ i;clear B g W;go_wp2;obtain⟨u,v,w,x⟩:=jS (.int .i64 0) (.slice none 0 0) (.slice none 0 0) i n o;have u:=((FR _).alloc (.cells #[.int .i64 0,.slice none 0 0] 241)).cellS u iD;have v:=((FR _).alloc (.cells #[.int .i64 0,.slice none 0 0] 241)).cellS v iD;have w:=((FR _).alloc (.cells #[.int .i64 0,.slice none 0 0] 241)).cellS w iD;have X:=(((a3.o.any (S:=λc=>a.heap.size<=c)).trans (x.mono (λc _ e=>H))).alloc (.cells #[.int .i64 0,.slice none 0 0] 241)).fresh;clear x
   generalize ((((l.setCell ⟨a.heap.size,0,none⟩ (.int .i64 0)).setCell ⟨a.heap.size,1,none⟩ (.slice none 0 0)).setCell ⟨a.heap.size,2,none⟩ (.slice none 0 0)).alloc (.cells #[.int .i64 0,.slice none 0 0] 241))=WW at *
   exact bodyPost_ret (v:=.tuple #[.agg #[.int .i64 0,.slice none 0 0,.slice none 0 0],.int .i64 1]) (by simp[results,results116,go_sem,u,v,w]) D (.inl ⟨aT.o,D,X⟩)
  have L:tN d=false:=by simpa using L
  go_wp2_with fail
  refine (uj d b8 b1 bB cO wr aR.o bP.o cB L).mono ?_;rintro e l ⟨⟨j,dX,q⟩,rfl,b5,B⟩;obtain rfl:dX=(zN (xL d) 0 d).length:=b5.1;unfold ofV slV;simp only;obtain⟨aP,a3,d8⟩:=rZ b5 B (O.o.same B);obtain⟨⟨i,n,o⟩,g⟩:=N.o l (U.o.trans B.any);have aK:=g 0;have aM:=g 1;have aO:=g 2;have dO:a.heap.size<l.heap.size:=Az8 _ _ i;clear b5 B g W;by_cases P:(d.length:Int)=f
  .have dV:((d.length:Int) != f)=false:=by simpa using P
   have d4:G (nE f d=true):=V (by unfold nE;rw[L];simpa using P);have d5:G (uQ f (b.take (c+1))=true):=V (by
    have:=aV.o;unfold uQ at this ⊢;rw[c0.o,List.all_append,this];simp[d4.o])
   have bT:=V (sE (b.take c));have c8:(yJ (b.take c)).1.length<=1000000:=(by have:=bT.o.1;have:=Au3 c b;omega);have c7:(yJ (b.take c)).2.length<=1000000:=(by have:=bT.o.2;have:=Au3 c b;omega);have bH:G (a.heap.size+2<=wr.heap.size):=V (by have:=O.o.lt;omega);have aZ:G (kU vU (l.alloc (.cells #[.int .i64 (xL d),.slice j (zN (xL d) 0 d).length q] 241)) (a.heap.size+1+1) (xL d,j,(zN (xL d) 0 d).length,q) (xL d,zN (xL d) 0 d)):=V
    ⟨D,ur d aR.o.byte,(aP.o.lower (by have:=bH.o;omega)).same (rT)⟩
   have aY:G (0<(zN (xL d) 0 d).length->∀K b9,j=some ⟨K,b9,none⟩->C.ownBlock≠some K/\Z.ownBlock≠some K/\a.heap.size+1<K):=V (λdP K b9 b4=>by
    obtain⟨_,_,e7,eO,_,dT⟩:=aP.o;obtain⟨y,eF⟩:=dT dP
    change j=_ at y
    rw[b4]at y;injection y with y;injection y with y;subst y;obtain⟨t,z,_⟩:=O.o.rows;have:=bH.o;exact⟨λe=>by have:=(z.blk e).2;omega,λe=>by have:=(O.o.of.blk e).2;omega,H⟩)
   have a6:=V (d8.o.same ((FR l).alloc (.cells #[.int .i64 (xL d),.slice j (zN (xL d) 0 d).length q] 241)));have bO:G ((zN (xL d) 0 d).length<=1000000000):=V (by have:=tG (xL d) d 0;omega);have bX:G (yJ (b.take (c+1))=addL (yJ (b.take c)) (xL d,zN (xL d) 0 d)):=V (by rw[c0.o,et];rfl);have bM:=V ((U.o.trans a3.o.any).alloc (.cells #[.int .i64 (xL d),.slice j (zN (xL d) 0 d).length q] 241));obtain⟨dF,b3⟩:=rM (xL d);obtain⟨t,z⟩:=rM (zN (xL d) 0 d);rw[z,b3]at aZ a6 bX bM;rw[z]at aY bO;rw[z,b3];clear z b3 P aP;obtain⟨c2,aD⟩:=rM ((yJ (b.take c)).1);obtain⟨c1,aB⟩:=rM ((yJ (b.take c)).2);have d7:G (yJ (b.take c)=(c2,c1)):=V (by rw[<-aD,<-aB]);rw[aD,aB]at a6;rw[aD]at c8;rw[aB]at c7;clear aD aB;go_wp2_with fail
   refine (uo (a.heap.size+1) f c2 c1 C Z dF t j q _ a6.o aZ.o aY.o c8 c7 bO.o).mono ?_;rintro e e0 ⟨cS,u3,rfl,cM,c9⟩;have d9:G (TabSt vU rowE (a.heap.size+1) e0 f (yJ (b.take (c+1))).1 (yJ (b.take (c+1))).2 cS u3):=V (by rw[bX.o,d7.o];exact cM);have cZ:=V (bM.o.trans c9);clear cM c9 a6 aZ aY;go_wp2;go_roundw
   .exact⟨c+1,cS,u3,H,GN,d5.o,d9.o,cZ.o⟩
   simp[intOf];omega
  have dV:((d.length:Int) != f)=true:=by simpa using P
  have aT:=V (bF.o (by unfold nE;rw[L];simpa using P));clear P;obtain⟨t,z⟩:=rM (zN (xL d) 0 d);rw[z]at *;clear z;go_wp2;obtain⟨u,v,w,x⟩:=jS (.int .i64 0) (.slice none 0 0) (.slice none 0 0) i n o;have u:=((FR _).alloc (.cells #[.int .i64 (xL d),.slice j t.length q] 241)).cellS u iD;have v:=((FR _).alloc (.cells #[.int .i64 (xL d),.slice j t.length q] 241)).cellS v iD;have w:=((FR _).alloc (.cells #[.int .i64 (xL d),.slice j t.length q] 241)).cellS w iD;have X:=((((a4.o.trans a3.o).any (S:=λc=>a.heap.size<=c)).trans (x.mono (λc _ e=>H))).alloc (.cells #[.int .i64 (xL d),.slice j t.length q] 241)).fresh;clear x
  generalize ((((l.setCell ⟨a.heap.size,0,none⟩ (.int .i64 0)).setCell ⟨a.heap.size,1,none⟩ (.slice none 0 0)).setCell ⟨a.heap.size,2,none⟩ (.slice none 0 0)).alloc (.cells #[.int .i64 (xL d),.slice j t.length q] 241))=WW at *
  exact bodyPost_ret (v:=.tuple #[.agg #[.int .i64 0,.slice none 0 0,.slice none 0 0],.int .i64 1]) (by simp[results,results116,go_sem,u,v,w]) D (.inl ⟨aT.o,D,X⟩)
 obtain rfl:c=b.length:=H
 have d6:G (uQ f b=true):=V (by have:=aV.o;rwa [Ay7]at this);have a7:G (TabSt vU rowE (a.heap.size+1) wr f (yJ b).1 (yJ b).2 C Z):=V (by have:=O.o;rwa [Ay7]at this);obtain⟨k,eT,cT,rfl⟩:∃a8 dU a9,C=.slice a8 dU a9:=(by obtain⟨t,c5,_⟩:=a7.o.rows;exact c5.shape3);obtain⟨r,eR,bD,rfl⟩:=a7.o.of.shape3;obtain⟨-,-,rfl,rfl,dK,dM⟩:=a7.o.final cR;clear O aV;go_wp2_with fail
 obtain⟨h,b6⟩:=rK wr.drew;have dD:G (wr.drew=h):=V b6.symm;have aX:G (Cf wr h):=V (by rw[b6];exact (J.refl _ _).drew);have s:=V (a7.o.same aX.o);obtain⟨⟨i,n,o⟩,g⟩:=N.o h (U.o.trans aX.o.any);have aK:=g 0;have aM:=g 1;have aO:=g 2;have d0:=V ((a4.o.trans aX.o).any (S:=λc=>a.heap.size<=c));have eH:a.heap.size+1<h.heap.size:=s.o.lt;clear b6 g;refine zC (λcV=>cV=h) (λb7=>decide (7<=b7)) M ?_;show yC _ _ _ _ _ _ 10 (Array.replicate 10 false) _ wr.drew;rw[dD.o];have a5:G (h=h):=V D;refine lq 0 a5.o ?_;(refine lq 1 a5.o ?_ (hr:=by intro dZ b2;subst b2;have m:=s.o.c1;go_simp;try with_reducible rfl));refine lq 3 a5.o ?_;(refine lq 4 a5.o ?_ (hr:=by intro dZ b2;subst b2;have m:=s.o.c2;go_simp;try with_reducible rfl));refine zY (i:=2) M D D 156 #[.slice k (yJ b).1.length cT] (λm a0=>m=.slice k (yJ b).1.length (yJ b).1.length/\h=a0) (by go_simp) ?_ ?_
 .refine (kh h k _ cT dK).mono ?_
  rintro e l ⟨rfl,rfl⟩;exact⟨_,D,λ_=>rfl,D,D⟩
 rintro m a0-⟨rfl,rfl⟩ b0 Y;(try go_simp)
 refine Y _ ?_;clear Y b0;refine zY (i:=5) M D D 144 #[.slice r (yJ b).2.length bD] (λm a0=>m=.slice r (yJ b).2.length (yJ b).2.length/\h=a0) (by go_simp) ?_ ?_
 .refine (cn h r _ bD dM).mono ?_
  rintro e l ⟨rfl,rfl⟩;exact⟨_,D,λ_=>rfl,D,D⟩
 rintro m a0-⟨rfl,rfl⟩ b0 Y;(try go_simp)
 refine Y _ ?_;clear Y b0;refine lt 6 (λ_=>rfl) ?_;have c3:=s.o.c1;have e1:=s.o.z1;have W:=s.o.c0;have cP:=zA h (a.heap.size+1) 1 (.slice k (yJ b).1.length (yJ b).1.length);have c4:(h.setCell ⟨a.heap.size+1,1,none⟩ (.slice k (yJ b).1.length (yJ b).1.length)).cell? ⟨a.heap.size+1,2,none⟩=some (.slice r (yJ b).2.length bD):=J.cellNe s.o.c2 (by intro e;injection e with _ e;cases e);have e2:(h.setCell ⟨a.heap.size+1,1,none⟩ (.slice k (yJ b).1.length (yJ b).1.length)).frozen? ⟨a.heap.size+1,2,none⟩=false:=(Az3 _ _ _ _).trans s.o.z2;refine ld 7 ?_;refine lt 8 (λE=>absurd E dE) ?_;refine ld 9 ?_;refine zQ M ?_ _;obtain⟨a2,R⟩:=rK ((h.setCell ⟨a.heap.size+1,1,none⟩ (.slice k (yJ b).1.length (yJ b).1.length)).setCell ⟨a.heap.size+1,2,none⟩ (.slice r (yJ b).2.length (yJ b).2.length));rw[<-R];have F:J (λc=>c=a.heap.size+1) h a2:=(by rw[R];exact cP.trans (zA _ _ _ _));have e8:a2.cell? ⟨a.heap.size+1,0,none⟩=some (.int .i64 f):=(by rw[R];exact J.cellNe (J.cellNe W (by intro e;injection e with _ e;cases e)) (by intro e;injection e with _ e;cases e));have e9:a2.cell? ⟨a.heap.size+1,1,none⟩=some (.slice k (yJ b).1.length (yJ b).1.length):=(by rw[R];exact J.cellNe (Az9 _ _ _ c3) (by intro e;injection e with _ e;cases e));have eB:a2.cell? ⟨a.heap.size+1,2,none⟩=some (.slice r (yJ b).2.length (yJ b).2.length):=(by rw[R];exact Az9 _ _ _ c4);have Q:¬a.heap.size=a.heap.size+1:=H;have i:=F.cellS i Q;have n:=F.cellS n Q;have o:=F.cellS o Q;have aK:=(F.frozen (p:=⟨a.heap.size,0,none⟩) (by show a.heap.size<_;omega) Q).trans aK;have aM:=(F.frozen (p:=⟨a.heap.size,1,none⟩) (by show a.heap.size<_;omega) Q).trans aM;have aO:=(F.frozen (p:=⟨a.heap.size,2,none⟩) (by show a.heap.size<_;omega) Q).trans aO;have bV:=V F;clear R F cP W c3 c4 e1 e2;go_wp2;obtain⟨u,v,w,x⟩:=jS (.int .i64 f) (.slice k (yJ b).1.length (yJ b).1.length) (.slice r (yJ b).2.length (yJ b).2.length) i n o;have c6:=(bV.o.mono (T:=λc=>c<=a.heap.size+1) (λc _ e=>H)).trans (x.mono (λc _ e=>H));obtain⟨X,dH,-⟩:=s.o.final c6;have y:=(d0.o.trans (bV.o.mono (λc _ e=>H))).trans (x.mono (λc _ e=>H));clear x c6
 generalize ((a2.setCell ⟨a.heap.size,0,none⟩ (.int .i64 f)).setCell ⟨a.heap.size,1,none⟩ (.slice k (yJ b).1.length (yJ b).1.length)).setCell ⟨a.heap.size,2,none⟩ (.slice r (yJ b).2.length (yJ b).2.length)=WW at *
 exact bodyPost_ret (v:=.tuple #[.agg #[.int .i64 f,.slice k (yJ b).1.length (yJ b).1.length,.slice r (yJ b).2.length (yJ b).2.length],.int .i64 0]) (by simp[results,results116,go_sem,u,v,w]) D (.inr ⟨d6.o,k,r,D,X.lower H,dH.lower H,y.fresh⟩)
section
variable {α:Type}{E:Elt α}
end
structure LexD where
 r:List (Int×Int)
 c:List Int
 n:List (List Int)
 e:List Int
def vC (C:List Int):Int:=C.foldl (λm c=>max m (c+1)) 0
theorem uv (C:List Int) (c:Int):vC (C++[c])=max (vC C) (c+1):=by simp[vC,List.foldl_append]
theorem eu (b:X[a]?=some x):vC (X.take (a+1))=max (vC (X.take a)) (x+1):=by
 rw[Ay3,b];exact uv _ _
theorem kw (c:List Int):∀a:Int,a<=c.foldl (λa b=>max a (b+1)) a/\∀b∈c,b+1<=c.foldl (λa b=>max a (b+1)) a:=by
 induction c with
 | nil=>intro a;simp
 | cons g c f =>
  intro a;obtain⟨h,d⟩:=f (max a (g+1));simp only[List.foldl_cons,Ax5];refine⟨H,?_⟩;rintro b (rfl|e)
  .omega
  exact d b e
theorem tE (C:List Int):0<=vC C:=(kw C 0).1
theorem uw (a:x∈X):x<vC X:=Int.lt_of_add_one_le ((kw X 0).2 x a)
theorem cE {C:List Int}{m:Int}(g:0<=m) (c:∀a∈C,a<m):vC C<=m:=by
 have i:∀(C:List Int) (b:Int),b<=m->(∀a∈C,a<m)->C.foldl (λm a=>max m (a+1)) b<=m:=by
  intro C
  induction C with
  | nil=>intro b d _;exact d
  | cons f C h =>
   intro b d e;have:=e f sI;exact h (max b (f+1)) H (λa c=>e a (by simp[c]))
 exact i C 0 g c
def apOk (R:List (Int×Int)) (i:Nat):Bool:=decide ((R.getD i (0,0)).1<=(R.getD i (0,0)).2) && (decide (i=0) || decide ((R.getD (i-1) (0,0)).2<(R.getD i (0,0)).1))
def fN (R:List (Int×Int)):Bool:=(List.range R.length).all (apOk R)
theorem kx {b:List (Int×Int)}(c:∀a,a<b.length->apOk b a=true):fN b=true:=by
 unfold fN;rw[Aw0];intro a d;exact c a (At1.1 d)
theorem fL {b:List (Int×Int)}(d:a<b.length) (c:apOk b a=false):fN b=false:=by
 unfold fN;rw[List.all_eq_false];exact⟨a,At1.2 d,by rw[c];simp⟩
def inB (c b a:Int):Bool:=decide (c<=a) && decide (a<b)
def rowB (b c:Int) (a:List Int):Bool:=decide ((a.length:Int)=b) && a.all (inB (-1) c)
def bg (C:List Int):Bool:=(List.range (vC C).toNat).all (λc=>C.contains (c:Int))
def mayT (t:LexD):Bool :=
 fN t.r && decide (t.c.length=t.r.length/\0<t.n.length/\t.e.length=t.n.length) && t.c.all (inB 0 t.c.length) && bg t.c && t.e.all (λe=>decide (-1<=e)) && t.n.all (rowB (vC t.c) t.n.length)
structure MayS (t:LexD):Prop where
 ap:fN t.r=true
 cl:t.c.length=t.r.length
 nl:0<t.n.length
 el:t.e.length=t.n.length
 cb:∀c∈t.c,0<=c/\c<t.c.length
 fill:bg t.c=true
 eb:∀e∈t.e,-1<=e
 row:∀l∈t.n,(l.length:Int)=vC t.c/\∀x∈l,-1<=x/\x<t.n.length
theorem dL {i:LexD}:mayT i=true↔MayS i:=by
 unfold mayT;simp only[Ay6,decide_eq_true_eq,Aw0,inB,rowB]
 constructor
 .rintro ⟨⟨⟨⟨⟨a,b,c,d⟩,e⟩,f⟩,g⟩,h⟩
  exact⟨a,b,c,d,e,f,g,h⟩
 rintro ⟨a,b,c,d,e,f,g,h⟩
 exact⟨⟨⟨⟨⟨a,b,c,d⟩,e⟩,f⟩,g⟩,h⟩
theorem tW {a:LexD}(b:¬MayS a):mayT a=false:=by
 cases c:mayT a
 .rfl
 exact absurd (dL.1 c) b
theorem ux {d:Type}{b:List d}{e:d}(c:a<b.length):b.getD a e∈b:=by
 rw[Aw5,Az4 c];exact List.getElem_mem c
abbrev I32 (a:Int):Prop:=-2147483648<=a/\a<=2147483647
abbrev uy (p:Int×Int):Prop:=I32 p.1/\I32 p.2
def dp (p:Int×Int):List Value:=[.int .i32 p.1,.int .i32 p.2]
def rngE:Elt (Int×Int) where
 enc:=dp
 sz:=2
 bs:=8
 e:=117
 sl:=24
 z:=(0,0)
 zv:=.agg #[.int .i32 0,.int .i32 0]
 ok:=uy
 pos:=H
 len:=λ_=>rfl
 one:=λa u hu=>by
  simp only[dp,Ax5,Av4,or_false]at hu;rcases hu with rfl|rfl <;> rfl
 zok:=dE
 info:=M
 zc:=rfl
 und:=M
 bsl:=H
structure TabIn (w:World) (B:Nat) (rs cs ns es:Sl) (t:LexD):Prop where
 r:rngE.In w B rs t.r
 c:intE.In w B cs t.c
 n:rN w B ns t.n
 e:intE.In w B es t.e
theorem Elt.In.chgB {g:Type}{d:Elt g}{f:Sl}{c:List g}(h:d.In w a f c) (l:J S w v) (n:∀b,a<=b->¬S b):d.In v a f c:=by
 obtain⟨i,j,b,o,k,e⟩:=h;exact⟨i,j,b,o,k.chg l (λm=>n b (e (by cases c with
  | nil=>exact absurd D m
  | cons p c=>simp)).2),e⟩
theorem Elt.In.len {f:Type}{g:Elt f}{d:List f}(e:g.In w a (F,b,c) d):b=d.length/\b<=c:=⟨e.1,e.2.1⟩
theorem Elt.In.getI (o:intE.In w a (F,b,c) X) {d:Nat}(f:d<X.length) :
  ∃(h:Int) (e g:Nat),X[d]?=some h/\F=some ⟨e,g,none⟩/\w.cell? ⟨e,g+d,none⟩=some (.int .i64 h)/\-9223372036854775808<=h/\h<=9223372036854775807/\a<=e/\e<w.heap.size:=by
 obtain⟨s,t,e,g,j,p⟩:=o;have m:X[d]?=some X[d]:=Az4 f;have k:=j.get m (i:=0) (u:=.int .i64 X[d]) D;rw[Nat.add_zero,show intE.sz=1 from D,Nat.mul_one]at k;obtain⟨q,r⟩:=p H;have l:=j.ok _ (List.getElem_mem f);exact⟨X[d],e,g,m,q,k,l.1,l.2,r,j.lt (by intro n;rw[n]at f;simp at f)⟩
theorem Elt.In.getR {j:List (Int×Int)}(p:rngE.In w a (F,b,c) j) {i:Nat}(t:i<j.length) :
  ∃(d f:Int) (e h:Nat),j[i]?=some (d,f)/\F=some ⟨e,h,none⟩/\w.cell? ⟨e,h+i * 2,none⟩=some (.int .i32 d)/\w.cell? ⟨e,h+i * 2+1,none⟩=some (.int .i32 f)/\(-2147483648<=d/\d<=2147483647)/\(-2147483648<=f/\f<=2147483647)/\a<=e/\e<w.heap.size:=by
 obtain⟨d,e,h,v,x,u,r,g,l,m,k,q,s⟩:=p.get2 D t;obtain⟨d,f⟩:=d;have g:[Value.int .i32 d,Value.int .i32 f]=[v,x]:=g;injection g with n g;injection g with o;subst n o;exact⟨d,f,e,h,u,r,l,m,k.1,k.2,q,s⟩
def ev (b:World) (a:Nat) (f c e d:Sl):Prop :=
 b.cell? ⟨a,0,none⟩=some (.slice f.1 f.2.1 f.2.2)/\b.cell? ⟨a,1,none⟩=some (.slice c.1 c.2.1 c.2.2)/\b.cell? ⟨a,2,none⟩=some (.slice e.1 e.2.1 e.2.2)/\b.cell? ⟨a,3,none⟩=some (.slice d.1 d.2.1 d.2.2)
theorem ky (e:World) (d a c b:Sl) (f:TypeId):ev (e.alloc (.cells #[.slice d.1 d.2.1 d.2.2,.slice a.1 a.2.1 a.2.2,.slice c.1 c.2.1 c.2.2,.slice b.1 b.2.1 b.2.2] f)) e.heap.size d a c b:=by
 refine⟨?_,?_,?_,?_⟩ <;> · rw[Az5];rfl
theorem ev.chg {S:Nat->Prop}{i w':World}{h e g f:Sl}(b:ev i a h e g f) (c:J S i w') (d:¬S a):ev w' a h e g f :=
 ⟨c.cellS b.1 d,c.cellS b.2.1 d,c.cellS b.2.2.1 d,c.cellS b.2.2.2 d⟩
def lexV (d a c b:Sl):Value:=.agg #[.slice d.1 d.2.1 d.2.2,.slice a.1 a.2.1 a.2.2,.slice c.1 c.2.1 c.2.2,.slice b.1 b.2.1 b.2.2]
theorem au {b:World}{d f:Nat}{Z:List Int}{a:Option Addr}(c:Nat) (h:BytesAt b d f Z) (j:0<Z.length->a=some ⟨d,f,none⟩):(convert 45 9 (.slice a Z.length c)).run prog b=.ok (.string (strOfNums Z)) b:=by
 rcases Ax6 Z.length with e|e
 .have i:=Av1.1 e
  subst i;cases a with
  | none=>exact run_convert_bytes_nil b 45 5 underlying45 underlying5 0 c 9 underlying9
  | some g =>
   show (convert 45 9 (.slice (some g) 0 c)).run prog b=_;rw[run_convert_bytes_string b 45 9 5 _ 0 c underlying45 underlying5 underlying9,run_bytesToString b _ 0 c [] (run_loadCells_list (P:=prog) b g [] (λp q m=>by simp at m))]
   rfl
 obtain rfl:=j e
 refine run_convert_bytes_arg b 45 5 underlying45 underlying5 d f Z.length c Z D (λo l=>?_) 9 underlying9;obtain⟨r,n,k,_⟩:=h.get l;rw[k,Aw5,n]
 rfl
theorem gl (d:World) (a:List Int) (e:TypeId) (f:Nat×Nat) (g:∀b∈a,Byte b):BytesAt (d.alloc (.cells (zU a).toArray e f)) d.heap.size 0 a :=
 ⟨λh b c=>⟨by rw[Ax,World.cell?_alloc_mark];simp[zU,c],g b (Az1 c)⟩,λ_=>sI⟩
theorem ew (g:∀a∈X,Byte a) (h:∀a∈Y,Byte a) (f:strOfNums X=strOfNums Y):X=Y:=by
 have b:X.map (λd=>UInt8.ofNat d.toNat)=Y.map (λd=>UInt8.ofNat d.toNat):=by
  have:=congrArg (λl:ByteArray=>l.data.toList) f;simpa [strOfNums] using this
 clear f
 induction X generalizing Y with
 | nil=>cases Y with
  | nil=>rfl
  | cons e Y=>simp at b
 | cons i X k=>cases Y with
  | nil=>simp at b
  | cons e Y =>
   simp only[List.map_cons,List.cons.injEq]at b;have m:=g i sI;have n:=h e sI;have j:=congrArg UInt8.toNat b.1;simp only[UInt8.toNat_ofNat']at j;rw[k (λa c=>g a (by simp[c])) (λa c=>h a (by simp[c])) b.2,show i=e by omega]
section
abbrev Str:=ByteArray
def strB (s:Str):List Int:=s.data.toList.map (λb=>((b.toNat:Nat):Int))
theorem rC (s:Str):(strB s).length=s.size:=by simp[strB]
theorem kz (d:Str):∀a∈strB d,Byte a:=by
 intro a b;simp only[strB,Au]at b;obtain⟨c,_,rfl⟩:=b;have:=c.toNat_lt;exact⟨H,H⟩
theorem gm {Z:List Int}(b:∀a∈Z,Byte a):strB (strOfNums Z)=Z:=by
 simp only[strB,strOfNums,List.map_map]
 conv=>rhs;rw[<-List.map_id Z]
 apply List.map_congr_left
 intro a c;obtain⟨d,e⟩:=b a c;simp
 omega
theorem lc (s:Str):strOfNums (strB s)=s:=by
 cases s with
 | mk d =>
  simp only[strB,strOfNums,List.map_map]
  congr 1
  apply Array.ext'
  conv=>rhs;rw[<-List.map_id d.toList]
  apply List.map_congr_left
  intro b _;simp
abbrev sU:=Int×Int×Int
abbrev StD:=Int×List sU×List Int
abbrev LsD:=Int×List Int×List (Int×Int)
structure NetD where
 st:List StD
 s:List Int
 p:List Int
 q:List Int
 d:List Int
structure TabsD where
 rl:List Str
 tk:List Str
 dr:List Bool
 lx:LexD
 nt:NetD
 lk:List (List LsD)
abbrev U8 (a:Int):Prop:=0<=a/\a<=255
def strE:Elt Str where
 enc:=λs=>[.string s]
 sz:=1
 bs:=16
 e:=9
 sl:=22
 z:=⟨#[]⟩
 zv:=.string ⟨#[]⟩
 ok:=λ_=>True
 pos:=H
 len:=λ_=>rfl
 one:=λa u hu=>by
  simp only[Ax5,Av4,or_false]at hu;subst hu;rfl
 zok:=trivial
 info:=M
 zc:=rfl
 und:=M
 bsl:=H
def mL:Elt Bool where
 enc:=λb=>[.bool b]
 sz:=1
 bs:=1
 e:=4
 sl:=23
 z:=false
 zv:=.bool false
 ok:=λ_=>True
 pos:=H
 len:=λ_=>rfl
 one:=λa u hu=>by
  simp only[Ax5,Av4,or_false]at hu;subst hu;rfl
 zok:=trivial
 info:=M
 zc:=rfl
 und:=M
 bsl:=H
def bz (x:sU):List Value:=[.int .u8 x.1,.int .i64 x.2.1,.int .i64 x.2.2]
def nY:Elt sU where
 enc:=bz
 sz:=3
 bs:=24
 e:=71
 sl:=72
 z:=(0,0,0)
 zv:=.agg #[.int .u8 0,.int .i64 0,.int .i64 0]
 ok:=λx=>U8 x.1/\I.Byte x.2.1/\I.Byte x.2.2
 pos:=H
 len:=λ_=>rfl
 one:=λa u hu=>by
  simp only[bz,Ax5,Av4,or_false]at hu;rcases hu with rfl|rfl|rfl <;> rfl
 zok:=dE
 info:=M
 zc:=rfl
 und:=M
 bsl:=H
def hJ (x:Int×Sl×Sl):List Value:=[.int .i64 x.1,slV x.2.1,slV x.2.2]
def stE:Elt (Int×Sl×Sl) where
 enc:=hJ
 sz:=3
 bs:=56
 e:=74
 sl:=29
 z:=(0,(none,0,0),(none,0,0))
 zv:=.agg #[.int .i64 0,.slice none 0 0,.slice none 0 0]
 ok:=λx=>I.Byte x.1
 pos:=H
 len:=λ_=>rfl
 one:=λa u hu=>by
  simp only[hJ,Ax5,Av4,or_false]at hu;rcases hu with rfl|rfl|rfl <;> rfl
 zok:=dE
 info:=M
 zc:=rfl
 und:=M
 bsl:=H
def mN:Elt (Int×Int) where
 enc:=tY
 sz:=2
 bs:=16
 e:=149
 sl:=65
 z:=(0,0)
 zv:=.agg #[.int .i64 0,.int .i64 0]
 ok:=em
 pos:=H
 len:=λ_=>rfl
 one:=λa u hu=>by
  simp only[tY,Ax5,Av4,or_false]at hu;rcases hu with rfl|rfl <;> rfl
 zok:=dE
 info:=M
 zc:=rfl
 und:=M
 bsl:=H
def dq (x:Int×Sl×Sl):List Value:=[.int .u8 x.1,slV x.2.1,slV x.2.2]
def lsE:Elt (Int×Sl×Sl) where
 enc:=dq
 sz:=3
 bs:=56
 e:=67
 sl:=61
 z:=(0,(none,0,0),(none,0,0))
 zv:=.agg #[.int .u8 0,.slice none 0 0,.slice none 0 0]
 ok:=λx=>U8 x.1
 pos:=H
 len:=λ_=>rfl
 one:=λa u hu=>by
  simp only[dq,Ax5,Av4,or_false]at hu;rcases hu with rfl|rfl|rfl <;> rfl
 zok:=dE
 info:=M
 zc:=rfl
 und:=M
 bsl:=H
def av:Elt Sl where
 enc:=λs=>[slV s]
 sz:=1
 bs:=24
 e:=63
 sl:=32
 z:=(none,0,0)
 zv:=.agg #[.slice none 0 0]
 ok:=λ_=>True
 pos:=H
 len:=λ_=>rfl
 one:=λa u hu=>by
  simp only[Ax5,Av4,or_false]at hu;subst hu;rfl
 zok:=trivial
 info:=M
 zc:=rfl
 und:=M
 bsl:=H
variable {α β δ:Type}{E:Elt α}
def Elt.InS (E:Elt α) (w:World) (S:Nat->Prop) (s:Sl) (L:List α):Prop :=
 s.2.1=L.length/\s.2.1<=s.2.2/\∃g o,E.At w g o L/\(0<L.length->s.1=some ⟨g,o,none⟩/\S g)
theorem Elt.InS.chg {S c:Nat->Prop}{f w':World}{e:Sl}{b:List α}(g:E.InS f S e b) (k:J c f w') (m:∀a,S a->¬c a):E.InS w' S e b:=by
 obtain⟨h,i,a,n,j,d⟩:=g;exact⟨h,i,a,n,j.chg k (λl=>m a (d (List.length_pos_iff.2 l)).2),d⟩
theorem Elt.InS.mono {e S':Nat->Prop}{c:World}{h:Sl}{d:List α}(i:E.InS c e h d) (l:∀a,a<c.heap.size->e a->S' a):E.InS c S' h d:=by
 obtain⟨j,k,a,m,f,g⟩:=i;exact⟨j,k,a,m,f,λb=>⟨(g b).1,l a (f.lt (List.length_pos_iff.1 b)) (g b).2⟩⟩
theorem Elt.InS.in' {h:World}{b:Nat}{d:Nat->Prop}{g:Sl}{c:List α}(i:E.InS h d g c) (m:∀a,d a->b<=a):E.In h b g c:=by
 obtain⟨j,k,a,n,l,e⟩:=i;exact⟨j,k,a,n,l,λf=>⟨(e f).1,m a (e f).2⟩⟩
theorem Elt.In.inS {w:World}{B:Nat}{s:Sl}{L:List α}(h:E.In w B s L):E.InS w (B<=·) s L:=h
theorem Elt.InS.nil (E:Elt α) (w:World) (S:Nat->Prop):E.InS w S (none,0,0) []:=⟨D,Ay1 _,0,0,.nil _ _ _ _,λh=>absurd h sI⟩
theorem Elt.InS.len {w:World}{S:Nat->Prop}{a:Option Addr}{n c:Nat}{L:List α}(h:E.InS w S (a,n,c) L):n=L.length/\n<=c:=⟨h.1,h.2.1⟩
abbrev Rp (β δ:Type):=World->(Nat->Prop)->β->δ->Prop
structure Good (R:Rp β δ):Prop where
 chg:∀{S T:Nat->Prop}{w w':World}{x:β}{d:δ},R w S x d->J T w w'->(∀g,S g->¬T g)->R w' S x d
 mono:∀{S S':Nat->Prop}{w:World}{x:β}{d:δ},R w S x d->(∀g,g<w.heap.size->S g->S' g)->R w S' x d
def zL (E:Elt β) (R:Rp β δ):Rp Sl (List δ):=λw S s L =>
 ∃X:List β,E.InS w S s X/\X.length=L.length/\∀(j:Nat) x d,X[j]?=some x->L[j]?=some d->R w S x d
theorem zL.good {E:Elt β}{R:Rp β δ}(hR:Good R):Good (zL E R) where
 chg:=λ{S T w w' x d} h hc hs=>by
  obtain⟨X,h1,h2,h3⟩:=h;exact⟨X,h1.chg hc hs,h2,λj x d hx hd=>hR.chg (h3 j x d hx hd) hc hs⟩
 mono:=λ{S S' w x d} h hs=>by
  obtain⟨X,h1,h2,h3⟩:=h;exact⟨X,h1.mono hs,h2,λj x d hx hd=>hR.mono (h3 j x d hx hd) hs⟩
def eqR:Rp β β:=λ_ _ x d=>x=d
theorem eqR.good:Good (eqR (β:=β)):=⟨λh _ _=>h,λh _=>h⟩
def inR (E:Elt β):Rp Sl (List β):=λw S s L=>E.InS w S s L
theorem inR.good {E:Elt β}:Good (inR E):=⟨λa c b=>a.chg c b,λa b=>a.mono b⟩
theorem zL.of {E:Elt β}{e:World}{b:Nat->Prop}{d:Sl}{a:List β}(f:E.InS e b d a):zL E eqR e b d a:=⟨a,f,D,λi j h g c=>by rw[g]at c;exact Az2 c⟩
theorem zL.to {E:Elt β}{d:World}{b:Nat->Prop}{c:Sl}{a:List β}(f:zL E eqR d b c a):E.InS d b c a:=by
 obtain⟨e,g,h,i⟩:=f;have:e=a:=List.ext_getElem h (λl k j=>i l _ _ (Az4 k) (Az4 j));rw[<-this];exact g
theorem zL.len {E:Elt β}{e:Rp β δ}{j:World}{f:Nat->Prop}{g:Option Addr}{a c:Nat}{b:List δ}(h:zL E e j f (g,a,c) b):a=b.length/\a<=c:=by
 obtain⟨k,d,i,l⟩:=h;exact⟨by rw[<-i];exact d.len.1,d.len.2⟩
def stR:Rp (Int×Sl×Sl) StD:=λw S x d=>x.1=d.1/\I.Byte d.1/\nY.InS w S x.2.1 d.2.1/\intE.InS w S x.2.2 d.2.2
theorem stR.good:Good stR:=⟨λa c b=>⟨a.1,a.2.1,a.2.2.1.chg c b,a.2.2.2.chg c b⟩,λa b=>⟨a.1,a.2.1,a.2.2.1.mono b,a.2.2.2.mono b⟩⟩
def lsR:Rp (Int×Sl×Sl) LsD:=λw S x d=>x.1=d.1/\U8 d.1/\intE.InS w S x.2.1 d.2.1/\mN.InS w S x.2.2 d.2.2
theorem lsR.good:Good lsR:=⟨λa c b=>⟨a.1,a.2.1,a.2.2.1.chg c b,a.2.2.2.chg c b⟩,λa b=>⟨a.1,a.2.1,a.2.2.1.mono b,a.2.2.2.mono b⟩⟩
def gG:Rp Sl (List LsD):=zL lsE lsR
theorem zL.get {E:Elt β}{l:Rp β δ}{f:World}{g:Nat->Prop}{m:Option Addr}{A q:Nat}{a:List δ}(s:zL E l f g (m,A,q) a) {k:Nat}(z:k<a.length) :
  ∃(j:β) (n:δ) (b e:Nat),a[k]?=some n/\l f g j n/\m=some ⟨b,e,none⟩/\g b/\b<f.heap.size/\E.ok j/\∀i u,(E.enc j)[i]?=some u->f.cell? ⟨b,e+(k * E.sz+i),none⟩=some u:=by
 obtain⟨c,⟨B,C,b,e,h,t⟩,F,v⟩:=s;have d:k<c.length:=H
 have p:c[k]?=some c[k]:=Az4 d;have o:a[k]?=some a[k]:=Az4 z;obtain⟨w,x⟩:=t H;exact⟨c[k],a[k],b,e,o,v k _ _ p o,w,x,h.lt (by intro r;rw[r]at d;simp at d),h.ok _ (List.getElem_mem d),λi u y=>h.get p y⟩
structure NetS where
 st:Sl
 s:Sl
 p:Sl
 q:Sl
 d:Sl
structure NetIn (w:World) (S:Nat->Prop) (m:NetS) (n:NetD):Prop where
 st:zL stE stR w S m.st n.st
 s:intE.InS w S m.s n.s
 p:intE.InS w S m.p n.p
 q:intE.InS w S m.q n.q
 d:intE.InS w S m.d n.d
theorem NetIn.good:Good (λg d e f=>NetIn g d e f) :=
 ⟨λa c b=>⟨(zL.good stR.good).chg a.st c b,a.s.chg c b,a.p.chg c b,a.q.chg c b,a.d.chg c b⟩,λa b=>⟨(zL.good stR.good).mono a.st b,a.s.mono b,a.p.mono b,a.q.mono b,a.d.mono b⟩⟩
def netV (m:NetS):Value:=.agg #[slV m.st,slV m.s,slV m.p,slV m.q,slV m.d]
structure LexS where
 r:Sl
 c:Sl
 n:Sl
 e:Sl
structure LexIn (w:World) (S:Nat->Prop) (m:LexS) (t:LexD):Prop where
 r:rngE.InS w S m.r t.r
 c:intE.InS w S m.c t.c
 n:zL pW (inR intE) w S m.n t.n
 e:intE.InS w S m.e t.e
theorem LexIn.good:Good (λg d e f=>LexIn g d e f) :=
 ⟨λa c b=>⟨a.r.chg c b,a.c.chg c b,(zL.good inR.good).chg a.n c b,a.e.chg c b⟩,λa b=>⟨a.r.mono b,a.c.mono b,(zL.good inR.good).mono a.n b,a.e.mono b⟩⟩
theorem LexIn.tab {w:World}{B:Nat}{m:LexS}{t:LexD}(h:LexIn w (B<=·) m t):TabIn w B m.r m.c m.n m.e t:=⟨h.r,h.c,h.n,h.e⟩
structure TabsS where
 rl:Sl
 tk:Sl
 dr:Sl
 lx:LexS
 nt:NetS
 lk:Sl
structure TabsIn (w:World) (S:Nat->Prop) (m:TabsS) (t:TabsD):Prop where
 rl:strE.InS w S m.rl t.rl
 tk:strE.InS w S m.tk t.tk
 dr:mL.InS w S m.dr t.dr
 lx:LexIn w S m.lx t.lx
 nt:NetIn w S m.nt t.nt
 lk:zL av gG w S m.lk t.lk
theorem gG.good:Good gG:=zL.good lsR.good
theorem TabsIn.good:Good (λg d e f=>TabsIn g d e f) :=
 ⟨λa c b=>⟨a.rl.chg c b,a.tk.chg c b,a.dr.chg c b,LexIn.good.chg a.lx c b,NetIn.good.chg a.nt c b,(zL.good gG.good).chg a.lk c b⟩,λa b=>⟨a.rl.mono b,a.tk.mono b,a.dr.mono b,LexIn.good.mono a.lx b,NetIn.good.mono a.nt b,(zL.good gG.good).mono a.lk b⟩⟩
def cq (m:LexS):Value:=.agg #[slV m.r,slV m.c,slV m.n,slV m.e]
def kN (m:TabsS):Value:=.agg #[slV m.rl,slV m.tk,slV m.dr,slV m.lx.r,slV m.lx.c,slV m.lx.n,slV m.lx.e,slV m.nt.st,slV m.nt.s,slV m.nt.p,slV m.nt.q,slV m.nt.d,slV m.lk]
def ey (m:TabsS):List Value:=[slV m.rl,slV m.tk,slV m.dr,slV m.lx.r,slV m.lx.c,slV m.lx.n,slV m.lx.e,slV m.nt.st,slV m.nt.s,slV m.nt.p,slV m.nt.q,slV m.nt.d,slV m.lk]
end
theorem gd (a c:List Int) (n o:Option Addr) (p z q A P Q:Nat) (h:World) (x:BytesAt h p z a) (r:0<a.length->n=some ⟨p,z,none⟩) (y:BytesAt h q A c) (s:0<c.length->o=some ⟨q,A,none⟩) (a2:a.length<=1000000000000) :
  Calls prog 48 #[.slice n a.length P,.slice o c.length Q] h λR W=>R=.returned (.bool (decide (a=c)))/\Cf h W:=by
 obtain⟨L,N,E,F⟩:=sB x y r s;clear x y r s;by_cases l:a.length=c.length
 .have O:((a.length:Int) != (c.length:Int))=false:=by simp[l]
  go_enter func48,ntmps48
  go_wp2
  go_loopw [5] (λm wr=>∃b:Nat,b<=a.length/\m=.int .i64 b/\Cf h wr/\a.take b=c.take b) (λm _=>a.length-(intOf m).toNat)
  .exact⟨0,H,D,J.refl _ _,sI⟩
  obtain⟨b,a1,rfl,t,u⟩:=hrel;have d:=V t;have f:=V u;clear t u;by_cases U:b<a.length
  .have X:=rO b a.length
   obtain⟨B,v,Z,a3,a4⟩:=(L.o.chg d.o iE).get U;obtain⟨C,w,a0,a5,a6⟩:=(N.o.chg d.o iE).get (k:=b) H;have S:=E.o H;have T:=F.o H;subst S T;have g:=V v;have i:=V w;clear v w;by_cases j:B=C
   .subst j
    have K:G (a.take (b+1)=c.take (b+1)):=V (by rw[Ay3,Ay3,f.o,g.o,i.o]);clear f g i;go_upto_region 6 with fail
    go_still M
    go_wp2;go_roundw
    .exact⟨b+1,H,GN,d.o.drew,K.o⟩
    simp[intOf];omega
   have Y:(B != C)=true:=by simpa using j
   have e:G (decide (a=c)=false):=V (by
    apply decide_eq_false
    intro k;rw[k,i.o]at g;exact j (Az2 g.o).symm)
   clear f g i j;go_upto_region 6 with fail
   go_still M
   go_wp2;go_ret
   exact⟨by rw[e.o];rfl,d.o.drew⟩
  obtain rfl:b=a.length:=H
  have e:G (decide (a=c)=true):=V (by
   have:=f.o;rw[Ay7,l,Ay7]at this;simp[this])
  clear f;go_wp2;go_ret
  exact⟨by rw[e.o];rfl,d.o⟩
 have O:((a.length:Int) != (c.length:Int))=true:=by simp;omega
 have e:G (decide (a=c)=false):=V (by
  apply decide_eq_false
  intro k;exact l (by rw[k]))
 go_enter func48,ntmps48
 go_wp2;go_ret
 exact⟨by rw[e.o];rfl,cR⟩
theorem uz (a:List Int) (b:Int) (d:Option Addr) (m p l:Nat) (c:World) (g:BytesAt c m p a) (n:0<a.length->d=some ⟨m,p,none⟩) (o:Byte b) (N:a.length<=1000000000) :
  Calls prog 52 #[.slice d a.length l,.int .u8 b] c λe q=>∃f,e=.returned (.slice (some ⟨f,0,none⟩) a.length (a.length+2))/\c.heap.size<=f/\Row q f (a++[b,b])/\Cf c q:=by
 obtain⟨K,v,w⟩:=rZ g n (g.byte);have k:G (∀d∈[b,b],Byte d):=V (by simp;exact o);obtain⟨O,P⟩:=o;clear g n;go_enter func52,ntmps52
 go_upto_region 1 with fail
 go_wp2_with (first
  | (at_make;refine js D _ _ D _ _ _ _ 0 (a.length+2) D D D H H H ?_;intro Q C h)
  | (at_builtin;refine jr D _ _ 45 D c.heap.size (List.replicate (a.length+2) 0) [] a 0 a.length (a.length+2) (.slice d a.length l) D D D sI D C.o (List.nil_prefix) (tS (K.o.chg h.o iE) v.o) w.o sI ?_;intro r t E j A x)
  | (at_builtin;refine jr D _ _ 45 D c.heap.size t ([]++a) [b,b] a.length 2 (a.length+2) (.slice (some ⟨r.heap.size,0,none⟩) 2 2) D D D j.o.symm D (E.o.chg ((FR _).alloc _) iD) A.o (srcLit 2 k.o) k.o (by rw[j.o];simp) ?_;intro s u F z B y))
 have i:G (Row s c.heap.size (a++[b,b])/\Cf c s):=V (by
  have e:u=a++[b,b]:=uc B.o (by rw[z.o];simp);exact⟨e ▸ F.o,((h.o.any.trans (x.o.mono (λL _ e=>H))).trans (((J.refl _ r).alloc _).trans (y.o.mono (λL _ e=>H)))).fresh⟩)
 go_ret
 exact⟨_,D,Ay1 _,i.o.1,i.o.2⟩
theorem va (b a:List Int) (d:Int) (i:Option Addr) (e j l n:Nat) (f:World) (t:Row f e (a++[d,d])) (u:BytesAt f j l b) (s:0<b.length->i=some ⟨j,l,none⟩) (x:a.length<=1000000000) :
  Calls prog 61 #[.slice (some ⟨e,0,none⟩) a.length (a.length+2),.slice i b.length n,.int .u8 d] f λo w=>o=.returned (.bool (decide (a=b)))/\Cf f w:=by
 obtain⟨h,r,q⟩:=rZ t u s;clear t u s;by_cases k:a=b
 .have g:G (decide (a=b)=true):=V (by simp[k])
  have v:a.length+2-a.length=2:=H
  clear k;go_enter func61,ntmps61
  go_wp2_with fail
  refine (gd a b _ i e 0 j l _ n f (h.o.bytes (List.prefix_append _ _)) (λ_=>rfl) r.o q.o H).mono ?_;rintro o p ⟨rfl,c⟩;rw[g.o];have m:=V c;have y:p.cell? ⟨e,a.length,none⟩=some (.int .u8 d):=(h.o.chg c iD).c a.length d sI;have z:p.cell? ⟨e,a.length+1,none⟩=some (.int .u8 d):=(h.o.chg c iD).c (a.length+1) d sI;clear c;go_wp2;go_ret
  exact⟨by rw[g.o];rfl,m.o⟩
 have g:G (decide (a=b)=false):=V (by simp[k])
 have v:a.length+2-a.length=2:=H
 clear k;go_enter func61,ntmps61
 go_wp2_with fail
 refine (gd a b _ i e 0 j l _ n f (h.o.bytes (List.prefix_append _ _)) (λ_=>rfl) r.o q.o H).mono ?_;rintro o p ⟨rfl,c⟩;rw[g.o];have m:=V c;clear c;go_wp2;go_ret
 exact⟨by rw[g.o];rfl,m.o⟩
theorem lg (b:List Int) (c:Option Addr) (m o d:Nat) (a:World) (h:BytesAt a m o b) (n:0<b.length->c=some ⟨m,o,none⟩) (A:b.length<=1000000000) :
  Calls prog 101 #[.slice c b.length d] a λx p=>∃k,x=.returned k/\Own p a.heap.size k b/\Cf a p:=by
 obtain⟨v,l,s⟩:=rZ h n h.byte;clear h n;have z:∀(a:World) (c:Option Addr) (i d j g:Nat),(binOp .eql 45 (.slice c i d) (.slice none j g)).run prog a=.ok (.bool c.isNone) a:=λa c i d j g=>Lib.run_eql_slice_nil a _ _ c i d j g underlying45
 cases c with
 | none =>
  obtain rfl:b=[]:=Av1.1 (by rcases Ax6 b.length with e|e;(exact e);cases l.o e)
  go_enter func101,ntmps101
  go_wp2;go_ret
  exact⟨_,D,.inl ⟨D,D⟩,cR⟩
 | some w =>
  have t:G (Own (a.alloc (.cells #[] 5)) a.heap.size (.slice (some ⟨a.heap.size,0,none⟩) 0 0) []):=V (.inr ⟨_,[],D,Ay1 _,Row.alloc a [] _ (λ_ e=>by cases e),Aw8 _,by simp[maxLen]⟩);have f:G (Cf a (a.alloc (.cells #[] 5))):=V (rT);have u:G (a.heap.size<=(a.alloc (.cells #[] 5)).heap.size):=V f.o.size;go_enter func101,ntmps101
  go_wp2_with (at_builtin;refine xJ D _ _ 45 D a.heap.size (.slice (some ⟨a.heap.size,0,none⟩) 0 0) [] b (.slice (some w) b.length d) D D t.o u.o (tS (v.o.chg f.o iE) l.o) s.o sO ?_;intro k B q r y)
  go_ret
  exact⟨_,D,q.o,(f.o.any.trans r.o).fresh⟩
theorem Own.some (d:Own w a A X) (e:X≠[]):∃(c:Nat) (b:List Int),A=.slice (some ⟨c,0,none⟩) X.length b.length/\a<=c/\Row w c b/\X <+: b/\b.length<=maxLen:=by
 rcases d with ⟨_,rfl⟩|d
 .exact (e D).elim
 exact d
theorem dt {w:World}(i:Option Addr) (C0:List Int) (s:∀d:World,Cf w d->(Builtin.firstCells 1 C0.length (.slice i C0.length C0.length)).run prog d=.ok (zU C0).toArray d)
  (p:∀c∈C0,Byte c) (a:Nat) (n:0<a) (y:C0.length+a<=1000000000000) (l:TypeId) :
  ∃(d:World) (b:List Int),(Builtin.append_ #[45,3] l #[.slice i C0.length C0.length,.int .i64 a]).run prog w=.ok (.slice (some ⟨w.heap.size,0,none⟩) (C0.length+a) b.length) d/\Row d w.heap.size b/\C0 <+: b/\C0.length+a<=b.length/\b.length<=maxLen/\Cf w d:=by
 obtain⟨u,q,t,o,k⟩:=info_parts ao;have v:=grownCap_ge w (C0.length+a) C0.length 5;have x:=grownCap_le_maxLen w (C0.length+a) C0.length 5 (by unfold maxLen;omega);have g:=Lib.run_append_grow_zeros (P:=prog) w 45 3 l 5 u (.int .u8 0) .i64 .i64 underlying45 underlying3 q t i C0.length C0.length (zU C0) (by rw[o];exact s _ (J.refl _ _).drew) a n H H H (by rw[k];omega)
  (by rw[k];exact growslice_fits H H)
 have m:∀c h j:List Int,(zU c).toArray++(zU h).toArray++(zU j).toArray=(zU (c++h++j)).toArray:=λc h j=>by simp[zU]
 rw[mQ,mQ,m]at g;obtain⟨b,f⟩:=rK (C0++List.replicate a 0++List.replicate (grownCap w (C0.length+a) C0.length 5-(C0.length+a)) 0);rw[<-f]at g;have r:b.length=grownCap w (C0.length+a) C0.length 5:=by rw[f];simp only[Az,Av6];omega
 rw[<-r]at g;refine⟨w.drew.alloc (.cells (zU b).toArray 5),b,g,Row.alloc w.drew _ _ (λc e=>?_),by rw[f,Az7];exact List.prefix_append _ _,H,H,(J.refl _ _).drew.alloc _⟩;rw[f]at e;simp only[Aw9,At2]at e;rcases e with (e|⟨_,rfl⟩)|⟨_,rfl⟩
 .exact p c e
 .exact⟨H,H⟩
 exact⟨H,H⟩
theorem gn (c:World) (d:Nat) (v:Value) (a:List Int) (s:Own c d v a) (u:d<=c.heap.size) (K:a.length<=1000000000) :
  Calls prog 115 #[v,.int .i64 5] c λx g=>∃(w:Value),x=.returned w/\Own g d w a/\J (λC=>d<=C) c g:=by
 rcases s with ⟨rfl,rfl⟩|⟨r,b,rfl,z,i,m,A⟩
 .obtain⟨o,e,f,j,n,t,l,k⟩:=dt (w:=c) none [] (λg _=>run_firstCells_none g 1 0 0 0) (λ_ s=>by cases s) 5 H sI 0
  have q:G ((Builtin.append_ #[45,3] 0 #[.slice none 0 0,.int .i64 5]).run prog c=.ok (.slice (some ⟨c.heap.size,0,none⟩) 5 e.length) o):=V f;have h:G (Own o d (.slice (some ⟨c.heap.size,0,none⟩) 0 e.length) []):=V (.inr ⟨_,e,D,u,j,n,l⟩);have p:=V k;unfold maxLen at l;clear f j n k;simp only[Aw6,Ax]at t;go_enter func115,ntmps115
  go_wp2_with (at_builtin;refine Lib.wpList_append_run _ D _ _ _ _ D _ _ D D _ _ q.o ?_)
  go_ret
  exact⟨_,D,h.o,p.o.any⟩
 have N:=m.length_le
 unfold maxLen at A;have E:wrap64 ((b.length:Int)-(a.length:Int))=(b.length:Int)-(a.length:Int):=by unfold wrap64;omega
 have F:wrap64 (5-((b.length:Int)-(a.length:Int)))=5-((b.length:Int)-(a.length:Int)):=by unfold wrap64;omega
 by_cases O:a.length+5<=b.length
 .have h:G (Own c d (.slice (some ⟨r,0,none⟩) a.length b.length) a):=V (.inr ⟨r,b,D,z,i,m,by unfold maxLen;omega⟩)
  have y:¬(5-((b.length:Int)-(a.length:Int)) > 0):=H;clear i m;go_enter func115,ntmps115
  go_wp2;go_ret
  exact⟨_,D,h.o,cR⟩
 obtain⟨o,e,f,j,n,t,l,k⟩:=dt (w:=c) (some ⟨r,0,none⟩) b (λg B=>i.first (Aw8 _) _ g B) i.byte (a.length+5-b.length) H H 0
 have y:5-((b.length:Int)-(a.length:Int)) > 0:=H;rw[show ((a.length+5-b.length:Nat):Int)=5-((b.length:Int)-(a.length:Int)) by omega,show b.length+(a.length+5-b.length)=a.length+5 by omega]at f;have q:=V f;have h:G (Own o d (.slice (some ⟨c.heap.size,0,none⟩) a.length e.length) a):=V (.inr ⟨_,e,D,u,j,m.trans n,l⟩);have p:=V k;unfold maxLen at l;have L:a.length+5<=e.length:=H;clear f j n k i m t;go_enter func115,ntmps115
 go_wp2_with (at_builtin;refine Lib.wpList_append_run _ D _ _ _ _ D _ _ D D _ _ q.o ?_)
 go_ret
 exact⟨_,D,h.o,p.o.any⟩
theorem ez (d:World) (c a b:Nat) (g:a<=b) :
  Calls prog 73 #[.slice (some ⟨c,0,none⟩) a b] d λe f=>e=.returned (.slice (some ⟨c,0,none⟩) a a)/\f=d:=by
 go_enter func73,ntmps73
 go_wp2;go_ret
 exact⟨D,D⟩
def putL (n:Nat):List Int:=if n<128 then [(n:Int)] else ((n % 128+128:Nat):Int) :: putL (n / 128)
termination_by n
decreasing_by omega
theorem jL (b:a<128):putL a=[(a:Int)]:=by rw[putL,if_pos b]
theorem aw {n:Nat}(h:128<=n):putL n=((n % 128+128:Nat):Int) :: putL (n / 128):=by rw[putL,if_neg H]
theorem aU:∀(c a:Nat),a<128 ^ (c+1)->(putL a).length<=c+1
 | 0,a,b=>by rw[jL (by simpa using b)];simp
 | c+1,a,b=>by
  by_cases d:a<128
  .rw[jL d];simp
  rw[aw H]
  have:=aU c (a / 128) (by rw[Nat.pow_succ]at b;exact Nat.div_lt_of_lt_mul (by rw[Nat.mul_comm];exact b));simp only[Ax2];omega
theorem cr (n:Nat):0<(putL n).length:=by
 rw[putL]
 split <;> simp
theorem bQ (b:Nat):∀c∈putL b,Byte c:=by
 induction b using Nat.strongRecOn with
 | _ b e =>
  intro c a;by_cases d:b<128
  .rw[jL d]at a
   simp at a
   subst a;exact⟨H,H⟩
  rw[aw H,Ax5]at a
  rcases a with rfl|a
  .exact⟨H,H⟩
  exact e (b / 128) H c a
theorem rS {n:Nat}(h:n<4294967296):(putL n).length<=5:=aU 4 n H
theorem vb:∀k:Fin 256,bits BinOp.or IntKind.u8 (k.val:Int) 128=((k.val % 128+128:Nat):Int):=by decide +kernel
theorem vd (n:Nat):bits BinOp.or IntKind.u8 ((n:Int) % 256) 128=((n % 128+128:Nat):Int):=by
 have h:=vb ⟨n % 256,H⟩;simp only at h;rw[show ((n:Int) % 256)=((n % 256:Nat):Int) by omega,h]
 congr 1
 omega
theorem lh (b:List Int) (e:Nat) (d:Option Addr) (t x L:Nat) (c:World) (U:BytesAt c t x b) (o:0<b.length->d=some ⟨t,x,none⟩) (aK:b.length<=100000000) (a6:e<4294967296) :
  Calls prog 62 #[.slice d b.length L,.int .u32 e] c λn W=>∃h,n=.returned (.slice (some ⟨h,0,none⟩) (b++putL e).length (b++putL e).length)/\c.heap.size<=h/\Row W h (b++putL e)/\Cf c W:=by
 have a0:=V U;have Z:=V o;clear U o;go_enter func62,ntmps62
 go_wp2_with fail
 refine (lg b d t x L c a0.o Z.o H).mono ?_;rintro n aB ⟨a8,rfl,S,P⟩;have F:=V S;have s:=V P;clear S P;go_wp2_with fail
 refine (gn aB c.heap.size a8 b F.o s.o.size H).mono ?_;rintro n aR ⟨aP,rfl,T,Q⟩;have K:=V T;have A:=V (s.o.any.trans Q);clear T Q F s;go_wp2
 go_loopw [1,5] (λw a7 wr=>∃(a:Nat) (f:List Int),w=.int .u32 a/\a<=e/\Own wr c.heap.size a7 f/\f++putL a=b++putL e/\J (λl=>c.heap.size<=l) c wr) (λw _ _=>(intOf w).toNat)
 .exact⟨e,b,D,Ay1 _,K.o,D,A.o⟩
 clear K A;obtain⟨a,f,rfl,aO,R,v,O⟩:=hrel;obtain⟨E,B,m⟩:=rZ R v O;have aI:f.length<=200000000:=by
  have a1:=congrArg List.length v;have aF:=rS a6;simp only[Az]at a1;omega
 clear R v O;by_cases a2:128<=a
 .obtain⟨g,a3⟩:∃g:Int,bits BinOp.or IntKind.u8 ((a:Int) % 256) 128=g:=⟨_,D⟩
  have z:G (g=((a % 128+128:Nat):Int)):=V (by rw[<-a3];exact vd a);have j:G (∀d∈[g],Byte d):=V (by rw[z.o];simp;omega);go_upto_region 4 with fail
  go_wp2_with (at_builtin;refine xJ D _ _ 45 D c.heap.size _ f [g] (.slice (some ⟨wr.heap.size,0,none⟩) 1 1) D D (E.o.chg ((FR wr).alloc _) (λ_ _ _ h=>h)) (Ay2 m.o.size ((FR wr).alloc _).size) (srcLit 1 j.o) j.o sO ?_;intro a9 y q r Y)
  have i:G ((f++[g])++putL (a / 128)=b++putL e/\J (λl=>c.heap.size<=l) c y):=V ⟨by rw[Az7,List.singleton_append,z.o,<-aw a2];exact B.o,m.o.trans ((rT).trans r.o)⟩;go_roundw
  .exact⟨a / 128,f++[g],by first|rfl|go_num,H,q.o,i.o.1,i.o.2⟩
  simp[intOf];omega
 have aH:(a:Int) % 256=a:=H
 have j:G (∀d∈[(a:Int)],Byte d):=V sO;have C:G (f++[(a:Int)]=b++putL e):=V (by rw[<-jL H];exact B.o);go_upto_region 5 with fail
 go_wp2_with (at_builtin;refine xJ D _ _ 45 D c.heap.size _ f [(a:Int)] (.slice (some ⟨wr.heap.size,0,none⟩) 1 1) D D (E.o.chg ((FR wr).alloc _) (λ_ _ _ h=>h)) (Ay2 m.o.size ((FR wr).alloc _).size) (srcLit 1 j.o) j.o sO ?_;intro a9 y q r Y)
 obtain⟨u,aD,N,a4,k,p,aM⟩:=q.o.some sI;rw[N];refine (ez y u _ _ p.length_le).mono ?_;rintro n X ⟨rfl,rfl⟩;have i:G (Row X u (b++putL e)/\Cf c X):=V ⟨by rw[<-C.o];exact⟨λl d a5=>by have:=(k.bytes p).c l d a5;rw[Ax]at this;exact this.1,k.z,k.lt,λd o=>k.byte d (p.subset o)⟩,(m.o.trans ((rT).trans r.o)).fresh⟩;rw[C.o];clear k p N;go_wp2;go_ret
 exact⟨u,by simp only[Az];rfl,a4,i.o.1,i.o.2⟩
theorem fb (b:List Int) (f:Nat) (d:Option Addr) (C L A:Nat) (c:World) (u:BytesAt c C L b) (p:0<b.length->d=some ⟨C,L,none⟩) (a9:b.length<=100000000) (Z:f<4294967296) :
  Calls prog 121 #[.slice d b.length A,.int .u32 f] c λS N=>∃h O,S=.returned (.slice (some ⟨h,0,none⟩) (b++putL f).length O)/\c.heap.size<=h/\Row N h (b++putL f)/\Cf c N:=by
 obtain⟨R,P,Q⟩:=rZ u p u.byte;clear u p;go_enter func121,ntmps121
 go_wp2_with (at_builtin;refine xJ D _ _ 45 D c.heap.size (.slice none 0 0) [] b (.slice d b.length A) D D (.inl ⟨D,D⟩) (Ay1 _) (tS R.o P.o) Q.o sO ?_;intro aF aH i j r)
 go_loopw [1,5] (λv a0 wr=>∃(a:Nat) (g:List Int),v=.int .u32 a/\a<=f/\Own wr c.heap.size a0 g/\g++putL a=b++putL f/\J (λn=>c.heap.size<=n) c wr) (λv _ _=>(intOf v).toNat)
 .exact⟨f,b,D,Ay1 _,i.o,D,j.o⟩
 clear i j r;obtain⟨a,g,rfl,aD,K,s,F⟩:=hrel;obtain⟨z,x,o⟩:=rZ K s F;have a5:g.length<=200000000:=by
  have T:=congrArg List.length s;have a3:=rS Z;simp only[Az]at T;omega
 clear K s F;by_cases U:128<=a
 .obtain⟨e,W⟩:∃e:Int,(a:Int) % 128+128=e:=⟨_,D⟩
  have a6:e % 256=e:=H;have a7:0<=e:=H;have a8:e<=255:=H;have w:G (e=((a % 128+128:Nat):Int)):=V (by rw[<-W];omega);have l:G (∀d∈[e],Byte d):=V (by rw[w.o];simp;omega);go_upto_region 3 with fail
  go_wp2_with (at_builtin;refine xJ D _ _ 45 D c.heap.size _ g [e] (.slice (some ⟨wr.heap.size,0,none⟩) 1 1) D D (z.o.chg ((FR wr).alloc _) (λ_ _ _ h=>h)) (Ay2 o.o.size ((FR wr).alloc _).size) (srcLit 1 l.o) l.o sO ?_;intro a1 q i j r)
  have k:G ((g++[e])++putL (a / 128)=b++putL f/\J (λn=>c.heap.size<=n) c q):=V ⟨by rw[Az7,List.singleton_append,w.o,<-aw U];exact x.o,o.o.trans ((rT).trans j.o)⟩;go_roundw
  .exact⟨a / 128,g++[e],by first|rfl|go_num,H,i.o,k.o.1,k.o.2⟩
  simp[intOf];omega
 have a4:(a:Int) % 256=a:=H
 have l:G (∀d∈[(a:Int)],Byte d):=V sO;have y:G (g++[(a:Int)]=b++putL f):=V (by rw[<-jL H];exact x.o);go_upto_region 5 with fail
 go_wp2_with (at_builtin;refine xJ D _ _ 45 D c.heap.size _ g [(a:Int)] (.slice (some ⟨wr.heap.size,0,none⟩) 1 1) D D (z.o.chg ((FR wr).alloc _) (λ_ _ _ h=>h)) (Ay2 o.o.size ((FR wr).alloc _).size) (srcLit 1 l.o) l.o sO ?_;intro a1 q i j r)
 obtain⟨E,a2,B,X,m,t,aB⟩:=i.o.some sI;have k:G (Row q E (b++putL f)/\Cf c q):=V ⟨by rw[<-y.o];exact⟨λn d Y=>by have:=(m.bytes t).c n d Y;rw[Ax]at this;exact this.1,m.z,m.lt,λd p=>m.byte d (t.subset p)⟩,(o.o.trans ((rT).trans j.o)).fresh⟩;rw[B,y.o];clear m t B;go_ret
 exact⟨E,_,D,X,k.o.1,k.o.2⟩
def rY:Nat->Nat->List Int->Option (Nat×Nat)
 | _,_,[]=>none
 | a,c,b :: d=>if 5<=a then none else if 128<=b then rY (a+1) (c+b.toNat % 128 * 128 ^ a) d
  else if (b=0/\0<a)\/4294967295<c+b.toNat % 128 * 128 ^ a then none else some (c+b.toNat % 128 * 128 ^ a,a+1)
def ca:Option (Nat×Nat)->Value
 | none=>.tuple #[.int .u32 0,.int .i64 0,.int .i64 4]
 | some (n,s)=>.tuple #[.int .u32 n,.int .i64 s,.int .i64 0]
theorem fc (c d:Nat) (b:List Int) (a:b=[]\/5<=c):rY c d b=none:=by
 cases b with
 | nil=>rfl
 | cons e f =>
  unfold rY
  rw[if_pos (by rcases a with a|a;(cases a);exact a)]
theorem vf:∀k:Fin 256,bits BinOp.andNot IntKind.u8 (k.val:Int) 128=((k.val % 128:Nat):Int):=by decide +kernel
theorem li (f c:Nat) (g:Int) (k:f<5) (e:c<128 ^ f) (m:Byte g) :
  bits BinOp.or IntKind.u64 (c:Int) (IntKind.u64.wrap (IntKind.u64.wrap (bits BinOp.andNot IntKind.u8 g 128) * 2 ^ (7 * f)))=((c+g.toNat % 128 * 128 ^ f:Nat):Int):=by
 obtain⟨j,n⟩:=m;obtain⟨b,rfl⟩:=Ax3 j;have h:=vf ⟨b,H⟩;simp only at h;have i:bits BinOp.andNot IntKind.u8 (Int.ofNat b) 128=((b % 128:Nat):Int):=h;have d:∀a:Nat,a<18446744073709551616->IntKind.u64.wrap (a:Int)=a:=λa l=>by
  simp[IntKind.wrap,IntKind.bits,IntKind.signed]
  omega
 rw[show ((b:Nat):Int)=Int.ofNat b from D,i,d _ H,show (Int.ofNat b).toNat=b from D];have l:b % 128<128:=Nat.mod_lt _ H
 generalize b % 128=a at *
 match f,k with
 | 0,_ =>
  rw[show ((a:Nat):Int) * 2 ^ (7 * 0)=((a:Nat):Int) by simp,d _ H];refine (u64_orv0 (c:Int) _ H (by simp at e;omega) H H H).trans ?_;simp
 | 1,_ =>
  rw[show ((a:Nat):Int) * 2 ^ (7 * 1)=((a * 128:Nat):Int) by simp,d _ H];refine (u64_orv7 (c:Int) _ H (by simp at e;omega) H H H).trans ?_;simp
 | 2,_ =>
  rw[show ((a:Nat):Int) * 2 ^ (7 * 2)=((a * 16384:Nat):Int) by simp,d _ H];refine (u64_orv14 (c:Int) _ H (by simp at e;omega) H H H).trans ?_;simp
 | 3,_ =>
  rw[show ((a:Nat):Int) * 2 ^ (7 * 3)=((a * 2097152:Nat):Int) by simp,d _ H];refine (u64_orv21 (c:Int) _ H (by simp at e;omega) H H H).trans ?_;simp
 | 4,_ =>
  rw[show ((a:Nat):Int) * 2 ^ (7 * 4)=((a * 268435456:Nat):Int) by simp,d _ H];refine (u64_orv28 (c:Int) _ H (by simp at e;omega) H H H).trans ?_;simp
theorem gp {z:Int}(e:b<128 ^ a):b+z.toNat % 128 * 128 ^ a<128 ^ (a+1):=by
 have c:z.toNat % 128<128:=Nat.mod_lt _ H;rw[Nat.pow_succ,Nat.mul_comm (128 ^ a) 128];have d:z.toNat % 128 * 128 ^ a<=127 * 128 ^ a:=Nat.mul_le_mul_right _ H;omega
theorem gq (c:X[a]?=some x) (e:a<5) :
  rY a b (X.drop a)=if 128<=x then rY (a+1) (b+x.toNat % 128 * 128 ^ a) (X.drop (a+1))
   else if (x=0/\0<a)\/4294967295<b+x.toNat % 128 * 128 ^ a then none else some (b+x.toNat % 128 * 128 ^ a,a+1):=by
 have d:=(Az0.1 c).1;rw[Av7 d,(Az0.1 c).2,rY,if_neg H]
theorem eU (f:List Int) (N:Option Addr) (P R O:Nat) (v:World) (k:BytesAt v P R f) (Q:0<f.length->N=some ⟨P,R,none⟩) (r:f.length<=O) (a2:f.length<=100000000) :
  Calls prog 141 #[.slice N f.length O] v λW a0=>W=.returned (ca (rY 0 0 f))/\Cf v a0:=by
 have L:=V k;have K:=V Q;clear k Q;by_cases a1:f.length<=5
 .go_enter func141,ntmps141
  go_wp2
  go_loopw [5,14] (λA q wr=>∃(a h:Nat),a<=f.length/\q=.int .i64 a/\A=.int .u64 h/\h<128 ^ a/\rY 0 0 f=rY a h (f.drop a)/\Cf v wr) (λ_ q _=>f.length-(intOf q).toNat)
  .exact⟨0,0,H,D,D,sI,sI,cR⟩
  obtain⟨a,h,X,rfl,rfl,p,t,r⟩:=hrel;have n:=V t;have g:=V r;clear t r;by_cases Y:a<f.length
  .have T:decide ((a:Int)<((f.length:Nat):Int))=true:=by simp;omega
   obtain⟨b,k,U,E,F⟩:=(L.o.chg g.o iE).get (k:=a) H;have x:=K.o H;subst x;have S:=V k;obtain⟨i,y⟩:∃i:Int,bits BinOp.or IntKind.u64 (h:Int) (IntKind.u64.wrap (IntKind.u64.wrap (bits BinOp.andNot IntKind.u8 b 128) * 2 ^ (7 * a)))=i:=⟨_,D⟩;have j:G (i=((h+b.toNat % 128 * 128 ^ a:Nat):Int)):=V (by rw[<-y];exact li a h b H p ⟨E,F⟩);have c:=V (n.o.trans (gq k H));have w:=V (gp (z:=b) p);clear k p n;by_cases s:128<=b
   .rw[if_pos s]at c
    go_wp2;rw[j.o];go_roundw
    .exact⟨a+1,_,H,GN,D,w.o,c.o,g.o⟩
    simp[intOf];omega
   rw[if_neg s]at c
   by_cases d:b=0/\0<a
   .obtain⟨d,z⟩:=d
    rw[if_pos (.inl ⟨d,z⟩)]at c;have m:(b == 0)=true:=(by simpa using d);have u:decide (0<(a:Int))=true:=sO;clear d;go_wp2;go_ret3
    exact⟨by rw[c.o];rfl,g.o⟩
   by_cases l:4294967295<h+b.toNat % 128 * 128 ^ a
   .rw[if_pos (.inr l)]at c
    have B:decide (4294967295<i)=true:=(by rw[j.o];simp only[decide_eq_true_eq];omega);clear l;by_cases e:b=0
    .have m:(b == 0)=true:=by simpa using e
     have u:decide (0<(a:Int))=false:=sO;have C:¬0<a:=H;clear e d;go_wp2;go_ret3
     exact⟨by rw[c.o];rfl,g.o⟩
    have m:(b == 0)=false:=by simpa using e
    clear e d;go_wp2;go_ret3
    exact⟨by rw[c.o];rfl,g.o⟩
   rw[if_neg (by rintro (o|o);(exact d o);exact l o)]at c
   have B:decide (4294967295<i)=false:=(by rw[j.o];simp only[decide_eq_false_iff_not];omega);have Z:i % 4294967296=i:=(by rw[j.o];omega);clear l;by_cases e:b=0
   .have m:(b == 0)=true:=by simpa using e
    have u:decide (0<(a:Int))=false:=sO;have C:¬0<a:=H;clear e d;go_wp2;go_ret3
    exact⟨by rw[c.o,j.o];rfl,g.o⟩
   have m:(b == 0)=false:=by simpa using e
   clear e d;go_wp2;go_ret3
   exact⟨by rw[c.o,j.o];rfl,g.o⟩
  have c:G (rY 0 0 f=none):=V (by rw[n.o];exact fc _ _ _ (by first|(right;omega)|(left;exact List.drop_eq_nil_of_le H)))
  obtain rfl:a=f.length:=H;go_wp2;go_ret3
  exact⟨by rw[c.o];rfl,g.o⟩
 go_enter func141,ntmps141
 go_wp2
 go_loopw [5,14] (λA q wr=>∃(a h:Nat),a<=5/\q=.int .i64 a/\A=.int .u64 h/\h<128 ^ a/\rY 0 0 f=rY a h (f.drop a)/\Cf v wr) (λ_ q _=>5-(intOf q).toNat)
 .exact⟨0,0,H,D,D,sI,sI,cR⟩
 obtain⟨a,h,X,rfl,rfl,p,t,r⟩:=hrel;have n:=V t;have g:=V r;clear t r;by_cases Y:a<5
 .have T:decide ((a:Int)<((5:Nat):Int))=true:=by simp;omega
  obtain⟨b,k,U,E,F⟩:=(L.o.chg g.o iE).get (k:=a) H;have x:=K.o H;subst x;have S:=V k;obtain⟨i,y⟩:∃i:Int,bits BinOp.or IntKind.u64 (h:Int) (IntKind.u64.wrap (IntKind.u64.wrap (bits BinOp.andNot IntKind.u8 b 128) * 2 ^ (7 * a)))=i:=⟨_,D⟩;have j:G (i=((h+b.toNat % 128 * 128 ^ a:Nat):Int)):=V (by rw[<-y];exact li a h b H p ⟨E,F⟩);have c:=V (n.o.trans (gq k H));have w:=V (gp (z:=b) p);clear k p n;by_cases s:128<=b
  .rw[if_pos s]at c
   go_wp2;rw[j.o];go_roundw
   .exact⟨a+1,_,H,GN,D,w.o,c.o,g.o⟩
   simp[intOf];omega
  rw[if_neg s]at c
  by_cases d:b=0/\0<a
  .obtain⟨d,z⟩:=d
   rw[if_pos (.inl ⟨d,z⟩)]at c;have m:(b == 0)=true:=(by simpa using d);have u:decide (0<(a:Int))=true:=sO;clear d;go_wp2;go_ret3
   exact⟨by rw[c.o];rfl,g.o⟩
  by_cases l:4294967295<h+b.toNat % 128 * 128 ^ a
  .rw[if_pos (.inr l)]at c
   have B:decide (4294967295<i)=true:=(by rw[j.o];simp only[decide_eq_true_eq];omega);clear l;by_cases e:b=0
   .have m:(b == 0)=true:=by simpa using e
    have u:decide (0<(a:Int))=false:=sO;have C:¬0<a:=H;clear e d;go_wp2;go_ret3
    exact⟨by rw[c.o];rfl,g.o⟩
   have m:(b == 0)=false:=by simpa using e
   clear e d;go_wp2;go_ret3
   exact⟨by rw[c.o];rfl,g.o⟩
  rw[if_neg (by rintro (o|o);(exact d o);exact l o)]at c
  have B:decide (4294967295<i)=false:=(by rw[j.o];simp only[decide_eq_false_iff_not];omega);have Z:i % 4294967296=i:=(by rw[j.o];omega);clear l;by_cases e:b=0
  .have m:(b == 0)=true:=by simpa using e
   have u:decide (0<(a:Int))=false:=sO;have C:¬0<a:=H;clear e d;go_wp2;go_ret3
   exact⟨by rw[c.o,j.o];rfl,g.o⟩
  have m:(b == 0)=false:=by simpa using e
  clear e d;go_wp2;go_ret3
  exact⟨by rw[c.o,j.o];rfl,g.o⟩
 have c:G (rY 0 0 f=none):=V (by rw[n.o];exact fc _ _ _ (by first|(right;omega)|(left;exact List.drop_eq_nil_of_le H)))
 obtain rfl:a=5:=H;go_wp2;go_ret3
 exact⟨by rw[c.o];rfl,g.o⟩
theorem vg:∀(a b c:Nat) (rest:List Int),c+a * 128 ^ b<4294967296->b+(putL a).length<=5->(a≠0\/b=0) ->
  rY b c (putL a++rest)=some (c+a * 128 ^ b,b+(putL a).length):=by
 intro a
 induction a using Nat.strongRecOn with
 | _ a j =>
  intro b c rest i d k;by_cases f:a<128
  .rw[jL f]at d ⊢
   simp only[List.length_singleton]at d;rw[List.singleton_append,rY,if_neg H,if_neg H,Ay5,Nat.mod_eq_of_lt f,if_neg (by rintro (h|h) <;> omega)]
   rfl
  rw[aw H]at d ⊢
  simp only[Ax2]at d;have g:(((a % 128+128:Nat):Int)).toNat % 128=a % 128:=H;rw[At0,rY,if_neg H,if_pos H,g];have e:c+a % 128 * 128 ^ b+a / 128 * 128 ^ (b+1)=c+a * 128 ^ b:=by
   rw[Nat.pow_succ,Nat.mul_comm (128 ^ b) 128,<-Nat.mul_assoc,Au0,<-Nat.add_mul]
   congr 2
   omega
  rw[j (a / 128) H (b+1) _ rest (by rw[e];exact i) H (.inl H),e,Ax2]
  congr 2
  omega
theorem vh:∀(b c:Nat),putL b=putL c->b=c:=by
 intro b
 induction b using Nat.strongRecOn with
 | _ b f =>
  intro c a;by_cases e:b<128
  .rw[jL e]at a
   by_cases d:c<128
   .rw[jL d]at a
    simp at a
    omega
   rw[aw H]at a
   simp only[List.cons.injEq]at a;have:=cr (c / 128);rw[<-a.2]at this;simp at this
  rw[aw (n:=b) H]at a
  by_cases d:c<128
  .rw[jL d]at a
   simp only[List.cons.injEq]at a;have:=cr (b / 128);rw[a.2]at this;simp at this
  rw[aw (n:=c) H]at a
  simp only[List.cons.injEq]at a;have:=f (b / 128) H (c / 128) a.2;omega
theorem gs (b:a<4294967296) (rest:List Int):rY 0 0 (putL a++rest)=some (a,(putL a).length):=by
 have:=vg a 0 0 rest (by simpa using b) (by have:=rS b;omega) (.inr D);simpa using this
theorem gu (a:World) (b:Nat) (q:0<b) (s:b<=1000000000) :
  Calls prog 115 #[.slice none 0 0,.int .i64 b] a λo c=>∃j,o=.returned j/\Own c a.heap.size j []/\Cf a c:=by
 obtain⟨k,d,e,f,i,r,h,g⟩:=dt (w:=a) none [] (λc _=>run_firstCells_none c 1 0 0 0) (λ_ p=>by cases p) b q sO 0;simp only[Aw6,Ax]at r e;have n:G ((Builtin.append_ #[45,3] 0 #[.slice none 0 0,.int .i64 b]).run prog a=.ok (.slice (some ⟨a.heap.size,0,none⟩) b d.length) k):=V e;have m:G (Own k a.heap.size (.slice (some ⟨a.heap.size,0,none⟩) 0 d.length) []):=V (.inr ⟨_,d,D,Ay1 _,f,i,h⟩);have l:=V g;unfold maxLen at h;clear e f i g;go_enter func115,ntmps115
 go_wp2_with (at_builtin;refine Lib.wpList_append_run _ D _ _ _ _ D _ _ D D _ _ n.o ?_)
 go_ret
 exact⟨_,D,m.o,l.o⟩
theorem gv (a b:List Int) (m:Option Addr) (B L s n t l:Nat) (d:World) (v:BytesAt d B L a) (E:0<a.length->m=some ⟨B,L,none⟩) (w:BytesAt d n 0 b) (Z:0<b.length) (Y:a.length<=100000000) (a0:b.length<=100000000)
  (o:d.cell? ⟨l,0,none⟩=some (.slice m a.length s)) (p:d.cell? ⟨l,1,none⟩=some (.slice (some ⟨n,0,none⟩) b.length t)) :
  Calls prog 74 #[.slice (some ⟨l,0,none⟩) 2 2] d λA h=>∃j,A=.returned j/\Own h d.heap.size j (a++b)/\Cf d h:=by
 obtain⟨P,N,R⟩:=rZ v E w;have O:G (∀h,Cf d h->h.cell? ⟨l,0,none⟩=some (.slice m a.length s)/\h.cell? ⟨l,1,none⟩=some (.slice (some ⟨n,0,none⟩) b.length t)):=V λh i=>⟨i.cellS o iD,i.cellS p iD⟩
 have Q:=V v.byte;have S:=V w.byte;clear v E w;go_enter func74,ntmps74
 go_wp2_with fail
 go_loopw [3,11] (λx c wr=>((c=.int .i64 0/\x=.int .i64 0)\/(c=.int .i64 1/\x=.int .i64 a.length)\/(c=.int .i64 2/\x=.int .i64 ((a.length:Int)+b.length)))/\wr=d) (λ_ c _=>2-(intOf c).toNat)
 .exact⟨.inl ⟨D,D⟩,D⟩
 obtain⟨u,rfl⟩:=hrel;rcases u with ⟨rfl,rfl⟩|⟨rfl,rfl⟩|⟨rfl,rfl⟩
 .go_wp2_with fail
  go_roundw
  .first|exact⟨.inr (.inl ⟨D,D⟩),D⟩|simp
  simp[intOf]
 .go_wp2_with fail
  go_roundw
  .first|exact⟨.inr (.inr ⟨D,D⟩),D⟩|simp
  simp[intOf]
 clear o p
 go_wp2_with fail
 have K:(a.length:Int)+b.length=((a.length+b.length:Nat):Int):=H;rw[K];refine (gu wr (a.length+b.length) H H).mono ?_;rintro A a2 ⟨a1,rfl,C,F⟩;have y:=V C;have z:=V F;clear C F K;go_wp2_with fail
 obtain⟨e,rfl⟩:∃e:World,e=wr:=⟨_,D⟩
 go_loopw [6,27] (λj c wr=>((c=.int .i64 0/\Own wr e.heap.size j [])\/(c=.int .i64 1/\Own wr e.heap.size j ([]++a))\/(c=.int .i64 2/\Own wr e.heap.size j ([]++a++b)))/\J (λU=>e.heap.size<=U) e wr) (λ_ c _=>2-(intOf c).toNat)
 .exact⟨.inl ⟨D,y.o⟩,z.o.any⟩
 clear y z;obtain⟨u,i⟩:=hrel;have g:=V i;obtain⟨o,p⟩:=O.o wr i.fresh;clear i;rcases u with ⟨rfl,f⟩|⟨rfl,f⟩|⟨rfl,f⟩
 .have k:=V f
  clear f;go_wp2_with (at_builtin;refine xJ D _ _ 45 D e.heap.size _ [] a (.slice m a.length s) D D k.o g.o.size (tS (P.o.chg g.o.fresh iE) N.o) Q.o sO ?_;intro W X q r T)
  go_roundw
  .exact⟨.inr (.inl ⟨D,q.out⟩),g.o.trans r.out⟩
  simp[intOf]
 .have k:=V f
  clear f;go_wp2_with (at_builtin;refine xJ D _ _ 45 D e.heap.size _ ([]++a) b (.slice (some ⟨n,0,none⟩) b.length t) D D k.o g.o.size (tS (R.o.chg g.o.fresh iE) (λ_=>rfl)) S.o sO ?_;intro W X q r T)
  go_roundw
  .exact⟨.inr (.inr ⟨D,q.out⟩),g.o.trans r.out⟩
  simp[intOf]
 have k:=V f
 clear f o p;go_wp2_with fail
 go_ret
 exact⟨_,D,k.o,g.o.fresh⟩
def yG:Int->List (Int×Int)->List Int
 | _,[]=>[]
 | c,a :: b=>(a.1-c) :: (a.2+1) :: yG a.1 b
def kY (c:Int) (b:List (Int×Int)):Int:=b.foldl (λ_ a=>a.1) c
theorem vi (c:Int) (b:List (Int×Int)) (a:Int×Int):kY c (b++[a])=a.1:=by simp[kY]
theorem cG:∀(b:List (Int×Int)) (c:Int) (a:Int×Int),yG c (b++[a])=yG c b++[a.1-kY c b,a.2+1]
 | [],c,a=>rfl
 | d :: b,c,a=>by
  have:=cG b d.1 a;simp only[At0,yG,this]
  rfl
def xS (r:RowD):List Int:=(r.1+1) :: (r.2.length:Int) :: yG 0 r.2
def vE:TabD->List Int
 | (W,R,O)=>W :: (R.length:Int) :: (R.flatMap xS++(O.length:Int) :: O)
def gL (L:List Int):List Int:=L.flatMap (λn=>putL n.toNat)
def kW (t:TabD):List Int:=gL (vE t)
theorem lj (X Y:List Int):gL (X++Y)=gL X++gL Y:=by simp[gL]
theorem lm (X:List Int) (z:Int):gL (X++[z])=gL X++putL z.toNat:=by simp[gL]
theorem ln (b:List Int):∀a∈gL b,Byte a:=λa d=>by
 obtain⟨e,_,c⟩:=List.mem_flatMap.1 d;exact bQ _ a c
theorem gw (a:List Int) (d:∀b∈a,0<=b/\b<4294967296):(gL a).length<=5 * a.length:=by
 induction a with
 | nil=>simp[gL]
 | cons c a g =>
  have h:=g (λb f=>d b (by simp[f]));have i:=d c sI;have e:gL (c :: a)=putL c.toNat++gL a:=by simp[gL]
  have j:=rS (n:=c.toNat) H;rw[e,Az,Ax2];omega
theorem vj {X:List Int}(b:X≠[]):0<(gL X).length:=by
 cases X with
 | nil=>exact absurd D b
 | cons a X =>
  have c:gL (a :: X)=putL a.toNat++gL X:=by simp[gL]
  rw[c,Az];have:=cr a.toNat;omega
structure Fld8 (br:Nat) (w:World) (v:Value) (X:List Int):Prop where
 c:w.cell? ⟨br,0,none⟩=some v
 z:w.frozen? ⟨br,0,none⟩=false
 own:Own w (br+1) v X
theorem Fld8.lt (b:Fld8 a w A X):a<w.heap.size:=Az8 _ _ b.c
theorem Fld8.chg {S:Nat->Prop}{f w':World}(b:Fld8 a f A X) (d:J S f w') (e:∀c,a<=c->c<f.heap.size->¬S c):Fld8 a w' A X :=
 ⟨d.cellS b.c (e a (Ay1 _) b.lt),(d.frozen (p:=⟨a,0,none⟩) b.lt (e a (Ay1 _) b.lt)).trans b.z,b.own.chg d (λc g=>e c H)⟩
theorem Fld8.step (c:Fld8 a w A X) (i:Own v (a+1) B Y) (d:J (λb=>a+1<=b) w v) :
  (v.cell? ⟨a,0,none⟩=some A/\v.frozen? ⟨a,0,none⟩=false)/\Fld8 a (v.setCell ⟨a,0,none⟩ B) B Y/\J (λb=>a<=b) w (v.setCell ⟨a,0,none⟩ B):=by
 have h:=c.lt;have e:=d.cellS c.c (by show ¬a+1<=a;omega);have g:=(d.frozen (p:=⟨a,0,none⟩) h (by show ¬a+1<=a;omega)).trans c.z;exact⟨⟨e,g⟩,⟨Az9 _ _ _ e,(Az3 _ _ _ _).trans g,i.chg (zA _ _ _ _) (λj k _ f=>H)⟩,(d.mono (λb _ f=>H)).trans ((zA v a 0 B).mono (λb _ f=>H))⟩
theorem gx (c:Own w a A X) {b:Nat}(d:A.ownBlock=some b):a<=b/\b<w.heap.size:=Elt.Own.blk (fY.2 c) d
theorem Own.shape3 (d:Own w a A X):∃b e c,A=.slice b e c:=by
 obtain⟨b,c,d⟩:=d.shape;exact⟨b,_,c,d⟩
theorem mY (z:Int) (b:Nat) (N:Value) (w:List Int) (f:World) (a:Fld8 b f N w) (Y:0<=z/\z<4294967296) (aT:w.length<=1000000000) :
  Calls prog 158 #[.int .i64 z,.pointer (some ⟨b,0,none⟩)] f λn a3=>∃g,n=.returned (.tuple #[])/\Fld8 b a3 g (w++putL z.toNat)/\J (λe=>e=b\/N.ownBlock=some e) f a3/\(∀h,g.ownBlock=some h->N.ownBlock=some h\/f.heap.size<=h):=by
 obtain⟨d,rfl⟩:=Ax3 Y.1;have T:d<4294967296:=H
 rw[Ay5];clear Y;have a7:=V a;have aR:=a.lt;obtain⟨t,v,u,rfl⟩:=a.own.shape3;obtain⟨m,K⟩:=rK f.drew;have B:G (Cf f m):=V (by rw[K];exact (J.refl _ _).drew);have a9:G (f.drew=m):=V K.symm;have P:=V (a7.o.chg B.o (λ_ _ _ a=>a));have aV:IntKind.u32.wrap (d:Int)=d:=by rw[IntKind.wrap_u32];omega
 clear a K;go_enter func158,ntmps158
 refine zC (λaM=>J (λs=>b+1<=s) m aM) (λL=>decide (L=5)) M ?_;show yC _ _ _ _ _ _ 6 (Array.replicate 6 false) _ f.drew;rw[a9.o];have o:G (J (λs=>b+1<=s) m m):=V cR;(refine lf 0 o.o (λ_ aB=>aB.cellS P.o.c (show ¬b+1<=b by omega)) ?_);refine lq 1 o.o ?_;refine lq 2 o.o ?_;refine zY (i:=3) M D D 62 #[.slice none 0 0,.int .u32 d] (λZ a4=>∃a,Z=.slice (some ⟨a,0,none⟩) ([]++putL d).length ([]++putL d).length/\Row a4 a ([]++putL d)/\Cf m a4) (by go_simp) ?_ ?_
 .refine (lh [] d none 0 0 0 m ⟨λe aO aF=>by simp at aF,λa=>(a D).elim⟩ (λa=>by simp at a) sI T).mono ?_
  rintro n y ⟨a,rfl,_,k,l⟩;exact⟨_,D,λ_=>l.any,a,D,k,l⟩
 rintro Z y W ⟨a,rfl,U,F⟩ C r;obtain⟨o,A,R,O⟩:=sB (W dE) (P.o.chg F (λ_ _ _ a=>a)) U F;rw[Av]at R ⊢;obtain⟨p,E⟩:=rM ((putL d).length);have Q:=V E;rw[E];clear W U F E;(try go_simp)
 refine r _ ?_;clear r C;refine yQ (i:=4) M D D (.tmp 3) (.tmp 6) 45 45 D (.slice t v u) (.slice (some ⟨a,0,none⟩) p p) D D (λg j=>Own j (b+1) g (w++putL d)/\J (λs=>b+1<=s) y j/\J (λe=>(Value.slice t v u).ownBlock=some e) y j/\(g.ownBlock=(Value.slice t v u).ownBlock\/g.ownBlock=some y.heap.size)) ?_ ?_
 .have X:=tS (c:=p) (R.o.bytes (Aw8 _)) (λ_=>rfl)
  rw[Q.o]at X;have aP:=rS T;obtain⟨g,j,aH,q,k,⟨l,i⟩,-⟩:=(fY.2 A.o.own).append (by have:=A.o.lt;omega) 45 (.slice (some ⟨a,0,none⟩) p p) (putL d) (by rw[Q.o,cJ];exact X) (bQ d) H 45;exact⟨g,j,aH,λ_=>o.o.trans k,fY.1 q,k,l,i⟩
 rintro g j aI ⟨q,k,l,i⟩ C r;obtain⟨a0,a2,a1,aK⟩:=q.shape3;subst aK;obtain⟨⟨aX,aY⟩,S,aD⟩:=A.o.step q k;have a8:=V S;have a6:G (J (λe=>e=b\/(Value.slice t v u).ownBlock=some e) f (j.setCell ⟨b,0,none⟩ (.slice a0 a2 a1))):=V (((B.o.any.trans O.o.any).trans (l.mono (λe _ n=>.inr n))).trans ((zA j b 0 _).mono (λe _ n=>.inl n)));have a5:G (∀h,(Value.slice a0 a2 a1).ownBlock=some h->(Value.slice t v u).ownBlock=some h\/f.heap.size<=h):=V (λh x=>by
  rcases i with i|i
  .rw[i]at x;exact .inl x
  rw[i]at x
  obtain rfl:=Az2 x;exact .inr (B.o.trans O.o).size)
 clear S aD q k l i aI;(try go_simp)
 refine r _ ?_;clear r C;refine ld 5 ?_;refine zQ M ?_ _;go_wp2;go_end0
 exact⟨_,D,a8.o,a6.o,a5.o⟩
end Go.Proofs.YtgnpmceimpjheaaGreat
