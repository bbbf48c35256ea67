/- A part of the proof: RowsB CountM RowsC RowsF RowsM Late Ints. -/
import Derived.Test.YtgnpmceimpjheaaGreatGG1
import Derived.Maps.RangeWalk
import Derived.Maps.OwnOps
import Derived.OrdersHeld
set_option maxRecDepth 100000
set_option maxHeartbeats 16000000
namespace Go.Proofs.YtgnpmceimpjheaaGreat
open Go.RowKit Go.Proofs.Tryz
variable {a b c d e f g h i j k l m n o p q r:Nat}{w v u t s:World}{X Y W L T:List Int}{A B C E Z:Value}{x y z:Int}{N R:Bool}{F Q:Option Addr}{S P:Nat->Prop}
theorem az {b:Int×Int}(a:tY b=[A,B]):A=.int .i64 b.1/\B=.int .i64 b.2:=by
 unfold tY at a;simp only[List.cons.injEq,and_true]at a;exact⟨a.1.symm,a.2.symm⟩
theorem ue (f:Int) (a:List (Int×Int)) (i:Option Addr) (b E:Nat) (c:Int) (h:World) (k:uW.In h E (i,a.length,b) a) (a4:a.length<=1000000000) :
  Calls prog 153 #[.agg #[.int .i64 f,.slice i a.length b],.int .i64 c] h λO R=>O=.returned (.int .i64 (af (f,a) c))/\Cf h R:=by
 have N:=V k;have K:=V ((FR h).alloc (.cells #[.int .i64 f,.slice i a.length b] 236));clear k;go_enter func153,ntmps153
 go_wp2
 go_loopw [5] (λw wr=>∃d:Nat,d<=a.length/\w=.int .i64 d/\(∀(e:Nat) g,e<d->a[e]?=some g->(g.1 == c)=false)/\Cf (h.alloc (.cells #[.int .i64 f,.slice i a.length b] 236)) wr) (λw _=>a.length-(intOf w).toNat)
 .exact⟨0,H,D,λe g k=>absurd k (Ax1 _),cR⟩
 obtain⟨d,a3,rfl,y,j⟩:=hrel;have W:=j.cellS (p:=⟨h.heap.size,0,none⟩) (v:=.int .i64 f) sI iD;have X:=j.cellS (p:=⟨h.heap.size,1,none⟩) (v:=.slice i a.length b) sI iD;obtain⟨n,o,L⟩:=rZ y (K.o.trans j) j;clear y j;by_cases P:d<a.length
 .have Y:=rO d a.length
  obtain⟨S,a1,a5,a6,B,z,rfl,m,Z,a0,-,-,-⟩:=(N.o.same o.o).get2 D P;obtain⟨rfl,rfl⟩:=az m;obtain⟨C,U⟩:=S;have r:=V z;clear z m;by_cases u:(C == c)=true
  .have q:G (af (f,a) c=U):=V (by
    have x:=tJ (p:=λb:Int×Int=>b.1 == c) r.o u n.o;rcases sG (λb:Int×Int=>b.1 == c) a with ⟨A,T,s,-,t,l,-⟩|⟨t,-⟩
    .rw[x]at t
     obtain rfl:d=A:=H;rw[r.o]at s;obtain rfl:=Az2 s;unfold af;simp only[l]
    omega)
   go_wp2;go_ret
   exact⟨by rw[q.o];rfl,o.o⟩
  have Q:(C == c)=false:=by simpa using u
  have F:G (∀(e:Nat) g,e<d+1->a[e]?=some g->(g.1 == c)=false):=V (λe g a2 v=>by
   by_cases m:e=d
   .subst m;rw[r.o]at v;obtain rfl:=Az2 v;exact Q
   exact n.o e g H v)
  clear u;go_wp2;go_roundw
  .exact⟨d+1,H,GN,F.o,L.o⟩
  simp[intOf];omega
 obtain rfl:d=a.length:=H
 have q:G (af (f,a) c=f):=V (by
  have x:=qW (p:=λb:Int×Int=>b.1 == c) n.o;rcases sG (λb:Int×Int=>b.1 == c) a with ⟨A,T,s,-,t,l,-⟩|⟨-,l,-⟩
  .omega
  unfold af
  simp only[l])
 go_wp2;go_ret
 exact⟨by rw[q.o];rfl,o.o⟩
theorem uf (a b:List (Int×Int)) (u v:Option Addr) (w x L N:Nat) (j:World) (C:vU.In j L (u,a.length,w) a) (E:vU.In j N (v,b.length,x) b) (a9:a.length<=1000000000) :
  Calls prog 190 #[.slice u a.length w,.slice v b.length x] j λR a0=>R=.returned (.bool (decide (a=b)))/\Cf j a0:=by
 have O:=V C;have P:=V E;clear C E;by_cases n:a.length=b.length
 .have Q:((a.length:Int) != (b.length:Int))=false:=by simp[n]
  have t:=V n;clear n;go_enter func190,ntmps190
  go_wp2
  go_loopw [13] (λr wr=>∃c:Nat,c<=a.length/\r=.int .i64 c/\Cf j wr/\a.take c=b.take c) (λr _=>a.length-(intOf r).toNat)
  .exact⟨0,H,D,J.refl _ _,sI⟩
  obtain⟨c,a8,rfl,y,i⟩:=hrel;have d:=V y;have g:=V i;clear y i;by_cases T:c<a.length
  .have a1:=rO c a.length
   have U:c<b.length:=(by have:=t.o;omega);obtain⟨W,a6,aD,Y,Z,A,rfl,i,a2,a3,-,-,-⟩:=(O.o.same d.o).get2 D T;obtain⟨rfl,rfl⟩:=az i;obtain⟨X,a7,aF,Y,Z,B,rfl,z,a4,a5,-,-,-⟩:=(P.o.same d.o).get2 D U;obtain⟨rfl,rfl⟩:=az z;obtain⟨o,F⟩:=W;obtain⟨p,K⟩:=X;have h:=V A;have k:=V B;clear A B i z;by_cases m:(o,F)=(p,K)
   .injection m with S q
    subst S q;have s:G (a.take (c+1)=b.take (c+1)):=V (by rw[Ay3,Ay3,g.o,h.o,k.o]);clear g h k;go_upto_region 6 with fail
    go_still M
    go_wp2;go_roundw
    .first|exact⟨c+1,H,GN,d.o.drew,s.o⟩|((repeat apply Ay4);exact⟨⟨c+1,H,D,d.o.drew,s.o⟩,by (repeat' apply And.intro) <;> first|rfl|go_num⟩)
    simp[intOf];omega
   have f:G (decide (a=b)=false):=V (by
    apply decide_eq_false
    intro e;rw[e,k.o]at h;exact m (Az2 h.o).symm)
   have l:¬o=p\/(o=p/\¬F=K):=by
    by_cases e:o=p
    .exact .inr ⟨e,λq=>m (by rw[e,q])⟩
    exact .inl e
   clear g h k m;rcases l with l|⟨l,aB⟩
   .go_upto_region 6 with fail
    go_still M
    go_wp2;go_ret
    exact⟨by rw[f.o];rfl,d.o.drew⟩
   subst l
   go_upto_region 6 with fail
   go_still M
   go_wp2;go_ret
   exact⟨by rw[f.o];rfl,d.o.drew⟩
  obtain rfl:c=a.length:=H
  have f:G (decide (a=b)=true):=V (by
   have:=g.o;rw[Ay7,t.o,Ay7]at this;simp[this])
  clear g;go_wp2;go_ret
  exact⟨by rw[f.o];rfl,d.o⟩
 have Q:((a.length:Int) != (b.length:Int))=true:=by simp;omega
 have f:G (decide (a=b)=false):=V (by
  apply decide_eq_false
  intro e;exact n (by rw[e]))
 go_enter func190,ntmps190
 go_wp2;go_ret
 exact⟨by rw[f.o];rfl,cR⟩
def uL (r s:RowD):Bool:=decide (r=s)
theorem ka (c d:Int) (a b:List (Int×Int)):uL (c,a) (d,b)=(decide (c=d) && decide (a=b)):=by
 unfold uL;by_cases e:c=d <;> by_cases f:a=b <;> simp[e,f]
theorem kb (a d:Int) (b c:List (Int×Int)) (i j:Option Addr) (k l o p:Nat) (e:World) (s:vU.In e o (i,b.length,k) b) (t:vU.In e p (j,c.length,l) c) (y:b.length<=1000000000) :
  Calls prog 179 #[.agg #[.int .i64 a,.slice i b.length k],.agg #[.int .i64 d,.slice j c.length l]] e λq A=>q=.returned (.bool (uL (a,b) (d,c)))/\Cf e A:=by
 obtain⟨w,x,f,h⟩:=sB s t (((FR e).alloc (.cells #[.int .i64 a,.slice i b.length k] 241)).alloc (.cells #[.int .i64 d,.slice j c.length l] 241)) (ka a d b c);clear s t;by_cases m:a=d
 .subst m
  have z:(a == a)=true:=sI
  have g:G (uL (a,b) (a,c)=decide (b=c)):=V (by rw[h.o];simp);clear h;go_enter func179,ntmps179
  go_wp2_with fail
  refine (uf b c i j k l o p _ (w.o.same f.o) (x.o.same f.o) y).mono ?_;rintro q C ⟨rfl,r⟩;rw[<-g.o];have u:=V (f.o.trans r);clear r;obtain⟨B,n⟩:=rM (uL (a,b) (a,c));rw[n];have v:=V n;clear n g;go_wp2;go_ret
  exact⟨by rw[v.o];rfl,u.o⟩
 have z:(a == d)=false:=by simpa using m
 have g:G (uL (a,b) (d,c)=false):=V (by rw[h.o];simp[m]);clear h m;go_enter func179,ntmps179
 go_wp2;go_ret
 exact⟨by rw[g.o];rfl,f.o⟩
theorem dG (b g:Int) (a c:List (Int×Int)) (k l:Option Addr) (m n T U:Nat) (e:World) (Q:uW.In e T (k,a.length,m) a) (R:uW.In e U (l,c.length,n) c) (aT:a.length<=1000000000) :
  Calls prog 164 #[.agg #[.int .i64 b,.slice k a.length m],.agg #[.int .i64 g,.slice l c.length n]] e λZ a7=>Z=.returned (.bool (uL (b,a) (g,c)))/\Cf e a7:=by
 have X:=V Q;have Y:=V R;have A:G (Cf e ((e.alloc (.cells #[.int .i64 b,.slice k a.length m] 236)).alloc (.cells #[.int .i64 g,.slice l c.length n] 236))):=V (((FR e).alloc _).alloc _);have W:G (∀wr,Cf ((e.alloc (.cells #[.int .i64 b,.slice k a.length m] 236)).alloc (.cells #[.int .i64 g,.slice l c.length n] 236)) wr->wr.cell? ⟨e.heap.size,0,none⟩=some (.int .i64 b)/\wr.cell? ⟨e.heap.size,1,none⟩=some (.slice k a.length m)/\wr.cell? ⟨e.heap.size+1,0,none⟩=some (.int .i64 g)/\wr.cell? ⟨e.heap.size+1,1,none⟩=some (.slice l c.length n)):=V λwr i=>⟨i.cellS sI iD,i.cellS sI iD,i.cellS sI iD,i.cellS sI iD⟩
 have f:=V (ka b g a c);clear Q R;by_cases u:b=g
 .subst u
  by_cases x:a.length=c.length
  .have o:(b != b)=false:=sI
   have L:((a.length:Int) != (c.length:Int))=false:=(by simp[x]);have K:=V x;clear x;have s:G (uL (b,a) (b,c)=decide (a=c)):=V (by rw[f.o];simp);clear f;go_enter func164,ntmps164
   go_wp2
   go_loopw [5] (λC wr=>∃d:Nat,d<=a.length/\C=.int .i64 d/\Cf ((e.alloc (.cells #[.int .i64 b,.slice k a.length m] 236)).alloc (.cells #[.int .i64 b,.slice l c.length n] 236)) wr/\a.take d=c.take d) (λC _=>a.length-(intOf C).toNat)
   .exact⟨0,H,D,J.refl _ _,sI⟩
   clear o L;obtain⟨d,aR,rfl,i,r⟩:=hrel;obtain⟨a8,a9,aD,aF⟩:=W.o wr i;obtain⟨E,f,p⟩:=rZ i r (A.o.trans i);clear i r;by_cases a1:d<a.length
   .have aB:=rO d a.length
    have a2:d<c.length:=(by have:=K.o;omega);obtain⟨a3,aO,aX,a5,a6,O,rfl,r,aH,aI,-,-,-⟩:=(X.o.same p.o).get2 D a1;obtain⟨rfl,rfl⟩:=az r;obtain⟨a4,aP,aY,a5,a6,P,rfl,N,aK,aM,-,-,-⟩:=(Y.o.same p.o).get2 D a2;obtain⟨rfl,rfl⟩:=az N;obtain⟨y,S⟩:=a3;obtain⟨z,o⟩:=a4;have q:=V O;have t:=V P;clear O P r N;by_cases w:(y,S)=(z,o)
    .injection w with a0 B
     subst a0 B;have F:G (a.take (d+1)=c.take (d+1)):=V (by rw[Ay3,Ay3,f.o,q.o,t.o]);clear f q t;go_upto_region 6 with fail
     go_still M
     go_wp2;go_roundw
     .first|exact⟨d+1,H,GN,E.o.drew,F.o⟩|((repeat apply Ay4);exact⟨⟨d+1,H,D,E.o.drew,F.o⟩,by (repeat' apply And.intro) <;> first|rfl|go_num⟩)
     simp[intOf];omega
    have j:G (uL (b,a) (b,c)=false):=V (by
     rw[s.o]
     apply decide_eq_false
     intro h;rw[h,t.o]at q;exact w (Az2 q.o).symm)
    have v:¬y=z\/(y=z/\¬S=o):=by
     by_cases h:y=z
     .exact .inr ⟨h,λB=>w (by rw[h,B])⟩
     exact .inl h
    clear f q t w s;rcases v with v|⟨v,aV⟩
    .go_upto_region 6 with fail
     go_still M
     go_wp2;go_ret
     exact⟨by rw[j.o];rfl,p.o.drew⟩
    subst v
    go_upto_region 6 with fail
    go_still M
    go_wp2;go_ret
    exact⟨by rw[j.o];rfl,p.o.drew⟩
   obtain rfl:d=a.length:=H
   have j:G (uL (b,a) (b,c)=true):=V (by
    rw[s.o];have:=f.o;rw[Ay7,K.o,Ay7]at this;simp[this])
   clear f s;go_wp2;go_ret
   exact⟨by rw[j.o];rfl,p.o⟩
  have o:(b != b)=false:=sI
  have L:((a.length:Int) != (c.length:Int))=true:=sO;have j:G (uL (b,a) (b,c)=false):=V (by
   apply decide_eq_false
   intro h;injection h with _ h;exact x (by rw[h]))
  clear f;go_enter func164,ntmps164
  go_wp2;go_ret
  exact⟨by rw[j.o];rfl,A.o⟩
 have o:(b != g)=true:=by simpa using u
 have j:G (uL (b,a) (g,c)=false):=V (by rw[f.o];simp[u]);clear f u;go_enter func164,ntmps164
 go_wp2;go_ret
 exact⟨by rw[j.o];rfl,A.o⟩
structure Counts (D:DataW Unit) (L:List Int):Prop where
 isMap:Maps.IsMap D
 at':∀x:Int,D.atKey (.int .i64 x) (.lit (.int .i64 0))=.lit (.int .i64 (L.count x))
 has:∀x:Int,Maps.has D (.int .i64 x)=decide (x∈L)
theorem Counts.start:Counts (.map []) []:=⟨Maps.isMap_empty,λ_=>rfl,λ_=>rfl⟩
theorem Counts.step {D:DataW Unit}(c:Counts D X) (d:Int):Counts (D.put (.int .i64 d) (.lit (.int .i64 ((X.count d:Int)+1)))) (X++[d]):=by
 refine⟨c.isMap.put _ _,λe=>?_,λe=>?_⟩
 .by_cases b:e=d
  .subst b
   rw[Maps.atKey_put_same c.isMap (by trivial)];simp
  rw[Maps.atKey_put_other (by intro a;injection a with _ a;exact b a),c.at']
  simp[List.count_append,Ne.symm b]
 by_cases b:e=d
 .subst b
  rw[Maps.has_put_same c.isMap (by trivial)];simp
 rw[Maps.has_put_other (by intro a;injection a with _ a;exact b a),c.has]
 simp[b]
theorem lawI:Maps.Keyed prog 3:=Maps.int_keyed underlying3
theorem kc (w:World):(zeroValue 3).run prog w=.ok (.int .i64 0) w:=M
theorem wfI (a:-9223372036854775808<=x) (b:x<=9223372036854775807):(Lit.int .i64 x).wf=true:=by
 simp[Lit.wf,IntKind.min,IntKind.max,IntKind.signed,IntKind.bits]
 omega
def cm (a:List Int) (e:Lit->Bool) (c d:Int):Prop :=
 ((c=-1/\d=0/\∀b∈a,e (.int .i64 b)=true)\/(c∈a/\d=a.count c))/\∀b∈a,e (.int .i64 b)=false->(a.count b:Int)<d\/((a.count b:Int)=d/\c<=b)
theorem cm.done {c:Lit->Bool}(d:cm X c x y) (b:∀h,c h=false):x=xL X:=by
 refine bv.unique (L:=X) ?_ (pY X);obtain⟨a,e⟩:=d;rcases a with ⟨rfl,rfl,f⟩|⟨a,rfl⟩
 .refine .inl ⟨?_,D⟩
  cases X with
  | nil=>rfl
  | cons j X=>have:=f j sI;rw[b]at this;cases this
 refine .inr ⟨a,λi g=>?_⟩
 have:=e i g (b _);omega
theorem cm.next {i:Lit->Bool}{e c x:Int}(r:cm X i e c) (p:x∈X) (f l:Int) (h:(f=x/\l=X.count x/\(c<X.count x\/(X.count x=c/\x<e)))\/(f=e/\l=c/\((X.count x:Int)<c\/((X.count x:Int)=c/\e<=x)))) :
  cm X (λq=>i q && !q.sameKey (.int .i64 x)) f l:=by
 obtain⟨m,n⟩:=r;have u:0<X.count x:=List.count_pos_iff.2 p;have o:∀a:Int,(i (.int .i64 a) && !(Lit.int .i64 a).sameKey (.int .i64 x))=false->a≠x->i (.int .i64 a)=false:=λa b s=>by
  rw[Maps.sameKey_ne (by intro j;injection j with _ j;exact s j)]at b;simpa using b
 rcases h with ⟨rfl,rfl,h⟩|⟨rfl,rfl,h⟩
 .refine⟨.inr ⟨p,D⟩,λa b k=>?_⟩
  by_cases d:a=f
  .subst d;omega
  have t:=n a b (o a k d)
  rcases m with ⟨rfl,rfl,g⟩|⟨g,rfl⟩ <;> omega
 refine⟨?_,λa b k=>?_⟩
 .rcases m with ⟨rfl,rfl,g⟩|g
  .omega
  exact .inr g
 by_cases d:a=x
 .subst d;exact h
 exact n a b (o a k d)
theorem ug (a:List Int) (L:Option Addr) (Y aR d:Nat) (e:World) (u:I.BytesAt e Y aR a) (a1:0<a.length->L=some ⟨Y,aR,none⟩) (c1:a.length<=1000000000) :
  Calls prog 176 #[.slice L a.length d] e λb4 bI=>b4=.returned (.int .i64 (xL a))/\Cf e bI:=by
 have c3:=@run_makeMap prog;have U:=V u;have aX:=V a1;clear u a1;go_enter func176,ntmps176
 go_wp2
 go_loopw [13] (λR wr=>∃(c:Nat) (D:DataW Unit),c<=a.length/\R=.int .i64 c/\wr.ownsMap prog 3 (plainElem prog 3) e.heap.size c D/\Counts D (a.take c)/\J (λc=>e.heap.size<=c) e wr) (λR _=>a.length-(intOf R).toNat)
 .exact⟨0,_,Ax9 _,rfl,World.ownsMap_made _ _ _ _,Counts.start,rT⟩
 obtain⟨c,D,c0,rfl,aF,a4,s⟩:=hrel;obtain⟨C,z,i⟩:=rZ aF a4 s;clear aF a4 s;by_cases b7:c<a.length
 .have bO:=rO c a.length
  obtain⟨q,u,bP,aT,aV⟩:=(U.o.chg i.o.fresh iE).get b7;have b5:=aX.o H;subst b5;have b1:=V u;have c2:(a.take c).count q<=c:=Ay2 List.count_le_length (Au3 _ _);clear u;go_wp2_with (first
   | (at_lookup;refine wpList_lookup_own_int _ rfl _ _ 277 rfl 3 3 .i64 lawI underlying277 underlying3 (kc _) e.heap.size c _ rfl C.o _ _ rfl (Maps.keyOf_int_mk underlying3 (wfI aT aV)) ?_;intro d j O;rw[z.o.at']at j;injection j with j;injection j with _ j;subst j;clear O)
   | (at_mapUpdate;refine wpList_mapUpdate_own _ rfl _ _ _ 277 rfl 3 3 lawI underlying277 _ e.heap.size c _ rfl C.o (by unfold maxLen;omega) _ _ _ rfl rfl (Maps.keyOf_int_mk underlying3 (wfI aT aV)) _ [] (plainElem_int underlying3 (wfI H H)) ?_;intro S aH a7)
   | fail)
  have b0:G (S.ownsMap prog 3 (plainElem prog 3) e.heap.size (c+1) (D.put (.int .i64 q) (.lit (.int .i64 (((a.take c).count q:Int)+1))))/\Counts (D.put (.int .i64 q) (.lit (.int .i64 (((a.take c).count q:Int)+1)))) (a.take (c+1))/\J (λc=>e.heap.size<=c) e S):=V ⟨aH,by rw[Ay3,b1.o];exact z.o.step q,i.o.grown a7 (λaP t=>by cases t;exact .inl (Ay1 _))⟩;clear aH a7;go_roundw
  .exact⟨c+1,_,H,GN,b0.o⟩
  simp[intOf];omega
 obtain rfl:c=a.length:=H
 have y:G (Counts D a):=V (by have:=z.o;rwa [Ay7]at this);have aY:G (∀b,(a.count b:Int)<=1000000000):=V (λb=>by have:=List.count_le_length (a:=b) (l:=a);omega);clear z;go_wp2_with (first
  | (at_range;refine wpList_range_own _ rfl _ 277 rfl 3 3 lawI underlying277 _ e.heap.size a.length _ rfl C.o ?_;intro c6 aK a5 b8)
  | fail)
 go_frame
 have k:=V aK;have T:=V (i.o.grown a5 (λaP t=>by cases t));obtain⟨p,rfl⟩:∃p:World,p=wr:=⟨_,rfl⟩;have bB:e.heap.size<=p.heap.size:=i.o.size;clear aK a5 b8 C i
 go_loopw [6,7] (λb2 bH wr=>∃(v:Lit->Bool) (W:Nat) (f g:Int),b2=.int .i64 f/\bH=.int .i64 g/\(-9223372036854775808<=f/\f<=9223372036854775807/\0<=g/\g<=1000000000)/\wr.ranges prog 3 (plainElem prog 3) e.heap.size p.heap.size a.length D v W/\cm a v f g/\(∀b,v (.int .i64 b)=true->b∈a)/\J (λc=>e.heap.size<=c) e wr)
  (λ_ _ wr=>wr.rangeLeft e.heap.size p.heap.size)
 .exact⟨_,_,-1,0,rfl,rfl,H,k.o,⟨.inl ⟨rfl,rfl,λb P=>by rw[y.o.has];simpa using P⟩,λb P r=>by rw[y.o.has]at r;simp[P]at r⟩,λb r=>by rw[y.o.has]at r;simpa using r,T.o⟩
 clear k T;obtain⟨v,W,f,g,rfl,rfl,⟨bK,bM,c4,c5⟩,aI,a2,a8,s⟩:=hrel;have k:=V aI;have h:=V a2;have K:=V a8;have i:=V s;clear aI a2 a8 s;go_wp2_with (first
  | (at_next;refine wpList_next_ranges_ii _ rfl _ rfl 3 3 .i64 .i64 lawI underlying3 underlying3 e.heap.size p.heap.size a.length _ _ _ rfl k.o ?_ ?_)
  | fail)
 .intro _ a9
  have aZ:=V (h.o.done a9);clear a9 h;go_wp2;go_ret
  exact⟨by rw[aZ.o];rfl,i.o.fresh⟩
 intro b d S F bD O aD j aM aB a6 b9 bZ
 have Q:=K.o b aD;have a3:d=(a.count b:Int):=by
  have:=j (.lit (.int .i64 0));rw[y.o.at']at this;injection this with this;injection this with _ this;exact this.symm
 have bF:-9223372036854775808<=b/\b<=9223372036854775807:=by
  have:=U.o.byte b Q;exact this
 have b6:0<=d/\d<=1000000000:=by
  have:=aY.o b;omega
 obtain⟨c7,c8⟩:=bF;obtain⟨bT,bV⟩:=b6;obtain⟨o,E,m,B,x⟩:=sD a3 Q aM aB (i.o.grown a6 (λaP t=>by cases t;exact .inl bB));have A:G (∀w,(v (.int .i64 w) && !(Lit.int .i64 w).sameKey (.int .i64 b))=true->w∈a):=V (λw aO=>by simp at aO;exact K.o w aO.1);clear bD O aD j aM aB a6 b9 a3 Q K i;by_cases Z:g<d
 .have X:decide (g<d)=true:=by simpa using Z
  have n:=V (h.o.next E.o b d (.inl ⟨rfl,o.o,.inl (by have:=o.o;omega)⟩));clear h;go_wp2;go_roundw
  .exact⟨_,F,b,d,rfl,rfl,H,m.o,n.o,A.o,x.o⟩
  rw[m.o.left_eq,k.o.left_eq];exact B.o
 by_cases a0:d=g
 .subst a0
  have X:decide (d<d)=false:=sI;by_cases N:b<f
  .have b3:decide (b<f)=true:=by simpa using N
   have n:=V (h.o.next E.o b d (.inl ⟨rfl,o.o,.inr ⟨by have:=o.o;omega,N⟩⟩));clear h;go_wp2;go_roundw
   .exact⟨_,F,b,d,rfl,rfl,H,m.o,n.o,A.o,x.o⟩
   rw[m.o.left_eq,k.o.left_eq];exact B.o
  have b3:decide (b<f)=false:=by simpa using N
  have n:=V (h.o.next E.o f d (.inr ⟨rfl,rfl,.inr ⟨by have:=o.o;omega,H⟩⟩));clear h;go_wp2;go_roundw
  .exact⟨_,F,f,d,rfl,rfl,H,m.o,n.o,A.o,x.o⟩
  rw[m.o.left_eq,k.o.left_eq];exact B.o
 have X:decide (g<d)=false:=by simpa using Z
 have bX:(d == g)=false:=(by simpa using a0);have n:=V (h.o.next E.o f g (.inr ⟨rfl,rfl,.inl (by have:=o.o;omega)⟩));clear h;go_wp2;go_roundw
 .exact⟨_,F,f,g,rfl,rfl,H,m.o,n.o,A.o,x.o⟩
 rw[m.o.left_eq,k.o.left_eq];exact B.o
def valB (n:Int):Bool:=decide (kE n)
theorem uh {n:Int}(h:kE n):valB n=true:=by simpa [valB] using h
theorem kd {n:Int}(h:¬kE n):valB n=false:=by simpa [valB] using h
theorem bG (a:Int) (f:World):Calls prog 175 #[.int .i64 a] f λg h=>g=.returned (.bool (valB a))/\f=h:=by
 by_cases d:-1<=a
 .by_cases e:a<=16777215
  .have b:=V (uh (n:=a) ⟨d,e⟩)
   go_enter func175,ntmps175
   go_wp2;go_ret
   exact⟨by rw[b.o];rfl,D⟩
  have b:=V (kd (n:=a) (λc=>e c.2))
  go_enter func175,ntmps175
  go_wp2;go_ret
  exact⟨by rw[b.o];rfl,D⟩
 have b:=V (kd (n:=a) (λc=>d c.1))
 have i:decide (-1<=a)=false:=by simpa using d
 go_enter func175,ntmps175
 go_wp2;go_ret
 exact⟨by rw[b.o];rfl,D⟩
theorem ke (a:Int) (c:World):Calls prog 174 #[.int .i64 a] c λb d=>b=.returned (.bool (!valB a))/\c=d:=by
 go_enter func174,ntmps174
 go_wp2_with fail
 refine (bG a _).mono ?_;rintro b e ⟨rfl,rfl⟩;go_wp2;go_ret
 exact⟨D,D⟩
theorem kf (a:List Int) (q:Option Addr) (r u y:Nat) (g:World) (e:I.BytesAt g r u a) (s:0<a.length->q=some ⟨r,u,none⟩) (P:a.length<=1000000000) :
  Calls prog 131 #[.slice q a.length y,.func (.func 174) #[] #[]] g λl E=>l=.returned (.int .i64 (idxV (λf=>!valB f) a))/\g=E:=by
 have x:=V e;have v:=V s;clear e s;go_enter func131,ntmps131
 go_wp2
 go_loop [8] (λo=>∃b:Nat,b<=a.length/\o=.int .i64 b/\(∀(c:Nat) d,c<b->a[c]?=some d->(!valB d)=false)) (λo=>a.length-(intOf o).toNat)
 .exact⟨0,H,D,λc d A=>absurd A (Ax1 _)⟩
 obtain⟨b,O,rfl,t⟩:=hrel;have j:=V t;clear t;by_cases C:b<a.length
 .have K:=rO b a.length
  obtain⟨i,e,L,Q,R⟩:=x.o.get C;have z:=v.o H;subst z;have p:=V e;clear e;by_cases h:(!valB i)=true
  .go_wp2_with fail
   refine (ke i g).mono ?_;rintro l F ⟨rfl,rfl⟩;rw[h];have k:G (idxV (λf=>!valB f) a=b):=V (tJ p.o h j.o);go_wp2;go_ret
   exact⟨by rw[k.o];rfl,D⟩
  have m:(!valB i)=false:=by simpa using h
  have w:G (∀(c:Nat) d,c<b+1->a[c]?=some d->(!valB d)=false):=V (λc d N n=>by
   by_cases B:c=b
   .subst B;rw[p.o]at n;obtain rfl:=Az2 n;exact m
   exact j.o c d H n)
  go_wp2_with fail
  refine (ke i g).mono ?_;rintro l F ⟨rfl,rfl⟩;rw[m];clear h m;go_wp2;go_round
  .exact⟨b+1,H,GN,w.o⟩
  simp[intOf];omega
 obtain rfl:b=a.length:=H
 have k:G (idxV (λf=>!valB f) a=-1):=V (qW j.o);go_wp2;go_ret
 exact⟨by rw[k.o];rfl,D⟩
def tN (Z:List Int):Bool:=Z.any (λn=>!valB n)
theorem nC :tN X=false↔∀a∈X,kE a:=by simp[tN,valB]
theorem aE (a:List Int) (d:Option Addr) (e f i:Nat) (k:World) (p:I.BytesAt k e f a) (n:0<a.length->d=some ⟨e,f,none⟩) (o:a.length<=1000000000) :
  Calls prog 89 #[.slice d a.length i,.func (.func 174) #[] #[]] k λj r=>j=.returned (.bool (tN a))/\k=r:=by
 have m:=V p;have l:=V n;clear p n;rcases sG (λq=>!valB q) a with ⟨t,u,-,-,b,-,c⟩|⟨b,-,c⟩
 .have g:=V b
  have h:G (tN a=true):=V c;clear b c;go_enter func89,ntmps89
  go_wp2_with fail
  refine (kf a d e f i _ m.o l.o o).mono ?_;rintro j s ⟨rfl,rfl⟩;rw[g.o];go_wp2;go_ret
  exact⟨by rw[h.o];rfl,D⟩
 have g:=V b
 have h:G (tN a=false):=V c;clear b c;go_enter func89,ntmps89
 go_wp2_with fail
 refine (kf a d e f i _ m.o l.o o).mono ?_;rintro j s ⟨rfl,rfl⟩;rw[g.o];go_wp2;go_ret
 exact⟨by rw[h.o];rfl,D⟩
theorem kg (d:World) (b:Option Addr) (a c:Nat) (g:a<=c) :
  Calls prog 177 #[.slice b a c] d λe f=>e=.returned (.slice b a a)/\d=f:=by
 go_enter func177,ntmps177
 go_wp2;go_ret
 exact⟨D,D⟩
theorem kh (d:World) (b:Option Addr) (a c:Nat) (g:a<=c) :
  Calls prog 156 #[.slice b a c] d λe f=>e=.returned (.slice b a a)/\d=f:=by
 go_enter func156,ntmps156
 go_wp2;go_ret
 exact⟨D,D⟩
theorem cn (d:World) (b:Option Addr) (a c:Nat) (g:a<=c) :
  Calls prog 144 #[.slice b a c] d λe f=>e=.returned (.slice b a a)/\d=f:=by
 go_enter func144,ntmps144
 go_wp2;go_ret
 exact⟨D,D⟩
def ofV (d:Int) (s:Sl) (e:Int):Value:=.tuple #[.agg #[.int .i64 d,slV s],.int .i64 e]
theorem ui (a:List Int) (c:Option Addr) (d e g:Nat) (b:World) (k:I.BytesAt b d e a) (i:0<a.length->c=some ⟨d,e,none⟩) (p:a.length<=65536) (j:tN a=true) :
  Calls prog 154 #[.slice c a.length g] b λh o=>h=.returned (ofV 0 (none,0,0) 1)/\Cf b o:=by
 obtain⟨n,l,m,f⟩:=sB k i j ((FR b).alloc (.cells #[.int .i64 0,.slice none 0 0] 241));clear k i j;go_enter func154,ntmps154
 go_wp2_with fail
 refine (aE a c d e g _ (n.o.chg f.o iE) l.o H).mono ?_;rintro h q ⟨rfl,rfl⟩;rw[m.o];go_wp2;refine bodyPost_ret (v:=.tuple #[.agg #[.int .i64 0,.slice none 0 0],.int .i64 1]) (by simp[results,results154,go_sem]) D ⟨D,f.o⟩
theorem uj (b:List Int) (w:Option Addr) (s z N:Nat) (d:World) (t:I.BytesAt d s z b) (a8:0<b.length->w=some ⟨s,z,none⟩) (c5:b.length<=65536) (R:tN b=false) :
  Calls prog 154 #[.slice w b.length N] d λh aP=>∃aM,h=.returned (ofV (xL b) aM 0)/\vU.In aP d.heap.size aM (zN (xL b) 0 b)/\Cf d aP:=by
 obtain⟨L,C,b1,c1,E⟩:=sD t a8 R (nC.1 R) ((FR d).alloc (.cells #[.int .i64 0,.slice none 0 0] 241));clear t a8 R;obtain⟨e,P⟩:=rM (xL b);rw[P];have aX:=V P;clear P;go_enter func154,ntmps154
 go_wp2_with fail
 refine (aE b w s z N _ (L.o.chg E.o iE) C.o H).mono ?_;rintro h c ⟨rfl,rfl⟩;rw[b1.o];go_wp2_with fail
 refine (ug b w s z N _ (L.o.chg E.o iE) C.o H).mono ?_;rintro h c ⟨rfl,n⟩;rw[aX.o];have aD:d.heap.size<c.heap.size:=by have:=n.size;simp at this;omega
 have A:=n.cellS (p:=⟨d.heap.size,0,none⟩) (v:=.int .i64 0) sI iD;have B:=n.cellS (p:=⟨d.heap.size,1,none⟩) (v:=.slice none 0 0) sI iD;have X:=(n.frozen (p:=⟨d.heap.size,0,none⟩) sI iD).trans (Az6 _ _ _ _);have Y:=(n.frozen (p:=⟨d.heap.size,1,none⟩) sI iD).trans (Az6 _ _ _ _);have u:G (c.cell? ⟨d.heap.size,0,none⟩=some (.int .i64 0)/\c.cell? ⟨d.heap.size,1,none⟩=some (.slice none 0 0)/\c.frozen? ⟨d.heap.size,0,none⟩=false/\c.frozen? ⟨d.heap.size,1,none⟩=false):=V ⟨A,B,X,Y⟩;have a1:=V (E.o.trans n);clear n A B X Y;go_wp2_with fail
 go_loopw [20] (λU wr=>∃(a:Nat) (k:Value),a<=b.length/\U=.int .i64 a/\Fld vU c.heap.size 1 wr k (zN e 0 (b.take a))/\wr.cell? ⟨c.heap.size,0,none⟩=some (.int .i64 e)/\J (λa=>c.heap.size<=a) c wr) (λU _=>b.length-(intOf U).toNat)
 .exact⟨0,_,H,D,⟨sI,sI,.nil _ _⟩,sI,rT⟩
 obtain⟨a,k,c4,rfl,o,b6,a9⟩:=hrel;obtain⟨j,l,a0⟩:=rZ o a9 b6;have a6:=o.c;have cB:=o.z;clear o a9;have b2:G (wr.cell? ⟨d.heap.size,0,none⟩=some (.int .i64 0)/\wr.cell? ⟨d.heap.size,1,none⟩=some (.slice none 0 0)/\wr.frozen? ⟨d.heap.size,0,none⟩=false/\wr.frozen? ⟨d.heap.size,1,none⟩=false):=V ⟨l.o.cellS u.o.1 (by show ¬c.heap.size<=d.heap.size;omega),l.o.cellS u.o.2.1 (by show ¬c.heap.size<=d.heap.size;omega),(l.o.frozen (p:=⟨d.heap.size,0,none⟩) aD (by show ¬c.heap.size<=d.heap.size;omega)).trans u.o.2.2.1,(l.o.frozen (p:=⟨d.heap.size,1,none⟩) aD (by show ¬c.heap.size<=d.heap.size;omega)).trans u.o.2.2.2⟩;by_cases bK:a<b.length
 .have c2:=rO a b.length
  obtain⟨f,t,c7,bX,bZ⟩:=(L.o.chg (a1.o.trans l.o.fresh) iE).get bK;have b7:=C.o H;subst b7;have b3:=V t;have aF:(b.take a).length=a:=(by rw[Ay8];omega);have v:=V (jt e (b.take a) f 0);rw[aF,Ax]at v;have K:G (b.take (a+1)=b.take a++[f]):=V (by rw[Ay3,b3.o];rfl);clear t aF;by_cases S:f=e
  .subst S
   have b5:(f != f)=false:=sI;have aZ:G (Fld vU c.heap.size 1 wr k (zN f 0 (b.take (a+1)))):=V (by rw[K.o,v.o,if_pos D];exact j.o);clear j v K;go_wp2;go_roundw
   .exact⟨a+1,k,H,GN,aZ.o,a0.o,l.o⟩
   simp[intOf];omega
  have b5:(f != e)=true:=by simpa using S
  have b0:G ((zN e 0 (b.take a)).length<=65536):=V (by have:=tG e (b.take a) 0;have:=Au3 a b;omega);have r:G (zN e 0 (b.take (a+1))=zN e 0 (b.take a)++[((a:Int),f)]):=V (by rw[K.o,v.o,if_neg S]);have a5:G (∀aR∈[((a:Int),f)],vU.ok aR):=V (by
   intro aR aH;simp only[Ay]at aH;subst aH;exact⟨⟨by show -9223372036854775808<=(a:Int);omega,by show (a:Int)<=9223372036854775807;omega⟩,⟨bX,bZ⟩⟩)
  have a2:=V (j.o.chg ((FR wr).alloc (.cells #[.int .i64 a,.int .i64 f] 246)) (λ_ _ _ bB=>bB));have aV:G (c.heap.size+1<=(wr.alloc (.cells #[.int .i64 a,.int .i64 f] 246)).heap.size):=V (by have:=j.o.lt;simp;omega);have aY:G (∀q i,vU.Own i (c.heap.size+1) q (zN e 0 (b.take a)++[((a:Int),f)])->J (λbP=>c.heap.size+1<=bP) (wr.alloc (.cells #[.int .i64 a,.int .i64 f] 246)) i ->
   (i.cell? ⟨c.heap.size,1,none⟩=some k/\i.frozen? ⟨c.heap.size,1,none⟩=false)/\Fld vU c.heap.size 1 (i.setCell ⟨c.heap.size,1,none⟩ q) q (zN e 0 (b.take (a+1)))/\(i.setCell ⟨c.heap.size,1,none⟩ q).cell? ⟨c.heap.size,0,none⟩=some (.int .i64 e)/\J (λa=>c.heap.size<=a) c (i.setCell ⟨c.heap.size,1,none⟩ q)):=V (by
   intro q i bD bF;obtain⟨aI,aK,bT,bV⟩:=a2.o.step bD bF;refine⟨aI,by rw[r.o];exact aK,bV 0 _ H (((FR wr).alloc _).cellS a0.o iD),l.o.trans (((J.refl _ wr).alloc _).trans bT)⟩)
  go_wp2_with (at_builtin;refine Elt.wpList_append vU D _ _ 239 239 D D (c.heap.size+1) k (zN e 0 (b.take a)) [((a:Int),f)] (.slice (some ⟨wr.heap.size,0,none⟩) 1 1) D D a2.o.own aV.o (vU.srcLit 1 a5.o) a5.o (by have:=b0.o;simp;omega) ?_;intro q i Z aT c0;obtain⟨m,c9,aO,bO⟩:=Z.o.shape3;subst bO;obtain⟨⟨aI,aK⟩,o⟩:=aY.o _ i Z.o aT.o;have F:=V o;clear o)
  go_roundw
  .exact⟨a+1,_,H,GN,F.o.1,F.o.2.1,F.o.2.2⟩
  simp[intOf];omega
 obtain rfl:a=b.length:=H
 obtain⟨m,c8,aO,rfl,Q,-,-⟩:=j.o.own.at';obtain⟨A,B,X,Y⟩:=b2.o;have aB:d.heap.size≠c.heap.size:=H;have c6:=j.o.lt;have r:G (b.take b.length=b):=V (Ay7);rw[r.o]at Q a6;have bM:=tG e b 0;have a4:=V (j.o.own.lower (B':=d.heap.size) H);rw[r.o]at a4;obtain⟨g,x⟩:=rM (zN e 0 b);rw[x]at Q a6 bM a4;have a3:=V (j.o.own);rw[r.o,x]at a3;have b4:=V x;clear x j;go_wp2_with fail
 refine (kg _ m _ aO Q).mono ?_;rintro h cA ⟨rfl,rfl⟩;go_wp2;have y:=zA wr c.heap.size 1 (.slice m g.length g.length);obtain⟨b8,b9,a7⟩:=bw (.int .i64 e) (.slice m g.length g.length) (y.cellS A aB) (y.cellS B aB);have O:=(y.mono (T:=λa=>a=c.heap.size\/a=d.heap.size) (λa _ h=>.inl h)).trans (a7.mono (λa _ h=>.inr h));have bH:=((a3.o.chg O (λs c3 _ h=>H)).in' (Ay1 _)).lower (B':=d.heap.size) H;have bI:=((a1.o.any.trans (l.o.mono (T:=λa=>d.heap.size<=a) (λa _ h=>H))).trans (O.mono (λa _ h=>H))).fresh;clear a7 O y
 generalize ((wr.setCell ⟨c.heap.size,1,none⟩ (.slice m g.length g.length)).setCell ⟨d.heap.size,0,none⟩ (.int .i64 e)).setCell ⟨d.heap.size,1,none⟩ (.slice m g.length g.length)=W at *
 exact bodyPost_ret (v:=.tuple #[.agg #[.int .i64 e,.slice m g.length g.length],.int .i64 0]) (by simp[results,results154,go_sem,b8,b9]) D ⟨(m,g.length,g.length),D,by rw[b4.o];exact bH,bI⟩
def uU (L:List (Int×Int)):List Int:=L.map (·.2)
theorem ki (L:List (Int×Int)) (x:Int):(uU L).count x<=L.length:=Ay2 List.count_le_length (by rw[uU,Ax4];exact Ay1 _)
theorem uk (L:List (Int×Int)) (x:Int×Int):uU (L++[x])=uU L++[x.2]:=by simp[uU]
def dj (b:List Int) (e:Lit->Bool) (c d:Int):Prop:=∀a∈b,e (.int .i64 a)=false->(b.count a:Int)<c\/((b.count a:Int)=c/\d<=a)
theorem dj.next {e:Lit->Bool}{a c x:Int}(i:dj X e a c) (k:(X.count x:Int)<a\/((X.count x:Int)=a/\c<=x)):dj X (λh=>e h && !h.sameKey (.int .i64 x)) a c:=λb l j=>by
 by_cases f:b=x
 .subst f;exact k
 refine i b l ?_
 have g:(e (.int .i64 b) && !(Lit.int .i64 b).sameKey (.int .i64 x))=false:=j;rw[Maps.sameKey_ne (by intro d;injection d with _ d;exact f d)]at g;simpa using g
theorem kj (d:Int) (L:List (Int×Int)):uC 0 (d,L)=(decide (d=-1) && decide (L=[])):=by simp only[uC,if_true]
theorem gf (e:a≠0) (c:Int) (b:List (Int×Int)):uC a (c,b)=(yS a c (-1) b && (uU b).all (λd=>decide (((uU b).count d:Int)<(a:Int)-b.length\/(((uU b).count d:Int)=(a:Int)-b.length/\c<=d))) && decide (kE c) && decide (0<(a:Int)-b.length)):=by
 simp only[uC,uU];rw[if_neg e]
 rfl
theorem eo (e:a≠0) {c:Int}{b:List (Int×Int)}(d:yS a c (-1) b=false):uC a (c,b)=false:=by rw[gf e,d];rfl
theorem kk (g:a≠0) {d c:Int}{b:List (Int×Int)}(h:c∈uU b) (f:¬(((uU b).count c:Int)<(a:Int)-b.length\/(((uU b).count c:Int)=(a:Int)-b.length/\d<=c))):uC a (d,b)=false:=by
 rw[gf g];have:(uU b).all (λe=>decide (((uU b).count e:Int)<(a:Int)-b.length\/(((uU b).count e:Int)=(a:Int)-b.length/\d<=e)))=false:=by
  rw[List.all_eq_false];exact⟨c,h,by simpa using f⟩
 rw[this];simp
theorem ul (h:a≠0) {c:Int}{b:List (Int×Int)}(f:yS a c (-1) b=true) {e:Lit->Bool}(g:dj (uU b) e ((a:Int)-b.length) c) (i:∀k,e k=false):uC a (c,b)=(valB c && decide (0<(a:Int)-b.length)):=by
 rw[gf h,f];have:(uU b).all (λd=>decide (((uU b).count d:Int)<(a:Int)-b.length\/(((uU b).count d:Int)=(a:Int)-b.length/\c<=d)))=true:=by
  rw[Aw0];intro d j;simpa using g d j (i _)
 rw[this];simp[valB]
theorem um {W d last:Int}{c:List (Int×Int)}{b:Int×Int}(e:c[a]?=some b):yS W d last (c.drop a)=(decide (last<b.1) && decide (b.1<W) && valB b.2 && !decide (b.2=d) && yS W d b.1 (c.drop (a+1))):=by
 have f:=(Az0.1 e).1;rw[Av7 f,(Az0.1 e).2]
 rfl
theorem gg (e:Nat) (c:Int) (a:List (Int×Int)) (p:Option Addr) (j c0:Nat) (d:World) (r:vU.In d c0 (p,a.length,j) a) (dD:a.length<=1000000000) (d7:e<=65536) (cI:I.Byte c) :
  Calls prog 180 #[.agg #[.int .i64 c,.slice p a.length j],.int .i64 e] d λn d1=>n=.returned (.bool (uC e (c,a)))/\Cf d d1:=by
 have a4:=V r;obtain⟨d8,P⟩:=cI;have dH:=@run_makeMap prog;have w:=V ((J.refl (λb=>d.heap.size<=b) d).alloc (.cells #[.int .i64 c,.slice p a.length j] 241));have S:G (∀wr,J (λb=>d.heap.size+1<=b) (d.alloc (.cells #[.int .i64 c,.slice p a.length j] 241)) wr->wr.cell? ⟨d.heap.size,0,none⟩=some (.int .i64 c)/\wr.cell? ⟨d.heap.size,1,none⟩=some (.slice p a.length j)):=V λwr l=>⟨l.cellS sI (by show ¬d.heap.size+1<=d.heap.size;omega),l.cellS sI (by show ¬d.heap.size+1<=d.heap.size;omega)⟩
 clear r;by_cases aH:e=0
 .subst aH
  by_cases P:c=-1
  .subst P
   by_cases aF:a.length=0
   .have cF:=Av1.1 aF
    subst cF;have L:G (uC 0 (-1,[])=true):=V rfl;go_enter func180,ntmps180
    go_wp2;go_ret
    exact⟨by rw[L.o];rfl,w.o.fresh⟩
   have L:G (uC 0 (-1,a)=false):=V (by
    rw[kj];have:a≠[]:=λn=>aF (by rw[n];rfl)
    simp[this])
   have d0:((a.length:Int) == 0)=false:=beq_eq_false_iff_ne.2 oM;clear aF;go_enter func180,ntmps180
   go_wp2;go_ret
   exact⟨by rw[L.o];rfl,w.o.fresh⟩
  have L:G (uC 0 (c,a)=false):=V (by
   rw[kj];simp[P])
  have d0:(c == -1)=false:=(by simpa using P);clear P;go_enter func180,ntmps180
  go_wp2;go_ret
  exact⟨by rw[L.o];rfl,w.o.fresh⟩
 have y:=V aH
 have dI:((e:Int) == 0)=false:=by simp;omega
 have c5:=V (w.o.alloc (.map #[] 0));have aZ:=V ((J.refl (λb=>d.heap.size+1<=b) (d.alloc (.cells #[.int .i64 c,.slice p a.length j] 241))).alloc (.map #[] 0));clear aH;go_enter func180,ntmps180
 go_wp2
 go_loopw [6,32] (λcV aT wr=>∃(b:Nat) (v:Int) (D:DataW Unit),b<=a.length/\aT=.int .i64 b/\cV=.int .i64 v/\yS e c (-1) a=yS e c v (a.drop b)/\wr.ownsMap prog 3 (plainElem prog 3) (d.heap.size+1) b D/\Counts D (uU (a.take b))/\J (λb=>d.heap.size+1<=b) (d.alloc (.cells #[.int .i64 c,.slice p a.length j] 241)) wr) (λ_ aT _=>a.length-(intOf aT).toNat)
 .exact⟨0,-1,_,oM,rfl,rfl,sI,by have:=World.ownsMap_made (H:=Unit) (d.alloc (.cells #[.int .i64 c,.slice p a.length j] 241)) prog 3 (plainElem prog 3);simpa using this,Counts.start,aZ.o⟩
 clear c5 aZ;obtain⟨b,v,D,dB,rfl,rfl,b7,bI,b6,l⟩:=hrel;obtain⟨h,a5,W,o,C⟩:=sD b7 bI b6 l (w.o.trans (l.mono (T:=λb=>d.heap.size<=b) (λb _ n=>oM)));obtain⟨a8,a9⟩:=S.o wr l;clear b7 bI b6 l;by_cases cK:b<a.length
 .have d4:=rO b a.length
  obtain⟨f,b4,bZ,dK,dM,z,rfl,bM,c9,cA,cM,-,-⟩:=(a4.o.same C.o.fresh).get2 rfl cK;obtain⟨rfl,rfl⟩:=az bM;obtain⟨m,g⟩:=f;obtain⟨⟨cX,cZ⟩,⟨aP,aR⟩⟩:=cM;simp only at c9 cA cX cZ aP aR;have c8:=V z;obtain⟨d2,d3⟩:=S.o (wr.alloc (.cells #[.int .i64 m,.int .i64 g] 246)) (o.o.alloc _);have F:=V (um (W:=(e:Int)) (d:=c) (last:=v) z);clear z bM;by_cases O:v<m
  .have N:decide (m<=v)=false:=by simp;omega
   by_cases u:m<(e:Int)
   .have aB:decide ((e:Int)<=m)=false:=by simp;omega
    by_cases k:valB g=true
    .by_cases Y:g=c
     .subst Y
      have cD:(g == g)=true:=sI;have i:G (uC e (g,a)=false):=V (eo y.o (by rw[h.o,F.o];simp));go_wp2_with fail
      refine (bG g _).mono ?_;rintro n aV ⟨rfl,rfl⟩;rw[k];go_wp2;go_ret
      exact⟨by rw[i.o];rfl,(C.o.alloc _).fresh⟩
     have cD:(g == c)=false:=by simpa using Y
     have c3:G (yS e c (-1) a=yS e c m (a.drop (b+1))):=V (by rw[h.o,F.o];simp[O,u,k,Y]);have c6:G (uU (a.take (b+1))=uU (a.take b)++[g]):=V (by rw[Ay3,c8.o];exact uk _ _);have dF:(uU (a.take b)).count g<=b:=Ay2 (ki _ _) (Au3 _ _);have b0:=V (a5.o.alloc (.cells #[.int .i64 m,.int .i64 g] 246));have c1:=V (o.o.alloc (.cells #[.int .i64 m,.int .i64 g] 246));clear h F Y;go_wp2_with fail
     refine (bG g _).mono ?_;rintro n aV ⟨rfl,rfl⟩;rw[k];clear k;go_wp2_with (first
      | (at_lookup;refine wpList_lookup_own_int _ rfl _ _ 277 rfl 3 3 .i64 lawI underlying277 underlying3 (kc _) (d.heap.size+1) b _ rfl b0.o _ _ rfl (Maps.keyOf_int_mk underlying3 (wfI aP aR)) ?_;intro j s aM;rw[W.o.at']at s;injection s with s;injection s with _ s;subst s;clear aM)
      | (at_mapUpdate;refine wpList_mapUpdate_own _ rfl _ _ _ 277 rfl 3 3 lawI underlying277 _ (d.heap.size+1) b _ rfl b0.o (by unfold maxLen;omega) _ _ _ rfl rfl (Maps.keyOf_int_mk underlying3 (wfI aP aR)) _ [] (plainElem_int underlying3 (wfI oM oM)) ?_;intro a1 bK bB)
      | fail)
     have i:G (a1.ownsMap prog 3 (plainElem prog 3) (d.heap.size+1) (b+1) (D.put (.int .i64 g) (.lit (.int .i64 (((uU (a.take b)).count g:Int)+1))))/\Counts (D.put (.int .i64 g) (.lit (.int .i64 (((uU (a.take b)).count g:Int)+1)))) (uU (a.take (b+1)))/\J (λb=>d.heap.size+1<=b) (d.alloc (.cells #[.int .i64 c,.slice (some ⟨b4,bZ,none⟩) a.length j] 241)) a1):=V ⟨bK,by rw[c6.o];exact W.o.step g,c1.o.grown bB (λbX Q=>by cases Q;exact .inr (Ay1 _))⟩;clear bK bB;go_roundw
     .exact⟨b+1,m,_,oM,GN,rfl,c3.o,i.o⟩
     simp[intOf];omega
    have aD:valB g=false:=by simpa using k
    have i:G (uC e (c,a)=false):=V (eo y.o (by rw[h.o,F.o];simp[aD]));clear k;go_wp2_with fail
    refine (bG g _).mono ?_;rintro n aV ⟨rfl,rfl⟩;rw[aD];clear aD;go_wp2;go_ret
    exact⟨by rw[i.o];rfl,(C.o.alloc _).fresh⟩
   have aB:decide ((e:Int)<=m)=true:=by simp;omega
   have i:G (uC e (c,a)=false):=V (eo y.o (by rw[h.o,F.o];simp[u]));go_wp2;go_ret
   exact⟨by rw[i.o];rfl,(C.o.alloc _).fresh⟩
  have N:decide (m<=v)=true:=by simp;omega
  have i:G (uC e (c,a)=false):=V (eo y.o (by rw[h.o,F.o];simp[O]));go_wp2;go_ret
  exact⟨by rw[i.o];rfl,(C.o.alloc _).fresh⟩
 obtain rfl:b=a.length:=oM
 have c4:G (yS e c (-1) a=true):=V (by rw[h.o,List.drop_length];rfl);have a2:G (Counts D (uU a)):=V (by have:=W.o;rwa [Ay7]at this);have c2:G (∀f,((uU a).count f:Int)<=1000000000):=V (λf=>by have:=ki a f;omega);have c7:G (∀f∈uU a,I.Byte f):=V (λf z=>by
  obtain⟨A,a0,rfl⟩:=Au.1 z;obtain⟨_,_,b4,bZ,k,_⟩:=a4.o;exact (k.ok A a0).2)
 clear W h a4;go_wp2_with (first
  | (at_range;refine wpList_range_own _ rfl _ 277 rfl 3 3 lawI underlying277 _ (d.heap.size+1) a.length _ rfl a5.o ?_;intro dO bP b8 cO)
  | fail)
 go_frame
 have E:=V bP;have x:=V (o.o.grown b8 (λbX Q=>by cases Q));obtain⟨K,rfl⟩:∃K:World,K=wr:=⟨_,rfl⟩;have cS:d.heap.size+1<=K.heap.size:=(by have:=o.o.size;simpa using this);clear bP b8 cO a5 o a8 a9 C
 go_loopw [] (λwr=>∃(R:Lit->Bool) (b2:Nat),wr.ranges prog 3 (plainElem prog 3) (d.heap.size+1) K.heap.size a.length D R b2/\dj (uU a) R ((e:Int)-a.length) c/\(∀f,R (.int .i64 f)=true->f∈uU a)/\J (λb=>d.heap.size+1<=b) (d.alloc (.cells #[.int .i64 c,.slice p a.length j] 241)) wr)
  (λwr=>wr.rangeLeft (d.heap.size+1) K.heap.size)
 .exact⟨_,_,E.o,λf z r=>by rw[a2.o.has]at r;simp only[decide_eq_false_iff_not]at r;exact absurd z r,λf r=>by rw[a2.o.has]at r;simpa using r,x.o⟩
 clear E x;obtain⟨R,b2,bO,bV,bD,l⟩:=hrel;have E:=V bO;have t:=V bV;have a3:=V bD;have o:=V l;obtain⟨a8,a9⟩:=S.o wr l;clear bO bV bD l;go_wp2_with (first
  | (at_next;refine wpList_next_ranges_ii _ rfl _ rfl 3 3 .i64 .i64 lawI underlying3 underlying3 (d.heap.size+1) K.heap.size a.length _ _ _ rfl E.o ?_ ?_)
  | fail)
 .intro _ bF
  have h:=V (ul y.o c4.o t.o bF);have B:=V ((w.o.trans (o.o.mono (T:=λb=>d.heap.size<=b) (λb _ n=>oM))).fresh);clear bF t;go_wp2_with fail
  refine (bG c _).mono ?_;rintro n aV ⟨rfl,rfl⟩;by_cases Z:valB c=true
  .rw[Z]
   rw[Z,Au1]at h;by_cases aI:a.length<e
   .have a7:G (uC e (c,a)=true):=V (by rw[h.o];simp;omega)
    have N:decide (0<(e:Int)-a.length)=true:=sO;clear h;go_wp2;go_ret
    exact⟨by rw[a7.o];rfl,B.o⟩
   have a7:G (uC e (c,a)=false):=V (by rw[h.o];simp;omega)
   have N:decide (0<(e:Int)-a.length)=false:=sO;clear h;go_wp2;go_ret
   exact⟨by rw[a7.o];rfl,B.o⟩
  have aK:valB c=false:=by simpa using Z
  rw[aK];rw[aK,Aw3]at h;clear Z aK;go_wp2;go_ret
  exact⟨by rw[h.o];rfl,B.o⟩
 intro f q a1 b3 cT aM bH s bT aI b9 cP d9
 have aO:=a3.o f bH;have b5:q=((uU a).count f:Int):=by
  have:=s (.lit (.int .i64 0));rw[a2.o.at']at this;injection this with this;injection this with _ this;exact this.symm
 obtain⟨dP,dR⟩:=c7.o f aO;have cH:0<=q/\q<=1000000000:=by
  have:=c2.o f;omega
 obtain⟨d5,d6⟩:=cH;obtain⟨U,b1,X,aY,x⟩:=sD b5 aO bT aI (o.o.grown b9 (λbX Q=>by cases Q;exact .inr cS));have aX:G (∀A,(R (.int .i64 A) && !(Lit.int .i64 A).sameKey (.int .i64 f))=true->A∈uU a):=V (λA a0=>by simp at a0;exact a3.o A a0.1);have B:=V ((w.o.trans (x.o.mono (T:=λb=>d.heap.size<=b) (λb _ n=>oM))).fresh);obtain⟨a8,a9⟩:=S.o a1 x.o;clear cT aM bH s bT aI b9 cP b5 aO a3 o;by_cases O:(e:Int)-a.length<q
 .have N:decide ((e:Int)-a.length<q)=true:=by simpa using O
  have i:G (uC e (c,a)=false):=V (kk y.o b1.o (by have:=U.o;omega));clear t;go_wp2;go_ret
  exact⟨by rw[i.o];rfl,B.o⟩
 have N:decide ((e:Int)-a.length<q)=false:=by simpa using O
 by_cases u:q=(e:Int)-a.length
 .have aB:(q == (e:Int)-a.length)=true:=by simpa using u
  by_cases k:f<c
  .have cB:decide (f<c)=true:=by simpa using k
   have i:G (uC e (c,a)=false):=V (kk y.o b1.o (by have:=U.o;omega));clear t u;go_wp2;go_ret
   exact⟨by rw[i.o];rfl,B.o⟩
  have cB:decide (f<c)=false:=by simpa using k
  have a6:=V (t.o.next (x:=f) (.inr ⟨by have:=U.o;omega,oM⟩));clear t u;go_wp2;go_roundw
  .exact⟨_,b3,X.o,a6.o,aX.o,x.o⟩
  rw[X.o.left_eq,E.o.left_eq];exact aY.o
 have aB:(q == (e:Int)-a.length)=false:=by simpa using u
 have a6:=V (t.o.next (x:=f) (.inl (by have:=U.o;omega)));clear t u;go_wp2;go_roundw
 .exact⟨_,b3,X.o,a6.o,aX.o,x.o⟩
 rw[X.o.left_eq,E.o.left_eq];exact aY.o
def qN:Int->Int->List Int->Option Int
 | a,_,[]=>some a
 | a,c,b :: d=>if b<0\/a<b\/c<=b then none else qN (if b=a then a+1 else a) c d
theorem gh:∀(d:List Int) (c e b:Int),qN c e d=some b->c<=b/\b<=c+d.length
 | [],c,e,b,a=>by
  simp only[qN,Option.some.injEq]at a;simp
  omega
 | f :: d,c,e,b,a=>by
  simp only[qN]at a
  split at a
  .cases a
  have:=gh d _ e b a
  simp only[Ax2]
  split at this <;> omega
def mayL:TabD->Bool
 | (W,R,O)=>decide (0<=W/\W<=65536/\O.length<=65536) && decide (qN 0 R.length O=some (R.length:Int)) && R.all (uC W.toNat) && decide R.Nodup
theorem jN {a:List RowD}(b:¬(0<=x/\x<=65536/\X.length<=65536)):mayL (x,a,X)=false:=by
 simp only[mayL,decide_eq_false b,Aw3]
theorem kC {a:List RowD}(b:qN 0 a.length X≠some (a.length:Int)):mayL (x,a,X)=false:=by
 simp only[mayL,decide_eq_false b,Aw3,Av2]
theorem kl {a:List RowD}{b:RowD}(d:b∈a) (c:uC x.toNat b=false):mayL (x,a,X)=false:=by
 have:a.all (uC x.toNat)=false:=by rw[List.all_eq_false];exact⟨b,d,by simp[c]⟩
 simp only[mayL,this,Aw3,Av2]
theorem km {a:List RowD}(b:¬a.Nodup):mayL (x,a,X)=false:=by
 simp only[mayL,decide_eq_false b,Av2]
theorem gi {a:List RowD}(b:0<=x/\x<=65536/\X.length<=65536) (c:∀e∈a,uC x.toNat e=true) (d:a.Nodup):mayL (x,a,X)=decide (qN 0 a.length X=some (a.length:Int)):=by
 have:a.all (uC x.toNat)=true:=Aw0.2 c;simp only[mayL,decide_eq_true b,this,decide_eq_true d,Au1,Bool.and_true]
theorem jY {a:List RowD}(b:mayL (x,a,X)=true):(0<=x/\x<=65536/\X.length<=65536)/\qN 0 a.length X=some (a.length:Int)/\(∀c∈a,uC x.toNat c=true)/\a.Nodup:=by
 simp only[mayL,Ay6,decide_eq_true_eq,Aw0]at b;exact⟨b.1.1.1,b.1.1.2,b.1.2,b.2⟩
theorem vW.get {n:Elt (Int×Int)}{m:Elt (Int×Sl)}{d:List RowD}(t:vW n m w a (F,b,c) d) (K:m.sz=2) (z:∀h,m.enc h=ck h) {k:Nat}(B:k<d.length) :
  ∃(f:RowD) (e g:Nat) (j:Option Addr) (l:Nat),d[k]?=some f/\F=some ⟨e,g,none⟩/\w.cell? ⟨e,g+k * 2,none⟩=some (.int .i64 f.1)/\w.cell? ⟨e,g+k * 2+1,none⟩=some (.slice j f.2.length l)/\I.Byte f.1/\n.In w a (j,f.2.length,l) f.2/\e<w.heap.size/\a<=e:=by
 obtain⟨q,u,P,v⟩:=t;obtain⟨h,e,g,Q,R,E,y,i,r,s,-,x,A⟩:=u.get2 K (show k<q.length by omega);have o:d[k]?=some d[k]:=Az4 B;obtain⟨L,N,p⟩:=v k h _ E o;rw[z]at i;unfold ck at i;simp only[List.cons.injEq,and_true]at i;obtain⟨rfl,rfl⟩:=i;obtain⟨S,j,O,l⟩:=h;have C:O=d[k].2.length:=p.1;subst C;exact⟨d[k],e,g,j,l,o,y,by rw[<-L];exact r,s,N,p,A,x⟩
theorem fE (a:List RowD) (E:Option Addr) (F o p:Nat) (d:Int) (b:List (Int×Int)) (j:Option Addr) (k:Nat) (i:World) (l:vW vU rowE i o (E,a.length,F) a) (P:vU.In i p (j,b.length,k) b) (a4:a.length<=1000000000) (N:b.length<=1000000000) :
  Calls prog 178 #[.slice E a.length F,.func (.func 179) #[.agg #[.int .i64 d,.slice j b.length k]] #[]] i λv Y=>v=.returned (.int .i64 (idxV (uL (d,b)) a))/\Cf i Y:=by
 have T:=V l;have C:=V P;clear l P;go_enter func178,ntmps178
 go_wp2
 go_loopw [8] (λz wr=>∃c:Nat,c<=a.length/\z=.int .i64 c/\(∀(e:Nat) f,e<c->a[e]?=some f->uL (d,b) f=false)/\Cf i wr) (λz _=>a.length-(intOf z).toNat)
 .exact⟨0,H,D,λe f l=>absurd l (Ax1 _),cR⟩
 obtain⟨c,a3,rfl,K,L⟩:=hrel;have q:=V K;have g:=V L;clear K L;by_cases W:c<a.length
 .have a0:=rO c a.length
  obtain⟨X,a1,a5,Q,R,O,rfl,t,u,-,w,-,-⟩:=(T.o.same g.o).get D (λ_=>rfl) W;obtain⟨rd,n⟩:=X;simp only at t u w;have B:=V O;have A:=V w;clear O w;by_cases m:uL (d,b) (rd,n)=true
  .go_wp2_with fail
   refine (kb d rd b n j Q k R p o wr (C.o.same g.o) A.o N).mono ?_;rintro v Z ⟨rfl,h⟩;rw[m];have r:=V (g.o.trans h);have s:G (idxV (uL (d,b)) a=c):=V (tJ B.o m q.o);clear h t u;go_wp2;go_ret
   exact⟨by rw[s.o];rfl,r.o⟩
  have x:uL (d,b) (rd,n)=false:=by simpa using m
  have S:G (∀(e:Nat) f,e<c+1->a[e]?=some f->uL (d,b) f=false):=V (λe f a2 y=>by
   by_cases U:e=c
   .subst U;rw[B.o]at y;obtain rfl:=Az2 y;exact x
   exact q.o e f H y)
  go_wp2_with fail
  refine (kb d rd b n j Q k R p o wr (C.o.same g.o) A.o N).mono ?_;rintro v Z ⟨rfl,h⟩;rw[x];have r:=V (g.o.trans h);clear h t u m x;go_wp2;go_roundw
  .exact⟨c+1,H,GN,S.o,r.o⟩
  simp[intOf];omega
 obtain rfl:c=a.length:=H
 have s:G (idxV (uL (d,b)) a=-1):=V (qW q.o);go_wp2;go_ret
 exact⟨by rw[s.o];rfl,g.o⟩
def eN (r:RowD) (R:List RowD):Bool:=R.any (uL r)
theorem jQ {a:RowD}{b:List RowD}:eN a b=true↔a∈b:=by
 simp only[eN,uL,Au8,decide_eq_true_eq];exact⟨λ⟨f,d,e⟩=>e ▸ d,λc=>⟨a,c,D⟩⟩
theorem aG (b:List RowD) (g:Option Addr) (i l m:Nat) (c:Int) (a:List (Int×Int)) (h:Option Addr) (j:Nat) (k:World) (t:vW vU rowE k l (g,b.length,i) b) (w:vU.In k m (h,a.length,j) a) (u:b.length<=1000000000) (v:a.length<=1000000000) :
  Calls prog 181 #[.slice g b.length i,.func (.func 179) #[.agg #[.int .i64 c,.slice h a.length j]] #[]] k λq x=>q=.returned (.bool (eN (c,a) b))/\Cf k x:=by
 have r:=V t;have s:=V w;clear t w;rcases sG (uL (c,a)) b with ⟨z,A,-,-,d,-,e⟩|⟨d,-,e⟩
 .have o:=V d
  have p:G (eN (c,a) b=true):=V e;clear d e;go_enter func181,ntmps181
  go_wp2_with fail
  refine (fE b g i l m c a h j _ r.o s.o u v).mono ?_;rintro q y ⟨rfl,f⟩;rw[o.o];have n:=V f;clear f;go_wp2;go_ret
  exact⟨by rw[p.o];rfl,n.o⟩
 have o:=V d
 have p:G (eN (c,a) b=false):=V e;clear d e;go_enter func181,ntmps181
 go_wp2_with fail
 refine (fE b g i l m c a h j _ r.o s.o u v).mono ?_;rintro q y ⟨rfl,f⟩;rw[o.o];have n:=V f;clear f;go_wp2;go_ret
 exact⟨by rw[p.o];rfl,n.o⟩
theorem vW.take {m:Elt (Int×Int)}{i:Elt (Int×Sl)}{e:List RowD}(r:vW m i w a (F,b,c) e) {d:Nat}(E:d<=e.length):vW m i w a (F,(e.take d).length,c) (e.take d):=by
 obtain⟨f,⟨s,t,q,A,j,u⟩,n,v⟩:=r;simp only at s t;have x:f=f.take d++f.drop d:=(List.take_append_drop d f).symm;refine⟨f.take d,⟨?_,?_,q,A,⟨λk C h=>?_,λl g=>j.ok l (Av8 g),λy=>j.lt (λp=>y (by rw[p];simp))⟩,λz=>u (by rw[Ay8]at z;omega)⟩,by simp[n],λk l B g o=>?_⟩
 .simp[n]
 .show (e.take d).length<=c
  rw[Ay8];omega
 .refine j.c k C ?_
  rw[x,i.encs_append,Ax0 (Az0.1 h).1];exact h
 have h:=(Az0.1 g).1
 rw[Ay8]at h;rw[List.getElem?_take_of_lt H]at g o;exact v k l B g o
theorem kn {next m b:Int}(c:X[a]?=some b):qN next m (X.drop a)=if b<0\/next<b\/m<=b then none else qN (if b=next then next+1 else next) m (X.drop (a+1)):=by
 have d:=(Az0.1 c).1;rw[Av7 d,(Az0.1 c).2]
 rfl
def ep (W:Int) (R:List RowD) (k:Nat):Prop:=(∀(j:Nat) r,j<k->R[j]?=some r->uC W.toNat r=true)/\(R.take k).Nodup
theorem gj (f:Int) (a:List RowD) (c:List Int) (O L:Option Addr) (n U y bK c0:Nat) (h:World) (cD:I.Byte f) (b5:vW vU rowE h y (O,a.length,n) a) (dD:a.length<=100000000) (bT:∀x∈a,x.2.length<=1000000000)
  (bO:I.BytesAt h bK c0 c) (aR:0<c.length->L=some ⟨bK,c0,none⟩) (d9:c.length<=100000000) :
  Calls prog 157 #[.agg #[.int .i64 f,.slice O a.length n,.slice L c.length U]] h λr d=>r=.returned (.bool (mayL (f,a,c)))/\Cf h d:=by
 obtain⟨aZ,c4,c1,c3⟩:=sB b5 bO aR bT;obtain⟨d7,d8⟩:=cD;have dB:a.length<=n:=by obtain⟨cZ,aP,bM,_⟩:=b5;have:=aP.1;have:=aP.2.1;simp only at *;omega
 have t:=V ((J.refl (λb=>h.heap.size<=b) h).alloc (.cells #[.int .i64 f,.slice O a.length n,.slice L c.length U] 201));have Q:G (∀wr,J (λb=>h.heap.size+1<=b) (h.alloc (.cells #[.int .i64 f,.slice O a.length n,.slice L c.length U] 201)) wr->wr.cell? ⟨h.heap.size,0,none⟩=some (.int .i64 f)/\wr.cell? ⟨h.heap.size,1,none⟩=some (.slice O a.length n)/\wr.cell? ⟨h.heap.size,2,none⟩=some (.slice L c.length U)):=V λwr A =>
  ⟨A.cellS sI (by show ¬h.heap.size+1<=h.heap.size;omega),A.cellS sI (by show ¬h.heap.size+1<=h.heap.size;omega),A.cellS sI (by show ¬h.heap.size+1<=h.heap.size;omega)⟩
 clear b5 bO aR bT;by_cases aP:0<=f
 .have c6:decide (f<0)=false:=by simp;omega
  by_cases bM:f<=65536
  .have c7:decide (65536<f)=false:=by simp;omega
   by_cases cB:c.length<=65536
   .have c8:decide (65536<(c.length:Int))=false:=by simp;omega
    by_cases d6:a.length<=c.length
    .have c9:=rR c.length a.length
     go_enter func157,ntmps157
     go_wp2
     go_loopw [3,34] (λcP N wr=>∃(b:Nat) (i:Int),b<=c.length/\N=.int .i64 b/\cP=.int .i64 i/\(0<=i/\i<=b)/\qN 0 a.length c=qN i a.length (c.drop b)/\wr=h.alloc (.cells #[.int .i64 f,.slice O a.length n,.slice L c.length U] 201)) (λ_ N _=>c.length-(intOf N).toNat)
     .exact⟨0,0,H,D,D,H,sI,D⟩
     obtain⟨b,i,cH,rfl,rfl,⟨dI,dK⟩,w,rfl⟩:=hrel;have K:=V w;clear w;by_cases b7:b<c.length
     .have d4:=rO b c.length
      obtain⟨k,bX,bI,dF,dH⟩:=(c4.o.chg t.o.fresh iE).get b7;have cA:=c1.o H;subst cA;have a3:=V (kn (next:=i) (m:=a.length) bX);clear bX;by_cases b1:k<0
      .have E:decide (k<0)=true:=by simpa using b1
       have g:G (mayL (f,a,c)=false):=V (kC (by rw[K.o,a3.o,if_pos (.inl b1)];simp));go_wp2;go_ret
       exact⟨by rw[g.o];rfl,t.o.fresh⟩
      have E:decide (k<0)=false:=by simpa using b1
      by_cases b2:i<k
      .have W:decide (i<k)=true:=by simpa using b2
       have g:G (mayL (f,a,c)=false):=V (kC (by rw[K.o,a3.o,if_pos (.inr (.inl b2))];simp));go_wp2;go_ret
       exact⟨by rw[g.o];rfl,t.o.fresh⟩
      have W:decide (i<k)=false:=by simpa using b2
      by_cases b3:(a.length:Int)<=k
      .have cS:decide ((a.length:Int)<=k)=true:=by simpa using b3
       have g:G (mayL (f,a,c)=false):=V (kC (by rw[K.o,a3.o,if_pos (.inr (.inr b3))];simp));go_wp2;go_ret
       exact⟨by rw[g.o];rfl,t.o.fresh⟩
      have cS:decide ((a.length:Int)<=k)=false:=by simpa using b3
      have a9:G (qN 0 a.length c=qN (if k=i then i+1 else i) a.length (c.drop (b+1))):=V (by rw[K.o,a3.o,if_neg H]);clear K a3;by_cases aO:k=i
      .subst aO
       rw[if_pos D]at a9;have cT:(k == k)=true:=sI;go_wp2;go_roundw
       .exact⟨b+1,k+1,H,GN,D,H,a9.o,by first|rfl|trivial⟩
       simp[intOf];omega
      rw[if_neg aO]at a9
      have cT:(k == i)=false:=(by simpa using aO);clear aO;go_wp2;go_roundw
      .exact⟨b+1,i,H,GN,D,H,a9.o,by first|rfl|trivial⟩
      simp[intOf];omega
     obtain rfl:b=c.length:=H
     have aD:G (qN 0 a.length c=some i):=V (by rw[K.o,List.drop_length];rfl);clear K;go_wp2
     go_loopw [59] (λN wr=>∃(b:Nat),b<=a.length/\N=.int .i64 b/\ep f a b/\J (λb=>h.heap.size+1<=b) (h.alloc (.cells #[.int .i64 f,.slice O a.length n,.slice L c.length U] 201)) wr) (λN _=>a.length-(intOf N).toNat)
     .exact⟨0,H,D,⟨λs x b4=>absurd b4 (Ax1 _),sI⟩,cR⟩
     obtain⟨b,cH,rfl,⟨bV,bZ⟩,A⟩:=hrel;obtain⟨bB,bF,c2,a8⟩:=sB bV bZ A ((t.o.trans (A.mono (T:=λb=>h.heap.size<=b) (λb _ r=>H))).fresh);obtain⟨d1,d2,d3⟩:=Q.o wr A;clear bV bZ A;by_cases b7:b<a.length
     .have d5:=rO b a.length
      obtain⟨x,aM,aV,o,p,a6,rfl,c5,bI,b8,b6,-,-⟩:=(aZ.o.same a8.o).get D (λ_=>rfl) b7;obtain⟨rd,j⟩:=x;simp only at c5 bI b6 b8;obtain⟨aF,b0,a0,a2⟩:=sB a6 b8 b6 (c3.o _ (Az1 a6));obtain⟨q,cF⟩:∃cO:Nat,f=cO:=⟨f.toNat,H⟩;subst cF;have aH:G ((a.take b).length=b):=V (by rw[Ay8];omega);have cX:G (∀aK,uC q (rd,j)=aK->uC (q:Int).toNat (rd,j)=aK):=V (λaK b4=>b4);have F:=V (c2.o.alloc (.cells #[.int .i64 rd,.slice o j.length p] 241));have Y:=V (a8.o.alloc (.cells #[.int .i64 rd,.slice o j.length p] 241));clear a6 b6 b8;obtain⟨a7,aT⟩:=rK (wr.alloc (.cells #[.int .i64 rd,.slice o j.length p] 241));have a1:G (∀aY,Cf a7 aY->aY.cell? ⟨wr.heap.size,0,none⟩=some (.int .i64 rd)/\aY.cell? ⟨wr.heap.size,1,none⟩=some (.slice o j.length p)):=V (λaY S=>by subst aT;exact⟨S.cellS sI iD,S.cellS sI iD⟩);have aI:=V aT;rw[<-aT]at F Y;clear aT;have Z:G (Cf wr a7):=V (by rw[aI.o];exact rT);by_cases B:uC q (rd,j)=true
      .by_cases C:eN (rd,j) (a.take b)=true
       .have g:G (mayL ((q:Int),a,c)=false):=V (km (λcM=>by
         have cK:=jQ.1 C;obtain⟨s,a5,w⟩:=Au2 cK;rw[Ay8]at a5;rw[List.getElem_take]at w;have:=(List.getElem?_inj (i:=s) (j:=b) H cM).1 (by rw[aF.o,Az4 H,w]);omega))
        go_upto_region 17 with fail
        rw[<-aI.o];refine ws (λd=>Cf a7 d) ?_;refine rf a1.o ?_;refine rq ?_;(refine rq ?_ (by intro _ d _ e;obtain⟨aX,E,W⟩:=Q.o d (F.o.trans e.any);go_simp;try with_reducible rfl));refine xA D (Value.bool true )  180  ( #[.agg #[.int .i64 rd,.slice o j.length p],.int .i64 q]) (λd=>by go_simp) (λ_ d _ e=>?_) (λu l=>?_)
        .refine (gg q rd j o p y d (a0.o.same (Z.o.trans e)) a2.o H b0.o).mono ?_
         rintro r P ⟨rfl,v⟩;exact⟨by rw[B],e.trans v⟩
        ((try go_simp);refine l _ ?_;clear l u)
        (iterate 3 (refine rq ?_));(refine rq ?_ (by intro _ d _ e;obtain⟨aX,E,W⟩:=Q.o d (F.o.trans e.any);go_simp;try with_reducible rfl));refine rq ?_;(refine rq ?_ (by intro _ d _ e;(have cI:b<=n:=H);go_simp;try with_reducible rfl));refine rf a1.o ?_;refine rq ?_
        refine xA D (Value.bool true )  181  ( #[.slice (some ⟨aM,aV,none⟩) b n,.func (.func 179) #[.agg #[.int .i64 rd,.slice o j.length p]] #[]]) (λd=>by go_simp) (λ_ d _ e=>?_) (λu l=>?_)
        .have a4:=aG (a.take b) (some ⟨aM,aV,none⟩) n y y rd j o p d ((aZ.o.same (Y.o.trans e)).take H) (a0.o.same (Z.o.trans e)) (by rw[aH.o];omega) a2.o
         rw[aH.o]at a4;refine a4.mono ?_;rintro r P ⟨rfl,v⟩;exact⟨by rw[C],e.trans v⟩
        ((try go_simp);refine l _ ?_;clear l u)
        refine rq ?_;refine zW ?_;intro P z;have X:=V z;clear z;go_wp2;go_ret
        exact⟨by rw[g.o];rfl,Y.o.trans X.o⟩
       have C:eN (rd,j) (a.take b)=false:=by simpa using C
       have bD:G (∀(s:Nat) x,s<b+1->a[s]?=some x->uC (q:Int).toNat x=true):=V (λs cV a5 S=>by
        by_cases w:s=b
        .subst w;rw[aF.o]at S;obtain rfl:=Az2 S;exact B
        exact bB.o s cV H S)
       have bH:G ((a.take (b+1)).Nodup):=V (by
        rw[Ay3,aF.o,List.nodup_append];refine⟨bF.o,sI,λd0 aR aK bP=>?_⟩;simp at bP
        subst bP;intro r;subst r;rw[jQ.2 aR]at C;cases C)
       go_upto_region 17 with fail
       rw[<-aI.o];refine ws (λd=>Cf a7 d) ?_;refine rf a1.o ?_;refine rq ?_;(refine rq ?_ (by intro _ d _ e;obtain⟨aX,E,W⟩:=Q.o d (F.o.trans e.any);go_simp;try with_reducible rfl));refine xA D (Value.bool true )  180  ( #[.agg #[.int .i64 rd,.slice o j.length p],.int .i64 q]) (λd=>by go_simp) (λ_ d _ e=>?_) (λu l=>?_)
       .refine (gg q rd j o p y d (a0.o.same (Z.o.trans e)) a2.o H b0.o).mono ?_
        rintro r P ⟨rfl,v⟩;exact⟨by rw[B],e.trans v⟩
       ((try go_simp);refine l _ ?_;clear l u)
       (iterate 3 (refine rq ?_));(refine rq ?_ (by intro _ d _ e;obtain⟨aX,E,W⟩:=Q.o d (F.o.trans e.any);go_simp;try with_reducible rfl));refine rq ?_;(refine rq ?_ (by intro _ d _ e;(have cI:b<=n:=H);go_simp;try with_reducible rfl));refine rf a1.o ?_;refine rq ?_
       refine xA D (Value.bool false )  181  ( #[.slice (some ⟨aM,aV,none⟩) b n,.func (.func 179) #[.agg #[.int .i64 rd,.slice o j.length p]] #[]]) (λd=>by go_simp) (λ_ d _ e=>?_) (λu l=>?_)
       .have a4:=aG (a.take b) (some ⟨aM,aV,none⟩) n y y rd j o p d ((aZ.o.same (Y.o.trans e)).take H) (a0.o.same (Z.o.trans e)) (by rw[aH.o];omega) a2.o
        rw[aH.o]at a4;refine a4.mono ?_;rintro r P ⟨rfl,v⟩;exact⟨by rw[C],e.trans v⟩
       ((try go_simp);refine l _ ?_;clear l u)
       refine rq ?_;refine zW ?_;intro P z;have X:=V z;clear z;have b9:=V (F.o.trans X.o.any);clear B C;go_wp2;go_roundw
       .first|exact⟨b+1,H,GN,⟨bD.o,bH.o⟩,b9.o⟩|((repeat apply Ay4);exact⟨⟨b+1,H,D,⟨bD.o,bH.o⟩,b9.o⟩,by (repeat' apply And.intro) <;> first|rfl|go_num⟩)
       simp[intOf];omega
      have B:uC q (rd,j)=false:=by simpa using B
      have g:G (mayL ((q:Int),a,c)=false):=V (kl (Az1 aF.o) B);go_upto_region 17 with fail
      rw[<-aI.o];refine ws (λd=>Cf a7 d) ?_;refine rf a1.o ?_;refine rq ?_;(refine rq ?_ (by intro _ d _ e;obtain⟨aX,E,W⟩:=Q.o d (F.o.trans e.any);go_simp;try with_reducible rfl));refine xA D (Value.bool false )  180  ( #[.agg #[.int .i64 rd,.slice o j.length p],.int .i64 q]) (λd=>by go_simp) (λ_ d _ e=>?_) (λu l=>?_)
      .refine (gg q rd j o p y d (a0.o.same (Z.o.trans e)) a2.o H b0.o).mono ?_
       rintro r P ⟨rfl,v⟩;exact⟨by rw[B],e.trans v⟩
      ((try go_simp);refine l _ ?_;clear l u)
      (iterate 2 (refine rq ?_))
      iterate 7 (refine sq ?_)
      refine rq ?_;refine zW ?_;intro P z;have X:=V z;clear z;go_wp2;go_ret
      exact⟨by rw[g.o];rfl,Y.o.trans X.o⟩
     obtain rfl:b=a.length:=H
     have aB:G (mayL (f,a,c)=decide (qN 0 a.length c=some (a.length:Int))):=V (gi ⟨aP,bM,cB⟩ (λx a6=>by
      obtain⟨s,a5,w⟩:=Au2 a6;exact bB.o s x a5 (by rw[Az4 a5,w])) (by have:=bF.o;rwa [Ay7]at this))
     by_cases R:i=(a.length:Int)
     .have g:G (mayL (f,a,c)=true):=V (by rw[aB.o,aD.o,R];simp)
      have E:(i == (a.length:Int))=true:=(by simpa using R);clear R aB aD;go_wp2;go_ret
      exact⟨by rw[g.o];rfl,a8.o⟩
     have g:G (mayL (f,a,c)=false):=V (by rw[aB.o,aD.o];simpa using R)
     have E:(i == (a.length:Int))=false:=(by simpa using R);clear R aB aD;go_wp2;go_ret
     exact⟨by rw[g.o];rfl,a8.o⟩
    have c9:=rO c.length a.length
    have g:G (mayL (f,a,c)=false):=V (kC (λr=>by have:=gh c 0 a.length _ r;omega));go_enter func157,ntmps157
    go_wp2;go_ret
    exact⟨by rw[g.o];rfl,t.o.fresh⟩
   have c8:decide (65536<(c.length:Int))=true:=by simp;omega
   have g:G (mayL (f,a,c)=false):=V (jN H);go_enter func157,ntmps157
   go_wp2;go_ret
   exact⟨by rw[g.o];rfl,t.o.fresh⟩
  have c7:decide (65536<f)=true:=by simp;omega
  have g:G (mayL (f,a,c)=false):=V (jN H);go_enter func157,ntmps157
  go_wp2;go_ret
  exact⟨by rw[g.o];rfl,t.o.fresh⟩
 have c6:decide (f<0)=true:=by simp;omega
 have g:G (mayL (f,a,c)=false):=V (jN H);go_enter func157,ntmps157
 go_wp2;go_ret
 exact⟨by rw[g.o];rfl,t.o.fresh⟩
end Go.Proofs.YtgnpmceimpjheaaGreat
namespace Go.Proofs.YtgnpmceimpjheaaGreat
section
variable {P:Program}{ops:Array Oper}{Q:Exit->Act->World->Prop}{md:Region.Mode}{S:World->Prop}{late:Nat->Bool}
def yC (P:Program) (md:Region.Mode) (ops:Array Oper) (Q:Exit->Act->World->Prop) (S:World->Prop) (late:Nat->Bool):Nat->Array Bool->Act->World->Prop
 | 0,a,b,c=>Region.ready md ops a=[]/\Q .normal b c
 | g+1,a,b,c=>(Region.ready md ops a=[]->Q .normal b c) /\
  ∀d∈Region.ready md ops a,wpOp P ops Q d (λf e=>(late d=false->S e)/\yC P md ops Q S late g (a.setIfInBounds d true) f e) b c
theorem ko:∀(a:Nat) (d:Array Bool) (c:Act) (e:World),yC P md ops Q S late a d c e->wpAny P md ops Q a d c e
 | 0,_,_,_,b=>b
 | a+1,_,_,_,b=>⟨b.1,λi h=>wpOp_mono (λf j g=>ko a _ f j g.2) (b.2 i h)⟩
def co (md:Region.Mode) (ops:Array Oper):Nat->Nat->Nat->Bool
 | 0,_,_=>false
 | c+1,d,b=>match ops[d]? with
  | none=>false
  | some e=>e.after.any λa=>Region.binds md a && (decide (a.on=b) || co md ops c a.on b)
def cp (md:Region.Mode) (ops:Array Oper) (c:Array Bool):Prop :=
 ∀(b:Nat) (d:Oper),ops[b]?=some d->c.getD b false=true->∀a∈d.after,Region.binds md a=true->c.getD a.on false=true
def dk (md:Region.Mode) (ops:Array Oper) (b:Array Bool):Bool :=
 ops.toList.zipIdx.all λc=>!(b.getD c.2 false) || c.1.after.all λa=>!Region.binds md a || b.getD a.on false
theorem kp {c:Array Bool}(e:dk md ops c=true):cp md ops c:=by
 intro b l i j d h g;have a:=Aw0.1 e (l,b) (by
  obtain⟨k,rfl⟩:=Array.getElem?_eq_some_iff.1 i;exact List.mem_iff_getElem.2 ⟨b,by simpa using k,sI⟩)
 simp only[j,Bool.not_true,Au9]at a;have f:=Array.all_eq_true_iff_forall_mem.1 a d h;simpa only [g,Bool.not_true,Au9] using f
theorem cp.set {d:Array Bool}(l:cp md ops d) {c:Nat}(n:c∈Region.ready md ops d):cp md ops (d.setIfInBounds c true):=by
 obtain⟨_,q,o,m⟩:=mem_ready.1 n;have k:∀b,d.getD b false=true->(d.setIfInBounds c true).getD b false=true:=λb a=>by
  by_cases e:c=b
  .subst e
   simp only[Array.getD_eq_getD_getElem?]at a ⊢;rcases Nat.lt_or_ge c d.size with f|f
   .simp[f]
   simp[Array.getElem?_eq_none f]at a
  rw[getD_set_ne false e];exact a
 intro b p a j g e h;by_cases i:c=b
 .subst i
  rw[o]at a;obtain rfl:=Az2 a;exact k _ (m g e h)
 rw[getD_set_ne false i]at j
 exact k _ (l b p a j g e h)
theorem kq {i:Array Bool}(k:cp md ops i) {l:Nat}:∀(e b:Nat),(∀c,ops[b]?=some c->∀d∈c.after,Region.binds md d=true->i.getD d.on false=true)->co md ops e b l=true->i.getD l false=true
 | 0,_,_,a=>by cases a
 | e+1,b,o,a=>by
  simp only[co]at a;cases h:ops[b]? with
  | none=>rw[h]at a;cases a
  | some c =>
   rw[h]at a;obtain⟨d,m,f⟩:=Array.any_eq_true.1 a;simp only[Ay6,At3,decide_eq_true_eq]at f;have j:=o c h _ (Array.getElem_mem m) f.1;rcases f.2 with g|g
   .rw[<-g];exact j
   exact kq k e _ (λp n=>k _ p n j) g
def dm (md:Region.Mode) (ops:Array Oper) (late:Nat->Bool) (i:Nat):Bool :=
 (List.range ops.size).all λj=>!late j || decide (j=i) || co md ops ops.size j i
theorem kr {c:Nat}(e:dm md ops late c=true):∀(b:Nat) (d:Oper),ops[b]?=some d->late b=true->b≠c->co md ops ops.size b c=true:=by
 intro b d f h g;have a:=Aw0.1 e b (At1.2 (Array.getElem?_eq_some_iff.1 f).1);simp only[h,Bool.not_true,Au9,At3,decide_eq_true_eq]at a;rcases a with a|a
 .exact absurd a g
 exact a
theorem ks {b:Nat}{k:Oper}{C:Value}(B:ops[b]?=some k) (R:∀(a:Nat) (U:Oper) o n,ops[a]?=some U->U.op≠.select o n)
  (Y:∀E g j,Q (.panic E) (g.put k.dst C) j->Q (.panic E) g j) (a3:∀(a:Nat) (e:Oper),ops[a]?=some e->late a=true->a≠b->co md ops ops.size a b=true) :
  ∀(p:Nat) (d:Array Bool) (g:Act) (j:World),cp md ops d ->
   (∀a e,ops[a]?=some e->a≠b->d.getD a true=false->(∀c∈e.after,Region.binds md c=true->c.on≠b)->k.apart ops e=true) ->
   b∈Region.ready md ops d->YieldsIf P ops S k C g->S j ->
   yC P md ops Q S late p (d.setIfInBounds b true) (g.put k.dst C) j->yC P md ops Q S late (p+1) d g j:=by
 intro p
 induction p with
 | zero =>
  intro d g j _ _ i w q H;refine⟨λx=>(by rw[x]at i;cases i),λa r=>?_⟩;by_cases f:a=b
  .subst f;exact w.wpOp B q ⟨λ_=>q,H⟩
  .have:=ready_mono r f
   rw[H.1]at this;cases this
 | succ p a7 =>
  intro d g j K L i w q H;refine⟨λx=>(by rw[x]at i;cases i),λa r=>?_⟩;by_cases f:a=b
  .subst f;exact w.wpOp B q ⟨λ_=>q,H⟩
  obtain⟨O,e,s,F⟩:=mem_ready.1 r
  have a6:∀c∈e.after,Region.binds md c=true->c.on≠b:=λc A z Z=>by
   have h:=F c A z;have t:=(mem_ready.1 i).1;rw[Z]at h;rcases Nat.lt_or_ge b d.size with y|y
   .simp[y]at t h;rw[t]at h;cases h
   simp[Array.getElem?_eq_none y]at h
  have a4:late a=false:=by
   cases a2:late a
   .rfl
   have h:=kq K _ a (λm v c A z=>by rw[s]at v;obtain rfl:=Az2 v;exact F c A z) (a3 a e s a2 f)
   have t:=(mem_ready.1 i).1;rw[getD_both t]at h;cases h
  have X:=wpOp_putIf s (L a e s f O a6) (λo n=>R b k o n B) (λo n=>R a e o n s) Y w (H.2 a (ready_mono r f));have a0:∀l m,ops[l]?=some m->l≠b->(d.setIfInBounds a true).getD l true=false ->
   (∀c∈m.after,Region.binds md c=true->c.on≠b)->k.apart ops m=true:=λl m v a1 T a5=>by
   refine L l m v a1 ?_ a5;by_cases N:a=l
   .subst N;exact O
   rw[getD_set_ne true N]at T;exact T
  refine wpOp_mono (λW a8 u=>⟨u.2.1,a7 (d.setIfInBounds a true) W a8 (K.set r) a0 (ready_mono i (Ne.symm f)) u.1 (u.2.1 a4) ?_⟩) X;rw[Array.setIfInBounds_comm _ _ f];exact u.2.2
theorem kt {i:Nat}{e:Oper}{f:Nat}{c:Array Bool}{a:Act}{b:World}(k:ops[i]?=some e)
  (l:(Region.noSelect ops && Region.free md ops c i && (Region.ready md ops c).contains i && dm md ops late i && dk md ops c)=true)
  (t:∀d j a b,Q (.panic j) (a.put e.dst d) b->Q (.panic j) a b) (w:Region.wanted e (yielded ops a.tmps)=true) (u:S b)
  (m:∀h:Act->Prop,(∀a,yC P md ops Q S late f (c.setIfInBounds i true) a b->h a)->∃d,(∀g,S g->(execOp a.eval e).run P g=.ok (.value d) g)/\h (a.put e.dst d)) :
  yC P md ops Q S late (f+1) c a b:=by
 simp only[Ay6]at l;obtain⟨⟨⟨⟨n,o⟩,p⟩,q⟩,r⟩:=l;obtain⟨d,v,s⟩:=m _ iE;exact ks k (Region.noSelect_spec n) (t d) (kr q) f c a b (kp r) (Region.free_spec k o) (by simpa using p) (.inl ⟨w,v⟩) u s
theorem ab {i:Nat}{d:Oper}{e:Nat}{c:Array Bool}{a:Act}{b:World}(h:ops[i]?=some d)
  (j:(Region.noSelect ops && Region.free md ops c i && (Region.ready md ops c).contains i && dm md ops late i && dk md ops c)=true)
  (q:∀t g a b,Q (.panic g) (a.put d.dst t) b->Q (.panic g) a b) (s:Region.wanted d (yielded ops a.tmps)=false) (r:S b)
  (k:∀f:Act->Prop,(∀a,yC P md ops Q S late e (c.setIfInBounds i true) a b->f a)->f (a.put d.dst undef)) :
  yC P md ops Q S late (e+1) c a b:=by
 simp only[Ay6]at j;obtain⟨⟨⟨⟨l,m⟩,n⟩,o⟩,p⟩:=j;exact ks h (Region.noSelect_spec l) (q undef) (kr o) e c a b (kp p) (Region.free_spec h m) (by simpa using n) (.inr ⟨s,D⟩) r (k _ iE)
theorem ku {i:Nat}{c:Oper}{h:Nat}{e:Array Bool}{a:Act}{b:World}(l:Region.ready md ops e=[i]) (p:ops[i]?=some c)
  (r:Region.wanted c (yielded ops a.tmps)=true)
  (m:∀g:Act->World->Prop,(∀a b,yC P md ops Q S late h (e.setIfInBounds i true) a b->g a b)->∃f d,(execOp a.eval c).run P b=.ok (.value f) d/\(late i=false->S d)/\g (a.put c.dst f) d) :
  yC P md ops Q S late (h+1) e a b:=by
 obtain⟨f,d,q,o,n⟩:=m _ iF;refine⟨λj=>(by rw[l]at j;cases j),λs k=>?_⟩;rw[l]at k;obtain rfl:s=i:=by simpa using k
 unfold Go.wpOp;simp only[p,r,if_true,Oper.wp,q,Oper.upon];exact .inl ⟨o,n⟩
theorem un {i:Nat}{c:Oper}{g:Nat}{e:Array Bool}{a:Act}{b:World}(k:Region.ready md ops e=[i]) (o:ops[i]?=some c)
  (q:Region.wanted c (yielded ops a.tmps)=true)
  (l:∀f:Act->World->Prop,(∀a b,yC P md ops Q S late g (e.setIfInBounds i true) a b->f a b)->∃d,(execOp a.eval c).run P b=.ok .skip d/\(late i=false->S d)/\f (a.put c.dst undef) d) :
  yC P md ops Q S late (g+1) e a b:=by
 obtain⟨d,p,n,m⟩:=l _ iF;refine⟨λh=>(by rw[k]at h;cases h),λr j=>?_⟩;rw[k]at j;obtain rfl:r=i:=by simpa using j
 unfold Go.wpOp;simp only[o,q,if_true,Oper.wp,p,Oper.upon];exact .inl ⟨n,m⟩
theorem lq (b:Nat) {e:Oper}{j:Nat}{d:Array Bool}{a h:Act}{f:Value}{c:World}(n:S c) (q:yC P md ops Q S late j (d.setIfInBounds b true) h c) (p:ops[b]?=some e:=by exact rfl)
  (hr:∀g,S g->(execOp a.eval e).run P g=.ok (.value f) g:=by intro g t;go_simp;try with_reducible rfl)
  (o:a.put e.dst f=h:=by (try go_simp);try with_reducible rfl)
  (r:(Region.noSelect ops && Region.free md ops d b && (Region.ready md ops d).contains b && dm md ops late b && dk md ops d)=true:=by kernel_rfl)
  (m:∀f i a c,Q (.panic i) (a.put e.dst f) c->Q (.panic i) a c:=by exact λ_ _ _ _ k=>k) (s:Region.wanted e (yielded ops a.tmps)=true:=by exact rfl) :
  yC P md ops Q S late (j+1) d a c:=kt (i:=b) p r m s n λ_ l=>⟨f,hr,by rw[o];exact l _ q⟩
theorem lf (c:Nat) {j:World->Prop}{f:Oper}{m:Nat}{e:Array Bool}{b k:Act}{g:Value}{d:World}(p:S d) (i:∀a,S a->j a) (s:yC P md ops Q S late m (e.setIfInBounds c true) k d) (r:ops[c]?=some f:=by exact rfl)
  (t:∀a,S a->j a->(execOp b.eval f).run P a=.ok (.value g) a:=by intro a w i;(repeat' (cases i;rename_i i));go_simp;try with_reducible rfl)
  (q:b.put f.dst g=k:=by (try go_simp);try with_reducible rfl)
  (u:(Region.noSelect ops && Region.free md ops e c && (Region.ready md ops e).contains c && dm md ops late c && dk md ops e)=true:=by kernel_rfl)
  (o:∀g l b d,Q (.panic l) (b.put f.dst g) d->Q (.panic l) b d:=by exact λ_ _ _ _ h=>h) (v:Region.wanted f (yielded ops b.tmps)=true:=by exact rfl) :
  yC P md ops Q S late (m+1) e b d:=kt (i:=c) r u o v p λ_ n=>⟨g,λa h=>t a h (i a h),by rw[q];exact n _ s⟩
theorem lt (a:Nat) {c:Oper}{h:Nat}{e:Array Bool}{b g:Act}{f:Value}{i d:World}(k:late a=false->S d) (n:yC P md ops Q S late h (e.setIfInBounds a true) g d) (m:ops[a]?=some c:=by exact rfl)
  (p:(execOp b.eval c).run P i=.ok (.value f) d:=by go_simp;try first|with_reducible rfl|exact⟨rfl,rfl⟩)
  (l:b.put c.dst f=g:=by (try go_simp);try with_reducible rfl)
  (o:Region.ready md ops e=[a]:=by kernel_rfl) (q:Region.wanted c (yielded ops b.tmps)=true:=by exact rfl) :
  yC P md ops Q S late (h+1) e b i:=ku (i:=a) o m q λ_ j=>⟨f,d,p,k,by rw[l];exact j _ _ n⟩
theorem ld (a:Nat) {c:Oper}{g:Nat}{e:Array Bool}{b f:Act}{h d:World}(n:yC P md ops Q S late g (e.setIfInBounds a true) f d) (k:late a=false->S d:=by exact λi=>absurd i (by decide)) (m:ops[a]?=some c:=by exact rfl)
  (p:(execOp b.eval c).run P h=.ok .skip d:=by go_simp;try first|with_reducible rfl|exact⟨rfl,rfl⟩)
  (l:b.put c.dst undef=f:=by (try go_simp);try with_reducible rfl)
  (o:Region.ready md ops e=[a]:=by kernel_rfl) (q:Region.wanted c (yielded ops b.tmps)=true:=by exact rfl) :
  yC P md ops Q S late (g+1) e b h:=un (i:=a) o m q λ_ j=>⟨d,p,k,by rw[l];exact j _ _ n⟩
theorem yQ {i:Nat}{d:Oper}{k:Nat}{f:Array Bool}{b:Act}{g:World}(o:Region.ready md ops f=[i]) (x:ops[i]?=some d)
  (B:Region.wanted d (yielded ops b.tmps)=true) (p u:Operand) (q r:TypeId) (y:d.op=.call { callee:=.builtin .append,args:=#[p,u],argTypes:=#[q,r] }) (t s:Value) (A:b.eval p=t) (z:b.eval u=s)
  (j:Value->World->Prop) (e:∃c a,(Builtin.append_ #[q,r] d.type #[t,s]).run P g=.ok c a/\(late i=false->S a)/\j c a)
  (v:∀c a,(late i=false->S a)->j c a->∀h:Act->Prop,(∀b,yC P md ops Q S late k (f.setIfInBounds i true) b a->h b)->h (b.put d.dst c)) :
  yC P md ops Q S late (k+1) f b g:=by
 obtain⟨c,a,e,m,w⟩:=e;refine⟨λl=>(by rw[o]at l;cases l),λE n=>?_⟩;rw[o]at n;obtain rfl:E=i:=by simpa using n
 have C:(execOp b.eval d).run P g=.ok (.value c) a:=by
  simp[execOp,y,resolve,invoke,builtin,A,z,e,Result.andThen]
 unfold Go.wpOp;simp only[x,B,if_true,Oper.wp,C,Oper.upon];exact .inl ⟨m,v c a m w _ iE⟩
theorem zY {i:Nat}{d:Oper}{m:Nat}{f:Array Bool}{b:Act}{e:World}(q:Region.ready md ops f=[i]) (v:ops[i]?=some d)
  (x:Region.wanted d (yielded ops b.tmps)=true) (l:FuncId) (j:Array Value) (h:Value->World->Prop) (w:(execOp b.eval d).run P e=.ok (.enter l j) e)
  (t:Calls P l j e (λk a=>∃c,k=.returned c/\(late i=false->S a)/\h c a))
  (r:∀c a,(late i=false->S a)->h c a->∀g:Act->Prop,(∀b,yC P md ops Q S late m (f.setIfInBounds i true) b a->g b)->g (b.put d.dst c)) :
  yC P md ops Q S late (m+1) f b e:=by
 refine⟨λn=>(by rw[q]at n;cases n),λy p=>?_⟩;rw[q]at p;obtain rfl:y=i:=by simpa using p
 unfold Go.wpOp;simp only[v,x,if_true,Oper.wp,w,Oper.upon];refine .inl (t.mono λk a ⟨c,u,o,s⟩=>?_);subst u;exact⟨o,r c a o s _ iE⟩
theorem zQ {d:Array Bool}{a:Act}{e:World}(c:Region.ready md ops d=[]) (b:Q .normal a e):∀f,yC P md ops Q S late f d a e
 | 0=>⟨c,b⟩
 | _+1=>⟨λ_=>b,by rw[c];simp⟩
theorem zC {id:Nat}{a:Act}{b:World}(S:World->Prop) (late:Nat->Bool) (d:P.follows .mixedOrders=true)
  (c:yC P .any ops Q S late ops.size (Array.replicate ops.size false) a b.drew):(Code.region id ops true).wp P Q a b :=
 wp_region_any d (ko _ _ _ _ c)
end
theorem rB {P:Program}{ops:Array Oper}{Q:Exit->Act->World->Prop}{id:Nat}{e:Act}{b:World}(c:Nat)(S:Nat->Prop)(late:Nat->Bool)(f:∀a,G (Cf b a)->G (J S a a)->yC P .any ops Q (λd=>J S a d) late c (Array.replicate c false) e a)(g:P.follows .mixedOrders=true:=by kernel_rfl)(h:ops.size=c:=by kernel_rfl):(Code.region id ops true).wp P Q e b:=by
 subst h
 exact zC (λd=>J S b.drew d) late g (f b.drew (V (J.refl _ _).drew) (V (J.refl _ _)))
theorem rD {P:Program}{ops:Array Oper}{Q:Exit->Act->World->Prop}{id:Nat}{c:Act}{d:World}(b:Nat)(late:Nat->Bool)(e:∀a,G (Cf d a)->G (Cf a a)->yC P .any ops Q (λh=>Cf a h) late b (Array.replicate b false) c a)(f:P.follows .mixedOrders=true:=by kernel_rfl)(g:ops.size=b:=by kernel_rfl):(Code.region id ops true).wp P Q c d:=rB b (λ_=>False) late e f g
end Go.Proofs.YtgnpmceimpjheaaGreat
namespace Go.Proofs.YtgnpmceimpjheaaGreat
open Go.RowKit Go.Proofs.Tryz
variable {a b c d e f g h i j k l m n o p q r:Nat}{w v u t s:World}{X Y W L T:List Int}{A B C E Z:Value}{x y z:Int}{N R:Bool}{F Q:Option Addr}{S P:Nat->Prop}
def intE:Elt Int where
 enc:=λn=>[.int .i64 n]
 sz:=1
 bs:=8
 e:=3
 sl:=25
 z:=0
 zv:=.int .i64 0
 ok:=I.Byte
 pos:=H
 len:=λ_=>rfl
 one:=λa u hu=>by
  simp only[Ax5,Av4,or_false]at hu;subst hu;rfl
 zok:=dE
 info:=M
 zc:=rfl
 und:=M
 bsl:=H
theorem dn (a:List Int):intE.encs a=I.zU a:=by
 induction a with
 | nil=>rfl
 | cons b a c =>
  have:intE.encs (b :: a)=[.int .i64 b]++intE.encs a:=rfl;rw[this,c]
  rfl
theorem bY :intE.Row w a X↔I.Row w a X:=by
 refine⟨λb=>⟨λh c f=>b.c h _ (by rw[dn];simp[I.zU,f]),b.z,b.lt,b.ok⟩,λb=>⟨λg i d=>?_,b.z,b.lt,b.byte⟩⟩;rw[dn]at d;obtain⟨c,e,rfl⟩:=I.rW d;exact b.c g c e
theorem er :intE.At w a b X↔I.BytesAt w a b X:=by
 refine⟨λc=>⟨λi d f=>⟨c.c i _ (by rw[dn];simp[I.zU,f]),c.ok d (Az1 f)⟩,c.lt⟩,λc=>⟨λh j e=>?_,c.byte,c.lt⟩⟩;rw[dn]at e;obtain⟨d,g,rfl⟩:=I.rW e;exact (c.c h d g).1
theorem rU (g:intE.Own w a (.slice F b c) X) {k:Nat}(l:k<X.length) :
  ∃d f,b=X.length/\X.length<=c/\F=some ⟨d,0,none⟩/\X[k]?=some f/\w.cell? ⟨d,k,none⟩=some (.int .i64 f)/\w.frozen? ⟨d,k,none⟩=false/\-9223372036854775808<=f/\f<=9223372036854775807/\a<=d/\d<w.heap.size:=by
 rcases g with ⟨g,rfl⟩|⟨d,s,q,r,h,i,t⟩
 .simp at l
 injection q with n o p
 subst n o p;have m:X[k]?=some X[k]:=Az4 l;have j:=bY.1 h;have e:=(j.bytes i).c k _ m;rw[Ax]at e;exact⟨d,X[k],D,i.length_le,D,m,e.1,j.z k,e.2.1,e.2.2,r,h.lt⟩
theorem gk {o f k:Nat}(l:intE.Own w o (.slice (some ⟨f,0,none⟩) a b) X) (z:k<X.length) {h:Int}(A:I.Byte h) :
  intE.Own (w.setCell ⟨f,k,none⟩ (.int .i64 h)) o (.slice (some ⟨f,0,none⟩) a b) (X.set k h):=by
 rcases l with ⟨l,_⟩|⟨C,B,m,t,u,v,x⟩
 .cases l
 injection m with c r s
 injection c with c;injection c with c;subst c r s;have d:=bY.1 u;obtain⟨p,rfl⟩:=v;refine .inr ⟨f,(X++p).set k h,by rw[Av9,Av9],t,bY.2 ⟨λe i g=>?_,λe=>(Az3 _ _ _ _).trans (d.z e),Ay9 d.lt (zA _ _ _ _).size,λi y=>?_⟩,?_,by rw[Av9];exact x⟩
 .have q:k<(X++p).length:=by rw[Az];omega
  by_cases n:e=k
  .subst n
   rw[Aw7 q]at g;obtain rfl:=Az2 g;exact Az9 _ _ _ (d.c e _ (Az4 q))
  rw[Av5 (Ne.symm n)]at g
  rw[Ay0 _ _ _ _ (by intro j;injection j with _ j;exact n j.symm)];exact d.c e i g
 .rcases List.mem_or_eq_of_mem_set y with m|rfl
  .exact d.byte i m
  exact A
 rw[List.set_append_left _ _ z]
 exact List.prefix_append _ _
def bC:Elt Int where
 enc:=λn=>[.int .u8 n]
 sz:=1
 bs:=1
 e:=5
 sl:=45
 z:=0
 zv:=.int .u8 0
 ok:=Byte
 pos:=H
 len:=λ_=>rfl
 one:=λa u hu=>by
  simp only[Ax5,Av4,or_false]at hu;subst hu;rfl
 zok:=dE
 info:=M
 zc:=rfl
 und:=M
 bsl:=H
theorem cJ (a:List Int):bC.encs a=zU a:=by
 induction a with
 | nil=>rfl
 | cons b a c =>
  have:bC.encs (b :: a)=[.int .u8 b]++bC.encs a:=rfl;rw[this,c]
  rfl
theorem kv :bC.Row w a X↔Row w a X:=by
 refine⟨λb=>⟨λh c f=>b.c h _ (by rw[cJ];simp[zU,f]),b.z,b.lt,b.ok⟩,λb=>⟨λg i d=>?_,b.z,b.lt,b.byte⟩⟩;rw[cJ]at d;obtain⟨c,e,rfl⟩:=rW d;exact b.c g c e
theorem fY :bC.Own w a A X↔Own w a A X:=by
 refine⟨λb=>?_,λb=>?_⟩
 .rcases b with b|⟨d,c,e,f,g,h⟩
  .exact .inl b
  exact .inr ⟨d,c,e,f,kv.1 g,h⟩
 rcases b with b|⟨d,c,e,f,g,h⟩
 .exact .inl b
 exact .inr ⟨d,c,e,f,kv.2 g,h⟩
end Go.Proofs.YtgnpmceimpjheaaGreat
