/- A part of the proof: CodL CodS CodT CodU CodN Held TakeB. -/
import Derived.Test.YtgnpmceimpjheaaGreatGG4
import Derived.Shelf.Abstract
set_option maxRecDepth 100000
set_option maxHeartbeats 16000000
namespace Go.Proofs.YtgnpmceimpjheaaGreat
open Go.RowKit Go.Proofs.Tryz
variable {a b c d e f g h i j k l m n o p q r:Nat}{w v u t s:World}{X Y W L T:List Int}{A B C E Z:Value}{x y z:Int}{N R:Bool}{F Q:Option Addr}{S P:Nat->Prop}
theorem wu (d:World) (b:Option Addr) (a c:Nat) (h:a<=c):Calls prog 140 #[.slice b a c] d λe f=>e=.returned (.slice b a a)/\d=f:=by
 cases b with
 | none =>
  go_enter func140,ntmps140
  go_wp2;go_ret
  exact⟨D,D⟩
 | some g =>
  go_enter func140,ntmps140
  go_wp2;go_ret
  exact⟨D,D⟩
theorem wv (d:World) (b:Option Addr) (a c:Nat) (h:a<=c):Calls prog 110 #[.slice b a c] d λe f=>e=.returned (.slice b a a)/\d=f:=by
 cases b with
 | none =>
  go_enter func110,ntmps110
  go_wp2;go_ret
  exact⟨D,D⟩
 | some g =>
  go_enter func110,ntmps110
  go_wp2;go_ret
  exact⟨D,D⟩
theorem ww (d:World) (b:Option Addr) (a c:Nat) (h:a<=c):Calls prog 111 #[.slice b a c] d λe f=>e=.returned (.slice b a a)/\d=f:=by
 cases b with
 | none =>
  go_enter func111,ntmps111
  go_wp2;go_ret
  exact⟨D,D⟩
 | some g =>
  go_enter func111,ntmps111
  go_wp2;go_ret
  exact⟨D,D⟩
theorem wx (d:World) (b:Option Addr) (a c:Nat) (h:a<=c):Calls prog 143 #[.slice b a c] d λe f=>e=.returned (.slice b a a)/\d=f:=by
 cases b with
 | none =>
  go_enter func143,ntmps143
  go_wp2;go_ret
  exact⟨D,D⟩
 | some g =>
  go_enter func143,ntmps143
  go_wp2;go_ret
  exact⟨D,D⟩
theorem wy (d:World) (b:Option Addr) (a c:Nat) (h:a<=c):Calls prog 170 #[.slice b a c] d λe f=>e=.returned (.slice b a a)/\d=f:=by
 cases b with
 | none =>
  go_enter func170,ntmps170
  go_wp2;go_ret
  exact⟨D,D⟩
 | some g =>
  go_enter func170,ntmps170
  go_wp2;go_ret
  exact⟨D,D⟩
theorem wz (d:World) (b:Option Addr) (a c:Nat) (h:a<=c):Calls prog 173 #[.slice b a c] d λe f=>e=.returned (.slice b a a)/\d=f:=by
 cases b with
 | none =>
  go_enter func173,ntmps173
  go_wp2;go_ret
  exact⟨D,D⟩
 | some g =>
  go_enter func173,ntmps173
  go_wp2;go_ret
  exact⟨D,D⟩
theorem xa (d:World) (b:Option Addr) (a c:Nat) (h:a<=c):Calls prog 150 #[.slice b a c] d λe f=>e=.returned (.slice b a a)/\d=f:=by
 cases b with
 | none =>
  go_enter func150,ntmps150
  go_wp2;go_ret
  exact⟨D,D⟩
 | some g =>
  go_enter func150,ntmps150
  go_wp2;go_ret
  exact⟨D,D⟩
theorem xb (d:World) (b:Option Addr) (a c:Nat) (h:a<=c):Calls prog 189 #[.slice b a c] d λe f=>e=.returned (.slice b a a)/\d=f:=by
 cases b with
 | none =>
  go_enter func189,ntmps189
  go_wp2;go_ret
  exact⟨D,D⟩
 | some g =>
  go_enter func189,ntmps189
  go_wp2;go_ret
  exact⟨D,D⟩
theorem xc (d:World) (b:Option Addr) (a c:Nat) (h:a<=c):Calls prog 169 #[.slice b a c] d λe f=>e=.returned (.slice b a a)/\d=f:=by
 cases b with
 | none =>
  go_enter func169,ntmps169
  go_wp2;go_ret
  exact⟨D,D⟩
 | some g =>
  go_enter func169,ntmps169
  go_wp2;go_ret
  exact⟨D,D⟩
theorem J.trans2 {c g:Nat->Prop}{d h i:World}(b:J c d h) (a:J g h i) (l:∀a,a<d.heap.size->g a->c a):J c d i :=
 ⟨a.os.trans b.os,a.tape.trans b.tape,a.output.trans b.output,Ay2 b.size a.size,λf e j=>(a.block f (Ay9 e b.size) (λk=>j (l f e k))).trans (b.block f e j)⟩
section
variable {β δ:Type}{E:Elt β}{R:Rp β δ}
structure Side (pg gb:Nat) (C T:World->Nat->Prop) (St:World->List δ->List Int->Prop):Prop where
 get:∀{w acc Z},St w acc Z->GetSt pg gb w Z
 pgC:∀w,C w pg
 sub:∀{w k},C w k->T w k
 lt:∀{w acc Z k},St w acc Z->T w k->k<w.heap.size
 keep:∀{S:Nat->Prop}{w w' acc Z},St w acc Z->J S w w'->(∀k,S k->¬T w k)->St w' acc Z/\(∀k,T w' k->T w k)/\∀k,C w' k->C w k
 move:∀{w w' acc Z r},St w acc Z->GetSt pg gb w' r->J (·=pg) w w'->St w' acc r/\(∀k,T w' k->T w k)/\∀k,C w' k->C w k
def bp (l:FuncId) (m:Array Value) (n:Rdr δ) (E:Elt β) (p:β->Value) (R:Rp β δ) (d e:World->Nat->Prop) (k:World->List δ->List Int->Prop):Prop :=
 ∀(a:World) (g:List δ) (f:List Int),k a g f->g.length<=16777215 ->
  (n f=none->Calls prog l m a λh c=>h=sW/\J (d a) a c) /\
  ∀i o,n f=some (i,o)->Calls prog l m a λh c=>∃j,h=.returned (p j)/\E.ok j/\R c (λb=>a.heap.size<=b/\¬e c b) j i/\k c (g++[i]) o/\J (d a) a c/\(∀b,e c b->e a b\/a.heap.size<=b)/\∀b,d c b->d a b\/a.heap.size<=b
structure LSt (E:Elt β) (R:Rp β δ) (C T:World->Nat->Prop) (St:World->List δ->List Int->Prop) (w wr:World) (v:Value) (acc:List δ) (Z:List Int) (X:List β):Prop where
 own:E.Own wr w.heap.size v X
 len:X.length=acc.length
 rel:∀(j:Nat) x d,X[j]?=some x->acc[j]?=some d->R wr (λk=>w.heap.size<=k/\¬T wr k/\v.ownBlock≠some k) x d
 st:St wr acc Z
 chg:J (C w) w wr
 tg:∀k,T wr k->T w k\/w.heap.size<=k
 cg:∀k,C wr k->C w k\/w.heap.size<=k
 ob:∀k,v.ownBlock=some k->¬T wr k
theorem LSt.start {d i:Nat}{g h:World->Nat->Prop}{c:World->List δ->List Int->Prop}(j:Side d i g h c) {e f:World}{m l:List Int}(o:c e [] m) (s:GetSt d i f l) (k:J (·=d) e f) :
  LSt E R g h c e f (.slice none 0 0) [] l []:=by
 obtain⟨p,q,r⟩:=j.move o s k;exact⟨.nil _ _,D,λv w u t=>by simp at t,p,k.mono (λb _ n=>by subst n;exact j.pgC _),λb a=>.inl (q b a),λb a=>.inl (r b a),λb a=>by cases a⟩
theorem LSt.step (l:Good R) {aD a0:Nat}{o h:World->Nat->Prop}{s:World->List δ->List Int->Prop}(B:Side aD a0 o h s) {p wr d A:World}{j r:Value}{t:List δ}{Y X:List Int}{q:List β}(z:Obj) (f:LSt E R o h s p wr j t Y q)
  {y:β}{N:δ}(a8:R d (λa=>wr.heap.size<=a/\¬h d a) y N) (U:s d (t++[N]) X) (C:J (o wr) wr d) (F:∀a,h d a->h wr a\/wr.heap.size<=a) (a5:∀a,o d a->o wr a\/wr.heap.size<=a)
  (a7:E.Own A p.heap.size r (q++[y])) (a3:J (λa=>j.ownBlock=some a) (d.alloc z) A/\(r.ownBlock=j.ownBlock\/r.ownBlock=some (d.alloc z).heap.size)):LSt E R o h s p A r (t++[N]) X (q++[y]):=by
 obtain⟨a4,O⟩:=a3;have v:∀a,j.ownBlock=some a->p.heap.size<=a/\a<wr.heap.size:=λa b=>f.own.blk b
 have u:J (λa=>j.ownBlock=some a) d A:=((J.refl _ d).alloc z).trans a4;have S:∀a,j.ownBlock=some a->¬h d a:=λa b n=>by
  rcases F a n with g|g
  .exact f.ob a b g
  have:=(v a b).2;omega
 obtain⟨a9,x,aB⟩:=B.keep U u S;have aI:wr.heap.size<=d.heap.size:=C.size;have T:(d.alloc z).heap.size=d.heap.size+1:=sI
 have aK:p.heap.size<=wr.heap.size:=f.chg.size;refine⟨a7,by simp[f.len],λw aH Z i m=>?_,a9,(f.chg.trans2 C (λa b a2=>(f.cg a a2).resolve_right H)).trans2 u (λa b e=>absurd (v a e).1 H),λa b=>?_,λa b=>?_,λa b n=>?_⟩
 .have Q:∀a,a<d.heap.size->r.ownBlock=some a->j.ownBlock=some a:=λa b e=>by
   rcases O with k|k
   .rw[<-k];exact e
   rw[k,T]at e;injection e with e;omega
  rw[List.getElem?_append]at i m;by_cases P:w<q.length
  .rw[if_pos P]at i
   rw[if_pos (by have:=f.len;omega)]at m;have K:=l.mono (f.rel w aH Z i m) (S':=λa=>p.heap.size<=a/\¬h wr a/\j.ownBlock≠some a/\a<wr.heap.size) (λa b c=>⟨c.1,c.2.1,c.2.2,b⟩);have L:=l.chg K C (λa c a1=>c.2.1 (B.sub a1));have aF:=l.chg L u (λa c e=>c.2.2.1 e);refine l.mono aF (λa _ c=>⟨c.1,λn=>?_,λe=>c.2.2.1 (Q a H e)⟩);rcases F a (x a n) with g|g
   .exact c.2.1 g
   omega
  rw[if_neg P]at i
  rw[if_neg (by have:=f.len;omega)]at m;have a6:w-q.length=0:=by
   have:=(Az0.1 i).1;simp at this;omega
  rw[a6]at i;rw[show w-t.length=0 by have:=f.len;omega]at m;simp at i m
  subst i m;have K:=l.mono a8 (S':=λa=>wr.heap.size<=a/\¬h d a/\a<d.heap.size) (λa b c=>⟨c.1,c.2,b⟩);have L:=l.chg K u (λa c e=>by have:=(v a e).2;omega);exact l.mono L (λa _ c=>⟨H,λn=>c.2.1 (x a n),λe=>by have:=(v a (Q a c.2.2 e)).2;omega⟩)
 .rcases F a (x a b) with g|g
  .exact f.tg a g
  exact .inr H
 .rcases a5 a (aB a b) with g|g
  .exact f.cg a g
  exact .inr H
 have W:=x a n
 rcases O with k|k
 .rw[k]at b;exact S a b W
 rw[k,T]at b
 injection b with b;have:=B.lt U W;omega
theorem LSt.final {p i:World->Nat->Prop}{q:World->List δ->List Int->Prop}(u:Good R) {o wr:World}{n:Value}{a:List δ}{r:List Int}{j:List β}(b:LSt E R p i q o wr n a r j) :
  ∃c d,n=.slice c a.length d/\a.length<=d/\zL E R wr (λh=>o.heap.size<=h/\¬i wr h) (c,a.length,a.length) a:=by
 obtain⟨c,k,d,e,l,t,f⟩:=b.own.at';rw[b.len]at e l;refine⟨c,d,e,l,j,⟨b.len.symm,Ay1 _,k,0,t,λg=>⟨(f g).1,(f g).2,b.ob k (by rw[e,(f g).1];rfl)⟩⟩,b.len,λx y s w v=>u.mono (b.rel x y s w v) (λh _ m=>⟨m.1,m.2.1⟩)⟩
theorem Elt.Own.cap {k:World}{h:Nat}{i:Option Addr}{g l:Nat}{b:List β}(n:E.Own k h (.slice i g l) b):E.Own k h (.slice i g g) b:=by
 rcases n with ⟨e,rfl⟩|⟨m,v,e,o,a,f,p⟩
 .injection e with c d j
  subst c d;exact .nil _ _
 injection e with c d j
 subst c d j;refine .inr ⟨m,b,D,o,⟨λs t q=>?_,a.z,a.lt,λu r=>a.ok u (f.subset r)⟩,Aw8 _,Ay2 f.length_le p⟩;have:=(a.at' f).c s t q;rwa [Ax]at this
theorem LSt.finalX {m f:World->Nat->Prop}{n:World->List δ->List Int->Prop}{h wr:World}{b:Option Addr}{a i:Nat}{g:List δ}{o:List Int}{c:List β}(e:LSt E R m f n h wr (.slice b a i) g o c) :
  ∃c,E.Own wr h.heap.size (.slice b a a) c/\c.length=g.length/\(∀d,(Value.slice b a a).ownBlock=some d->¬f wr d)/\∀(k:Nat) l j,c[k]?=some l->g[k]?=some j->R wr (λd=>h.heap.size<=d/\¬f wr d/\(Value.slice b a a).ownBlock≠some d) l j:=by
 have p:(Value.slice b a a).ownBlock=(Value.slice b a i).ownBlock:=by cases b <;> rfl
 rw[p];exact⟨c,e.own.cap,e.len,e.ob,e.rel⟩
def cQ (m:Rdr δ) (E:Elt β) (R:Rp β δ) (g e:World->Nat->Prop) (p:World->List δ->List Int->Prop) (d:World) (i:List Int) (k:Ending) (c:World):Prop :=
 J (g d) d c/\((vN m i=none/\k=sW)\/∃b n f,vN m i=some (b,n)/\k=.returned (.slice f b.length b.length)/\zL E R c (λa=>d.heap.size<=a/\¬e c a) (f,b.length,b.length) b/\p c b n/\b.length<=16777215/\(∀a,e c a->e d a\/d.heap.size<=a)/\(∀a,g c a->g d a\/d.heap.size<=a) /\
  ∃h,E.Own c d.heap.size (.slice f b.length b.length) h/\h.length=b.length/\(∀a,(Value.slice f b.length b.length).ownBlock=some a->¬e c a)/\∀(l:Nat) o j,h[l]?=some o->b[l]?=some j->R c (λa=>d.heap.size<=a/\¬e c a/\(Value.slice f b.length b.length).ownBlock≠some a) o j)
theorem dv {b c:List Int}{d:Int}(e:anyG b=some (d,c)):∃a:Nat,d=a/\a<=16777215/\c.length<=b.length:=by
 obtain⟨a,g,_,rfl,f,_,rfl,_⟩:=eG e;exact⟨a,D,f,by rw[Av0];omega⟩
end
theorem dC {δ:Type}{h:Rdr δ}:∀{e:Nat}{c b:List δ}{d f:List Int},repG h e c d=some (b,f)->b.length=c.length+e
 | 0,c,b,d,f,a=>by
  simp only[repG]at a;injection a with a;injection a with g;rw[<-g];omega
 | e+1,c,b,d,f,a=>by
  unfold repG at a
  split at a
  .cases a
  have:=dC a
  simp at this
  omega
def bJ (s:Str):Value:=.string s
def cd (n:Int):Value:=.int .i64 n
def nW (y:sU):Value:=.agg #[.int .u8 y.1,.int .i64 y.2.1,.int .i64 y.2.2]
def aq (y:Int×Sl×Sl):Value:=.agg #[.int .i64 y.1,.slice y.2.1.1 y.2.1.2.1 y.2.1.2.2,.slice y.2.2.1 y.2.2.2.1 y.2.2.2.2]
def cx (y:Int×Sl×Sl):Value:=.agg #[.int .u8 y.1,.slice y.2.1.1 y.2.1.2.1 y.2.1.2.2,.slice y.2.2.1 y.2.2.2.1 y.2.2.2.2]
theorem nh {δ:Type}{R:Rp Str δ}(a7:Good R) {aM bF:Nat}{o p:World->Nat->Prop}{k:World->List δ->List Int->Prop}(S:Side aM bF o p k) (z:FuncId) (a5 aK:Array Value) (e:Rdr δ) (bP:∀a4 c,(callFunc z a4).run prog c=.ok (.enter z a4) c)
  (a6:bp z (a5++aK) e strE bJ R o p k) (c:World) (h:List Int) (q:k c [] h) :
  Calls prog 103 #[.pointer (some ⟨aM,0,none⟩),.func (.func z) a5 aK] c (cQ e strE R o p k c h):=by
 obtain⟨b1,a2,L,b5,a0⟩:=sD a6 a7 S q (S.get q);clear a6 a7 S q;cases j:anyG h with
 | none =>
  have w:G (vN e h=none):=V (by unfold vN;rw[j]);have x:=V (cu c a0.o j);clear j;go_enter func103,ntmps103
  go_wp2_with fail
  refine x.o.mono ?_;rintro y aP ⟨rfl,f⟩;exact⟨D,f.any,.inl ⟨w.o,D⟩⟩
 | some W =>
  obtain⟨n,t⟩:=W;obtain⟨b,rfl,bZ,-⟩:=dv j;have w:G (vN e h=repG e b [] t):=V (by unfold vN;rw[j];rfl);have x:=V (cv c a0.o j);clear j;go_enter func103,ntmps103
  go_wp2_with fail
  refine x.o.mono ?_;rintro y aP ⟨rfl,A,f⟩;have a1:G (LSt strE R o p k c aP (.slice none 0 0) [] t []):=V (LSt.start L.o b5.o A f);clear A f x;go_wp2
  go_loopw [5,8] (λC X wr=>∃(a:Nat) (g:List δ) (i:List Int) (l:List Str) (aO:Value),aO=C/\a<=b/\X=.int .i64 a/\g.length=a/\repG e (b-a) g i=repG e b [] t/\LSt strE R o p k c wr aO g i l) (λ_ X _=>b-(intOf X).toNat)
  .exact⟨0,[],t,[],_,D,H,D,D,D,a1.o⟩
  clear a1;obtain⟨a,g,i,l,C,rfl,bV,rfl,r,aB,s⟩:=hrel;obtain⟨K,d,u⟩:=rZ aB s r;clear aB r;by_cases bX:a<b
  .have b9:=rO a b
   have bO:decide (a<b)=true:=sO;obtain⟨U,B⟩:∃U,b-a=U+1:=⟨b-a-1,H⟩;have T:b-(a+1)=U:=H;obtain⟨P,Q⟩:=b1.o wr g i s.st (by have:=u.o;omega);clear s;cases m:e i with
   | none =>
    have F:G (vN e h=none):=V (by rw[w.o,<-K.o,B];unfold repG;rw[m]);have v:=V (P m);clear P Q m B T;go_wp2_with fail
    refine v.o.mono ?_;rintro y E ⟨rfl,f⟩;refine⟨D,d.o.chg.trans2 f (λbK bT O=>(d.o.cg bK O).resolve_right H),.inl ⟨F.o,D⟩⟩
   | some W =>
    obtain⟨n,Y⟩:=W;have F:G (repG e (b-(a+1)) (g++[n]) Y=repG e b [] t):=V (by rw[<-K.o,B,T];conv=>rhs;unfold repG;rw[m]);have v:=V (Q n Y m);clear P Q m B T;go_wp2_with fail
    refine v.o.mono ?_;rintro y E ⟨Z,rfl,aI,aD,aF,f,aH,a8⟩;simp only[bJ];have b3:G (strE.Own E c.heap.size C l):=V (d.o.own.chgB f (λbD A O=>d.o.ob bD A (L.o.sub O)));have aZ:G (c.heap.size<=E.heap.size):=V (Ay2 d.o.chg.size f.size);have a3:G (∀n∈[Z],strE.ok n):=V (λN r=>by rw[Ay]at r;rw[r];exact aI);have b8:G (l.length<=16777215):=V (by rw[d.o.len,u.o];omega);obtain⟨b4,b6,aT,b7,aV⟩:=sD aD aF f aH a8;clear aI aD aF f aH a8 v;go_wp2_with (at_builtin;refine Elt.wpList_append2 strE D _ _ 22 22 D D c.heap.size C l [Z] (.slice (some ⟨E.heap.size,0,none⟩) 1 1) D D (b3.o.chg ((FR _).alloc _) (λ_ _ _ q=>q)) (by have:=aZ.o;simp;omega) (strE.srcLit 1 a3.o) a3.o (by have:=b8.o;simp;omega) ?_;intro c0 c2 b2 bM aR)
    have aY:=V (LSt.step a2.o L.o _ d.o b4.o b6.o aT.o b7.o aV.o b2.o aR.o);go_roundw
    .exact⟨a+1,g++[n],Y,l++[Z],_,D,H,GN,by simp[u.o],F.o,aY.o⟩
    simp[intOf];omega
  obtain rfl:a=b:=H
  have b9:=rP a;obtain⟨N,bB,bI,bH,a9⟩:=s.final a2.o;subst bI;have aX:=V a9;have b0:G (vN e h=some (g,i)):=V (by rw[w.o,<-K.o,Au4];rfl);clear a9 s;go_wp2_with fail
  refine (wu wr N g.length bB bH).mono ?_;rintro y c1 ⟨rfl,rfl⟩;go_wp2;go_ret
  exact⟨d.o.chg,.inr ⟨g,i,N,b0.o,D,aX.o,d.o.st,by rw[u.o];omega,d.o.tg,d.o.cg,d.o.finalX⟩⟩
theorem xd {δ:Type}{R:Rp Int δ}(a7:Good R) {aM bF:Nat}{o p:World->Nat->Prop}{k:World->List δ->List Int->Prop}(S:Side aM bF o p k) (z:FuncId) (a5 aK:Array Value) (e:Rdr δ) (bP:∀a4 c,(callFunc z a4).run prog c=.ok (.enter z a4) c)
  (a6:bp z (a5++aK) e intE cd R o p k) (c:World) (h:List Int) (q:k c [] h) :
  Calls prog 147 #[.pointer (some ⟨aM,0,none⟩),.func (.func z) a5 aK] c (cQ e intE R o p k c h):=by
 obtain⟨b1,a2,L,b5,a0⟩:=sD a6 a7 S q (S.get q);clear a6 a7 S q;cases j:anyG h with
 | none =>
  have w:G (vN e h=none):=V (by unfold vN;rw[j]);have x:=V (cu c a0.o j);clear j;go_enter func147,ntmps147
  go_wp2_with fail
  refine x.o.mono ?_;rintro y aP ⟨rfl,f⟩;exact⟨D,f.any,.inl ⟨w.o,D⟩⟩
 | some W =>
  obtain⟨n,t⟩:=W;obtain⟨b,rfl,bZ,-⟩:=dv j;have w:G (vN e h=repG e b [] t):=V (by unfold vN;rw[j];rfl);have x:=V (cv c a0.o j);clear j;go_enter func147,ntmps147
  go_wp2_with fail
  refine x.o.mono ?_;rintro y aP ⟨rfl,A,f⟩;have a1:G (LSt intE R o p k c aP (.slice none 0 0) [] t []):=V (LSt.start L.o b5.o A f);clear A f x;go_wp2
  go_loopw [5,8] (λC X wr=>∃(a:Nat) (g:List δ) (i:List Int) (l:List Int) (aO:Value),aO=C/\a<=b/\X=.int .i64 a/\g.length=a/\repG e (b-a) g i=repG e b [] t/\LSt intE R o p k c wr aO g i l) (λ_ X _=>b-(intOf X).toNat)
  .exact⟨0,[],t,[],_,D,H,D,D,D,a1.o⟩
  clear a1;obtain⟨a,g,i,l,C,rfl,bV,rfl,r,aB,s⟩:=hrel;obtain⟨K,d,u⟩:=rZ aB s r;clear aB r;by_cases bX:a<b
  .have b9:=rO a b
   have bO:decide (a<b)=true:=sO;obtain⟨U,B⟩:∃U,b-a=U+1:=⟨b-a-1,H⟩;have T:b-(a+1)=U:=H;obtain⟨P,Q⟩:=b1.o wr g i s.st (by have:=u.o;omega);clear s;cases m:e i with
   | none =>
    have F:G (vN e h=none):=V (by rw[w.o,<-K.o,B];unfold repG;rw[m]);have v:=V (P m);clear P Q m B T;go_wp2_with fail
    refine v.o.mono ?_;rintro y E ⟨rfl,f⟩;refine⟨D,d.o.chg.trans2 f (λbK bT O=>(d.o.cg bK O).resolve_right H),.inl ⟨F.o,D⟩⟩
   | some W =>
    obtain⟨n,Y⟩:=W;have F:G (repG e (b-(a+1)) (g++[n]) Y=repG e b [] t):=V (by rw[<-K.o,B,T];conv=>rhs;unfold repG;rw[m]);have v:=V (Q n Y m);clear P Q m B T;go_wp2_with fail
    refine v.o.mono ?_;rintro y E ⟨Z,rfl,aI,aD,aF,f,aH,a8⟩;simp only[cd];have b3:G (intE.Own E c.heap.size C l):=V (d.o.own.chgB f (λbD A O=>d.o.ob bD A (L.o.sub O)));have aZ:G (c.heap.size<=E.heap.size):=V (Ay2 d.o.chg.size f.size);have a3:G (∀n∈[Z],intE.ok n):=V (λN r=>by rw[Ay]at r;rw[r];exact aI);have b8:G (l.length<=16777215):=V (by rw[d.o.len,u.o];omega);obtain⟨b4,b6,aT,b7,aV⟩:=sD aD aF f aH a8;clear aI aD aF f aH a8 v;go_wp2_with (at_builtin;refine Elt.wpList_append2 intE D _ _ 25 25 D D c.heap.size C l [Z] (.slice (some ⟨E.heap.size,0,none⟩) 1 1) D D (b3.o.chg ((FR _).alloc _) (λ_ _ _ q=>q)) (by have:=aZ.o;simp;omega) (intE.srcLit 1 a3.o) a3.o (by have:=b8.o;simp;omega) ?_;intro c0 c2 b2 bM aR)
    have aY:=V (LSt.step a2.o L.o _ d.o b4.o b6.o aT.o b7.o aV.o b2.o aR.o);go_roundw
    .exact⟨a+1,g++[n],Y,l++[Z],_,D,H,GN,by simp[u.o],F.o,aY.o⟩
    simp[intOf];omega
  obtain rfl:a=b:=H
  have b9:=rP a;obtain⟨N,bB,bI,bH,a9⟩:=s.final a2.o;subst bI;have aX:=V a9;have b0:G (vN e h=some (g,i)):=V (by rw[w.o,<-K.o,Au4];rfl);clear a9 s;go_wp2_with fail
  refine (cn wr N g.length bB bH).mono ?_;rintro y c1 ⟨rfl,rfl⟩;go_wp2;go_ret
  exact⟨d.o.chg,.inr ⟨g,i,N,b0.o,D,aX.o,d.o.st,by rw[u.o];omega,d.o.tg,d.o.cg,d.o.finalX⟩⟩
theorem xe {δ:Type}{R:Rp sU δ}(a7:Good R) {aM bF:Nat}{o p:World->Nat->Prop}{k:World->List δ->List Int->Prop}(S:Side aM bF o p k) (z:FuncId) (a5 aK:Array Value) (e:Rdr δ) (bP:∀a4 c,(callFunc z a4).run prog c=.ok (.enter z a4) c)
  (a6:bp z (a5++aK) e nY nW R o p k) (c:World) (h:List Int) (q:k c [] h) :
  Calls prog 171 #[.pointer (some ⟨aM,0,none⟩),.func (.func z) a5 aK] c (cQ e nY R o p k c h):=by
 obtain⟨b1,a2,L,b5,a0⟩:=sD a6 a7 S q (S.get q);clear a6 a7 S q;cases j:anyG h with
 | none =>
  have w:G (vN e h=none):=V (by unfold vN;rw[j]);have x:=V (cu c a0.o j);clear j;go_enter func171,ntmps171
  go_wp2_with fail
  refine x.o.mono ?_;rintro y aP ⟨rfl,f⟩;exact⟨D,f.any,.inl ⟨w.o,D⟩⟩
 | some W =>
  obtain⟨n,t⟩:=W;obtain⟨b,rfl,bZ,-⟩:=dv j;have w:G (vN e h=repG e b [] t):=V (by unfold vN;rw[j];rfl);have x:=V (cv c a0.o j);clear j;go_enter func171,ntmps171
  go_wp2_with fail
  refine x.o.mono ?_;rintro y aP ⟨rfl,A,f⟩;have a1:G (LSt nY R o p k c aP (.slice none 0 0) [] t []):=V (LSt.start L.o b5.o A f);clear A f x;go_wp2
  go_loopw [5,8] (λC X wr=>∃(a:Nat) (g:List δ) (i:List Int) (l:List sU) (aO:Value),aO=C/\a<=b/\X=.int .i64 a/\g.length=a/\repG e (b-a) g i=repG e b [] t/\LSt nY R o p k c wr aO g i l) (λ_ X _=>b-(intOf X).toNat)
  .exact⟨0,[],t,[],_,D,H,D,D,D,a1.o⟩
  clear a1;obtain⟨a,g,i,l,C,rfl,bV,rfl,r,aB,s⟩:=hrel;obtain⟨K,d,u⟩:=rZ aB s r;clear aB r;by_cases bX:a<b
  .have b9:=rO a b
   have bO:decide (a<b)=true:=sO;obtain⟨U,B⟩:∃U,b-a=U+1:=⟨b-a-1,H⟩;have T:b-(a+1)=U:=H;obtain⟨P,Q⟩:=b1.o wr g i s.st (by have:=u.o;omega);clear s;cases m:e i with
   | none =>
    have F:G (vN e h=none):=V (by rw[w.o,<-K.o,B];unfold repG;rw[m]);have v:=V (P m);clear P Q m B T;go_wp2_with fail
    refine v.o.mono ?_;rintro y E ⟨rfl,f⟩;refine⟨D,d.o.chg.trans2 f (λbK bT O=>(d.o.cg bK O).resolve_right H),.inl ⟨F.o,D⟩⟩
   | some W =>
    obtain⟨n,Y⟩:=W;have F:G (repG e (b-(a+1)) (g++[n]) Y=repG e b [] t):=V (by rw[<-K.o,B,T];conv=>rhs;unfold repG;rw[m]);have v:=V (Q n Y m);clear P Q m B T;go_wp2_with fail
    refine v.o.mono ?_;rintro y E ⟨Z,rfl,aI,aD,aF,f,aH,a8⟩;simp only[nW];have b3:G (nY.Own E c.heap.size C l):=V (d.o.own.chgB f (λbD A O=>d.o.ob bD A (L.o.sub O)));have aZ:G (c.heap.size<=E.heap.size):=V (Ay2 d.o.chg.size f.size);have a3:G (∀n∈[Z],nY.ok n):=V (λN r=>by rw[Ay]at r;rw[r];exact aI);have b8:G (l.length<=16777215):=V (by rw[d.o.len,u.o];omega);obtain⟨b4,b6,aT,b7,aV⟩:=sD aD aF f aH a8;clear aI aD aF f aH a8 v;go_wp2_with (at_builtin;refine Elt.wpList_append2 nY D _ _ 72 72 D D c.heap.size C l [Z] (.slice (some ⟨E.heap.size,0,none⟩) 1 1) D D (b3.o.chg ((FR _).alloc _) (λ_ _ _ q=>q)) (by have:=aZ.o;simp;omega) (nY.srcLit 1 a3.o) a3.o (by have:=b8.o;simp;omega) ?_;intro c0 c2 b2 bM aR)
    have aY:=V (LSt.step a2.o L.o _ d.o b4.o b6.o aT.o b7.o aV.o b2.o aR.o);go_roundw
    .exact⟨a+1,g++[n],Y,l++[Z],_,D,H,GN,by simp[u.o],F.o,aY.o⟩
    simp[intOf];omega
  obtain rfl:a=b:=H
  have b9:=rP a;obtain⟨N,bB,bI,bH,a9⟩:=s.final a2.o;subst bI;have aX:=V a9;have b0:G (vN e h=some (g,i)):=V (by rw[w.o,<-K.o,Au4];rfl);clear a9 s;go_wp2_with fail
  refine (xb wr N g.length bB bH).mono ?_;rintro y c1 ⟨rfl,rfl⟩;go_wp2;go_ret
  exact⟨d.o.chg,.inr ⟨g,i,N,b0.o,D,aX.o,d.o.st,by rw[u.o];omega,d.o.tg,d.o.cg,d.o.finalX⟩⟩
theorem xf {δ:Type}{R:Rp (Int×Sl×Sl) δ}(a7:Good R) {aM bF:Nat}{o p:World->Nat->Prop}{k:World->List δ->List Int->Prop}(S:Side aM bF o p k) (z:FuncId) (a5 aK:Array Value) (e:Rdr δ) (bP:∀a4 c,(callFunc z a4).run prog c=.ok (.enter z a4) c)
  (a6:bp z (a5++aK) e stE aq R o p k) (c:World) (h:List Int) (q:k c [] h) :
  Calls prog 145 #[.pointer (some ⟨aM,0,none⟩),.func (.func z) a5 aK] c (cQ e stE R o p k c h):=by
 obtain⟨b1,a2,L,b5,a0⟩:=sD a6 a7 S q (S.get q);clear a6 a7 S q;cases j:anyG h with
 | none =>
  have w:G (vN e h=none):=V (by unfold vN;rw[j]);have x:=V (cu c a0.o j);clear j;go_enter func145,ntmps145
  go_wp2_with fail
  refine x.o.mono ?_;rintro y aP ⟨rfl,f⟩;exact⟨D,f.any,.inl ⟨w.o,D⟩⟩
 | some W =>
  obtain⟨n,t⟩:=W;obtain⟨b,rfl,bZ,-⟩:=dv j;have w:G (vN e h=repG e b [] t):=V (by unfold vN;rw[j];rfl);have x:=V (cv c a0.o j);clear j;go_enter func145,ntmps145
  go_wp2_with fail
  refine x.o.mono ?_;rintro y aP ⟨rfl,A,f⟩;have a1:G (LSt stE R o p k c aP (.slice none 0 0) [] t []):=V (LSt.start L.o b5.o A f);clear A f x;go_wp2
  go_loopw [5,8] (λC X wr=>∃(a:Nat) (g:List δ) (i:List Int) (l:List (Int×Sl×Sl)) (aO:Value),aO=C/\a<=b/\X=.int .i64 a/\g.length=a/\repG e (b-a) g i=repG e b [] t/\LSt stE R o p k c wr aO g i l) (λ_ X _=>b-(intOf X).toNat)
  .exact⟨0,[],t,[],_,D,H,D,D,D,a1.o⟩
  clear a1;obtain⟨a,g,i,l,C,rfl,bV,rfl,r,aB,s⟩:=hrel;obtain⟨K,d,u⟩:=rZ aB s r;clear aB r;by_cases bX:a<b
  .have b9:=rO a b
   have bO:decide (a<b)=true:=sO;obtain⟨U,B⟩:∃U,b-a=U+1:=⟨b-a-1,H⟩;have T:b-(a+1)=U:=H;obtain⟨P,Q⟩:=b1.o wr g i s.st (by have:=u.o;omega);clear s;cases m:e i with
   | none =>
    have F:G (vN e h=none):=V (by rw[w.o,<-K.o,B];unfold repG;rw[m]);have v:=V (P m);clear P Q m B T;go_wp2_with fail
    refine v.o.mono ?_;rintro y E ⟨rfl,f⟩;refine⟨D,d.o.chg.trans2 f (λbK bT O=>(d.o.cg bK O).resolve_right H),.inl ⟨F.o,D⟩⟩
   | some W =>
    obtain⟨n,Y⟩:=W;have F:G (repG e (b-(a+1)) (g++[n]) Y=repG e b [] t):=V (by rw[<-K.o,B,T];conv=>rhs;unfold repG;rw[m]);have v:=V (Q n Y m);clear P Q m B T;go_wp2_with fail
    refine v.o.mono ?_;rintro y E ⟨Z,rfl,aI,aD,aF,f,aH,a8⟩;simp only[aq];have b3:G (stE.Own E c.heap.size C l):=V (d.o.own.chgB f (λbD A O=>d.o.ob bD A (L.o.sub O)));have aZ:G (c.heap.size<=E.heap.size):=V (Ay2 d.o.chg.size f.size);have a3:G (∀n∈[Z],stE.ok n):=V (λN r=>by rw[Ay]at r;rw[r];exact aI);have b8:G (l.length<=16777215):=V (by rw[d.o.len,u.o];omega);obtain⟨b4,b6,aT,b7,aV⟩:=sD aD aF f aH a8;clear aI aD aF f aH a8 v;go_wp2_with (at_builtin;refine Elt.wpList_append2 stE D _ _ 29 29 D D c.heap.size C l [Z] (.slice (some ⟨E.heap.size,0,none⟩) 1 1) D D (b3.o.chg ((FR _).alloc _) (λ_ _ _ q=>q)) (by have:=aZ.o;simp;omega) (stE.srcLit 1 a3.o) a3.o (by have:=b8.o;simp;omega) ?_;intro c0 c2 b2 bM aR)
    have aY:=V (LSt.step a2.o L.o _ d.o b4.o b6.o aT.o b7.o aV.o b2.o aR.o);go_roundw
    .exact⟨a+1,g++[n],Y,l++[Z],_,D,H,GN,by simp[u.o],F.o,aY.o⟩
    simp[intOf];omega
  obtain rfl:a=b:=H
  have b9:=rP a;obtain⟨N,bB,bI,bH,a9⟩:=s.final a2.o;subst bI;have aX:=V a9;have b0:G (vN e h=some (g,i)):=V (by rw[w.o,<-K.o,Au4];rfl);clear a9 s;go_wp2_with fail
  refine (wy wr N g.length bB bH).mono ?_;rintro y c1 ⟨rfl,rfl⟩;go_wp2;go_ret
  exact⟨d.o.chg,.inr ⟨g,i,N,b0.o,D,aX.o,d.o.st,by rw[u.o];omega,d.o.tg,d.o.cg,d.o.finalX⟩⟩
theorem xg {δ:Type}{R:Rp (Int×Sl×Sl) δ}(a7:Good R) {aM bF:Nat}{o p:World->Nat->Prop}{k:World->List δ->List Int->Prop}(S:Side aM bF o p k) (z:FuncId) (a5 aK:Array Value) (e:Rdr δ) (bP:∀a4 c,(callFunc z a4).run prog c=.ok (.enter z a4) c)
  (a6:bp z (a5++aK) e lsE cx R o p k) (c:World) (h:List Int) (q:k c [] h) :
  Calls prog 148 #[.pointer (some ⟨aM,0,none⟩),.func (.func z) a5 aK] c (cQ e lsE R o p k c h):=by
 obtain⟨b1,a2,L,b5,a0⟩:=sD a6 a7 S q (S.get q);clear a6 a7 S q;cases j:anyG h with
 | none =>
  have w:G (vN e h=none):=V (by unfold vN;rw[j]);have x:=V (cu c a0.o j);clear j;go_enter func148,ntmps148
  go_wp2_with fail
  refine x.o.mono ?_;rintro y aP ⟨rfl,f⟩;exact⟨D,f.any,.inl ⟨w.o,D⟩⟩
 | some W =>
  obtain⟨n,t⟩:=W;obtain⟨b,rfl,bZ,-⟩:=dv j;have w:G (vN e h=repG e b [] t):=V (by unfold vN;rw[j];rfl);have x:=V (cv c a0.o j);clear j;go_enter func148,ntmps148
  go_wp2_with fail
  refine x.o.mono ?_;rintro y aP ⟨rfl,A,f⟩;have a1:G (LSt lsE R o p k c aP (.slice none 0 0) [] t []):=V (LSt.start L.o b5.o A f);clear A f x;go_wp2
  go_loopw [5,8] (λC X wr=>∃(a:Nat) (g:List δ) (i:List Int) (l:List (Int×Sl×Sl)) (aO:Value),aO=C/\a<=b/\X=.int .i64 a/\g.length=a/\repG e (b-a) g i=repG e b [] t/\LSt lsE R o p k c wr aO g i l) (λ_ X _=>b-(intOf X).toNat)
  .exact⟨0,[],t,[],_,D,H,D,D,D,a1.o⟩
  clear a1;obtain⟨a,g,i,l,C,rfl,bV,rfl,r,aB,s⟩:=hrel;obtain⟨K,d,u⟩:=rZ aB s r;clear aB r;by_cases bX:a<b
  .have b9:=rO a b
   have bO:decide (a<b)=true:=sO;obtain⟨U,B⟩:∃U,b-a=U+1:=⟨b-a-1,H⟩;have T:b-(a+1)=U:=H;obtain⟨P,Q⟩:=b1.o wr g i s.st (by have:=u.o;omega);clear s;cases m:e i with
   | none =>
    have F:G (vN e h=none):=V (by rw[w.o,<-K.o,B];unfold repG;rw[m]);have v:=V (P m);clear P Q m B T;go_wp2_with fail
    refine v.o.mono ?_;rintro y E ⟨rfl,f⟩;refine⟨D,d.o.chg.trans2 f (λbK bT O=>(d.o.cg bK O).resolve_right H),.inl ⟨F.o,D⟩⟩
   | some W =>
    obtain⟨n,Y⟩:=W;have F:G (repG e (b-(a+1)) (g++[n]) Y=repG e b [] t):=V (by rw[<-K.o,B,T];conv=>rhs;unfold repG;rw[m]);have v:=V (Q n Y m);clear P Q m B T;go_wp2_with fail
    refine v.o.mono ?_;rintro y E ⟨Z,rfl,aI,aD,aF,f,aH,a8⟩;simp only[cx];have b3:G (lsE.Own E c.heap.size C l):=V (d.o.own.chgB f (λbD A O=>d.o.ob bD A (L.o.sub O)));have aZ:G (c.heap.size<=E.heap.size):=V (Ay2 d.o.chg.size f.size);have a3:G (∀n∈[Z],lsE.ok n):=V (λN r=>by rw[Ay]at r;rw[r];exact aI);have b8:G (l.length<=16777215):=V (by rw[d.o.len,u.o];omega);obtain⟨b4,b6,aT,b7,aV⟩:=sD aD aF f aH a8;clear aI aD aF f aH a8 v;go_wp2_with (at_builtin;refine Elt.wpList_append2 lsE D _ _ 61 61 D D c.heap.size C l [Z] (.slice (some ⟨E.heap.size,0,none⟩) 1 1) D D (b3.o.chg ((FR _).alloc _) (λ_ _ _ q=>q)) (by have:=aZ.o;simp;omega) (lsE.srcLit 1 a3.o) a3.o (by have:=b8.o;simp;omega) ?_;intro c0 c2 b2 bM aR)
    have aY:=V (LSt.step a2.o L.o _ d.o b4.o b6.o aT.o b7.o aV.o b2.o aR.o);go_roundw
    .exact⟨a+1,g++[n],Y,l++[Z],_,D,H,GN,by simp[u.o],F.o,aY.o⟩
    simp[intOf];omega
  obtain rfl:a=b:=H
  have b9:=rP a;obtain⟨N,bB,bI,bH,a9⟩:=s.final a2.o;subst bI;have aX:=V a9;have b0:G (vN e h=some (g,i)):=V (by rw[w.o,<-K.o,Au4];rfl);clear a9 s;go_wp2_with fail
  refine (wz wr N g.length bB bH).mono ?_;rintro y c1 ⟨rfl,rfl⟩;go_wp2;go_ret
  exact⟨d.o.chg,.inr ⟨g,i,N,b0.o,D,aX.o,d.o.st,by rw[u.o];omega,d.o.tg,d.o.cg,d.o.finalX⟩⟩
section
variable {β δ:Type}
def C0 (b:Nat):World->Nat->Prop:=λ_ a=>a=b
def T0 (c b:Nat):World->Nat->Prop:=λ_ a=>a=c\/a=b
def S0 (δ:Type) (c b:Nat):World->List δ->List Int->Prop:=λd _ a=>GetSt c b d a
theorem cy (pg gb:Nat):Side pg gb (C0 pg) (T0 pg gb) (S0 δ pg gb) where
 get:=λh=>h
 pgC:=λ_=>rfl
 sub:=λh=>.inl h
 lt:=λ{w acc Z k} h ht=>by rcases ht with rfl|rfl;exact h.lt;exact h.lb
 keep:=λh hc hs=>⟨h.chg hc (λe=>hs _ e (.inl D)) (λe=>hs _ e (.inr D)),λ_ h=>h,λ_ h=>h⟩
 move:=λ_ hg _=>⟨hg,λ_ h=>h,λ_ h=>h⟩
def fQ (f l:Nat) (e:Rdr δ) (j:Elt β) (n:β->Value) (k:Rp β δ) (h:World) (c:List Int) (d:Ending) (a:World):Prop :=
 J (·=f) h a/\((e c=none/\d=sW)\/∃i g b,e c=some (i,g)/\d=.returned (n b)/\j.ok b/\k a (λm=>h.heap.size<=m) b i/\GetSt f l a g)
theorem xh {e f:Nat}{k:FuncId}{l:Array Value}{p:Rdr δ}{j:Elt β}{q:β->Value}{h:Rp β δ}(y:Good h) (m:∀b c,GetSt e f b c->Calls prog k l b (fQ e f p j q h b c)):bp k l p j q h (C0 e) (T0 e f) (S0 δ e f):=by
 intro b F c g _;refine⟨λz=>(m b c g).mono ?_,λE B n=>(m b c g).mono ?_⟩
 .rintro s C ⟨i,⟨_,rfl⟩|⟨E,B,r,a,_⟩⟩
  .exact⟨D,i⟩
  rw[z]at a;cases a
 rintro s C ⟨i,⟨a,_⟩|⟨O,N,r,a,rfl,v,w,x⟩⟩
 .rw[n]at a;cases a
 rw[n]at a
 injection a with a;injection a with t u;subst t u;refine⟨r,D,v,y.mono w (λo _ d=>⟨d,λA=>?_⟩),x,i,λo d=>.inl d,λo d=>.inl d⟩;have K:=GetSt.lt g;have L:=GetSt.lb g;rcases A with rfl|rfl <;> omega
def dw (g l:Nat) (f:Rdr δ) (j:Elt β) (k:Rp β δ) (i:World) (c:List Int) (e:Ending) (b:World):Prop :=
 J (·=g) i b/\((vN f c=none/\e=sW)\/∃a h d,vN f c=some (a,h)/\e=.returned (.slice d a.length a.length)/\zL j k b (λm=>i.heap.size<=m) (d,a.length,a.length) a/\GetSt g l b h/\a.length<=16777215)
theorem cQ.list {b d:Nat}{h:Rdr δ}{e:Elt β}{c:Rp β δ}(r:Good c) {i j:World}{f:List Int}{g:Ending}(a:cQ h e c (C0 b) (T0 b d) (S0 δ b d) i f g j):dw b d h e c i f g j:=by
 obtain⟨s,a⟩:=a;refine⟨s,?_⟩;rcases a with a|⟨k,u,l,m,n,o,p,q,-⟩
 .exact .inl a
 exact .inr ⟨k,u,l,m,n,(zL.good r).mono o (λv _ t=>t.1),p,q⟩
end
def ni (e h:Nat) (d:Rdr Int) (i:Nat) (j:World) (b:List Int) (c:Ending) (g:World):Prop :=
 J (·=e) j g/\((d b=none/\c=sW)\/∃(a:Nat) (f:List Int),d b=some ((a:Int),f)/\c=.returned (.int .i64 a)/\a<=i/\GetSt e h g f)
theorem ho {f g d:Nat}{e:List Int}(c:World) (h:GetSt f g c e):Calls prog 106 #[.pointer (some ⟨f,0,none⟩),.int .i64 d] c (ni f g (numG d) d c e):=by
 cases b:numG d e with
 | none=>exact (hl c h b).mono (λi n a=>⟨a.2.any,.inl ⟨b,a.1⟩⟩)
 | some l =>
  obtain⟨p,m⟩:=l;obtain⟨k,o,_,rfl,j,_⟩:=eG b;exact (fd c h b).mono (λi n a=>⟨a.2.2,.inr ⟨k,m,b,a.1,j,a.2.1⟩⟩)
theorem cN {e f:Nat}{d:List Int}(c:World) (g:GetSt e f c d):Calls prog 139 #[.pointer (some ⟨e,0,none⟩)] c (ni e f anyG 16777215 c d):=by
 cases b:anyG d with
 | none=>exact (cu c g b).mono (λh m a=>⟨a.2.any,.inl ⟨b,a.1⟩⟩)
 | some k =>
  obtain⟨o,l⟩:=k;obtain⟨j,n,_,rfl,i,_⟩:=eG b;exact (cv c g b).mono (λh m a=>⟨a.2.2,.inr ⟨j,l,b,a.1,i,a.2.1⟩⟩)
theorem xi {d f:Nat}(a:World) (e:List Int) (i:GetSt d f a e):Calls prog 139 #[.pointer (some ⟨d,0,none⟩)] a (fQ d f anyG intE cd eqR a e):=by
 refine (cN a i).mono ?_;rintro l n ⟨g,⟨b,c⟩|⟨h,k,b,c,m,j⟩⟩
 .exact⟨g,.inl ⟨b,c⟩⟩
 exact⟨g,.inr ⟨h,k,h,b,c,⟨H,H⟩,D,j⟩⟩
theorem nj {e f:Nat}(b:World) (d:List Int) (g:GetSt e f b d):Calls prog 104 #[.pointer (some ⟨e,0,none⟩)] b (fQ e f eS strE bJ eqR b d):=by
 cases c:eS d with
 | none=>exact (vy b g c).mono (λi l a=>⟨a.2,.inl ⟨c,a.1⟩⟩)
 | some j =>
  obtain⟨h,k⟩:=j;exact (vz b g c).mono (λi l a=>⟨a.2.2,.inr ⟨h,k,h,c,a.1,trivial,D,a.2.1⟩⟩)
theorem ff {β δ:Type}{pg gb:Nat}{f:FuncId}{fa:Array Value}{d:Rdr δ}{E:Elt β}{val:β->Value}{a:Rp β δ}(g:Good a) (e:∀b c,GetSt pg gb b c->Calls prog f fa b (fQ pg gb d E val a b c)):bp f (fa++#[]) d E val a (C0 pg) (T0 pg gb) (S0 δ pg gb):=by
 rw[Array.append_empty];exact xh g e
theorem dx {a d:Nat}(b:World) (c:List Int) (e:GetSt a d b c):Calls prog 147 #[.pointer (some ⟨a,0,none⟩),.func (.func 139) #[.pointer (some ⟨a,0,none⟩)] #[]] b (dw a d anyG intE eqR b c):=by
 have g:=enters_of func139 M D;have h:=ff (pg:=a) (gb:=d) (f:=139) (fa:=#[.pointer (some ⟨a,0,none⟩)]) (E:=intE) (val:=cd) (δ:=Int) eqR.good (λb c e=>xi b c e);exact (xd eqR.good (cy a d) _ _ _ anyG g h b c e).mono (λ_ _ i=>i.list eqR.good)
theorem xj {a d:Nat}(b:World) (c:List Int) (e:GetSt a d b c):Calls prog 103 #[.pointer (some ⟨a,0,none⟩),.func (.func 104) #[.pointer (some ⟨a,0,none⟩)] #[]] b (dw a d eS strE eqR b c):=by
 have g:=enters_of func104 M D;have h:=ff (pg:=a) (gb:=d) (f:=104) (fa:=#[.pointer (some ⟨a,0,none⟩)]) (E:=strE) (val:=bJ) (δ:=Str) eqR.good (λb c e=>nj b c e);exact (nh eqR.good (cy a d) _ _ _ eS g h b c e).mono (λ_ _ i=>i.list eqR.good)
theorem xk {a c b:Nat}(d:a<=3) (f:c<=16777215) (e:b<=16777215):nY.ok ((a:Int),(c:Int),(b:Int)):=by
 show (0<=(a:Int)/\(a:Int)<=255)/\(-9223372036854775808<=(c:Int)/\(c:Int)<=9223372036854775807)/\(-9223372036854775808<=(b:Int)/\(b:Int)<=9223372036854775807);omega
theorem xl {c g:Nat}(a:World) (s:List Int) (C:GetSt c g a s):Calls prog 172 #[.pointer (some ⟨c,0,none⟩)] a (fQ c g ah nY nW eqR a s):=by
 have o:=V C;clear C;go_enter func172,ntmps172
 go_wp2_with fail
 refine (ho _ (o.o.fresh (rT))).mono ?_;rintro f aB ⟨b,⟨h,rfl⟩|⟨m,a8,h,rfl,L,E⟩⟩
 .exact⟨D,((J.refl _ a).alloc _).trans b,.inl ⟨by simp only[ah,h],D⟩⟩
 have N:=V (((J.refl _ a).alloc _).trans b);have a4:G (m<=3):=V L;have P:G (∀r d,J r (a.alloc (.cells #[.int .u8 0,.int .i64 0,.int .i64 0] 71)) d->¬r a.heap.size->d.cell? ⟨a.heap.size,0,none⟩=some (.int .u8 0)/\d.cell? ⟨a.heap.size,1,none⟩=some (.int .i64 0)/\d.cell? ⟨a.heap.size,2,none⟩=some (.int .i64 0)/\∀l,d.frozen? ⟨a.heap.size,l,none⟩=false) :=
  V λr d b k=>⟨b.cellS sI k,b.cellS sI k,b.cellS sI k,λl=>(b.frozen (p:=⟨a.heap.size,l,none⟩) sI k).trans (Az6 _ _ _ _)⟩
 have q:G (c<a.heap.size/\g<a.heap.size):=V ⟨o.o.lt,o.o.lb⟩;have n:=V h;clear h;go_wp2_with fail
 refine (cN _ E).mono ?_;rintro f aD ⟨t,⟨i,rfl⟩|⟨y,a9,i,rfl,Y,F⟩⟩
 .exact⟨D,N.o.trans t,.inl ⟨by simp only[ah,n.o,i],D⟩⟩
 have z:=V i;have A:=V (b.trans t);clear i E b t;go_wp2_with fail
 refine (cN _ F).mono ?_;rintro f a3 ⟨u,⟨j,rfl⟩|⟨x,Z,j,rfl,X,K⟩⟩
 .exact⟨D,((J.refl _ a).alloc _).trans (A.o.trans u),.inl ⟨by simp only[ah,n.o,z.o,j],D⟩⟩
 have Q:G (ah s=some (((m:Int),(y:Int),(x:Int)),Z)):=V (by simp only[ah,n.o,z.o,j]);have B:=V (A.o.trans u);obtain⟨S,T,U,e⟩:=P.o _ a3 B.o (by have:=q.o;show ¬a.heap.size=c;omega);have a5:=e 0;have a6:=e 1;have a7:=e 2;obtain⟨a0,a1,a2,w⟩:=jS (.int .u8 m) (.int .i64 y) (.int .i64 x) S T U;have R:=V (K.chg w (by have:=q.o;show ¬c=a.heap.size;omega) (by have:=q.o;show ¬g=a.heap.size;omega));have O:G (J (·=c) a _):=V ((((J.refl _ a).alloc _).trans B.o).trans2 w (λl W f=>absurd f (Nat.ne_of_lt W)));clear u F K j e w;go_wp2;exact bodyPost_ret (v:=.agg #[.int .u8 m,.int .i64 y,.int .i64 x]) (by simp[results,results172,go_sem,a0,a1,a2]) D ⟨O.o,.inr ⟨_,_,_,Q.o,D,xk L Y X,D,R.o⟩⟩
theorem xm {a d:Nat}(b:World) (c:List Int) (e:GetSt a d b c):Calls prog 171 #[.pointer (some ⟨a,0,none⟩),.func (.func 172) #[.pointer (some ⟨a,0,none⟩)] #[]] b (dw a d ah nY eqR b c):=by
 have g:=enters_of func172 M D;have h:=ff (pg:=a) (gb:=d) (f:=172) (fa:=#[.pointer (some ⟨a,0,none⟩)]) (E:=nY) (val:=nW) (δ:=sU) eqR.good (λb c e=>xl b c e);exact (xe eqR.good (cy a d) _ _ _ ah g h b c e).mono (λ_ _ i=>i.list eqR.good)
theorem xn {g q:Nat}(a:World) (C:List Int) (O:GetSt g q a C):Calls prog 146 #[.pointer (some ⟨g,0,none⟩)] a (fQ g q gU stE aq stR a C):=by
 have A:=V O;clear O;have aK:=mkfn;go_enter func146,ntmps146
 go_wp2_with fail
 refine (cN _ (A.o.fresh (rT))).mono ?_;rintro e E ⟨d,⟨r,rfl⟩|⟨b,aT,r,rfl,aH,f⟩⟩
 .exact⟨D,((J.refl _ a).alloc _).trans d,.inl ⟨by simp only[gU,r],D⟩⟩
 have X:=V (((J.refl _ a).alloc _).trans d);have Z:G (∀B j,J B (a.alloc (.cells #[.int .i64 0,.slice none 0 0,.slice none 0 0] 74)) j->¬B a.heap.size->j.cell? ⟨a.heap.size,0,none⟩=some (.int .i64 0)/\j.cell? ⟨a.heap.size,1,none⟩=some (.slice none 0 0)/\j.cell? ⟨a.heap.size,2,none⟩=some (.slice none 0 0)/\∀y,j.frozen? ⟨a.heap.size,y,none⟩=false) :=
  V λB j d x=>⟨d.cellS sI x,d.cellS sI x,d.cellS sI x,λy=>(d.frozen (p:=⟨a.heap.size,y,none⟩) sI x).trans (Az6 _ _ _ _)⟩
 have n:G (g<a.heap.size/\q<a.heap.size):=V ⟨A.o.lt,A.o.lb⟩;have k:G (a.heap.size+1<=E.heap.size):=V (by have:=d.size;simp at this;omega);have z:=V r;clear r;go_wp2_with fail
 refine (xm _ _ f).mono ?_;rintro e U ⟨u,⟨s,rfl⟩|⟨c,aV,h,s,rfl,P,R,aI⟩⟩
 .exact⟨D,X.o.trans u,.inl ⟨by simp only[gU,z.o,s],D⟩⟩
 have F:=V s;have K:=V (d.trans u);have a3:G (nY.InS U (λb=>E.heap.size<=b) (h,c.length,c.length) c):=V P.to;clear s f d P;go_wp2_with fail
 refine (dx _ _ R).mono ?_;rintro e W ⟨w,⟨t,rfl⟩|⟨M,a9,l,t,rfl,Q,S,aM⟩⟩
 .exact⟨D,((J.refl _ a).alloc _).trans (K.o.trans w),.inl ⟨by simp only[gU,z.o,F.o,t],D⟩⟩
 have a0:G (gU C=some (((b:Int),c,M),a9)):=V (by simp only[gU,z.o,F.o,t]);have L:=V (K.o.trans w);obtain⟨a5,a6,a7,o⟩:=Z.o _ W L.o (by have:=n.o;show ¬a.heap.size=g;omega);have aO:=o 0;have aP:=o 1;have aR:=o 2;obtain⟨aB,aD,aF,m⟩:=jS (.int .i64 b) (.slice h c.length c.length) (.slice l M.length M.length) a5 a6 a7;have a1:=V (S.chg m (by have:=n.o;show ¬g=a.heap.size;omega) (by have:=n.o;show ¬q=a.heap.size;omega));have Y:G (J (·=g) a _):=V ((((J.refl _ a).alloc _).trans L.o).trans2 m (λy a8 e=>absurd e (Nat.ne_of_lt a8)));have N:G (E.heap.size<=U.heap.size):=V u.size;have a4:G (stR ((((W.setCell ⟨a.heap.size,0,none⟩ (.int .i64 b)).setCell ⟨a.heap.size,1,none⟩ (.slice h c.length c.length)).setCell ⟨a.heap.size,2,none⟩ (.slice l M.length M.length))) (λb=>a.heap.size<=b) ((b:Int),(h,c.length,c.length),(l,M.length,M.length)) ((b:Int),c,M)):=V
  ⟨D,⟨by show (-9223372036854775808:Int)<=(b:Int);omega,by show (b:Int)<=9223372036854775807;omega⟩,
   (((a3.o.chg w (λi f e=>by have:=n.o;have:=k.o;omega)).chg m (λi f e=>by have:=k.o;omega)).mono (λi _ f=>by have:=k.o;show a.heap.size<=i;omega)),
   ((Q.to.chg m (λi f e=>by have:=k.o;have:=N.o;omega)).mono (λi _ f=>by have:=k.o;have:=N.o;show a.heap.size<=i;omega))⟩
 have T:I.Byte (b:Int):=⟨by show (-9223372036854775808:Int)<=(b:Int);omega,by show (b:Int)<=9223372036854775807;omega⟩;have a2:=V T;clear w R S t o m Q T u;go_wp2;exact bodyPost_ret (v:=.agg #[.int .i64 b,.slice h c.length c.length,.slice l M.length M.length]) (by simp[results,results146,go_sem,aB,aD,aF]) D ⟨Y.o,.inr ⟨_,_,((b:Int),(h,c.length,c.length),(l,M.length,M.length)),a0.o,D,a2.o,a4.o,a1.o⟩⟩
theorem xo {a d:Nat}(b:World) (c:List Int) (e:GetSt a d b c):Calls prog 145 #[.pointer (some ⟨a,0,none⟩),.func (.func 146) #[.pointer (some ⟨a,0,none⟩)] #[]] b (dw a d gU stE stR b c):=by
 have g:=enters_of func146 M D;have h:=ff (pg:=a) (gb:=d) (f:=146) (fa:=#[.pointer (some ⟨a,0,none⟩)]) (E:=stE) (val:=aq) (δ:=StD) stR.good (λb c e=>xn b c e);exact (xf stR.good (cy a d) _ _ _ gU g h b c e).mono (λ_ _ i=>i.list stR.good)
section
variable {P:Program}{ops:Array Oper}{Q:Exit->Act->World->Prop}{md:Region.Mode}{S:World->Prop}{late:Nat->Bool}
theorem sN {i:Nat}{d:Oper}{o:Nat}{j:Array Bool}{b:Act}{e:World}(s:Region.ready md ops j=[i]) (y:ops[i]?=some d)
  (A:Region.wanted d (yielded ops b.tmps)=true) (n:FuncId) (m:Array Value) (l:Value->World->Prop) (z:(execOp b.eval d).run P e=.ok (.enter n m) e)
  (x:Calls P n m e (λg a=>(∃c,g=.returned c/\(late i=false->S a)/\l c a)\/∃f,g=.panicked f/\Q (.panic f) b a))
  (t:∀c a,(late i=false->S a)->l c a->∀k:Act->Prop,(∀b,yC P md ops Q S late o (j.setIfInBounds i true) b a->k b)->k (b.put d.dst c)) :
  yC P md ops Q S late (o+1) j b e:=by
 refine⟨λp=>(by rw[s]at p;cases p),λB r=>?_⟩;rw[s]at r;obtain rfl:B=i:=by simpa using r
 unfold Go.wpOp;simp only[y,A,if_true,Oper.wp,z,Oper.upon];refine .inl (x.mono λg a u=>?_);rcases u with ⟨c,h,q,w⟩|⟨f,h,v⟩
 .subst h
  exact⟨q,t c a q w _ iE⟩
 subst h
 exact v
end
def xC (b:Nat):Nat->List Value->World->World
 | _,[],a=>a
 | c,d :: e,a=>xC b (c+1) e (a.setCell ⟨b,c,none⟩ d)
theorem vY (c:Nat):∀(e:List Value) (b:Nat) (d:World),(∀a,a<e.length->(d.cell? ⟨c,b+a,none⟩).isSome=true) ->
  (∀a h,e[a]?=some h->(xC c b e d).cell? ⟨c,b+a,none⟩=some h)/\(∀a,a<b->(xC c b e d).cell? ⟨c,a,none⟩=d.cell? ⟨c,a,none⟩)/\J (·=c) d (xC c b e d)/\∀j,(xC c b e d).frozen? j=d.frozen? j
 | [],b,d,_=>⟨λa h i=>by simp at i,λ_ _=>rfl,J.refl _ _,λ_=>rfl⟩
 | g :: e,b,d,i=>by
  have m:∀a,a≠b->(d.setCell ⟨c,b,none⟩ g).cell? ⟨c,a,none⟩=d.cell? ⟨c,a,none⟩:=λa f=>Ay0 _ _ _ _ (by intro k;injection k with _ k;exact f k.symm)
  obtain⟨o,l,p,q⟩:=vY c e (b+1) (d.setCell ⟨c,b,none⟩ g) (λa f=>by
   rw[m _ H,show b+1+a=b+(a+1) by omega];exact i (a+1) sO)
  refine⟨λa h f=>?_,λa f=>(l a H).trans (m a H),(zA d c b g).trans p,λj=>(q j).trans (Az3 _ _ _ _)⟩;cases a with
  | zero =>
   simp at f
   subst f;have r:=l b H;rw[show (xC c b (g :: e) d)=xC c (b+1) e (d.setCell ⟨c,b,none⟩ g) from D];show (xC c (b+1) e (d.setCell ⟨c,b,none⟩ g)).cell? ⟨c,b,none⟩=some g;rw[r];obtain⟨s,n⟩:=Option.isSome_iff_exists.1 (i 0 sI);rw[Nat.add_zero]at n;exact Az9 _ _ _ n
  | succ a =>
   have:=o a h (by simpa using f);rw[show b+1+a=b+(a+1) by omega]at this;exact this
structure GetSb (pg gb bx:Nat) (w:World) (Z:List Int):Prop where
 g:GetSt pg gb w Z
 c:w.cell? ⟨bx,0,none⟩=some (.pointer (some ⟨pg,0,none⟩))
 ne:bx≠pg
theorem GetSb.lt {f d a:Nat}{b:World}{c:List Int}(e:GetSb f d a b c):a<b.heap.size:=Az8 _ _ e.c
theorem GetSb.chg {e c b:Nat}{a:Nat->Prop}{h w':World}{f:List Int}(d:GetSb e c b h f) (g:J a h w') (j:¬a e) (i:¬a c) (k:¬a b):GetSb e c b w' f:=⟨d.g.chg g j i,g.cellS d.c k,d.ne⟩
theorem GetSb.fresh {d c b:Nat}{e f:World}{a:List Int}(g:GetSb d c b e a) (h:Cf e f):GetSb d c b f a:=g.chg h iD iD iD
theorem GetSb.go {a b e:Nat}{g d:World}{h f:List Int}(c:GetSb a b e g h) (j:GetSt a b d f) (i:J (·=a) g d):GetSb a b e d f:=⟨j,i.cellS c.c c.ne,c.ne⟩
def Tb (d c b:Nat):World->Nat->Prop:=λ_ a=>a=d\/a=c\/a=b
def Sb (f:Type) (d c b:Nat):World->List f->List Int->Prop:=λe _ a=>GetSb d c b e a
theorem xp {δ:Type}(pg gb bx:Nat):Side pg gb (C0 pg) (Tb pg gb bx) (Sb δ pg gb bx) where
 get:=λh=>h.g
 pgC:=λ_=>rfl
 sub:=λh=>.inl h
 lt:=λ{w acc Z k} h ht=>by rcases ht with rfl|rfl|rfl;exact h.g.lt;exact h.g.lb;exact GetSb.lt h
 keep:=λh hc hs=>⟨GetSb.chg h hc (λe=>hs _ e (.inl D)) (λe=>hs _ e (.inr (.inl D))) (λe=>hs _ e (.inr (.inr D))),λ_ h=>h,λ_ h=>h⟩
 move:=λh hg hc=>⟨GetSb.go h hg hc,λ_ h=>h,λ_ h=>h⟩
theorem xq {k l:Type}{f g j:Nat}{n:FuncId}{o:Array Value}{s:Rdr l}{m:Elt k}{t:k->Value}{i:Rp k l}(B:Good i) (p:∀c d,GetSb f g j c d->Calls prog n o c (fQ f g s m t i c d)):bp n o s m t i (C0 f) (Tb f g j) (Sb l f g j):=by
 intro c N d b _;refine⟨λC=>(p c d b).mono ?_,λL F q=>(p c d b).mono ?_⟩
 .rintro v K ⟨h,⟨_,rfl⟩|⟨L,F,u,a,_⟩⟩
  .exact⟨D,h⟩
  rw[C]at a;cases a
 rintro v K ⟨h,⟨a,_⟩|⟨S,R,u,a,rfl,y,z,A⟩⟩
 .rw[q]at a;cases a
 rw[q]at a
 injection a with a;injection a with w x;subst w x;refine⟨u,D,y,B.mono z (λr _ e=>⟨e,λE=>?_⟩),GetSb.go b A h,h,λr e=>.inl e,λr e=>.inl e⟩;have O:=GetSt.lt (GetSb.g b);have P:=GetSt.lb (GetSb.g b);have Q:=GetSb.lt b;rcases E with rfl|rfl|rfl <;> omega
def ls2R:Rp (Int×Sl×Sl) (Int×List Int):=λw S x d=>x.1=d.1/\U8 d.1/\intE.InS w S x.2.1 d.2/\x.2.2=(none,0,0)
theorem ls2R.good:Good ls2R:=⟨λa c b=>⟨a.1,a.2.1,a.2.2.1.chg c b,a.2.2.2⟩,λa b=>⟨a.1,a.2.1,a.2.2.1.mono b,a.2.2.2⟩⟩
theorem xr {e l Y:Nat}(a:World) (z:List Int) (a0:GetSb e l Y a z):Calls prog 149 #[.pointer (some ⟨Y,0,none⟩)] a (fQ e l lsG lsE cx ls2R a z):=by
 have N:=V a0;clear a0;have aP:=mkfn;go_enter func149,ntmps149
 go_upto_region 1 with fail
 obtain⟨T,u⟩:=rK (a.alloc (.cells #[.int .u8 0,.slice none 0 0,.slice none 0 0] 67));rw[<-u];have a3:G (∀S q,J S T q->¬S a.heap.size->q.cell? ⟨a.heap.size,0,none⟩=some (.int .u8 0)/\q.cell? ⟨a.heap.size,1,none⟩=some (.slice none 0 0)/\q.cell? ⟨a.heap.size,2,none⟩=some (.slice none 0 0)/\∀F,q.frozen? ⟨a.heap.size,F,none⟩=false) :=
  V λS q c E=>by
   subst u;exact⟨c.cellS sI E,c.cellS sI E,c.cellS sI E,λF=>(c.frozen (p:=⟨a.heap.size,F,none⟩) sI E).trans (Az6 _ _ _ _)⟩
 have y:G (Cf a T):=V (by rw[u];exact (J.refl _ a).alloc _);have a9:G (T.heap.size=a.heap.size+1):=V (by rw[u];simp);clear u;refine rB 9 (·=e) (λR=>decide (8<=R)) ?_;intro x k i;have h:=V (N.o.fresh (y.o.trans k.o));have X:G (a.heap.size+1<=x.heap.size):=V (by have:=k.o.size;have:=a9.o;omega);have O:G (e<a.heap.size/\l<a.heap.size):=V ⟨N.o.g.lt,N.o.g.lb⟩;(refine lf 0 i.o (λ_ s=>s.cellS h.o.c h.o.ne) ?_);(refine lf 3 i.o (λ_ s=>s.cellS h.o.c h.o.ne) ?_);(refine lf 4 i.o (λ_ s=>s.cellS h.o.c h.o.ne) ?_);refine lq 5 i.o ?_;refine sN (i:=1) M D D 106 #[.pointer (some ⟨e,0,none⟩),.int .i64 3] (λo r=>∃(d:Nat) (v:List Int),numG 3 z=some ((d:Int),v)/\o=.int .i64 d/\d<=3/\GetSt e l r v/\J (·=e) x r) (by go_simp) ?_ ?_
 .refine (ho x h.o.g).mono ?_
  rintro B L ⟨c,⟨m,rfl⟩|⟨d,v,m,rfl,a1,f⟩⟩
  .exact .inr ⟨_,D,D,(y.o.trans k.o).any.trans c,.inl ⟨by simp only[lsG,m],D⟩⟩
  exact .inl ⟨_,D,λ_=>c,d,v,m,D,a1,f,c⟩
 rintro o L-⟨d,v,m,rfl,a1,f,c⟩ P t;(try go_simp)
 refine t _ ?_;clear t P;obtain⟨W,j,a5⟩:=rZ m c f;clear m c f i;have i:G (J (·=e) x L):=j;have aR:IntKind.u8.wrap (d:Int)=(d:Int):=by rw[IntKind.wrap_u8];omega
 refine lq 2 i.o ?_;refine sN (i:=6) M D D 147 #[.pointer (some ⟨e,0,none⟩),.func (.func 139) #[.pointer (some ⟨e,0,none⟩)] #[]] (λo r=>∃(b w:List Int) (g:Option Addr),lsG z=some (((d:Int),b),w)/\o=.slice g b.length b.length/\intE.InS r (λd=>L.heap.size<=d) (g,b.length,b.length) b/\GetSt e l r w/\J (·=e) x r) (by go_simp) ?_ ?_
 .refine (dx L _ a5.o).mono ?_
  rintro B U ⟨c,⟨n,rfl⟩|⟨b,w,g,n,rfl,C,f,aO⟩⟩
  .exact .inr ⟨_,D,D,(y.o.trans k.o).any.trans (j.o.trans c),.inl ⟨by simp only[lsG,W.o,n],D⟩⟩
  exact .inl ⟨_,D,λ_=>j.o.trans c,b,w,g,by simp only[lsG,W.o,n],D,C.to,f,j.o.trans c⟩
 rintro o U-⟨b,w,g,n,rfl,C,f,c⟩ P t;(try go_simp)
 refine t _ ?_;clear t P;refine lt 7 (λ_=>c) ?_;obtain⟨aB,aD,aF,A⟩:=a3.o (·=e) U (k.o.any.trans c) (by have:=O.o;show ¬a.heap.size=e;omega);have aT:=A 0;have aV:=A 1;have aX:=A 2;obtain⟨aI,aK,aM,K⟩:=jS (.int .u8 d) (.slice g b.length b.length) (.slice none 0 0) aB aD aF;have a6:=V (f.chg K (by have:=O.o;show ¬e=a.heap.size;omega) (by have:=O.o;show ¬l=a.heap.size;omega));have a2:G (J (·=e) a _):=V (((y.o.trans k.o).any.trans c).trans2 K (λF aH B=>absurd B (Nat.ne_of_lt aH)));have Q:U8 (d:Int):=⟨H,H⟩;have a8:G (ls2R ((((U.setCell ⟨a.heap.size,0,none⟩ (.int .u8 d)).setCell ⟨a.heap.size,1,none⟩ (.slice g b.length b.length)).setCell ⟨a.heap.size,2,none⟩ (.slice none 0 0))) (λd=>a.heap.size<=d) ((d:Int),(g,b.length,b.length),(none,0,0)) ((d:Int),b)):=V
  ⟨D,Q,(C.chg K (λZ f B=>by have:=j.o.size;have:=X.o;omega)).mono (λZ _ f=>by have:=j.o.size;have:=X.o;show a.heap.size<=Z;omega),D⟩
 have a4:=V n;have a7:=V Q;clear f c C n A K Q;refine ld 8 ?_;refine zQ M ?_ _;go_wp2;exact bodyPost_ret (v:=.agg #[.int .u8 d,.slice g b.length b.length,.slice none 0 0]) (by simp[results,results149,go_sem,aI,aK,aM]) D ⟨a2.o,.inr ⟨_,_,((d:Int),(g,b.length,b.length),(none,0,0)),a4.o,D,a7.o,a8.o,a6.o⟩⟩
structure TokSt (pg gb bx tb:Nat) (w0:World) (w:World) (acc:List (Str×Bool)) (Z:List Int):Prop where
 g:GetSb pg gb bx w Z
 lt:pg<tb/\gb<tb/\bx<tb
 f:∃v,Fld mL tb 2 w v (acc.map (·.2))
 o:∀j u,j≠2->w0.cell? ⟨tb,j,none⟩=some u->w.cell? ⟨tb,j,none⟩=some u
 z:∀j,w.frozen? ⟨tb,j,none⟩=false
def Tt (f e d b:Nat):World->Nat->Prop:=λg a=>a=f\/a=e\/a=d\/a=b\/∃c,g.cell? ⟨b,2,none⟩=some c/\c.ownBlock=some a
def Ct (d b:Nat):World->Nat->Prop:=λe a=>a=d\/a=b\/∃c,e.cell? ⟨b,2,none⟩=some c/\c.ownBlock=some a
theorem xs (pg gb bx tb:Nat) (w0:World):Side pg gb (Ct pg tb) (Tt pg gb bx tb) (TokSt pg gb bx tb w0) where
 get:=λh=>h.g.g
 pgC:=λ_=>.inl D
 sub:=λh=>by
  rcases h with h|h|h
  .exact .inl h
  .exact .inr (.inr (.inr (.inl h)))
  exact .inr (.inr (.inr (.inr h)))
 lt:=λ{w acc Z k} h ht=>by
  obtain⟨v,hv⟩:=h.f;rcases ht with rfl|rfl|rfl|rfl|⟨u,hu,hk⟩
  .exact h.g.g.lt
  .exact h.g.g.lb
  .exact h.g.lt
  .exact hv.lt
  rw[hv.c]at hu
  obtain rfl:=Az2 hu;exact (hv.own.blk hk).2
 keep:=λ{S w w' acc Z} h hc hs=>by
  obtain⟨v,hv⟩:=h.f;have hc2:w'.cell? ⟨tb,2,none⟩=some v:=hc.cellS hv.c (λe=>hs _ e (.inr (.inr (.inr (.inl D)))));have htb:¬S tb:=λe=>hs _ e (.inr (.inr (.inr (.inl D))))
  refine⟨⟨h.g.chg hc (λe=>hs _ e (.inl D)) (λe=>hs _ e (.inr (.inl D))) (λe=>hs _ e (.inr (.inr (.inl D)))),h.lt,⟨v,hc2,(hc.frozen (p:=⟨tb,2,none⟩) hv.lt htb).trans hv.z,hv.own.chgB hc (λg hg e=>hs _ e (.inr (.inr (.inr (.inr ⟨v,hv.c,hg⟩)))))⟩,λj u hj hu=>hc.cellS (h.o j u hj hu) htb,λj=>(hc.frozen (p:=⟨tb,j,none⟩) hv.lt htb).trans (h.z j)⟩,λk hk=>?_,λk hk=>?_⟩
  .rcases hk with h1|h1|h1|h1|⟨u,hu,hk⟩
   .exact .inl h1
   .exact .inr (.inl h1)
   .exact .inr (.inr (.inl h1))
   .exact .inr (.inr (.inr (.inl h1)))
   rw[hc2]at hu
   obtain rfl:=Az2 hu;exact .inr (.inr (.inr (.inr ⟨v,hv.c,hk⟩)))
  rcases hk with h1|h1|⟨u,hu,hk⟩
  .exact .inl h1
  .exact .inr (.inl h1)
  rw[hc2]at hu
  obtain rfl:=Az2 hu;exact .inr (.inr ⟨v,hv.c,hk⟩)
 move:=λ{w w' acc Z r} h hg hc=>by
  obtain⟨v,hv⟩:=h.f;have htb:¬tb=pg:=by have:=h.lt;omega
  have hc2:w'.cell? ⟨tb,2,none⟩=some v:=hc.cellS hv.c htb;refine⟨⟨h.g.go hg hc,h.lt,⟨v,hc2,(hc.frozen (p:=⟨tb,2,none⟩) hv.lt htb).trans hv.z,hv.own.chg hc (λg hg _ e=>by have:=h.lt;omega)⟩,λj u hj hu=>hc.cellS (h.o j u hj hu) htb,λj=>(hc.frozen (p:=⟨tb,j,none⟩) hv.lt htb).trans (h.z j)⟩,λk hk=>?_,λk hk=>?_⟩
  .rcases hk with h1|h1|h1|h1|⟨u,hu,hk⟩
   .exact .inl h1
   .exact .inr (.inl h1)
   .exact .inr (.inr (.inl h1))
   .exact .inr (.inr (.inr (.inl h1)))
   rw[hc2]at hu
   obtain rfl:=Az2 hu;exact .inr (.inr (.inr (.inr ⟨v,hv.c,hk⟩)))
  rcases hk with h1|h1|⟨u,hu,hk⟩
  .exact .inl h1
  .exact .inr (.inl h1)
  rw[hc2]at hu
  obtain rfl:=Az2 hu;exact .inr (.inr ⟨v,hv.c,hk⟩)
def tokR:Rp Str (Str×Bool):=λ_ _ x d=>x=d.1
theorem tokR.good:Good tokR:=⟨λh _ _=>h,λh _=>h⟩
theorem TokSt.fin {o:List (Str×Bool)}{s:Str}(j:TokSt a b c d w v o X) (n:Fld mL d 2 v A (o.map (·.2))) (K:GetSt a b u Y) (l:J (·=a) v u)
  (Q:mL.Own t (d+1) B (o.map (·.2)++[N])) (q:J (λf=>A.ownBlock=some f) u t) (P:B.ownBlock=A.ownBlock\/∃f,B.ownBlock=some f/\u.heap.size<=f) :
  (t.cell? ⟨d,2,none⟩=some A/\t.frozen? ⟨d,2,none⟩=false)/\TokSt a b c d w (t.setCell ⟨d,2,none⟩ B) (o++[(s,N)]) Y/\J (Ct a d v) v (t.setCell ⟨d,2,none⟩ B) /\
   (∀f,Tt a b c d (t.setCell ⟨d,2,none⟩ B) f->Tt a b c d v f\/v.heap.size<=f)/\∀f,Ct a d (t.setCell ⟨d,2,none⟩ B) f->Ct a d v f\/v.heap.size<=f:=by
 have U:=j.lt;have m:∀f,A.ownBlock=some f->d+1<=f:=λf h=>(n.own.blk h).1
 have E:=l.cellS n.c (show ¬d=a by omega);have F:=q.cellS E (λe=>by have:=m _ e;simp only at this;omega);have R:d<u.heap.size:=Az8 _ _ E;have C:∀i,t.frozen? ⟨d,i,none⟩=false:=λi =>
  (q.frozen (p:=⟨d,i,none⟩) R (λe=>by have:=m _ e;simp only at this;omega)).trans ((l.frozen (p:=⟨d,i,none⟩) n.lt (show ¬d=a by omega)).trans (j.z i))
 have O:=zA t d 2 B;have r:(t.setCell ⟨d,2,none⟩ B).cell? ⟨d,2,none⟩=some B:=Az9 _ _ _ F;have x:J (λf=>f=d\/A.ownBlock=some f) u (t.setCell ⟨d,2,none⟩ B):=(q.mono (λf _ e=>.inr e)).trans (O.mono (λf _ e=>.inl e));have L:∀f,B.ownBlock=some f->A.ownBlock=some f\/v.heap.size<=f:=λf h=>by
  rcases P with e|⟨i,e,y⟩
  .exact .inl (by rw[<-e];exact h)
  rw[e]at h
  injection h with h;exact .inr (by have:=l.size;omega)
 refine⟨⟨F,C 2⟩,⟨⟨K.chg x (λe=>by rcases e with e|e;omega;have:=m _ e;omega) (λe=>by rcases e with e|e;omega;have:=m _ e;omega),x.cellS (l.cellS j.g.c j.g.ne) (λe=>by rcases e with e|e;(simp only at e;omega);have:=m _ e;simp only at this;omega),j.g.ne⟩,j.lt,⟨B,r,(Az3 _ _ _ _).trans (C 2),?_⟩,λi z y k=>?_,λi=>(Az3 _ _ _ _).trans (C i)⟩,(l.mono (λf _ e=>.inl e)).trans2 (x.mono (T:=Ct a d v) (λf _ e=>?_)) (λf _ e=>e),λf h=>?_,λf h=>?_⟩
 .rw[List.map_append]
  exact Q.chg O (λS K _ e=>H)
 .rw[Ay0 _ _ _ _ (by intro e;injection e with _ e;exact y e.symm)]
  exact q.cellS (l.cellS (j.o i z y k) (show ¬d=a by omega)) (λe=>by have:=m _ e;simp only at this;omega)
 .rcases e with e|e
  .exact .inr (.inl e)
  exact .inr (.inr ⟨A,n.c,e⟩)
 .rcases h with g|g|g|g|⟨z,k,h⟩
  .exact .inl (.inl g)
  .exact .inl (.inr (.inl g))
  .exact .inl (.inr (.inr (.inl g)))
  .exact .inl (.inr (.inr (.inr (.inl g))))
  rw[r]at k
  obtain rfl:=Az2 k;rcases L f h with g|g
  .exact .inl (.inr (.inr (.inr (.inr ⟨A,n.c,g⟩))))
  exact .inr g
 rcases h with g|g|⟨z,k,h⟩
 .exact .inl (.inl g)
 .exact .inl (.inr (.inl g))
 rw[r]at k
 obtain rfl:=Az2 k;rcases L f h with g|g
 .exact .inl (.inr (.inr ⟨A,n.c,g⟩))
 exact .inr g
def nk (b g f c:Nat) (n d:World) (m:List (Str×Bool)) (i:List Int) (k:Ending) (e:World):Prop :=
 J (Ct b c d) d e/\((tokG i=none/\k=sW)\/∃h j l,tokG i=some ((h,j),l)/\k=.returned (.string h)/\TokSt b g f c n e (m++[(h,j)]) l/\(∀a,Tt b g f c e a->Tt b g f c d a\/d.heap.size<=a)/\∀a,Ct b c e a->Ct b c d a\/d.heap.size<=a)
theorem nm (h:World) (k:List (Str×Bool)) (y:List Int) (i:TokSt a b c d w h k y) (a7:k.length<=16777215):Calls prog 105 #[.pointer (some ⟨c,0,none⟩),.pointer (some ⟨d,0,none⟩)] h (nk a b c d w h k y):=by
 have q:=V i;have bD:=i.g.c;have aH:G ((k.map (·.2)).length<=16777215):=V (by simpa using a7);clear i a7;go_enter func105,ntmps105
 go_wp2_with fail
 refine (nj h y q.o.g.g).mono ?_;rintro s X ⟨g,⟨l,rfl⟩|⟨_,bF,A,l,rfl,-,rfl,j⟩⟩
 .exact⟨D,g.mono (λe _ s=>.inl s),.inl ⟨by simp only[tokG,l],D⟩⟩
 simp only[bJ];obtain⟨Z,aK,aP⟩:=rZ l g j;clear l g j bD;go_upto_region 2 with fail
 obtain⟨W,S⟩:=q.o.f;obtain⟨L,O,N,rfl⟩:=S.own.shape3;have E:=V S;clear S;have a1:=V q.o.lt;obtain⟨P,T⟩:=rM X.drew;have a0:G (Cf X P):=V (by rw[<-T];exact (J.refl _ _).drew);have aT:=V (aP.o.fresh a0.o);have B:G (J (·=a) h P):=V (aK.o.trans a0.o.any);refine zC (λbH=>J (·=a) h bH) (λU=>decide (6<=U)) M ?_;show yC _ _ _ _ _ _ 9 (Array.replicate 9 false) _ X.drew;rw[T];clear T;have r:G (J (·=a) h P):=B;refine lq 0 r.o ?_;(refine lq 1 r.o ?_ (hr:=by intro bM R;have bK:=R.cellS E.o.c (by have:=a1.o;show ¬d=a;omega);go_simp;try with_reducible rfl));(refine lf 2 r.o (λ_ R=>R.cellS q.o.g.c q.o.g.ne) ?_);refine sN (i:=3) M D D 106 #[.pointer (some ⟨a,0,none⟩),.int .i64 1] (λW aD=>∃(e:Nat) (n:List Int),numG 1 bF=some ((e:Int),n)/\W=.int .i64 e/\e<=1/\GetSt a b aD n/\J (·=a) h aD) (by go_simp) ?_ ?_
 .refine (ho P aT.o).mono ?_
  rintro s p ⟨g,⟨m,rfl⟩|⟨e,n,m,rfl,a6,j⟩⟩
  .exact .inr ⟨_,D,D,(B.o.trans g).mono (λe _ s=>.inl s),.inl ⟨by simp only[tokG,Z.o,m],D⟩⟩
  exact .inl ⟨_,D,λ_=>B.o.trans g,e,n,m,D,a6,j,B.o.trans g⟩
 rintro W p-⟨e,n,m,rfl,a6,j,g⟩ Q z;(try go_simp)
 refine z _ ?_;clear z Q;obtain⟨aR,x,aF⟩:=rZ j g m;clear m j g r;have r:G (J (·=a) h p):=x;obtain⟨f,F⟩:=rM (decide ((e:Int)=1));have aM:G (tokG y=some ((A,f),n)):=V (by simp only[tokG,Z.o,aF.o,F]);have b2:((e:Int) == 1)=f:=F;have a4:(e == 1)=f:=by rw[<-F];rcases (by omega:e=0\/e=1) with rfl|rfl <;> rfl
 have b3:decide (e=1)=f:=a4;clear F;refine lq 4 r.o ?_;clear b2 a4 b3;refine lt 5 (λ_=>x.o.alloc _) ?_;obtain⟨u,K⟩:=rK (p.alloc (.cells #[.bool f] 4));have C:G (Cf p u):=V (by rw[K];exact rT);have aX:G (Src prog mL.sz mL.sl (.slice (some ⟨p.heap.size,0,none⟩) 1 1) 1 (mL.encs [f]) u):=V (by rw[K];exact mL.srcLit (Y:=[f]) 1 (λ_ _=>trivial));rw[<-K];clear K;have aV:G (mL.Own u (d+1) (.slice L O N) (k.map (·.2))):=V ((E.o.own.chg x.o (λbI j _ s=>by have:=a1.o;omega)).chg C.o (λ_ _ _ i=>i));have aI:G (d+1<=u.heap.size):=V (by have:=E.o.lt;have:=x.o.size;have:=C.o.size;omega);refine yQ (i:=6) M D D (.tmp 7) (.tmp 11) 23 23 D (.slice L O N) (.slice (some ⟨p.heap.size,0,none⟩) 1 1) D D (λo v=>mL.Own v (d+1) o (k.map (·.2)++[f])/\J (λe=>(Value.slice L O N).ownBlock=some e) u v/\(o.ownBlock=(Value.slice L O N).ownBlock\/o.ownBlock=some u.heap.size)/\∃aY b7 aZ,o=.slice aY b7 aZ) ?_ ?_
 .obtain⟨o,v,b4,l,m,⟨b0,b1⟩,-⟩:=aV.o.append aI.o 23 (.slice (some ⟨p.heap.size,0,none⟩) 1 1) [f] aX.o (λ_ _=>trivial) (by have:=aH.o;simp at this ⊢;omega) 23
  exact⟨o,v,b4,(λi=>absurd i dE),l,b0,b1,l.shape3⟩
 rintro o v-⟨a9,aB,t,b8,bB,b9,rfl⟩ Q z;obtain⟨⟨b5,b6⟩,a8,a5,a3,a2⟩:=TokSt.fin (s:=A) q.o E.o (aR.o.fresh C.o) (x.o.trans C.o.any) a9 aB (by rcases t with t|t;exact .inl t;exact .inr ⟨_,t,Ay1 _⟩);have aO:G (nk a b c d w h k y (.returned (.string A)) (v.setCell ⟨d,2,none⟩ (.slice b8 bB b9))):=V ⟨a5,.inr ⟨A,f,n,aM.o,D,a8,a3,a2⟩⟩;clear a8 a5 a3 a2 a9 aB t;(try go_simp)
 refine z _ ?_;clear z Q;refine lt 7 (λi=>absurd i dE) ?_;refine ld 8 ?_;refine zQ M ?_ _;clear b5 b6;go_wp2;go_ret
 exact aO.o
theorem xt (f:World) (g:List Int) (u:TokSt a b c d f f [] g):Calls prog 103 #[.pointer (some ⟨a,0,none⟩),.func (.func 105) #[] #[.pointer (some ⟨c,0,none⟩),.pointer (some ⟨d,0,none⟩)]] f (cQ tokG strE tokR (Ct a d) (Tt a b c d) (TokSt a b c d f) f g):=by
 have t:=enters_of func105 M D;refine nh tokR.good (xs a b c d f) _ #[] #[.pointer (some ⟨c,0,none⟩),.pointer (some ⟨d,0,none⟩)] tokG t ?_ f g u;rw[Array.empty_append];intro o j i m k;refine⟨λy=>(nm o j i m k).mono ?_,λC z l=>(nm o j i m k).mono ?_⟩
 .rintro q A ⟨h,⟨_,rfl⟩|⟨n,p,z,e,_⟩⟩
  .exact⟨D,h⟩
  rw[y]at e;cases e
 rintro q A ⟨h,⟨e,_⟩|⟨n,p,B,e,rfl,v,w,x⟩⟩
 .rw[l]at e;cases e
 rw[l]at e
 injection e with e;injection e with r s;subst r s;exact⟨n,D,trivial,D,v,h,w,x⟩
theorem zL.get3 {k n:Type}{h:Elt k}{o:Rp k n}{l:List n}(s:zL h o w S (F,a,b) l) (C:h.sz=3) {e:Nat}(B:e<l.length) {f:k->List Value}(A:h.enc=f) :
  ∃(g:k) (i:n) (c d:Nat),l[e]?=some i/\o w S g i/\F=some ⟨c,d,none⟩/\S c/\c<w.heap.size/\h.ok g/\∀u0 u1 u2,f g=[u0,u1,u2]->w.cell? ⟨c,d+e * 3,none⟩=some u0/\w.cell? ⟨c,d+e * 3+1,none⟩=some u1/\w.cell? ⟨c,d+e * 3+2,none⟩=some u2:=by
 obtain⟨g,i,c,d,t,u,v,x,y,z,m⟩:=s.get B;refine⟨g,i,c,d,t,u,v,x,y,z,λu0 u1 u2 j=>?_⟩;rw[<-A]at j;have p:=m 0 u0 (by rw[j];rfl);have q:=m 1 u1 (by rw[j];rfl);have r:=m 2 u2 (by rw[j];rfl);rw[C]at p q r;exact⟨by simpa using p,by rw[Au0];exact q,by rw[Au0];exact r⟩
theorem Elt.Own.clip {h:Type}{e:Elt h}{b:List h}(j:e.Own w a A b):∃f g,A=.slice f b.length g/\b.length<=g/\e.Own w a (.slice f b.length b.length) b:=by
 rcases j with ⟨rfl,rfl⟩|⟨i,r,rfl,k,c,d,l⟩
 .exact⟨none,0,D,Ay1 _,.nil _ _⟩
 refine⟨_,_,D,d.length_le,.inr ⟨i,b,D,k,⟨λo p m=>?_,c.z,c.lt,λq n=>c.ok q (d.subset n)⟩,Aw8 _,Ay2 d.length_le l⟩⟩
 have:=(c.at' d).c o p m;rwa [Ax]at this
theorem mA:∀(X:List StD) (s:StD) (k:Nat),yN k (X++[s])=yN k X++(if 0<s.2.2.length then [((k+X.length:Nat):Int)] else [])
 | [],s,k=>by
  simp only[Av,yN,Aw6,Nat.add_zero]
 | x :: X,s,k=>by
  have h:=mA X s (k+1);rw[At0];simp only[yN,Ax2];rw[h,show k+1+X.length=k+(X.length+1) by omega]
  split <;> simp
theorem vS:∀(X:List StD) (k:Nat),(yN k X).length<=X.length
 | [],k=>Ay1 _
 | x :: X,k=>by
  have h:=vS X (k+1);simp only[yN]
  split <;> simp <;> omega
theorem nn {b:List StD}{d:StD}(c:b[a]?=some d):yN 0 (b.take (a+1))=yN 0 (b.take a)++(if 0<d.2.2.length then [(a:Int)] else []):=by
 have e:=(Az0.1 c).1;rw[Ay3,c,Option.toList_some,mA,Ay8,Nat.min_eq_left H,Ax]
structure NLp (b:Nat) (w4 wr:World) (s0 s1 s2 s3 v:Value) (X:List Int):Prop where
 c0:wr.cell? ⟨b,0,none⟩=some s0
 c1:wr.cell? ⟨b,1,none⟩=some s1
 c2:wr.cell? ⟨b,2,none⟩=some s2
 c3:wr.cell? ⟨b,3,none⟩=some s3
 f:Fld intE b 4 wr v X
 chg:J (λk=>b<=k) w4 wr
theorem NLp.fresh {e wr d:World}(b:NLp a e wr A B C E Z X) (c:Cf wr d):NLp a e d A B C E Z X :=
 ⟨c.cellS b.c0 iD,c.cellS b.c1 iD,c.cellS b.c2 iD,c.cellS b.c3 iD,b.f.chg c (λ_ _ _ b=>b),b.chg.trans c.any⟩
theorem NLp.step {k wr c:World}{f g h i j e:Value}(b:NLp a k wr f g h i j X) (p:intE.Own c (a+1) e Y) (o:J (λq=>a+1<=q) wr c) :
  (c.cell? ⟨a,4,none⟩=some j/\c.frozen? ⟨a,4,none⟩=false)/\NLp a k (c.setCell ⟨a,4,none⟩ e) f g h i e Y:=by
 obtain⟨l,m,n,d⟩:=b.f.step p o;exact⟨l,⟨d 0 _ dE b.c0,d 1 _ dE b.c1,d 2 _ dE b.c2,d 3 _ dE b.c3,m,b.chg.trans n⟩⟩
def nr (f i:Nat) (h:World) (c:List Int) (d:Ending) (b:World):Prop :=
 J (·=f) h b/\((netG c=none/\d=sW)\/∃a g e,netG c=some (a,g)/\d=.returned (netV e)/\NetIn b (λj=>h.heap.size<=j) e a/\GetSt f i b g/\a.d.length<=16777215)
theorem xu (e:World) (Q:List Int) (a1:GetSt a b e Q):Calls prog 108 #[.pointer (some ⟨a,0,none⟩)] e (nr a b e Q):=by
 have aD:=V a1;clear a1;have eM:=mkfn;go_enter func108,ntmps108
 go_upto_region 1 with fail
 obtain⟨L,R⟩:=rK (e.alloc (.cells #[.slice none 0 0,.slice none 0 0,.slice none 0 0,.slice none 0 0,.slice none 0 0] 31));rw[<-R];have d6:G (∀aO a8,J aO L a8->¬aO e.heap.size->∀n,n<5->a8.cell? ⟨e.heap.size,n,none⟩=some (.slice none 0 0)/\a8.frozen? ⟨e.heap.size,n,none⟩=false) :=
  V λaO a8 c6 x n cI=>by
   subst R;refine⟨c6.cellS (p:=⟨e.heap.size,n,none⟩) ?_ x,(c6.frozen (p:=⟨e.heap.size,n,none⟩) sI x).trans (Az6 _ _ _ _)⟩;rw[Az5];rcases (by omega:n=0\/n=1\/n=2\/n=3\/n=4) with rfl|rfl|rfl|rfl|rfl <;> rfl
 have C:G (Cf e L):=V (by rw[R];exact (J.refl _ e).alloc _);have aM:G (L.heap.size=e.heap.size+1):=V (by rw[R];simp);have aH:G (a<e.heap.size/\b<e.heap.size):=V ⟨aD.o.lt,aD.o.lb⟩;clear R;go_wp2_with fail
 refine (xo L Q (aD.o.fresh C.o)).mono ?_;rintro g b2 ⟨aT,⟨u,rfl⟩|⟨c,f5,w,u,rfl,c1,cB,cM⟩⟩
 .exact⟨rfl,C.o.any.trans aT,.inl ⟨by simp only[netG,u],rfl⟩⟩
 obtain⟨U,N,bD,Z⟩:=sB u aT c1 cM;clear u aT c1 cM;go_wp2_with fail
 refine (dx b2 _ cB).mono ?_;rintro g b3 ⟨aV,⟨K,rfl⟩|⟨h,f7,r,K,rfl,c2,cD,-⟩⟩
 .exact⟨rfl,C.o.any.trans (N.o.trans aV),.inl ⟨by simp only[netG,U.o,K],rfl⟩⟩
 obtain⟨aB,O,bF⟩:=rZ K aV c2.to;clear K aV c2 cB;go_wp2_with fail
 refine (dx b3 _ cD).mono ?_;rintro g b4 ⟨aX,⟨a2,rfl⟩|⟨i,f9,s,a2,rfl,c3,cF,-⟩⟩
 .exact⟨rfl,C.o.any.trans (N.o.trans (O.o.trans aX)),.inl ⟨by simp only[netG,U.o,aB.o,a2],rfl⟩⟩
 obtain⟨b7,P,bH⟩:=rZ a2 aX c3.to;clear a2 aX c3 cD;go_wp2_with fail
 refine (dx b4 _ cF).mono ?_;rintro g k ⟨z,⟨a3,rfl⟩|⟨j,e6,t,a3,rfl,c4,cH,-⟩⟩
 .exact⟨rfl,C.o.any.trans (N.o.trans (O.o.trans (P.o.trans z))),.inl ⟨by simp only[netG,U.o,aB.o,b7.o,a3],rfl⟩⟩
 have d7:G (netG Q=some (⟨c,h,i,j,vA c⟩,e6)):=V (by simp only[netG,U.o,aB.o,b7.o,a3]);have d4:G (J (·=a) L k):=V (N.o.trans (O.o.trans (P.o.trans z)));have aK:G (e.heap.size+1<=b2.heap.size/\b2.heap.size<=b3.heap.size/\b3.heap.size<=b4.heap.size/\b4.heap.size<=k.heap.size):=V ⟨by have:=N.o.size;have:=aM.o;omega,O.o.size,P.o.size,z.size⟩;have bK:G (NetIn k (λd=>e.heap.size+1<=d/\d<k.heap.size) ⟨(w,c.length,c.length),(r,h.length,h.length),(s,i.length,i.length),(t,j.length,j.length),(none,0,0)⟩ ⟨c,h,i,j,[]⟩):=V (by
  have e0:=aH.o;have x:=aK.o;have e2:=aM.o;refine⟨(zL.good stR.good).mono ((zL.good stR.good).chg bD.o (O.o.trans (P.o.trans z)) (λl m g=>H)) (λl m x=>⟨H,m⟩),((bF.o.chg (P.o.trans z) (λl m g=>H)).mono (λl m x=>⟨H,m⟩)),((bH.o.chg z (λl m g=>H)).mono (λl m x=>⟨H,m⟩)),(c4.to.mono (λl m x=>⟨H,m⟩)),.nil _ _ _⟩)
 have d8:=V cH;clear z a3 c4 cF cH bD bF bH;obtain⟨e7,aZ⟩:=rK (k.alloc (.cells #[.slice w c.length c.length,.slice r h.length h.length,.slice s i.length i.length,.slice t j.length j.length,.slice none 0 0] 31));have aF:G (NLp k.heap.size k e7 (.slice w c.length c.length) (.slice r h.length h.length) (.slice s i.length i.length) (.slice t j.length j.length) (.slice none 0 0) []):=V (by
  rw[aZ];refine⟨?_,?_,?_,?_,⟨?_,Az6 _ _ _ _,.nil _ _⟩,(J.refl _ k).alloc _⟩ <;> · rw[Az5];rfl)
 have e5:=aF.o.c0;go_upto_region 2 with fail
 rw[<-aZ];clear aZ;go_wp2;clear e5
 go_loopw [26] (λb0 wr=>∃(d:Nat) (b1:Value),d<=c.length/\b0=.int .i64 d/\NLp k.heap.size k wr (.slice w c.length c.length) (.slice r h.length h.length) (.slice s i.length i.length) (.slice t j.length j.length) b1 (yN 0 (c.take d))) (λb0 _=>c.length-(intOf b0).toNat)
 .exact⟨0,_,H,rfl,aF.o⟩
 clear aF;obtain⟨d,b1,cK,rfl,v⟩:=hrel;obtain⟨q,a7,T,rfl⟩:=v.f.own.shape3;have E:=V v;by_cases dZ:d<c.length
 .have dK:=rO d c.length
  have eK:d<16777215:=(by have:=Z.o;omega);have d9:=V ((zL.good stR.good).chg bK.o.st v.chg (λl m g=>H));clear v;obtain⟨b5,dO,l,e4,c9,e3,a4,eH,eI,-,dU⟩:=d9.o.get3 (f:=hJ) rfl dZ rfl;obtain⟨d3,⟨bX,c0,bZ⟩,⟨bT,eD,bV⟩⟩:=b5;obtain⟨eF,eB,F⟩:=dO;obtain⟨fH,d2,b6⟩:=dU _ _ _ rfl;obtain⟨-,-,-,cA⟩:=e3;obtain⟨rfl,dX⟩:=cA.len;simp only at dX b6;subst a4;unfold slV at d2 b6;simp only at d2 b6;have X:G (yN 0 (c.take (d+1))=yN 0 (c.take d)++(if 0<F.length then [(d:Int)] else [])):=V (nn c9);have y:G (NLp k.heap.size k (wr.alloc (.cells #[.int .i64 d3,.slice bX c0 bZ,.slice bT F.length bV] 74)) (.slice (some ⟨l,e4,none⟩) c.length c.length) (.slice r h.length h.length) (.slice s i.length i.length) (.slice t j.length j.length) (.slice q a7 T) (yN 0 (c.take d))):=V (E.o.fresh (rT));clear c9 cA E;by_cases a5:0<F.length
  .have dI:decide (0<F.length)=true:=decide_eq_true a5
   rw[if_pos a5]at X;have dH:G ((yN 0 (c.take d)).length<=16777215):=V (by have:=vS (c.take d) 0;rw[Ay8]at this;have:=Z.o;omega);have bO:G (∀b5∈[(d:Int)],intE.ok b5):=V (λaP a4=>by rw[Ay]at a4;rw[a4];have:=Z.o;exact⟨H,H⟩);obtain⟨B,a6⟩:=rK (wr.alloc (.cells #[.int .i64 d3,.slice bX c0 bZ,.slice bT F.length bV] 74));have dD:G (Src prog intE.sz intE.sl (.slice (some ⟨B.heap.size,0,none⟩) 1 1) 1 (intE.encs [(d:Int)]) (B.alloc (.cells #[.int .i64 d] 3))):=V (intE.srcLit (Y:=[(d:Int)]) 1 bO.o);have f3:B.cell? ⟨k.heap.size,4,none⟩=some (.slice q a7 T):=(by rw[a6];exact y.o.f.c);rw[<-a6]at y;have dF:G (k.heap.size+1<=B.heap.size):=V (by have:=y.o.f.lt;omega);go_upto_region 6 with fail
   rw[<-a6];clear a6;go_wp2_with (at_builtin;refine Elt.wpList_append intE rfl _ _ 25 25 rfl rfl (k.heap.size+1) (.slice q a7 T) (yN 0 (c.take d)) [(d:Int)] (.slice (some ⟨B.heap.size,0,none⟩) 1 1) rfl rfl (y.o.f.own.chg ((FR _).alloc _) (λ_ _ _ a1=>a1)) (by have:=dF.o;simp;omega) dD.o bO.o (by have:=dH.o;simp;omega) ?_;intro fF a9 bM d5 dB;clear dB;obtain⟨eP,eT,eR,rfl⟩:=bM.o.shape3;obtain⟨⟨A,eO⟩,cO⟩:=y.o.step bM.o (((J.refl _ B).alloc _).trans d5.o);have bI:=V cO;clear cO)
   rw[<-X.o]at bI;go_roundw
   .exact⟨d+1,_,H,GN,bI.o⟩
   simp[intOf];omega
  have dI:decide (0<F.length)=false:=decide_eq_false a5
  rw[if_neg a5,Av3]at X;rw[<-X.o]at y;go_wp2;go_roundw
  .exact⟨d+1,_,H,GN,y.o⟩
  simp[intOf];omega
 obtain rfl:d=c.length:=H
 have dK:=rP c.length;rw[Ay7]at E v;obtain⟨e9,dM,e1,c5,c8⟩:∃aP bP,Value.slice q a7 T=.slice aP (yN 0 c).length bP/\(yN 0 c).length<=bP/\intE.Own wr (k.heap.size+1) (.slice aP (yN 0 c).length (yN 0 c).length) (yN 0 c):=E.o.f.own.clip;injection e1 with dP dR dT;subst dP dR dT;have cT:=v.f.c;have e8:=v.f.z;obtain⟨dV,a0⟩:=v.step c8 cR;have aI:=V a0;clear v dV;have W:G (J (λd=>d=a\/k.heap.size<=d) L (wr.setCell ⟨k.heap.size,4,none⟩ (.slice q (yN 0 c).length (yN 0 c).length))):=V ((d4.o.mono (λd _ g=>.inl g)).trans (a0.chg.mono (λd _ g=>.inr g)));have b9:G ((yN 0 c).length<=16777215):=V (by have:=vS c 0;have:=Z.o;omega);obtain⟨D,aR⟩:=rM (yN 0 c);have b8:=V aR;rw[aR]at c5 aI W b9 E cT c8 a0;clear aR E a0;go_wp2_with fail
 refine (cn wr q D.length T c5).mono ?_;rintro g B ⟨rfl,rfl⟩;go_upto_region 9 with fail
 obtain⟨a9,cS⟩:=rK (wr.setCell ⟨k.heap.size,4,none⟩ (.slice q D.length D.length));rw[<-cS]at aI W ⊢;clear cS cT e8;obtain⟨eV,eX,eZ,f0,⟨f1,f2,cP⟩,aY⟩:=aI.o;have o:=d6.o _ a9 W.o (by have:=aH.o;have:=aK.o;show ¬(e.heap.size=a\/k.heap.size<=e.heap.size);omega);have f4:=(o 0 H).1;have f6:=(o 1 H).1;have f8:=(o 2 H).1;have fB:=(o 3 H).1;have fD:=(o 4 H).1;have fI:=(o 0 H).2;have fK:=(o 1 H).2;have fM:=(o 2 H).2;have fO:=(o 3 H).2;have fP:=(o 4 H).2;obtain⟨A,-,S,-⟩:=vY e.heap.size [.slice w c.length c.length,.slice r h.length h.length,.slice s i.length i.length,.slice t j.length j.length,.slice q D.length D.length] 0 a9 (λn cI=>by
  rw[Ax,(o n (by simpa using cI)).1];rfl)
 have cV:=A 0 _ rfl;have cX:=A 1 _ rfl;have cZ:=A 2 _ rfl;have d0:=A 3 _ rfl;have d1:=A 4 _ rfl;have c7:=W.o;have bB:G (nr a b e Q (.returned (netV ⟨(w,c.length,c.length),(r,h.length,h.length),(s,i.length,i.length),(t,j.length,j.length),(q,D.length,D.length)⟩)) (xC e.heap.size 0 [.slice w c.length c.length,.slice r h.length h.length,.slice s i.length i.length,.slice t j.length j.length,.slice q D.length D.length] a9)):=V (by
  have x:=aK.o;have e0:=aH.o;have e2:=aM.o;refine⟨(C.o.any.trans2 c7 (λd cK g=>by rcases g with g|g;exact g;omega)).trans2 S (λd cK g=>H),.inr ⟨_,_,_,d7.o,rfl,?_,(d8.o.chg aY H H).chg S H H,?_⟩⟩
  .have u:=NetIn.good.mono (NetIn.good.chg (NetIn.good.chg bK.o aY (λl m g=>H)) S (λl m g=>H)) (S':=λd=>e.heap.size<=d) (λl _ m=>by show e.heap.size<=l;omega)
   refine⟨u.st,u.s,u.p,u.q,?_⟩;have K:=(cP.chg S (λl m _ g=>H)).in' (c':=D.length) (Ay1 _);rw[show vA c=D from b8.o];exact (Elt.In.inS K).mono (λl _ m=>by show e.heap.size<=l;omega)
  rw[show vA c=D from b8.o];exact b9.o)
 simp only[xC,Ax]at cV cX cZ d0 d1 bB;clear A S o c7 cP aY;go_wp2;exact bodyPost_ret (v:=.agg #[.slice w c.length c.length,.slice r h.length h.length,.slice s i.length i.length,.slice t j.length j.length,.slice q D.length D.length]) (by simp[results,results108,go_sem,cV,cX,cZ,d0,d1]) rfl bB.o
end Go.Proofs.YtgnpmceimpjheaaGreat
namespace Go.Proofs.YtgnpmceimpjheaaGreat
section
variable {P:Program}{ops:Array Oper}{Q:Exit->Act->World->Prop}{md:Region.Mode}{S:World->Prop}
theorem sJ {i:Nat}{d:Oper}{j:Nat}{e:Array Bool}{a:Act}{c:World}(p:ops[i]?=some d)
  (s:Region.noSelect ops=true) (o:Region.free md ops e i=true) (q:(Region.ready md ops e).contains i=true)
  (m:∀b h a c,Q (.panic h) (a.put d.dst b) c->Q (.panic h) a c) (t:Region.wanted d (yielded ops a.tmps)=true) (n:S c)
  (k:∀g:Act->Prop,(∀a,wpAnyH P md ops Q S j (e.setIfInBounds i true) a c->g a)->∃b,(∀f,S f->(execOp a.eval d).run P f=.ok (.value b) f)/\g (a.put d.dst b)) :
  wpAnyH P md ops Q S (j+1) e a c:=by
 obtain⟨b,r,l⟩:=k _ iE;exact wpAnyH_take p s o q (m b) (.inl ⟨t,r⟩) n l
theorem xv {e:Nat}{b:Oper}{a:Act}{c:World}{f:Value}{d:Act->World->Prop}(h:ops[e]?=some b) (j:Region.wanted b (yielded ops a.tmps)=true)
  (i:(execOp a.eval b).run P c=.ok (.value f) c) (g:d (a.put b.dst f) c):wpOp P ops Q e d a c:=by
 unfold Go.wpOp;simp only[h,j,if_true,Oper.wp,i,Oper.upon];exact .inl g
theorem ar {i:Nat}{c:Oper}{g:Nat}{d:Array Bool}{a:Act}{b:World}(n:Region.ready md ops d=[i]) (l:ops[i]?=some c)
  (p:Region.wanted c (yielded ops a.tmps)=true) (k:S b)
  (h:∀f:Act->Prop,(∀a,wpAnyH P md ops Q S g (d.setIfInBounds i true) a b->f a)->∃e,(execOp a.eval c).run P b=.ok (.value e) b/\f (a.put c.dst e)) :
  wpAnyH P md ops Q S (g+1) d a b:=by
 obtain⟨e,o,j⟩:=h _ iE;exact wpAnyH_all n sI (λq m=>by
  obtain rfl:q=i:=by simpa using m
  exact xv l p o ⟨k,j⟩)
theorem cz {i:Nat}{d:Oper}{m:Nat}{f:Array Bool}{b:Act}{e:World}(u:Region.ready md ops f=[i]) (s:ops[i]?=some d)
  (w:Region.wanted d (yielded ops b.tmps)=true) (l:FuncId) (j:Array Value) (h:Value->World->Prop) (v:(execOp b.eval d).run P e=.ok (.enter l j) e)
  (q:Calls P l j e (λk a=>∃c,k=.returned c/\S a/\h c a))
  (o:∀c a,S a->h c a->∀g:Act->Prop,(∀b,wpAnyH P md ops Q S m (f.setIfInBounds i true) b a->g b)->g (b.put d.dst c)) :
  wpAnyH P md ops Q S (m+1) f b e :=
 wpAnyH_all u sI (λx t=>by
  obtain rfl:x=i:=by simpa using t
  unfold Go.wpOp;simp only[s,w,if_true,Oper.wp,v,Oper.upon];refine .inl (q.mono λk a ⟨c,r,n,p⟩=>?_);subst r;exact⟨n,o c a n p _ iE⟩)
end
end Go.Proofs.YtgnpmceimpjheaaGreat
namespace Go.Proofs.YtgnpmceimpjheaaGreat
open Go.RowKit Go.Proofs.Tryz
variable {a b c d e f g h i j k l m n o p q r:Nat}{w v u t s:World}{X Y W L T:List Int}{A B C E Z:Value}{x y z:Int}{N R:Bool}{F Q:Option Addr}{S P:Nat->Prop}
def ba (a d:Nat) (c:List Int):Prop:=∀b,(b≠0\/a=0)->putL (d+b * 128 ^ a)=c.take a++putL b
theorem ba.start (Z:List Int):ba 0 0 Z:=λm _=>sI
theorem ba.next (e:ba a b X) (f:X[a]?=some x) (g:128<=x) (h:x<=255):ba (a+1) (b+x.toNat % 128 * 128 ^ a) X:=λc i=>by
 have d:b+x.toNat % 128 * 128 ^ a+c * 128 ^ (a+1)=b+(x.toNat % 128+c * 128) * 128 ^ a:=by
  rw[Nat.pow_succ,Nat.add_mul,<-Au0,Nat.mul_comm (128 ^ a) 128,Nat.mul_assoc]
 have j:c≠0:=H
 rw[d,e _ (.inl H),Ay3,f,aw (n:=x.toNat % 128+c * 128) H];rw[show (x.toNat % 128+c * 128) / 128=c by omega,show (((x.toNat % 128+c * 128) % 128+128:Nat):Int)=x by omega];simp
theorem xw:∀(b:Nat) (c:List Int),putL b=c++[0]->c=[]:=by
 intro b
 induction b using Nat.strongRecOn with
 | _ b g =>
  intro c a;by_cases e:b<128
  .rw[jL e]at a
   have:=congrArg List.length a;simp at this
   exact this
  rw[aw H]at a
  cases c with
  | nil=>simp at a;omega
  | cons h c =>
   simp only[At0,List.cons.injEq]at a;have f:=g (b / 128) H c a.2;subst f;have d:putL 0=[0]:=jL H;have:=vh (b / 128) 0 (by rw[a.2,d];rfl);omega
theorem ba.last (f:ba a b X) (e:X[a]?=some x) (i:0<=x) (j:x<128):(putL (b+x.toNat % 128 * 128 ^ a)=X.take (a+1))↔¬(x=0/\0<a):=by
 have h:x.toNat % 128=x.toNat:=Nat.mod_eq_of_lt H;rw[h,Ay3,e];by_cases d:x=0/\0<a
 .obtain⟨rfl,g⟩:=d
  refine⟨λc=>?_,λc=>absurd ⟨D,g⟩ c⟩;have:=xw _ _ c;have k:min a X.length=0:=by rw[<-Ay8,this];rfl
  have:=(Az0.1 e).1;omega
 refine⟨λ_=>d,λ_=>?_⟩
 rw[f x.toNat H,jL H];simp
 omega
theorem da (h:List Int) (q:Option Addr) (x E w:Nat) (T:World) (u:BytesAt T x E h) (P:0<h.length->q=some ⟨x,E,none⟩) (aK:h.length<=w) (c3:h.length<=100000000) :
  Calls prog 112 #[.slice q h.length w] T λm g=>m=.returned (ca (rY 0 0 h))/\Cf T g:=by
 have a0:=V u;have aT:=V P;clear u P;go_enter func112,ntmps112
 go_wp2
 go_loopw [5,6,7] (λa7 bH f wr=>∃(d p:Nat),d<=h.length/\d<=5/\f=.int .i64 d/\a7=.int .u64 p/\bH=.int .u64 ((128 ^ d:Nat):Int)/\p<128 ^ d/\rY 0 0 h=rY d p (h.drop d)/\ba d p h/\Cf T wr) (λ_ _ f _=>h.length-(intOf f).toNat)
 .exact⟨0,0,H,H,D,D,D,sI,sI,ba.start h,cR⟩
 obtain⟨d,p,R,c1,rfl,rfl,rfl,Q,aO,aR,aM⟩:=hrel;obtain⟨N,v,r⟩:=rZ aO aR aM;clear aO aR aM;by_cases aP:d<h.length
 .by_cases c2:d<5
  .obtain⟨l,u,bO,bK,bM⟩:=(a0.o.chg r.o iE).get (k:=d) H
   have b4:=aT.o H;subst b4;have aF:=V u;have b7:128 ^ d<=268435456:=by
    have:128 ^ d<=128 ^ 4:=Nat.pow_le_pow_right H H;simpa using this
   obtain⟨s,z⟩:∃s:Nat,128 ^ d=s:=⟨_,D⟩;obtain⟨b1,k,aX⟩:=rZ z (N.o.trans (gq u H)) (gp (z:=l) Q);rw[z]at Q b7;have U:=V Q;have c5:l % 128 * (s:Int)<=127 * s:=Int.mul_le_mul_of_nonneg_right H H;have c4:0<=l % 128 * (s:Int):=Int.mul_nonneg H H;obtain⟨o,b5⟩:∃o:Int,IntKind.u64.wrap ((p:Int)+l % 128 * (s:Int))=o:=⟨_,D⟩;have aH:o=(p:Int)+l % 128 * (s:Int):=by
    rw[<-b5];simp[IntKind.wrap,IntKind.bits,IntKind.signed]
    omega
   have W:G (o=((p+l.toNat % 128 * 128 ^ d:Nat):Int)):=V (by
    rw[aH,z,Int.natCast_add,Int.natCast_mul]
    congr 2
    omega)
   have bP:0<=o:=H;have bT:o<=268435456 * 128:=H;clear aH;rw[z];clear u z N Q;by_cases a1:128<=l
   .rw[if_pos a1]at k
    have aZ:G (ba (d+1) (p+l.toNat % 128 * 128 ^ d) h):=V (v.o.next aF.o a1 bM);have b2:G (((s:Int) * 128)=((128 ^ (d+1):Nat):Int)):=V (by rw[Nat.pow_succ,b1.o];omega);clear U v;go_wp2;rw[W.o,b2.o];go_roundw
    .exact⟨d+1,_,H,H,GN,D,D,aX.o,k.o,aZ.o,r.o⟩
    simp[intOf];omega
   rw[if_neg a1]at k
   have aY:=V (v.o.last aF.o bK H);have bZ:¬127<l:=H;by_cases b9:4294967295<o
   .have b0:G (rY 0 0 h=none):=V (by rw[k.o,if_pos (.inr (by have:=W.o;omega))])
    have b8:decide (4294967295<o)=true:=(by simpa using b9);clear U v k;go_upto_region 9 with fail
    refine rH ?_
    iterate 3 (refine rI ?_)
    iterate 10 (refine sq ?_)
    (refine rI ?_);refine zW ?_;rintro g rfl;go_wp2;go_ret3
    exact⟨by rw[b0.o];rfl,r.o.drew⟩
   obtain⟨i,b6⟩:∃i:Nat,o=i:=⟨o.toNat,H⟩
   subst b6;have bV:i<=4294967295:=H;have b8:decide (4294967295<(i:Int))=false:=sO;have c0:¬4294967295<i:=H;have bX:(i:Int) % 4294967296=i:=H;have Y:G (i=p+l.toNat % 128 * 128 ^ d):=V (by have:=W.o;omega);have e:G (Cf wr wr.drew):=V (J.refl _ _).drew;have bB:(h.take (d+1)).length=d+1:=(by rw[Ay8];omega);have X:G (∀g,Cf wr g->(convert 45 9 (.slice (some ⟨x,E,none⟩) (d+1) w)).run prog g=.ok (.string (strOfNums (h.take (d+1)))) g):=V (λg aK=>by
    have aI:=a0.o.chg (r.o.trans aK) iE;have:=au (Z:=h.take (d+1)) w (a:=some ⟨x,E,none⟩) (⟨λbD bI a4=>aI.c bD bI (by rw[List.getElem?_take_of_lt (by have:=(Az0.1 a4).1;omega)]at a4;exact a4),λ_=>aI.lt (by intro m;rw[m]at aP;simp at aP)⟩:BytesAt g x E (h.take (d+1))) (λ_=>rfl);rw[bB]at this;exact this)
   obtain⟨K,a6⟩:=rM (strOfNums (h.take (d+1)));obtain⟨F,a5⟩:=rM (strOfNums ([]++putL i));have aD:=V a5;have aV:G (∀q∈h.take (d+1),Byte q):=V (λq P=>a0.o.byte q (Av8 P));rw[a6]at X;have c6:IntKind.i64.wrap ((d:Int)+1)=(d:Int)+1:=(by rw[IntKind.wrap_i64];omega);have cA:IntKind.u32.wrap (i:Int)=i:=(by rw[IntKind.wrap_u32];omega);have c7:(0:Int)<=(d:Int)+1:=H;have c8:(d:Int)+1<=(w:Int):=H;have c9:((d:Int)+1).toNat=d+1:=H;have O:G (F.toList=K.toList↔¬(l=0/\0<d)):=V (by
    rw[<-aY.o,<-Y.o,<-a5,<-a6,Av];refine⟨λm=>?_,λm=>by rw[m]⟩;rw[ByteArray.toList_eq,ByteArray.toList_eq]at m;exact ew (bQ i) aV.o (ByteArray.ext (Array.toList_inj.1 m)))
   clear U v a6 a5;by_cases t:l=0/\0<d
   .have Z:G (rY 0 0 h=none):=V (by rw[k.o,if_pos (.inl t)])
    have a8:¬F.toList=K.toList:=λm=>O.o.1 m t
    have bF:(F.toList == K.toList)=false:=(by rw[beq_eq_false_iff_ne];exact a8);clear t O k;go_upto_region 9 with fail
    refine wp_region_held (S:=Cf wr) M ?_;show wpAnyH _ _ _ _ _ 14 (Array.replicate 14 false) _ wr.drew;(refine sJ (i:=0) D M M M (λ_ _ _ _ b=>b) D e.o λc a=>?_;apply Ay4;refine⟨λg j=>?_,?_⟩;((skip);go_simp;try with_reducible rfl);(try go_simp);refine a _ ?_;clear a c);(refine sJ (i:=1) D M M M (λ_ _ _ _ b=>b) D e.o λc a=>?_;apply Ay4;refine⟨λg j=>?_,?_⟩;((skip);go_simp;try with_reducible rfl);(try go_simp);refine a _ ?_;clear a c);(refine sJ (i:=2) D M M M (λ_ _ _ _ b=>b) D e.o λc a=>?_;apply Ay4;refine⟨λg j=>?_,?_⟩;((skip);go_simp;try with_reducible rfl);(try go_simp);refine a _ ?_;clear a c);(refine sJ (i:=3) D M M M (λ_ _ _ _ b=>b) D e.o λc a=>?_;apply Ay4;refine⟨λg j=>?_,?_⟩;((skip);go_simp;try with_reducible rfl);(try go_simp);refine a _ ?_;clear a c);(refine sJ (i:=4) D M M M (λ_ _ _ _ b=>b) D e.o λc a=>?_;apply Ay4;refine⟨λg j=>?_,?_⟩;((skip);go_simp;try with_reducible rfl);(try go_simp);refine a _ ?_;clear a c);(refine sJ (i:=7) D M M M (λ_ _ _ _ b=>b) D e.o λc a=>?_;apply Ay4;refine⟨λg j=>?_,?_⟩;((skip);go_simp;try with_reducible rfl);(try go_simp);refine a _ ?_;clear a c);(refine sJ (i:=8) D M M M (λ_ _ _ _ b=>b) D e.o λc a=>?_;apply Ay4;refine⟨λg j=>?_,?_⟩;((skip);go_simp;try with_reducible rfl);(try go_simp);refine a _ ?_;clear a c);(refine sJ (i:=9) D M M M (λ_ _ _ _ b=>b) D e.o λc a=>?_;apply Ay4;refine⟨λg j=>?_,?_⟩;((skip);go_simp;try with_reducible rfl);(try go_simp);refine a _ ?_;clear a c);(refine sJ (i:=10) D M M M (λ_ _ _ _ b=>b) D e.o λc a=>?_;apply Ay4;refine⟨λg j=>?_,?_⟩;((skip);go_simp;try with_reducible rfl);(try go_simp);refine a _ ?_;clear a c);(refine sJ (i:=11) D M M M (λ_ _ _ _ b=>b) D e.o λc a=>?_;apply Ay4;refine⟨λg j=>?_,?_⟩;((have a7:=X.o g j);go_simp;try with_reducible rfl);(try go_simp);refine a _ ?_;clear a c);refine cz (i:=5) M D D 121 #[.slice none 0 0,.int .u32 i] (λL a9=>∃b n,L=.slice (some ⟨b,0,none⟩) ([]++putL i).length n/\Row a9 b ([]++putL i)) (by go_simp) ?_ ?_
    .refine (fb [] i none 0 0 0 wr.drew ⟨λd q R=>by simp at R,λb=>(b D).elim⟩ (λb=>by simp at b) sI H).mono ?_
     rintro m aB ⟨b,n,rfl,_,a2,a3⟩;exact⟨_,D,e.o.trans a3,b,n,D,a2⟩
    rintro L aB C ⟨b,n,rfl,B⟩ c a;have e:=V C;have A:=au n (B.bytes (Aw8 _)) (λ_=>rfl);rw[aD.o]at A;obtain⟨b3,y⟩:=rM (([]++putL i).length);rw[y]at A ⊢;clear C B y;(try go_simp)
    refine a _ ?_;clear a c;(refine ar (i:=6) M D D e.o λc a=>?_;apply Ay4;refine⟨?_,?_⟩;((skip);go_simp;try with_reducible rfl);(try go_simp);refine a _ ?_;clear a c);(refine ar (i:=12) M D D e.o λc a=>?_;apply Ay4;refine⟨?_,?_⟩;((skip);go_simp;try with_reducible rfl);(try go_simp);refine a _ ?_;clear a c);(refine ar (i:=13) M D D e.o λc a=>?_;apply Ay4;refine⟨?_,?_⟩;((skip);go_simp;try with_reducible rfl);(try go_simp);refine a _ ?_;clear a c);refine wpAnyH_done M ?_ _;go_wp2;go_ret3
    exact⟨by rw[Z.o];rfl,r.o.trans e.o⟩
   have Z:G (rY 0 0 h=some (i,d+1)):=V (by rw[k.o,if_neg (by rintro (b|b);(exact t b);have:=Y.o;omega),<-Y.o])
   have a8:F.toList=K.toList:=O.o.2 t;have bF:(F.toList == K.toList)=true:=(by rw[a8];simp);clear t O k;go_upto_region 9 with fail
   refine wp_region_held (S:=Cf wr) M ?_;show wpAnyH _ _ _ _ _ 14 (Array.replicate 14 false) _ wr.drew;(refine sJ (i:=0) D M M M (λ_ _ _ _ b=>b) D e.o λc a=>?_;apply Ay4;refine⟨λg j=>?_,?_⟩;((skip);go_simp;try with_reducible rfl);(try go_simp);refine a _ ?_;clear a c);(refine sJ (i:=1) D M M M (λ_ _ _ _ b=>b) D e.o λc a=>?_;apply Ay4;refine⟨λg j=>?_,?_⟩;((skip);go_simp;try with_reducible rfl);(try go_simp);refine a _ ?_;clear a c);(refine sJ (i:=2) D M M M (λ_ _ _ _ b=>b) D e.o λc a=>?_;apply Ay4;refine⟨λg j=>?_,?_⟩;((skip);go_simp;try with_reducible rfl);(try go_simp);refine a _ ?_;clear a c);(refine sJ (i:=3) D M M M (λ_ _ _ _ b=>b) D e.o λc a=>?_;apply Ay4;refine⟨λg j=>?_,?_⟩;((skip);go_simp;try with_reducible rfl);(try go_simp);refine a _ ?_;clear a c);(refine sJ (i:=4) D M M M (λ_ _ _ _ b=>b) D e.o λc a=>?_;apply Ay4;refine⟨λg j=>?_,?_⟩;((skip);go_simp;try with_reducible rfl);(try go_simp);refine a _ ?_;clear a c);(refine sJ (i:=7) D M M M (λ_ _ _ _ b=>b) D e.o λc a=>?_;apply Ay4;refine⟨λg j=>?_,?_⟩;((skip);go_simp;try with_reducible rfl);(try go_simp);refine a _ ?_;clear a c);(refine sJ (i:=8) D M M M (λ_ _ _ _ b=>b) D e.o λc a=>?_;apply Ay4;refine⟨λg j=>?_,?_⟩;((skip);go_simp;try with_reducible rfl);(try go_simp);refine a _ ?_;clear a c);(refine sJ (i:=9) D M M M (λ_ _ _ _ b=>b) D e.o λc a=>?_;apply Ay4;refine⟨λg j=>?_,?_⟩;((skip);go_simp;try with_reducible rfl);(try go_simp);refine a _ ?_;clear a c);(refine sJ (i:=10) D M M M (λ_ _ _ _ b=>b) D e.o λc a=>?_;apply Ay4;refine⟨λg j=>?_,?_⟩;((skip);go_simp;try with_reducible rfl);(try go_simp);refine a _ ?_;clear a c);(refine sJ (i:=11) D M M M (λ_ _ _ _ b=>b) D e.o λc a=>?_;apply Ay4;refine⟨λg j=>?_,?_⟩;((have a7:=X.o g j);go_simp;try with_reducible rfl);(try go_simp);refine a _ ?_;clear a c);refine cz (i:=5) M D D 121 #[.slice none 0 0,.int .u32 i] (λL a9=>∃b n,L=.slice (some ⟨b,0,none⟩) ([]++putL i).length n/\Row a9 b ([]++putL i)) (by go_simp) ?_ ?_
   .refine (fb [] i none 0 0 0 wr.drew ⟨λd q R=>by simp at R,λb=>(b D).elim⟩ (λb=>by simp at b) sI H).mono ?_
    rintro m aB ⟨b,n,rfl,_,a2,a3⟩;exact⟨_,D,e.o.trans a3,b,n,D,a2⟩
   rintro L aB C ⟨b,n,rfl,B⟩ c a;have e:=V C;have A:=au n (B.bytes (Aw8 _)) (λ_=>rfl);rw[aD.o]at A;obtain⟨b3,y⟩:=rM (([]++putL i).length);rw[y]at A ⊢;clear C B y;(try go_simp)
   refine a _ ?_;clear a c;(refine ar (i:=6) M D D e.o λc a=>?_;apply Ay4;refine⟨?_,?_⟩;((skip);go_simp;try with_reducible rfl);(try go_simp);refine a _ ?_;clear a c);(refine ar (i:=12) M D D e.o λc a=>?_;apply Ay4;refine⟨?_,?_⟩;((skip);go_simp;try with_reducible rfl);(try go_simp);refine a _ ?_;clear a c);(refine ar (i:=13) M D D e.o λc a=>?_;apply Ay4;refine⟨?_,?_⟩;((skip);go_simp;try with_reducible rfl);(try go_simp);refine a _ ?_;clear a c);refine wpAnyH_done M ?_ _;go_wp2;go_ret3
   exact⟨by rw[Z.o];rfl,r.o.trans e.o⟩
  have k:G (rY 0 0 h=none):=V (by rw[N.o];exact fc _ _ _ (.inr H))
  obtain rfl:d=5:=H;go_wp2;go_ret3
  exact⟨by rw[k.o];rfl,r.o⟩
 have k:G (rY 0 0 h=none):=V (by rw[N.o];exact fc _ _ _ (.inl (List.drop_eq_nil_of_le H)))
 obtain rfl:d=h.length:=H;go_wp2;go_ret3
 exact⟨by rw[k.o];rfl,r.o⟩
end Go.Proofs.YtgnpmceimpjheaaGreat
