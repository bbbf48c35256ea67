/- A part of the proof: TakeW TakeRow TakSt TakeTab. -/
import Derived.Test.YtgnpmceimpjheaaGreatGG5
set_option maxRecDepth 100000
set_option maxHeartbeats 16000000
namespace Go.Proofs.YtgnpmceimpjheaaGreat
open Go.RowKit Go.Proofs.Tryz
variable {a b c d e f g h i j k l m n o p q r:Nat}{w v u t s:World}{X Y W L T:List Int}{A B C E Z:Value}{x y z:Int}{N R:Bool}{F Q:Option Addr}{S P:Nat->Prop}
structure RdAt (w:World) (b:Nat) (v:Value) (s:Rd):Prop where
 c0:w.cell? ⟨b,0,none⟩=some v
 c1:w.cell? ⟨b,1,none⟩=some (.int .i64 s.1)
 c2:w.cell? ⟨b,2,none⟩=some (.bool s.2)
 z:∀j,w.frozen? ⟨b,j,none⟩=false
theorem RdAt.lt {c:Rd}(b:RdAt w a A c):a<w.heap.size:=Az8 _ _ b.c0
theorem RdAt.chg {S:Nat->Prop}{g w':World}{f:Rd}(b:RdAt g a A f) (c:J S g w') (d:¬S a):RdAt w' a A f :=
 ⟨c.cellS b.c0 d,c.cellS b.c1 d,c.cellS b.c2 d,λe=>(c.frozen (p:=⟨a,e,none⟩) b.lt d).trans (b.z e)⟩
theorem RdAt.bad {d:Rd}(c:RdAt w a A d):RdAt (w.setCell ⟨a,2,none⟩ (.bool true)) a A (d.1,true) :=
 ⟨J.cellNe c.c0 (by intro b;injection b with _ b;cases b),J.cellNe c.c1 (by intro b;injection b with _ b;cases b),Az9 _ _ _ c.c2,λe=>(Az3 _ _ _ _).trans (c.z e)⟩
theorem RdAt.step {e:Rd}(c:RdAt w a A e) (d:Nat):RdAt (w.setCell ⟨a,1,none⟩ (.int .i64 d)) a A (d,e.2) :=
 ⟨J.cellNe c.c0 (by intro b;injection b with _ b;cases b),Az9 _ _ _ c.c1,J.cellNe c.c2 (by intro b;injection b with _ b;cases b),λf=>(Az3 _ _ _ _).trans (c.z f)⟩
theorem db {b:Rd}(c:X.length<=b.1):numP X a b=(0,b.1,true):=by
 unfold numP;rw[List.drop_eq_nil_of_le c]
 rfl
theorem BytesAt.drop (d:BytesAt w a b X):BytesAt w a (b+c) (X.drop c) :=
 ⟨λi g e=>by
  rw[List.getElem?_drop]at e;have:=d.c (c+i) g e;rwa [<-Au0]at this,λf=>d.lt (by intro h;rw[h]at f;simp at f)⟩
theorem xx (c:List Int) (g i f w h:Nat) (r:Rd) (m:World) (C:BytesAt m g i c) (Y:r.1<f) (a4:c.length<=f) (a5:c.length<=100000000) (B:r.1<=c.length) (a6:h<4294967296) (A:RdAt m w (.slice (some ⟨g,i,none⟩) c.length f) r) :
  Calls prog 186 #[.pointer (some ⟨w,0,none⟩),.int .i64 h] m λn b=>n=.returned (.int .i64 (numP c h r).1)/\RdAt b w (.slice (some ⟨g,i,none⟩) c.length f) (numP c h r).2/\J (λZ=>Z=w) m b:=by
 obtain⟨a,wr⟩:=r;have L:=V C;have k:=V A;simp only at Y B;have a7:IntKind.u32.wrap (h:Int)=h:=by simp[IntKind.wrap,IntKind.bits,IntKind.signed];omega
 cases l:rY 0 0 (c.drop a) with
 | none =>
  have u:G (numP c h (a,wr)=(0,a,true)):=V (by unfold numP;simp only[l]);have z:G (∀b,Cf m b->Calls prog 141 #[.slice (some ⟨g,i+a,none⟩) (c.length-a) (f-a)] b λn F=>n=.returned (.tuple #[.int .u32 0,.int .i64 0,.int .i64 4])/\Cf b F):=V (λb E=>by
   have:=eU (c.drop a) (some ⟨g,i+a,none⟩) g (i+a) (f-a) b (L.o.drop.chg E iE) (λ_=>rfl) (by rw[Av0];omega) (by rw[Av0];omega);rw[l]at this;rwa [Av0]at this)
  have R:(a:Int)<=(c.length:Int):=H
  have S:¬f=a:=H
  have K:=V B;clear C A;clear l;go_enter func186,ntmps186
  go_upto_region 1 with fail
  refine ws (λb=>Cf m b) ?_;(iterate 3 (refine rq ?_));(refine rq ?_ (by intro _ b _ e;have y:=e.cellS k.o.c0 iD;go_simp;try with_reducible rfl));(iterate 3 (refine rq ?_));(refine rq ?_ (by intro _ b _ e;have y:=e.cellS k.o.c1 iD;go_simp;try with_reducible rfl));refine rq ?_
  refine xA D (.tuple #[.int .u32 0,.int .i64 0,.int .i64 4] )  141  ( #[.slice (some ⟨g,i+a,none⟩) (c.length-a) (f-a)]) (λb=>by go_simp) (λ_ b _ e=>?_) (λv o=>?_)
  .refine (z.o b e).mono ?_
   rintro n s ⟨rfl,x⟩;exact⟨D,e.trans x⟩
  ((try go_simp);refine o _ ?_;clear o v)
  iterate 7 (refine rq ?_)
  refine zW ?_;intro s j;have t:=V j;have d:=V (k.o.chg j iD);have N:=d.o.c0;have O:=d.o.c1;have P:=d.o.c2;have U:=d.o.z 1;have W:=d.o.z 2;clear j;go_wp2;go_ret
  rw[u.o];exact⟨D,d.o.bad,t.o.any.trans (zA _ _ _ _)⟩
 | some a0 =>
  obtain⟨p,q⟩:=a0;have Q:=aQ l;rw[Av0]at Q;obtain⟨a1,a2,a3⟩:=Q;have z:G (∀b,Cf m b->Calls prog 141 #[.slice (some ⟨g,i+a,none⟩) (c.length-a) (f-a)] b λn F=>n=.returned (.tuple #[.int .u32 p,.int .i64 q,.int .i64 0])/\Cf b F):=V (λb E=>by
   have:=eU (c.drop a) (some ⟨g,i+a,none⟩) g (i+a) (f-a) b (L.o.drop.chg E iE) (λ_=>rfl) (by rw[Av0];omega) (by rw[Av0];omega);rw[l]at this;rwa [Av0]at this)
  by_cases T:p<=h
  .have u:G (numP c h (a,wr)=(p,a+q,wr)):=V (by unfold numP;simp only[l];rw[if_pos T])
   have X:=rR h p;have R:(a:Int)<=(c.length:Int):=H;have S:¬f=a:=H;have K:=V B;clear C A;clear l;go_enter func186,ntmps186
   go_upto_region 1 with fail
   refine ws (λb=>Cf m b) ?_;(iterate 3 (refine rq ?_));(refine rq ?_ (by intro _ b _ e;have y:=e.cellS k.o.c0 iD;go_simp;try with_reducible rfl));(iterate 3 (refine rq ?_));(refine rq ?_ (by intro _ b _ e;have y:=e.cellS k.o.c1 iD;go_simp;try with_reducible rfl));refine rq ?_
   refine xA D (.tuple #[.int .u32 p,.int .i64 q,.int .i64 0] )  141  ( #[.slice (some ⟨g,i+a,none⟩) (c.length-a) (f-a)]) (λb=>by go_simp) (λ_ b _ e=>?_) (λv o=>?_)
   .refine (z.o b e).mono ?_
    rintro n s ⟨rfl,x⟩;exact⟨D,e.trans x⟩
   ((try go_simp);refine o _ ?_;clear o v)
   iterate 7 (refine rq ?_)
   refine zW ?_;intro s j;have t:=V j;have d:=V (k.o.chg j iD);have N:=d.o.c0;have O:=d.o.c1;have P:=d.o.c2;have U:=d.o.z 1;have W:=d.o.z 2;clear j;go_wp2;go_ret
   rw[u.o];exact⟨by go_num,by have:=d.o.step (a+q);simpa using this,t.o.any.trans (by have:=zA s w 1 (.int .i64 ((a+q:Nat):Int));simpa using this)⟩
  have u:G (numP c h (a,wr)=(0,a,true)):=V (by unfold numP;simp only[l];rw[if_neg T])
  have X:=rO h p;have R:(a:Int)<=(c.length:Int):=H;have S:¬f=a:=H;have K:=V B;clear C A;clear l;go_enter func186,ntmps186
  go_upto_region 1 with fail
  refine ws (λb=>Cf m b) ?_;(iterate 3 (refine rq ?_));(refine rq ?_ (by intro _ b _ e;have y:=e.cellS k.o.c0 iD;go_simp;try with_reducible rfl));(iterate 3 (refine rq ?_));(refine rq ?_ (by intro _ b _ e;have y:=e.cellS k.o.c1 iD;go_simp;try with_reducible rfl));refine rq ?_
  refine xA D (.tuple #[.int .u32 p,.int .i64 q,.int .i64 0] )  141  ( #[.slice (some ⟨g,i+a,none⟩) (c.length-a) (f-a)]) (λb=>by go_simp) (λ_ b _ e=>?_) (λv o=>?_)
  .refine (z.o b e).mono ?_
   rintro n s ⟨rfl,x⟩;exact⟨D,e.trans x⟩
  ((try go_simp);refine o _ ?_;clear o v)
  iterate 7 (refine rq ?_)
  refine zW ?_;intro s j;have t:=V j;have d:=V (k.o.chg j iD);have N:=d.o.c0;have O:=d.o.c1;have P:=d.o.c2;have U:=d.o.z 1;have W:=d.o.z 2;clear j;go_wp2;go_ret
  rw[u.o];exact⟨D,d.o.bad,t.o.any.trans (zA _ _ _ _)⟩
theorem nu (b:List Int) (g h m j c:Nat) (sp) (d:Rd) (i:World) (q:m=d.1/\d.1=b.length) (_a:b.length<=100000000) (y:d.1<=b.length) (P:c<4294967296) (r:RdAt i j (.slice (some ⟨g,h,sp⟩) b.length m) d) :
  Calls prog 186 #[.pointer (some ⟨j,0,none⟩),.int .i64 c] i λk a=>k=.returned (.int .i64 (numP b c d).1)/\RdAt a j (.slice (some ⟨g,h,sp⟩) b.length m) (numP b c d).2/\J (λz=>z=j) i a:=by
 obtain⟨F,wr⟩:=d;simp only at q y;obtain⟨rfl,rfl⟩:=q;have l:=V r;have Q:IntKind.u32.wrap (c:Int)=c:=by simp[IntKind.wrap,IntKind.bits,IntKind.signed];omega
 have u:G (∀a,Cf i a->Calls prog 141 #[.slice (some ⟨g,h,sp⟩) 0 0] a λk B=>k=.returned (.tuple #[.int .u32 0,.int .i64 0,.int .i64 4])/\Cf a B):=V (λa O=>by
  have:=eU [] (some ⟨g,h,sp⟩) 0 0 0 a ⟨λR E x=>by simp at x,λn=>absurd D n⟩ (λn=>absurd n sI) (Ax9 _) (Ax9 _);exact this)
 have t:G (numP b c (b.length,wr)=(0,b.length,true)):=V (db (Ay1 _));clear r;go_enter func186,ntmps186
 go_upto_region 1 with fail
 refine ws (λa=>Cf i a) ?_;(iterate 3 (refine rq ?_));(refine rq ?_ (by intro _ a _ f;have A:=f.cellS l.o.c0 iD;go_simp;try with_reducible rfl));(iterate 3 (refine rq ?_));(refine rq ?_ (by intro _ a _ f;have A:=f.cellS l.o.c1 iD;go_simp;try with_reducible rfl));refine rq ?_
 refine xA D (.tuple #[.int .u32 0,.int .i64 0,.int .i64 4] )  141  ( #[.slice (some ⟨g,h,sp⟩) 0 0]) (λa=>by go_simp) (λ_ a _ f=>?_) (λv p=>?_)
 .refine (u.o a f).mono ?_
  rintro k C ⟨rfl,w⟩;exact⟨D,f.trans w⟩
 ((try go_simp);refine p _ ?_;clear p v)
 iterate 7 (refine rq ?_)
 refine zW ?_;intro C o;have s:=V o;have e:=V (l.o.chg o iD);have K:=e.o.c0;have L:=e.o.c1;have N:=e.o.c2;have S:=e.o.z 1;have T:=e.o.z 2;clear o;go_wp2;go_ret
 rw[t.o];exact⟨D,e.o.bad,s.o.any.trans (zA _ _ _ _)⟩
theorem xy (b:List Int) (h i c k d:Nat) (sp) (g:Rd) (j:World) (p:b=[]/\g.1=0/\0<c) (_a:b.length<=100000000) (y:g.1<=b.length) (Q:d<4294967296) (r:RdAt j k (.slice (some ⟨h,i,sp⟩) b.length c) g) :
  Calls prog 186 #[.pointer (some ⟨k,0,none⟩),.int .i64 d] j λl a=>l=.returned (.int .i64 (numP b d g).1)/\RdAt a k (.slice (some ⟨h,i,sp⟩) b.length c) (numP b d g).2/\J (λz=>z=k) j a:=by
 obtain⟨F,wr⟩:=g;simp only at p y;obtain⟨rfl,rfl,p⟩:=p;have P:¬c=0:=H
 have m:=V r;have R:IntKind.u32.wrap (d:Int)=d:=by simp[IntKind.wrap,IntKind.bits,IntKind.signed];omega
 have u:G (∀a,Cf j a->Calls prog 141 #[.slice (some ⟨h,i,sp⟩) 0 c] a λl B=>l=.returned (.tuple #[.int .u32 0,.int .i64 0,.int .i64 4])/\Cf a B):=V (λa O=>by
  have:=eU [] (some ⟨h,i,sp⟩) 0 0 c a ⟨λS E x=>by simp at x,λn=>absurd D n⟩ (λn=>absurd n sI) (Ax9 _) (Ax9 _);exact this)
 have t:G (numP [] d (0,wr)=(0,0,true)):=V (db (Ay1 _));clear r;go_enter func186,ntmps186
 go_upto_region 1 with fail
 refine ws (λa=>Cf j a) ?_;(iterate 3 (refine rq ?_));(refine rq ?_ (by intro _ a _ f;have A:=f.cellS m.o.c0 iD;go_simp;try with_reducible rfl));(iterate 3 (refine rq ?_));(refine rq ?_ (by intro _ a _ f;have A:=f.cellS m.o.c1 iD;go_simp;try with_reducible rfl));refine rq ?_
 refine xA D (.tuple #[.int .u32 0,.int .i64 0,.int .i64 4] )  141  ( #[.slice (some ⟨h,i,sp⟩) 0 c]) (λa=>by go_simp) (λ_ a _ f=>?_) (λv q=>?_)
 .refine (u.o a f).mono ?_
  rintro l C ⟨rfl,w⟩;exact⟨D,f.trans w⟩
 ((try go_simp);refine q _ ?_;clear q v)
 iterate 7 (refine rq ?_)
 refine zW ?_;intro C o;have s:=V o;have e:=V (m.o.chg o iD);have K:=e.o.c0;have L:=e.o.c1;have N:=e.o.c2;have T:=e.o.z 1;have U:=e.o.z 2;clear o;go_wp2;go_ret
 rw[t.o];exact⟨D,e.o.bad,s.o.any.trans (zA _ _ _ _)⟩
theorem xz (b:List Int) (_a _c k h c:Nat) (f:Rd) (g:World) (o:b=[]/\f.1=0/\k=0) (_b:b.length<=100000000) (w:f.1<=b.length) (N:c<4294967296) (p:RdAt g h (.slice none b.length k) f) :
  Calls prog 186 #[.pointer (some ⟨h,0,none⟩),.int .i64 c] g λi a=>i=.returned (.int .i64 (numP b c f).1)/\RdAt a h (.slice none b.length k) (numP b c f).2/\J (λx=>x=h) g a:=by
 obtain⟨C,wr⟩:=f;simp only at o w;obtain⟨rfl,rfl,rfl⟩:=o;have j:=V p;have O:IntKind.u32.wrap (c:Int)=c:=by simp[IntKind.wrap,IntKind.bits,IntKind.signed];omega
 have s:G (∀a,Cf g a->Calls prog 141 #[.slice none 0 0] a λi z=>i=.returned (.tuple #[.int .u32 0,.int .i64 0,.int .i64 4])/\Cf a z):=V (λa L=>by
  have:=eU [] none 0 0 0 a ⟨λP B v=>by simp at v,λl=>absurd D l⟩ (λl=>absurd l sI) (Ax9 _) (Ax9 _);exact this)
 have r:G (numP [] c (0,wr)=(0,0,true)):=V (db (Ay1 _));clear p;go_enter func186,ntmps186
 go_upto_region 1 with fail
 refine ws (λa=>Cf g a) ?_;(iterate 3 (refine rq ?_));(refine rq ?_ (by intro _ a _ e;have y:=e.cellS j.o.c0 iD;go_simp;try with_reducible rfl));(iterate 3 (refine rq ?_));(refine rq ?_ (by intro _ a _ e;have y:=e.cellS j.o.c1 iD;go_simp;try with_reducible rfl));refine rq ?_
 refine xA D (.tuple #[.int .u32 0,.int .i64 0,.int .i64 4] )  141  ( #[.slice none 0 0]) (λa=>by go_simp) (λ_ a _ e=>?_) (λt n=>?_)
 .refine (s.o a e).mono ?_
  rintro i A ⟨rfl,u⟩;exact⟨D,e.trans u⟩
 ((try go_simp);refine n _ ?_;clear n t)
 iterate 7 (refine rq ?_)
 refine zW ?_;intro A m;have q:=V m;have d:=V (j.o.chg m iD);have E:=d.o.c0;have F:=d.o.c1;have K:=d.o.c2;have Q:=d.o.z 1;have R:=d.o.z 2;clear m;go_wp2;go_ret
 rw[r.o];exact⟨D,d.o.bad,q.o.any.trans (zA _ _ _ _)⟩
theorem fg (a:List Int) (h:Option Addr) (q s b d e:Nat) (c:Rd) (f:World) (C:BytesAt f q s a) (r:0<a.length->h=some ⟨q,s,none⟩) (A:a.length<=b) (B:h=none->b=0) (i:a.length<=100000000) (g:c.1<=a.length) (j:e<4294967296) (k:RdAt f d (.slice h a.length b) c) :
  Calls prog 186 #[.pointer (some ⟨d,0,none⟩),.int .i64 e] f λv u=>v=.returned (.int .i64 (numP a e c).1)/\RdAt u d (.slice h a.length b) (numP a e c).2/\J (λE=>E=d) f u:=by
 cases h with
 | none =>
  have m:a=[]:=by
   cases a with
   | nil=>rfl
   | cons K a=>have:=r sI;cases this
  subst m;exact xz [] 0 0 b d e c f ⟨D,by simpa using g,B D⟩ i g j k
 | some F =>
  obtain⟨l,p,t⟩:=F;by_cases m:a=[]
  .subst m
   have n:c.1=0:=(by simpa using g);by_cases o:b=0
   .exact nu [] l p b d e t c f ⟨H,by simpa using n⟩ i g j k
   exact xy [] l p b d e t c f ⟨D,n,H⟩ i g j k
  have n:0<a.length:=by
   cases a with
   | nil=>exact absurd D m
   | cons K a=>simp
  have o:=r n;injection o with o;injection o with w x y;subst w x y;by_cases z:c.1<b
  .exact xx a l p b d e c f C z A i g j k
  exact nu a l p b d e none c f ⟨H,H⟩ i g j k
theorem ya (c:List Int) (g h f o:Nat) (n:Rd) (i:World) (A:BytesAt i g h c) (Q:n.1<f) (a1:c.length<=f) (a2:c.length<=100000000) (z:n.1<=c.length) (y:RdAt i o (.slice (some ⟨g,h,none⟩) c.length f) n) :
  Calls prog 151 #[.pointer (some ⟨o,0,none⟩)] i λj b=>j=.returned (.int .i64 (numP c 4294967295 n).1)/\RdAt b o (.slice (some ⟨g,h,none⟩) c.length f) (numP c 4294967295 n).2/\J (λT=>T=o) i b:=by
 obtain⟨a,wr⟩:=n;have F:=V A;have m:=V y;simp only at Q z;cases l:rY 0 0 (c.drop a) with
 | none =>
  have t:G (numP c 4294967295 (a,wr)=(0,a,true)):=V (by unfold numP;simp only[l]);have u:G (∀b,Cf i b->Calls prog 112 #[.slice (some ⟨g,h+a,none⟩) (c.length-a) (f-a)] b λj E=>j=.returned (.tuple #[.int .u32 0,.int .i64 0,.int .i64 4])/\Cf b E):=V (λb x=>by
   have:=da (c.drop a) (some ⟨g,h+a,none⟩) g (h+a) (f-a) b (F.o.drop.chg x iE) (λ_=>rfl) (by rw[Av0];omega) (by rw[Av0];omega);rw[l]at this;rwa [Av0]at this)
  have R:(a:Int)<=(c.length:Int):=H
  have S:¬f=a:=H
  have L:=V z;clear A y;clear l;go_enter func151,ntmps151
  go_upto_region 1 with fail
  refine ws (λb=>Cf i b) ?_;(iterate 3 (refine rq ?_));(refine rq ?_ (by intro _ b _ e;have C:=e.cellS m.o.c0 iD;go_simp;try with_reducible rfl));(iterate 3 (refine rq ?_));(refine rq ?_ (by intro _ b _ e;have C:=e.cellS m.o.c1 iD;go_simp;try with_reducible rfl));refine rq ?_
  refine xA D (.tuple #[.int .u32 0,.int .i64 0,.int .i64 4] )  112  ( #[.slice (some ⟨g,h+a,none⟩) (c.length-a) (f-a)]) (λb=>by go_simp) (λ_ b _ e=>?_) (λv p=>?_)
  .refine (u.o b e).mono ?_
   rintro j r ⟨rfl,w⟩;exact⟨D,e.trans w⟩
  ((try go_simp);refine p _ ?_;clear p v)
  iterate 7 (refine rq ?_)
  refine zW ?_;intro r k;have s:=V k;have d:=V (m.o.chg k iD);have N:=d.o.c0;have O:=d.o.c1;have P:=d.o.c2;have W:=d.o.z 1;have X:=d.o.z 2;clear k;go_wp2;go_ret
  rw[t.o];exact⟨D,d.o.bad,s.o.any.trans (zA _ _ _ _)⟩
 | some U =>
  obtain⟨B,q⟩:=U;have K:=aQ l;rw[Av0]at K;obtain⟨Y,Z,a0⟩:=K;have u:G (∀b,Cf i b->Calls prog 112 #[.slice (some ⟨g,h+a,none⟩) (c.length-a) (f-a)] b λj E=>j=.returned (.tuple #[.int .u32 B,.int .i64 q,.int .i64 0])/\Cf b E):=V (λb x=>by
   have:=da (c.drop a) (some ⟨g,h+a,none⟩) g (h+a) (f-a) b (F.o.drop.chg x iE) (λ_=>rfl) (by rw[Av0];omega) (by rw[Av0];omega);rw[l]at this;rwa [Av0]at this)
  have t:G (numP c 4294967295 (a,wr)=(B,a+q,wr)):=V (by unfold numP;simp only[l];rw[if_pos H]);have R:(a:Int)<=(c.length:Int):=H
  have S:¬f=a:=H
  have L:=V z;clear A y;clear l;go_enter func151,ntmps151
  go_upto_region 1 with fail
  refine ws (λb=>Cf i b) ?_;(iterate 3 (refine rq ?_));(refine rq ?_ (by intro _ b _ e;have C:=e.cellS m.o.c0 iD;go_simp;try with_reducible rfl));(iterate 3 (refine rq ?_));(refine rq ?_ (by intro _ b _ e;have C:=e.cellS m.o.c1 iD;go_simp;try with_reducible rfl));refine rq ?_
  refine xA D (.tuple #[.int .u32 B,.int .i64 q,.int .i64 0] )  112  ( #[.slice (some ⟨g,h+a,none⟩) (c.length-a) (f-a)]) (λb=>by go_simp) (λ_ b _ e=>?_) (λv p=>?_)
  .refine (u.o b e).mono ?_
   rintro j r ⟨rfl,w⟩;exact⟨D,e.trans w⟩
  ((try go_simp);refine p _ ?_;clear p v)
  iterate 7 (refine rq ?_)
  refine zW ?_;intro r k;have s:=V k;have d:=V (m.o.chg k iD);have N:=d.o.c0;have O:=d.o.c1;have P:=d.o.c2;have W:=d.o.z 1;have X:=d.o.z 2;clear k;go_wp2;go_ret
  rw[t.o];exact⟨by go_num,by have:=d.o.step (a+q);simpa using this,s.o.any.trans (by have:=zA r o 1 (.int .i64 ((a+q:Nat):Int));simpa using this)⟩
theorem nv (b:List Int) (f g l i:Nat) (sp) (c:Rd) (h:World) (p:l=c.1/\c.1=b.length) (_a:b.length<=100000000) (x:c.1<=b.length) (q:RdAt h i (.slice (some ⟨f,g,sp⟩) b.length l) c) :
  Calls prog 151 #[.pointer (some ⟨i,0,none⟩)] h λj a=>j=.returned (.int .i64 (numP b 4294967295 c).1)/\RdAt a i (.slice (some ⟨f,g,sp⟩) b.length l) (numP b 4294967295 c).2/\J (λy=>y=i) h a:=by
 obtain⟨E,wr⟩:=c;simp only at p x;obtain⟨rfl,rfl⟩:=p;have k:=V q;have t:G (∀a,Cf h a->Calls prog 112 #[.slice (some ⟨f,g,sp⟩) 0 0] a λj A=>j=.returned (.tuple #[.int .u32 0,.int .i64 0,.int .i64 4])/\Cf a A):=V (λa N=>by
  have:=da [] (some ⟨f,g,sp⟩) 0 0 0 a ⟨λO C w=>by simp at w,λm=>absurd D m⟩ (λm=>absurd m sI) (Ax9 _) (Ax9 _);exact this)
 have s:G (numP b 4294967295 (b.length,wr)=(0,b.length,true)):=V (db (Ay1 _));clear q;go_enter func151,ntmps151
 go_upto_region 1 with fail
 refine ws (λa=>Cf h a) ?_;(iterate 3 (refine rq ?_));(refine rq ?_ (by intro _ a _ e;have z:=e.cellS k.o.c0 iD;go_simp;try with_reducible rfl));(iterate 3 (refine rq ?_));(refine rq ?_ (by intro _ a _ e;have z:=e.cellS k.o.c1 iD;go_simp;try with_reducible rfl));refine rq ?_
 refine xA D (.tuple #[.int .u32 0,.int .i64 0,.int .i64 4] )  112  ( #[.slice (some ⟨f,g,sp⟩) 0 0]) (λa=>by go_simp) (λ_ a _ e=>?_) (λu o=>?_)
 .refine (t.o a e).mono ?_
  rintro j B ⟨rfl,v⟩;exact⟨D,e.trans v⟩
 ((try go_simp);refine o _ ?_;clear o u)
 iterate 7 (refine rq ?_)
 refine zW ?_;intro B n;have r:=V n;have d:=V (k.o.chg n iD);have F:=d.o.c0;have K:=d.o.c1;have L:=d.o.c2;have P:=d.o.z 1;have Q:=d.o.z 2;clear n;go_wp2;go_ret
 rw[s.o];exact⟨D,d.o.bad,r.o.any.trans (zA _ _ _ _)⟩
theorem yb (b:List Int) (g h c j:Nat) (sp) (f:Rd) (i:World) (o:b=[]/\f.1=0/\0<c) (_a:b.length<=100000000) (x:f.1<=b.length) (q:RdAt i j (.slice (some ⟨g,h,sp⟩) b.length c) f) :
  Calls prog 151 #[.pointer (some ⟨j,0,none⟩)] i λk a=>k=.returned (.int .i64 (numP b 4294967295 f).1)/\RdAt a j (.slice (some ⟨g,h,sp⟩) b.length c) (numP b 4294967295 f).2/\J (λy=>y=j) i a:=by
 obtain⟨E,wr⟩:=f;simp only at o x;obtain⟨rfl,rfl,o⟩:=o;have O:¬c=0:=H
 have l:=V q;have t:G (∀a,Cf i a->Calls prog 112 #[.slice (some ⟨g,h,sp⟩) 0 c] a λk A=>k=.returned (.tuple #[.int .u32 0,.int .i64 0,.int .i64 4])/\Cf a A):=V (λa N=>by
  have:=da [] (some ⟨g,h,sp⟩) 0 0 c a ⟨λP C w=>by simp at w,λm=>absurd D m⟩ (λm=>absurd m sI) (Ax9 _) (Ax9 _);exact this)
 have s:G (numP [] 4294967295 (0,wr)=(0,0,true)):=V (db (Ay1 _));clear q;go_enter func151,ntmps151
 go_upto_region 1 with fail
 refine ws (λa=>Cf i a) ?_;(iterate 3 (refine rq ?_));(refine rq ?_ (by intro _ a _ e;have z:=e.cellS l.o.c0 iD;go_simp;try with_reducible rfl));(iterate 3 (refine rq ?_));(refine rq ?_ (by intro _ a _ e;have z:=e.cellS l.o.c1 iD;go_simp;try with_reducible rfl));refine rq ?_
 refine xA D (.tuple #[.int .u32 0,.int .i64 0,.int .i64 4] )  112  ( #[.slice (some ⟨g,h,sp⟩) 0 c]) (λa=>by go_simp) (λ_ a _ e=>?_) (λu p=>?_)
 .refine (t.o a e).mono ?_
  rintro k B ⟨rfl,v⟩;exact⟨D,e.trans v⟩
 ((try go_simp);refine p _ ?_;clear p u)
 iterate 7 (refine rq ?_)
 refine zW ?_;intro B n;have r:=V n;have d:=V (l.o.chg n iD);have F:=d.o.c0;have K:=d.o.c1;have L:=d.o.c2;have Q:=d.o.z 1;have R:=d.o.z 2;clear n;go_wp2;go_ret
 rw[s.o];exact⟨D,d.o.bad,r.o.any.trans (zA _ _ _ _)⟩
theorem yc (b:List Int) (_a _c j g:Nat) (e:Rd) (f:World) (n:b=[]/\e.1=0/\j=0) (_b:b.length<=100000000) (v:e.1<=b.length) (o:RdAt f g (.slice none b.length j) e) :
  Calls prog 151 #[.pointer (some ⟨g,0,none⟩)] f λh a=>h=.returned (.int .i64 (numP b 4294967295 e).1)/\RdAt a g (.slice none b.length j) (numP b 4294967295 e).2/\J (λw=>w=g) f a:=by
 obtain⟨B,wr⟩:=e;simp only at n v;obtain⟨rfl,rfl,rfl⟩:=n;have i:=V o;have r:G (∀a,Cf f a->Calls prog 112 #[.slice none 0 0] a λh y=>h=.returned (.tuple #[.int .u32 0,.int .i64 0,.int .i64 4])/\Cf a y):=V (λa K=>by
  have:=da [] none 0 0 0 a ⟨λL A u=>by simp at u,λk=>absurd D k⟩ (λk=>absurd k sI) (Ax9 _) (Ax9 _);exact this)
 have q:G (numP [] 4294967295 (0,wr)=(0,0,true)):=V (db (Ay1 _));clear o;go_enter func151,ntmps151
 go_upto_region 1 with fail
 refine ws (λa=>Cf f a) ?_;(iterate 3 (refine rq ?_));(refine rq ?_ (by intro _ a _ d;have x:=d.cellS i.o.c0 iD;go_simp;try with_reducible rfl));(iterate 3 (refine rq ?_));(refine rq ?_ (by intro _ a _ d;have x:=d.cellS i.o.c1 iD;go_simp;try with_reducible rfl));refine rq ?_
 refine xA D (.tuple #[.int .u32 0,.int .i64 0,.int .i64 4] )  112  ( #[.slice none 0 0]) (λa=>by go_simp) (λ_ a _ d=>?_) (λs m=>?_)
 .refine (r.o a d).mono ?_
  rintro h z ⟨rfl,t⟩;exact⟨D,d.trans t⟩
 ((try go_simp);refine m _ ?_;clear m s)
 iterate 7 (refine rq ?_)
 refine zW ?_;intro z l;have p:=V l;have c:=V (i.o.chg l iD);have C:=c.o.c0;have E:=c.o.c1;have F:=c.o.c2;have N:=c.o.z 1;have O:=c.o.z 2;clear l;go_wp2;go_ret
 rw[q.o];exact⟨D,c.o.bad,p.o.any.trans (zA _ _ _ _)⟩
theorem nw (a:List Int) (g:Option Addr) (o q b d:Nat) (c:Rd) (e:World) (A:BytesAt e o q a) (p:0<a.length->g=some ⟨o,q,none⟩) (y:a.length<=b) (z:g=none->b=0) (h:a.length<=100000000) (f:c.1<=a.length) (i:RdAt e d (.slice g a.length b) c) :
  Calls prog 151 #[.pointer (some ⟨d,0,none⟩)] e λt s=>t=.returned (.int .i64 (numP a 4294967295 c).1)/\RdAt s d (.slice g a.length b) (numP a 4294967295 c).2/\J (λB=>B=d) e s:=by
 cases g with
 | none =>
  have k:a=[]:=by
   cases a with
   | nil=>rfl
   | cons E a=>have:=p sI;cases this
  subst k;exact yc [] 0 0 b d c e ⟨D,by simpa using f,z D⟩ h f i
 | some C =>
  obtain⟨j,n,r⟩:=C;by_cases k:a=[]
  .subst k
   have l:c.1=0:=(by simpa using f);by_cases m:b=0
   .exact nv [] j n b d r c e ⟨H,by simpa using l⟩ h f i
   exact yb [] j n b d r c e ⟨D,l,H⟩ h f i
  have l:0<a.length:=by
   cases a with
   | nil=>exact absurd D k
   | cons E a=>simp
  have m:=p l;injection m with m;injection m with u v w;subst u v w;by_cases x:c.1<b
  .exact ya a j n b d c e A x y h f i
  exact nv a j n b d none c e ⟨H,H⟩ h f i
theorem ny :∀{h:Nat}{c:Rd}{f:Int}{e:List (Int×Int)},c.1<=X.length->(sL X a b h c f e).2.1<=X.length
 | 0,c,f,e,d=>d
 | h+1,c,f,e,d=>by
  cases g:c.2 with
  | true=>rw[pA (.inl g)];exact d
  | false=>rw[rL g];exact ny (yY (yY d).1).1
theorem nz {mw mv:Nat}{a:Rd}(b:a.1<=X.length):(rowP X mw mv a).2.1<=X.length:=ny (yY (yY b).1).1
theorem od {mw mv:Nat}{a:Rd}(b:a.1<=X.length):I.Byte (rowP X mw mv a).1.1:=by
 have:=(yY (m:=mv) b).2.2.1;show I.Byte (((numP X mv a).1:Int)-1);exact⟨H,H⟩
structure CellSt (E:Elt (Int×Int)) (b br:Nat) (sl:Value) (wr:World) (d:Int) (s:Rd) (acc:List (Int×Int)) (v:Value):Prop where
 f:Fld E br 1 wr v acc
 c:wr.cell? ⟨br,0,none⟩=some (.int .i64 d)
 r:RdAt wr b sl s
 lt:b<br
theorem CellSt.start (g:Elt (Int×Int)) {b:Nat}{f:Value}{a:World}{e:Rd}(d:RdAt a b f e) (c:Int) (h:TypeId):CellSt g b a.heap.size f (a.alloc (.cells #[.int .i64 c,.slice none 0 0] h)) c e [] (.slice none 0 0) :=
 ⟨⟨by rw[Az5];rfl,Az6 _ _ _ _,.nil _ _⟩,by rw[Az5];rfl,d.chg ((FR a).alloc _) iD,d.lt⟩
theorem CellSt.read {d:Elt (Int×Int)}{j g:Rd}{e:List (Int×Int)}(c:CellSt d a b A w x j e B) (h:RdAt v a A g) (f:J (λi=>i=a) w v):CellSt d a b A v x g e B :=
 ⟨c.f.chg f (λl m _ k=>by have:=c.lt;omega),f.cellS c.c (by have:=c.lt;show ¬b=a;omega),h,c.lt⟩
theorem CellSt.same {e:Elt (Int×Int)}{g:Rd}{f:List (Int×Int)}(c:CellSt e a b A w x g f B) (d:Cf w v):CellSt e a b A v x g f B :=
 ⟨c.f.chg d (λ_ _ _ c=>c),d.cellS c.c iD,c.r.chg d iD,c.lt⟩
theorem CellSt.add {d:Elt (Int×Int)}{h:Rd}{i f:List (Int×Int)}(c:CellSt d a b A w x h i B) (k:d.Own v (b+1) C f) (j:J (λe=>b+1<=e) w v) :
  (v.cell? ⟨b,1,none⟩=some B/\v.frozen? ⟨b,1,none⟩=false)/\CellSt d a b A (v.setCell ⟨b,1,none⟩ C) x h f C/\J (λe=>b<=e) w (v.setCell ⟨b,1,none⟩ C):=by
 obtain⟨l,m,g,n⟩:=c.f.step k j;exact⟨l,⟨m,n 0 _ H c.c,c.r.chg g (by have:=c.lt;omega),c.lt⟩,g⟩
theorem oe (b:List Int) (r:Option Addr) (O aH s d i:Nat) (e:Rd) (f:World) (A:BytesAt f O aH b) (aX:0<b.length->r=some ⟨O,aH,none⟩) (b2:b.length<=s) (b4:r=none->s=0) (c4:b.length<=100000000) (z:e.1<=b.length) (eT:i<=65536) (b3:b≠[]->O≠d) (b5:RdAt f d (.slice r b.length s) e) :
  Calls prog 187 #[.pointer (some ⟨d,0,none⟩),.int .i64 i] f λc B=>∃cI,c=.returned (.agg #[.int .i64 (rowP b i 16777216 e).1.1,.slice cI (rowP b i 16777216 e).1.2.length (rowP b i 16777216 e).1.2.length]) /\
   vU.In B f.heap.size (cI,(rowP b i 16777216 e).1.2.length,(rowP b i 16777216 e).1.2.length) (rowP b i 16777216 e).1.2/\RdAt B d (.slice r b.length s) (rowP b i 16777216 e).2/\J (λa=>a=d) f B:=by
 have eO:=b5.lt;have bI:G (∀(e:Rd) (h:World),e.1<=b.length->J (λa=>a=d\/f.heap.size<=a) f h->RdAt h d (.slice r b.length s) e->Calls prog 186 #[.pointer (some ⟨d,0,none⟩),.int .i64 16777216] h λc B=>c=.returned (.int .i64 (numP b 16777216 e).1)/\RdAt B d (.slice r b.length s) (numP b 16777216 e).2/\J (λa=>a=d) h B):=V (λe h v t T =>
  fg b r O aH s d 16777216 e h (A.chg t (λu c=>by have:=A.lt u;have:=b3 u;omega)) aX b2 b4 c4 v H T)
 have bK:G (∀(e:Rd) (h:World),e.1<=b.length->J (λa=>a=d\/f.heap.size<=a) f h->RdAt h d (.slice r b.length s) e->Calls prog 186 #[.pointer (some ⟨d,0,none⟩),.int .i64 i] h λc B=>c=.returned (.int .i64 (numP b i e).1)/\RdAt B d (.slice r b.length s) (numP b i e).2/\J (λa=>a=d) h B):=V (λe h v t T =>
  fg b r O aH s d i e h (A.chg t (λu c=>by have:=A.lt u;have:=b3 u;omega)) aX b2 b4 c4 v H T)
 obtain⟨N,Y⟩:=rK (f.alloc (.cells #[.int .i64 0,.slice none 0 0] 241));have aP:G (Cf f N):=V (by rw[Y];exact rT);have cB:N.heap.size=f.heap.size+1:=by rw[Y];simp
 have dH:=V cB;have cM:G (∀h,J (λa=>a=d\/N.heap.size<=a) N h->(h.cell? ⟨f.heap.size,0,none⟩=some (.int .i64 0)/\h.cell? ⟨f.heap.size,1,none⟩=some (.slice none 0 0))/\∀a,h.frozen? ⟨f.heap.size,a,none⟩=false):=V (λh E=>by
  have u:¬(f.heap.size=d\/N.heap.size<=f.heap.size):=H
  subst Y;exact⟨⟨E.cellS sI u,E.cellS sI u⟩,λa=>(E.frozen (p:=⟨f.heap.size,a,none⟩) sI u).trans (Az6 _ _ _ _)⟩)
 obtain⟨d4,d5,dF⟩:=rZ (b5.chg aP.o iD) z Y;obtain⟨y,a7⟩:=rM (numP b 16777216 e);obtain⟨a3,a8⟩:=rM (numP b i y.2);obtain⟨q,Q⟩:=rM (sL b i 16777216 a3.1 a3.2 0 []);have c9:rowP b i 16777216 e=(((y.1:Int)-1,q.1),q.2):=by
  unfold rowP;rw[a7,a8,Q]
 have X:=yY (m:=16777216) z;rw[a7]at X;have aV:=yY (m:=i) X.1;rw[a8]at aV;have d2:=V X;have bO:=V aV;have eH:=X.2.1;obtain⟨S,d1,d3⟩:=rZ Q a7 a8;rw[c9];simp only;clear A aX b2 b4 z b3 b5 Y cB X aV Q a7 a8 c9;go_enter func187,ntmps187
 go_upto_region 1 with fail
 rw[<-dF.o];go_wp2_with fail
 refine (bI.o e N d5.o aP.o.any d4.o).mono ?_;rw[d1.o];rintro c g ⟨rfl,c5,aY⟩;have aM:=V aY;have eM:f.heap.size<g.heap.size:=by have:=aY.size;have:=dH.o;omega
 have o:=V (CellSt.start vU c5 ((y.1:Int)-1) 241);have aO:G (J (λa=>a=d\/g.heap.size<=a) g (g.alloc (.cells #[.int .i64 ((y.1:Int)-1),.slice none 0 0] 241))):=V (rT);have a2:G (∀h,J (λa=>a=d\/g.heap.size<=a) g h->J (λa=>a=d\/f.heap.size<=a) f h):=V (λh E=>(aP.o.any.trans (aM.o.mono (λk _ c=>.inl c))).trans (E.mono (λk _ c=>H)));clear c5 aY;go_wp2_with fail
 refine (bK.o y.2 _ d2.o.1 (a2.o _ aO.o) o.o.r).mono ?_;rw[d3.o];rintro c f4 ⟨rfl,c6,aZ⟩;have bP:=V (o.o.read c6 aZ);have bF:=V (aO.o.trans (aZ.mono (λk _ c=>.inl c)));clear c6 aZ o aO;go_wp2
 go_loopw [6,7] (λe1 b9 wr=>∃(m:Nat) (e:Rd) (l:Int) (j:List (Int×Int)) (bD:Value),e1=.int .i64 l/\b9=.int .i64 m/\CellSt vU d g.heap.size (.slice r b.length s) wr ((y.1:Int)-1) e j bD/\e.1<=b.length/\(0<=l/\l<=(j.length:Int) * 65536/\j.length+m<=65536)/\sL b i 16777216 m e l j=q/\J (λa=>a=d\/g.heap.size<=a) g wr) (λ_ b9 _=>(intOf b9).toNat)
 .exact⟨a3.1,a3.2,0,[],_,D,D,bP.o,bO.o.1,⟨H,sI,by have:=bO.o.2.1;simp;omega⟩,S.o,bF.o⟩
 clear bP bF S;obtain⟨m,e,l,j,bD,rfl,rfl,aF,z,⟨eI,eK,eB⟩,Q,c1⟩:=hrel;obtain⟨o,bT,S,R⟩:=sB aF z Q c1;obtain⟨F,e6,cF,rfl⟩:=aF.f.own.shape3;obtain⟨bB,Z⟩:=e;have bZ:=aF.r.c2;simp only at bZ;clear aF z Q c1;by_cases aD:0<m/\Z=false
 .obtain⟨P,rfl⟩:=aD
  obtain⟨w,rfl⟩:∃w,m=w+1:=⟨m-1,H⟩;have bX:decide (0<w+1)=true:=sI;have e9:((w+1:Nat):Int)-1=(w:Int):=H;obtain⟨n,a6⟩:=rM (numP b i (bB,false));obtain⟨M,a4⟩:=rM (numP b 16777216 n.2);have U:=yY (m:=i) bT.o;rw[a6]at U;have a5:=yY (m:=16777216) U.1;rw[a4]at a5;have d0:=V U;have cX:=V a5;have eF:=U.2.1;have eD:=a5.2.1;have dB:G (sL b i 16777216 w M.2 (l+n.1) (j++[(l+n.1,(M.1:Int)-1)])=q):=V (by
   rw[<-S.o,rL D,a6,a4])
  have eV:IntKind.i64.wrap ((M.1:Int)-1)=(M.1:Int)-1:=(by rw[IntKind.wrap_i64];omega);have cZ:=V a6;have cV:=V a4;clear U a5 a6 a4;go_wp2_with fail
  refine (bK.o (bB,false) wr bT.o (a2.o _ R.o) o.o.r).mono ?_;rw[cZ.o];rintro c a0 ⟨rfl,c7,b0⟩;have d7:=V (o.o.read c7 b0);have cO:=V (R.o.trans (b0.mono (T:=λa=>a=d\/g.heap.size<=a) (λk _ c=>.inl c)));clear c7 b0 o R bZ;go_upto_region 7 with fail
  obtain⟨L,b7⟩:=rK a0.drew;have dD:G (a0.drew=L):=V b7.symm;have bV:G (Cf a0 L):=V (by rw[b7];exact (J.refl _ _).drew);have aR:=V (d7.o.same bV.o);have bH:=V (cO.o.trans bV.o.any);clear b7;refine zC (λaK=>J (λa=>a=d\/g.heap.size+1<=a) L aK) (λb8=>decide (b8=10)) kR ?_;show yC _ _ _ _ _ _ 11 (Array.replicate 11 false) _ a0.drew;rw[dD.o];have x:G (J (λa=>a=d\/g.heap.size+1<=a) L L):=V cR;have dZ:¬(g.heap.size=d\/g.heap.size+1<=g.heap.size):=H;refine lq 0 x.o ?_;(refine lf 1 x.o (λ_ dU=>dU.cellS aR.o.f.c dZ) ?_);refine lq 2 x.o ?_;refine lq 3 x.o ?_;refine zY (i:=4) kR D D 186 #[.pointer (some ⟨d,0,none⟩),.int .i64 16777216] (λcD cH=>cD=.int .i64 M.1/\RdAt cH d (.slice r b.length s) M.2/\J (λa=>a=d) L cH) (by go_simp) ?_ ?_
  .refine (bI.o n.2 L d0.o.1 (a2.o _ bH.o) aR.o.r).mono ?_
   rw[cV.o];rintro c K ⟨rfl,v,t⟩;exact⟨_,D,λ_=>x.o.trans (t.mono (λk _ c=>.inl c)),D,v,t⟩
  rintro cD K cA ⟨rfl,c8,b1⟩ m P;obtain⟨x,d8,cP⟩:=rZ (cA dE) (aR.o.read c8 b1) (bH.o.trans (b1.mono (T:=λa=>a=d\/g.heap.size<=a) (λk _ c=>.inl c)));clear cA c8 b1;(try go_simp)
  refine P _ ?_;clear P m;have aT:=V (d8.o.same ((FR K).alloc (.cells #[.int .i64 (l+n.1),.int .i64 ((M.1:Int)-1)] 246)));have cK:G (g.heap.size+1<=(K.alloc (.cells #[.int .i64 (l+n.1),.int .i64 ((M.1:Int)-1)] 246)).heap.size):=V (by have:=aT.o.f.lt;omega);have bM:G (∀aK∈[(l+(n.1:Int),(M.1:Int)-1)],vU.ok aK):=V (by
   intro aK E;rw[Ay]at E;subst E;exact⟨⟨by show -9223372036854775808<=l+(n.1:Int);omega,by show l+(n.1:Int)<=9223372036854775807;omega⟩,⟨by show -9223372036854775808<=(M.1:Int)-1;omega,by show (M.1:Int)-1<=9223372036854775807;omega⟩⟩)
  refine lq 5 x.o ?_;refine lq 6 x.o ?_;refine lt 7 (λ_=>x.o.alloc _) ?_;refine yQ (i:=8) kR D D (.tmp 32) (.tmp 38) 239 239 D (.slice F e6 cF) (.slice (some ⟨K.heap.size,0,none⟩) 1 1) D D (λaI a1=>vU.Own a1 (g.heap.size+1) aI (j++[(l+(n.1:Int),(M.1:Int)-1)])/\J (λa=>g.heap.size+1<=a) (K.alloc (.cells #[.int .i64 (l+n.1),.int .i64 ((M.1:Int)-1)] 246)) a1) ?_ ?_
  .obtain⟨aI,a1,e0,v,t,-⟩:=aT.o.f.own.append cK.o 239 (.slice (some ⟨K.heap.size,0,none⟩) 1 1) [(l+(n.1:Int),(M.1:Int)-1)] (vU.srcLit 1 bM.o) bM.o sO 239
   exact⟨aI,a1,e0,λ_=>(x.o.alloc _).trans (t.mono (λk _ c=>.inr c)),v,t⟩
  rintro aI a1 z ⟨v,t⟩ m P;obtain⟨e4,f3,e5,b6⟩:=v.shape3;subst b6;obtain⟨⟨eX,eZ⟩,c3,c2⟩:=aT.o.add v t;obtain⟨cT,cS,d6⟩:=rZ c3 (cP.o.trans ((((J.refl (λk=>g.heap.size<=k) K).alloc (.cells #[.int .i64 (l+n.1),.int .i64 ((M.1:Int)-1)] 246)).trans c2).mono (T:=λa=>a=d\/g.heap.size<=a) (λk _ c=>.inr c))) (z dE);clear c3 v t z c2;(try go_simp)
  refine P _ ?_;clear P m;refine lt 9 (λ_=>d6.o) ?_;refine ld 10 ?_;refine zQ kR ?_ _;go_wp2;go_roundw
  .exact⟨w,M.2,l+n.1,_,_,D,GN,cT.o,cX.o.1,⟨H,sO,sO⟩,dB.o,cS.o⟩
  simp[intOf]
 have dV:decide (0<m)=false\/(decide (0<m)=true/\Z=true):=by
  rcases Ax6 m with C|C
  .exact .inl (by simp[C])
  exact .inr ⟨by simpa using C,by cases Z;exact absurd ⟨C,D⟩ aD;rfl⟩
 have d9:G (q=(j,bB,Z)):=V (by
  rw[<-S.o]
  apply pA
  rcases Ax6 m with C|C
  .exact .inr C
  exact .inl (by cases Z;exact absurd ⟨C,D⟩ aD;rfl))
 clear aD;rcases dV with bX|⟨bX,rfl⟩
 all_goals
  go_upto_region 8 with fail
  have e8:=o.o.f.c;have f5:=o.o.f.z;have e7:=o.o.c;obtain⟨⟨e2,e3⟩,A⟩:=cM.o wr ((aM.o.mono (T:=λa=>a=d\/N.heap.size<=a) (λk _ c=>.inl c)).trans (R.o.mono (λk _ c=>by have:=aM.o.size;omega)));have f0:=A 0;have f1:=A 1;obtain⟨e4,f2,e5,b6,dX,-,-⟩:=o.o.f.own.at';injection b6 with dI dK dM;subst dI dK dM;have u:f.heap.size≠g.heap.size:=H;clear A;go_wp2_with fail
  refine (kg _ F _ cF dX).mono ?_;rintro c a0 ⟨rfl,rfl⟩;go_wp2;have aB:=zA wr g.heap.size 1 (.slice F j.length j.length);obtain⟨dO,dP,c0⟩:=bw (.int .i64 ((y.1:Int)-1)) (.slice F j.length j.length) (aB.cellS e2 u) (aB.cellS e3 u);have a9:=(aB.mono (T:=λk=>k=g.heap.size\/k=f.heap.size) (λk _ c=>.inl c)).trans (c0.mono (λk _ c=>.inr c));have T:=((o.o.f.own.chg a9 (λO eP _ c=>H)).in' (Ay1 _)).lower (B':=f.heap.size) H;have dR:=((a2.o wr R.o).trans (a9.mono (T:=λa=>a=d\/f.heap.size<=a) (λk _ c=>H))).mono (T:=λa=>a=d) (λk eR c=>H);have dT:=o.o.r.chg a9 H;clear c0 a9 aB
  generalize ((wr.setCell ⟨g.heap.size,1,none⟩ (.slice F j.length j.length)).setCell ⟨f.heap.size,0,none⟩ (.int .i64 ((y.1:Int)-1))).setCell ⟨f.heap.size,1,none⟩ (.slice F j.length j.length)=W at *
  rw[d9.o];exact bodyPost_ret (v:=.agg #[.int .i64 ((y.1:Int)-1),.slice F j.length j.length]) (by simp[results,results187,go_sem,dO,dP]) D ⟨F,D,T,dT,dR⟩
structure TakSt (E:Elt (Int×Int)) (F:Elt (Int×Sl)) (bt lo:Nat) (w:World) (W:Int) (R:List RowD) (O:List Int) (v u:Value):Prop where
 c0:w.cell? ⟨bt,0,none⟩=some (.int .i64 W)
 c1:w.cell? ⟨bt,1,none⟩=some v
 z1:w.frozen? ⟨bt,1,none⟩=false
 c2:w.cell? ⟨bt,2,none⟩=some u
 z2:w.frozen? ⟨bt,2,none⟩=false
 rows:∃X:List (Int×Sl),F.Own w lo v X/\X.length=R.length/\∀(j:Nat) x r,X[j]?=some x->R[j]?=some r->kU E w lo x r/\(0<r.2.length->∀g o,x.2.1=some ⟨g,o,none⟩->v.ownBlock≠some g/\u.ownBlock≠some g/\lo<=g)
 of:intE.Own w lo u O
 apart:∀g,v.ownBlock=some g->u.ownBlock≠some g
 blo:bt<lo
theorem TakSt.lt {c:Elt (Int×Int)}{d:Elt (Int×Sl)}{e:List RowD}(f:TakSt c d a b w x e X A B):a<w.heap.size:=Az8 _ _ f.c0
theorem TakSt.same {e:Elt (Int×Int)}{f:Elt (Int×Sl)}{g:List RowD}(c:TakSt e f a b w x g X A B) (d:Cf w v):TakSt e f a b v x g X A B:=by
 obtain⟨n,o,q,h⟩:=c.rows;exact⟨d.cellS c.c0 iD,d.cellS c.c1 iD,(d.frozen (p:=⟨a,1,none⟩) c.lt iD).trans c.z1,d.cellS c.c2 iD,(d.frozen (p:=⟨a,2,none⟩) c.lt iD).trans c.z2,
  ⟨n,o.chg d (λ_ _ _ c=>c),q,λk m l j i=>⟨(h k m l j i).1.same d,(h k m l j i).2⟩⟩,c.of.chg d (λ_ _ _ c=>c),c.apart,c.blo⟩
theorem TakSt.rowsIn {f:Elt (Int×Int)}{g:Elt (Int×Sl)}{e:List RowD}(o:TakSt f g a b w x e X (.slice F c d) A):vW f g w b (F,c,d) e/\c=e.length/\c<=d:=by
 obtain⟨k,h,i,p⟩:=o.rows;obtain⟨y,B,z,r,j,-⟩:=h.at';injection r with l m n;subst l m n;exact⟨⟨k,h.in' j,i,λt v u s q=>(p t v u s q).1⟩,i,j⟩
theorem TakSt.addRow {r:Elt (Int×Int)}{u:Elt (Int×Sl)}{F:List RowD}(g:TakSt r u a b w x F X A C) {E:Int×Sl}{O:RowD}(a7:kU r w b E O) (a8:0<O.2.length->∀d j,E.2.1=some ⟨d,j,none⟩->A.ownBlock≠some d/\C.ownBlock≠some d/\b<=d)
  (a6:∀m,u.Own w b A m->m.length=F.length->u.Own v b B (m++[E])) (n:J (λh=>A.ownBlock=some h) w v) (f:B.ownBlock=A.ownBlock\/B.ownBlock=some w.heap.size\/B.ownBlock=some (w.heap.size+1)) :
  (v.cell? ⟨a,1,none⟩=some A/\v.frozen? ⟨a,1,none⟩=false)/\TakSt r u a b (v.setCell ⟨a,1,none⟩ B) x (F++[O]) X B C/\J (λh=>a<=h) w (v.setCell ⟨a,1,none⟩ B):=by
 obtain⟨m,Q,K,R⟩:=g.rows;have y:=g.lt;have aF:=g.blo;have S:∀d,A.ownBlock=some d->b<=d/\d<w.heap.size:=λd e=>Q.blk e
 have s:¬A.ownBlock=some a:=λc=>by have:=(S a c).1;omega
 have P:=n.cellS g.c1 s;have a1:=(n.frozen (p:=⟨a,1,none⟩) y s).trans g.z1;have L:=zA v a 1 B;have a2:∀d,d<w.heap.size->A.ownBlock≠some d->B.ownBlock≠some d:=λd e a5 c=>by
  rcases f with f|f|f
  .rw[f]at c;exact a5 c
  .rw[f]at c;obtain rfl:=Az2 c;omega
  rw[f]at c;obtain rfl:=Az2 c;omega
 have T:J (λh=>A.ownBlock=some h\/h=a) w (v.setCell ⟨a,1,none⟩ B):=(n.mono (λh _ c=>.inl c)).trans (L.mono (λh _ c=>.inr c));have a0:∀(l:Int×Sl) (k:RowD),kU r w b l k->(0<k.2.length->∀d j,l.2.1=some ⟨d,j,none⟩->A.ownBlock≠some d/\C.ownBlock≠some d/\b<=d) ->
  kU r (v.setCell ⟨a,1,none⟩ B) b l k/\(0<k.2.length->∀d j,l.2.1=some ⟨d,j,none⟩->B.ownBlock≠some d/\C.ownBlock≠some d/\b<=d):=λl k i W=>by
  refine⟨i.chg0 T (λq d j e c=>?_),λq d j e=>?_⟩
  .obtain⟨N,Y,Z⟩:=W q d j e
   rcases c with c|c
   .exact N c
   omega
  obtain⟨N,Y,Z⟩:=W q d j e
  obtain⟨_,_,aD,aH,a9,aB⟩:=i.2.2;have y:d<w.heap.size:=by
   have o:=(aB q).1;rw[e]at o;injection o with o;injection o with o;subst o;exact a9.lt (by intro c;rw[c]at q;simp at q)
  exact⟨a2 d y N,Y,Z⟩
 refine⟨⟨P,a1⟩,⟨J.cellNe (n.cellS g.c0 s) (by intro c;injection c with _ c;cases c),Az9 _ _ _ P,(Az3 _ _ _ _).trans a1,J.cellNe (n.cellS g.c2 s) (by intro c;injection c with _ c;cases c),(Az3 _ _ _ _).trans ((n.frozen (p:=⟨a,2,none⟩) y s).trans g.z2),
  ⟨m++[E],(a6 m Q K).chg L (λd e _ c=>H),by simp[K],λz l k i t=>?_⟩,?_,λd e U=>?_,g.blo⟩,T.mono (λh _ c=>by
   rcases c with c|c
   .have:=(S h c).1;omega
   omega)⟩
 .by_cases a3:z<m.length
  .rw[Ax0 a3]at i
   rw[Ax0 H]at t;exact a0 l k (R z l k i t).1 (R z l k i t).2
  have a4:=(Az0.1 i).1
  simp at a4
  obtain rfl:z=m.length:=H;rw[Ax7 (Ay1 _),Au4]at i;rw[K,Ax7 (Ay1 _),Au4]at t;obtain rfl:=Az2 i;obtain rfl:=Az2 t;exact a0 _ _ a7 a8
 .refine (g.of.chgB n (λd e c=>g.apart d c e)).chg L (λd e _ c=>H)
 have:=(g.of.blk U)
 rcases f with f|f|f
 .rw[f]at e;exact g.apart d e U
 .rw[f]at e;obtain rfl:=Az2 e;omega
 rw[f]at e;obtain rfl:=Az2 e;omega
theorem TakSt.addOf {r:Elt (Int×Int)}{s:Elt (Int×Sl)}{t:List RowD}(f:TakSt r s a b w x t X A B)
  (W:intE.Own v b C (X++[y])) (h:J (λg=>B.ownBlock=some g) w v) (Z:C.ownBlock=B.ownBlock\/C.ownBlock=some w.heap.size\/C.ownBlock=some (w.heap.size+1)) :
  (v.cell? ⟨a,2,none⟩=some B/\v.frozen? ⟨a,2,none⟩=false)/\TakSt r s a b (v.setCell ⟨a,2,none⟩ C) x t (X++[y]) A C/\J (λg=>a<=g) w (v.setCell ⟨a,2,none⟩ C):=by
 obtain⟨R,z,S,T⟩:=f.rows;have m:=f.lt;have a8:=f.blo;have E:∀d,B.ownBlock=some d->b<=d/\d<w.heap.size:=λd e=>f.of.blk e
 have k:¬B.ownBlock=some a:=λc=>by have:=(E a c).1;omega
 have u:=h.cellS f.c2 k;have Q:=(h.frozen (p:=⟨a,2,none⟩) m k).trans f.z2;have n:=zA v a 2 C;have K:∀d,d<w.heap.size->B.ownBlock≠some d->C.ownBlock≠some d:=λd e U c=>by
  rcases Z with l|l|l
  .rw[l]at c;exact U c
  .rw[l]at c;obtain rfl:=Az2 c;omega
  rw[l]at c;obtain rfl:=Az2 c;omega
 have F:J (λg=>B.ownBlock=some g\/g=a) w (v.setCell ⟨a,2,none⟩ C):=(h.mono (λg _ c=>.inl c)).trans (n.mono (λg _ c=>.inr c));refine⟨⟨u,Q⟩,⟨J.cellNe (h.cellS f.c0 k) (by intro c;injection c with _ c;cases c),J.cellNe (h.cellS f.c1 k) (by intro c;injection c with _ c;cases c),(Az3 _ _ _ _).trans ((h.frozen (p:=⟨a,1,none⟩) m k).trans f.z1),Az9 _ _ _ u,(Az3 _ _ _ _).trans Q,
  ⟨R,(z.chgB h (λd e c=>f.apart d e c)).chg n (λd e _ c=>H),S,λa2 a6 a5 a1 Y=>?_⟩,W.chg n (λd e _ c=>H),λd e a0=>?_,f.blo⟩,F.mono (λg _ c=>by
   rcases c with c|c
   .have:=(E g c).1;omega
   omega)⟩
 .obtain⟨L,N⟩:=T a2 a6 a5 a1 Y
  refine⟨L.chg0 F (λj d q e c=>?_),λj d q e=>?_⟩
  .obtain⟨O,o,P⟩:=N j d q e
   rcases c with c|c
   .exact o c
   omega
  obtain⟨O,o,P⟩:=N j d q e
  obtain⟨_,_,a7,a9,a3,a4⟩:=L.2.2;have m:d<w.heap.size:=by
   have i:=(a4 j).1;rw[e]at i;injection i with i;injection i with i;subst i;exact a3.lt (by intro c;rw[c]at j;simp at j)
  exact⟨O,K d m o,P⟩
 exact K d (z.blk e).2 (λc=>f.apart d e c) a0
theorem TakSt.final {z:Elt (Int×Int)}{A:Elt (Int×Sl)}{q:List RowD}(m:TakSt z A a b w x q X (.slice F c d) (.slice Q e f)) (t:J (λu=>u<b) w v) :
  vW z A v b (F,c,c) q/\OfIn v b Q X/\c=q.length/\e=X.length/\c<=d/\e<=f:=by
 obtain⟨P,B,C,E⟩:=m.rows;have R:=B.chg t (λh K _ g=>H);obtain⟨Z,h,a0,U,T,-⟩:=B.at';injection U with i j k;subst i j k;refine⟨⟨P,R.in' (Ay1 _),C,λN p O o L=>(E N p O o L).1.chg0 t (λl h W K g=>by have:=((E N p O o L).2 l h W K).2.2;omega)⟩,?_,C,?_,T,?_⟩
 .rcases m.of with ⟨g,rfl⟩|⟨h,y,g,r,s,l,_⟩
  .injection g with i j k
   exact .inl ⟨D,i⟩
  injection g with i j k
  have n:=(s.chg t (show ¬h<b by omega));refine .inr ⟨h,i,bY.1 ⟨λu Y S=>?_,n.z,n.lt,λp o=>n.ok p (l.subset o)⟩,r⟩;have:=(n.at' l).c u Y S;rwa [Ax]at this
 .rcases m.of with ⟨g,rfl⟩|⟨h,y,g,r,s,l,_⟩
  .injection g
  injection g
 rcases m.of with ⟨g,rfl⟩|⟨h,y,g,r,s,l,_⟩
 .injection g with i j k
  subst j k;exact Ay1 _
 injection g with i j k
 subst j k;exact l.length_le
theorem TakSt.chg {q:Elt (Int×Int)}{r:Elt (Int×Sl)}{S:Nat->Prop}{s w':World}{R:List RowD}(c:TakSt q r a b s x R X A B) (e:J S s w') (h:∀d,S d->d≠a/\d<b):TakSt q r a b w' x R X A B:=by
 obtain⟨t,u,v,i⟩:=c.rows;have g:¬S a:=λf=>(h a f).1 D
 exact⟨e.cellS c.c0 g,e.cellS c.c1 g,(e.frozen (p:=⟨a,1,none⟩) c.lt g).trans c.z1,e.cellS c.c2 g,(e.frozen (p:=⟨a,2,none⟩) c.lt g).trans c.z2,
  ⟨t,u.chg e (λd j _ f=>by have:=(h d f).2;omega),v,λm o n l k=>⟨(i m o n l k).1.chg0 e (λw d y j f=>by have:=(h d f).2;have:=((i m o n l k).2 w d y j).2.2;omega),(i m o n l k).2⟩⟩,c.of.chg e (λd j _ f=>by have:=(h d f).2;omega),c.apart,c.blo⟩
structure TkSt (E:Elt (Int×Int)) (F:Elt (Int×Sl)) (b bt lo:Nat) (sl:Value) (w:World) (s:Rd) (W:Int) (R:List RowD) (O:List Int) (v u:Value):Prop where
 t:TakSt E F bt lo w W R O v u
 r:RdAt w b sl s
 z0:w.frozen? ⟨bt,0,none⟩=false
 ne:b≠bt
 lo:b<lo
theorem TkSt.read {e:Elt (Int×Int)}{f:Elt (Int×Sl)}{m i:Rd}{g:List RowD}(d:TkSt e f a b c A w m x g X B C) (k:RdAt v a A i) (h:J (λl=>l=a) w v):TkSt e f a b c A v i x g X B C :=
 ⟨d.t.chg h (λn j=>by subst j;exact⟨d.ne,d.lo⟩),k,(h.frozen (p:=⟨b,0,none⟩) d.t.lt (Ne.symm d.ne)).trans d.z0,d.ne,d.lo⟩
theorem TkSt.same {f:Elt (Int×Int)}{g:Elt (Int×Sl)}{i:Rd}{h:List RowD}(d:TkSt f g a b c A w i x h X B C) (e:Cf w v):TkSt f g a b c A v i x h X B C :=
 ⟨d.t.same e,d.r.chg e iD,(e.frozen (p:=⟨b,0,none⟩) d.t.lt iD).trans d.z0,d.ne,d.lo⟩
theorem TkSt.width {p:Elt (Int×Int)}{q:Elt (Int×Sl)}{s:Rd}{r:List RowD}(d:TkSt p q a b c A w s x r X B C) (g:Int):TkSt p q a b c A (w.setCell ⟨b,0,none⟩ (.int .i64 g)) s g r X B C:=by
 have f:=zA w b 0 (.int .i64 g);have E:=d.t.blo;obtain⟨t,u,v,i⟩:=d.t.rows;refine⟨⟨Az9 _ _ _ d.t.c0,J.cellNe d.t.c1 (by intro e;injection e with _ e;cases e),(Az3 _ _ _ _).trans d.t.z1,J.cellNe d.t.c2 (by intro e;injection e with _ e;cases e),(Az3 _ _ _ _).trans d.t.z2,
  ⟨t,u.chg f (λh j _ e=>H),v,λm o n l k=>⟨(i m o n l k).1.chg0 f (λy h z j e=>by have:=((i m o n l k).2 y h z j).2.2;omega),(i m o n l k).2⟩⟩,d.t.of.chg f (λh j _ e=>H),d.t.apart,d.t.blo⟩,d.r.chg f d.ne,(Az3 _ _ _ _).trans d.z0,d.ne,d.lo⟩
theorem TkSt.store {d:Elt (Int×Int)}{e:Elt (Int×Sl)}{f:Rd}{i g:List RowD}(h:TkSt d e a b c A w f x i X B E) (k:TakSt d e b c v x g Y C Z) (j:RdAt v a A f) (l:v.frozen? ⟨b,0,none⟩=false):TkSt d e a b c A v f x g Y C Z :=
 ⟨k,j,l,h.ne,h.lo⟩
theorem TkSt.start (g:Elt (Int×Int)) (h:Elt (Int×Sl)) (e:Value) (a:World) (c:Int) (d f:TypeId) :
  TkSt g h (a.heap.size+1) a.heap.size (a.heap.size+2) e ((a.alloc (.cells #[.int .i64 c,.slice none 0 0,.slice none 0 0] d)).alloc (.cells #[e,.int .i64 0,.bool false] f)) (0,false) c [] [] (.slice none 0 0) (.slice none 0 0):=by
 have i:(a.alloc (.cells #[.int .i64 c,.slice none 0 0,.slice none 0 0] d)).heap.size=a.heap.size+1:=sI
 have b:=(FR (a.alloc (.cells #[.int .i64 c,.slice none 0 0,.slice none 0 0] d))).alloc (.cells #[e,.int .i64 0,.bool false] f);refine⟨⟨b.cellS sI iD,b.cellS sI iD,(b.frozen (p:=⟨a.heap.size,1,none⟩) sI iD).trans (Az6 _ _ _ _),b.cellS sI iD,(b.frozen (p:=⟨a.heap.size,2,none⟩) sI iD).trans (Az6 _ _ _ _),
  ⟨[],.nil _ _,D,λl o n k=>by simp at k⟩,.nil _ _,λm j=>(by cases j),H⟩,?_,(b.frozen (p:=⟨a.heap.size,0,none⟩) sI iD).trans (Az6 _ _ _ _),H,H⟩
 rw[<-i];exact⟨by rw[Az5];rfl,by rw[Az5];rfl,by rw[Az5];rfl,λl=>Az6 _ _ _ _⟩
theorem OfIn.bytes (b:OfIn w a F X):∃c,I.BytesAt w c 0 X/\(0<X.length->F=some ⟨c,0,none⟩):=by
 rcases b with ⟨rfl,rfl⟩|⟨c,rfl,d,_⟩
 .exact⟨0,⟨λf F e=>by simp at e,λb=>absurd D b⟩,λb=>absurd b sI⟩
 exact⟨c,d.bytes (Aw8 _),λ_=>rfl⟩
theorem og {h:Program}{f:Array Oper}{i:Region.Mode}{d:Cls}{l:Act->Prop}{e:Oper}{rest:List Oper}{b:Act}(s:Region.wanted e (yielded f b.tmps)=true)
  (r:∀c g,a∈Region.ready i f c->d c g->∃j,(execOp b.eval e).run h g=.ok .skip j/\d (c.setIfInBounds a true) j)
  (m:∀k:Act->Prop,(∀b,wpC h f i d l rest (a+1) b->k b)->k (b.put e.dst undef)):wpC h f i d l (e :: rest) a b :=
 ⟨undef,.inl ⟨s,λc g q p=>by obtain⟨j,n,o⟩:=r c g q p;rw[n];exact⟨D,o⟩⟩,m _ iE⟩
def dy (R:List RowD):Prop:=∀r∈R,r.2.length<=65536
theorem dy.add {b:List RowD}{r:RowD}(c:dy b) (d:r.2.length<=65536):dy (b++[r]):=λe a=>by
 rcases Aw9.1 a with a|a
 .exact c e a
 rw[Ay]at a;subst a;exact d
theorem oh {Z:List Int}{ms mv:Nat}:∀{c:Nat}{b:Rd}{d:Int}{a:List (Int×Int)},(sL Z ms mv c b d a).1.length<=a.length+c
 | 0,b,d,a=>Ay1 _
 | c+1,b,d,a=>by
  cases e:b.2 with
  | true=>rw[pA (.inl e)];exact Nat.le_add_right _ _
  | false =>
   rw[rL e];refine Ay2 oh ?_;simp
   omega
theorem oj {mw mv:Nat}{a:Rd}(b:a.1<=X.length):(rowP X mw mv a).1.2.length<=mw:=by
 refine Ay2 (oh (Z:=X) (ms:=mw) (mv:=mv)) ?_;have:=(yY (m:=mw) (yY (m:=mv) b).1).2.1;simpa using this
theorem yd (c:List Int) (v:Option Addr) (a3 aZ w:Nat) (a:World) (bB:BytesAt a a3 aZ c) (e1:0<c.length->v=some ⟨a3,aZ,none⟩) (e6:c.length<=w) (e8:v=none->w=0) (iB:c.length<=100000000) (eF:(xQ c vQ).2.2=false) :
  Calls prog 167 #[.slice v c.length w] a λb E=>(qA c vQ=true/\∃gD g5,b=.returned (.tuple #[.agg #[.int .i64 (xQ c vQ).1.1,.slice gD (xQ c vQ).1.2.1.length (xQ c vQ).1.2.1.length,.slice g5 (xQ c vQ).1.2.2.length (xQ c vQ).1.2.2.length],.int .i64 (xQ c vQ).2.1,.int .i64 0]) /\
   vW vU rowE E a.heap.size (gD,(xQ c vQ).1.2.1.length,(xQ c vQ).1.2.1.length) (xQ c vQ).1.2.1/\OfIn E a.heap.size g5 (xQ c vQ).1.2.2/\Cf a E) \/
   (qA c vQ=false/\b=.returned (.tuple #[.agg #[.int .i64 0,.slice none 0 0,.slice none 0 0],.int .i64 0,.int .i64 4])/\Cf a E):=by
 have cK:G (∀(j:Rd) (N:World),j.1<=c.length->J (λe=>a.heap.size<=e) a N->RdAt N (a.heap.size+1) (.slice v c.length w) j->Calls prog 186 #[.pointer (some ⟨a.heap.size+1,0,none⟩),.int .i64 65536] N λb E=>b=.returned (.int .i64 (numP c 65536 j).1)/\RdAt E (a.heap.size+1) (.slice v c.length w) (numP c 65536 j).2/\J (λe=>e=a.heap.size+1) N E):=jh (λj N r l s =>
  fg c v a3 aZ w (a.heap.size+1) 65536 j N (bB.chg l (λc4 b=>by have:=bB.lt c4;omega)) e1 e6 e8 H r H s)
 have h9:G (∀(K:Nat) (j:Rd) (N:World),K<=65536->j.1<=c.length->J (λe=>a.heap.size<=e) a N->RdAt N (a.heap.size+1) (.slice v c.length w) j->Calls prog 187 #[.pointer (some ⟨a.heap.size+1,0,none⟩),.int .i64 K] N λb E=>∃u,b=.returned (.agg #[.int .i64 (rowP c K 16777216 j).1.1,.slice u (rowP c K 16777216 j).1.2.length (rowP c K 16777216 j).1.2.length]) /\
  vU.In E N.heap.size (u,(rowP c K 16777216 j).1.2.length,(rowP c K 16777216 j).1.2.length) (rowP c K 16777216 j).1.2/\RdAt E (a.heap.size+1) (.slice v c.length w) (rowP c K 16777216 j).2/\J (λe=>e=a.heap.size+1) N E):=jh (λK j N hN r l s =>
  oe c v a3 aZ w (a.heap.size+1) K j N (bB.chg l (λc4 b=>by have:=bB.lt c4;omega)) e1 e6 e8 H r hN (λc4=>by have:=bB.lt c4;omega) s)
 obtain⟨gK,c8⟩:=rK (a.alloc (.cells #[.int .i64 0,.slice none 0 0,.slice none 0 0] 201));obtain⟨gI,d1⟩:=rK (gK.alloc (.cells #[.slice v c.length w,.int .i64 0,.bool false] 274));have Q:=jh (TkSt.start vU rowE (.slice v c.length w) a 0 201 274);rw[<-c8,<-d1]at Q;have d5:G (J (λe=>a.heap.size<=e) a gI):=jh (by rw[d1,c8];exact (rT).alloc _);have W:gK.heap.size=a.heap.size+1:=by rw[c8];simp
 obtain⟨k,cT⟩:=rM (numP c 65536 (0,false));obtain⟨cS,cV⟩:=rM (numP c 65536 k.2);obtain⟨f,dX⟩:=rM (mJ c k.1 16777216 cS.1 cS.2 []);obtain⟨bV,cX⟩:=rM (numP c 65536 f.2);obtain⟨V,cZ⟩:=rM (ofP c 65536 bV.1 bV.2 []);have eB:xQ c vQ=(((k.1:Int),f.1,V.1),V.2):=by
  unfold xQ;simp only[vQ,id];rw[cT,cV,dX,cX,cZ]
 have e0:V.2.2=false:=by rw[eB]at eF;exact eF
 have fP:f.2.2=false:=eE (m:=65536) (Z:=c) (by rw[cX];exact ag (Z:=c) (mm:=65536) (k:=bV.1) (acc:=[]) (by rw[cZ];exact e0));have h7:=jh fP;clear fP;have fD:=jh e0;clear e0 eF;have bZ:=yY (Z:=c) (m:=65536) (s:=(0,false)) (Ax9 _);rw[cT]at bZ;have dV:=yY (m:=65536) bZ.1;rw[cV]at dV;have h5:=jh bZ;have f5:=jh dV;have hO:=bZ.2.1;obtain⟨h4,h6,bO,f9,bP,hE,hC⟩:=sH cT cV dX cX cZ c8 d1;unfold qA;rw[eB];simp only;clear bB e1 e6 e8 c8 d1 cT cV dX cX cZ eB bZ dV;go_enter func167,ntmps167
 go_upto_region 1 with fail
 rw[<-hE.o];go_upto_region 2 with fail
 rw[<-hC.o];clear W;go_wp2_with fail
 have f1:=jh (cK.o (0,false) gI (Ax9 _) d5.o Q.o.r);rw[h4.o]at f1;refine f1.o.mono ?_;rintro b gH ⟨rfl,g2,e2⟩;have cM:=jh (Q.o.read g2 e2);have eT:=jh (d5.o.trans (e2.mono (T:=λe=>a.heap.size<=e) (λi _ b=>H)));have a2:=cM.o.t.c0;have gZ:=cM.o.z0;clear g2 e2 Q d5;have cO:=jh (cM.o.width (k.1:Int));have cI:=jh (eT.o.trans ((zA gH a.heap.size 0 (.int .i64 k.1)).mono (T:=λe=>a.heap.size<=e) (λi _ b=>H)));obtain⟨eR,eH⟩:=rK (gH.setCell ⟨a.heap.size,0,none⟩ (.int .i64 k.1));rw[<-eH]at cO cI;have hB:=jh eH;clear eH;go_upto_region 3 with fail
 rw[<-hB.o];clear a2 gZ;go_wp2_with fail
 refine (cK.o k.2 eR h5.o.1 cI.o cO.o.r).mono ?_;rw[h6.o];rintro b iG ⟨rfl,g3,e3⟩;have f8:=jh (cO.o.read g3 e3);have eV:=jh (cI.o.trans (e3.mono (T:=λe=>a.heap.size<=e) (λi _ b=>H)));clear g3 e3 cO cI cM eT;go_wp2
 go_loopw [6] (λx wr=>∃(g:Nat) (j:Rd) (a8:List RowD) (cF:Value),x=.int .i64 g/\TkSt vU rowE (a.heap.size+1) a.heap.size (a.heap.size+2) (.slice v c.length w) wr j k.1 a8 [] cF (.slice none 0 0)/\j.1<=c.length/\(a8.length+g<=65536/\dy a8)/\mJ c k.1 16777216 g j a8=f/\J (λe=>a.heap.size<=e) a wr) (λx _=>(intOf x).toNat)
 .exact⟨cS.1,cS.2,[],_,D,f8.o,f5.o.1,⟨by have:=f5.o.2.1;simpa using this,λcB c5=>by cases c5⟩,bO.o,eV.o⟩
 clear f8 eV bO;obtain⟨g,j,a8,cF,rfl,W,U,⟨i8,aV⟩,c0,c1⟩:=hrel;obtain⟨eZ,Q,a6,bO,aH⟩:=sD aV W U c0 c1;obtain⟨q,b1,a4,rfl⟩:∃v hZ w,cF=.slice v hZ w:=by obtain⟨hK,r,_⟩:=W.t.rows;exact r.shape3
 obtain⟨b0,Z⟩:=j;have F:=W.r.c2;simp only at F;clear W U c0 c1 aV;by_cases aD:0<g/\Z=false
 .obtain⟨o,rfl⟩:=aD
  obtain⟨t,rfl⟩:∃t,g=t+1:=⟨g-1,H⟩;have dO:decide (0<t+1)=true:=sI;have i2:((t+1:Nat):Int)-1=(t:Int):=H;obtain⟨d,aB⟩:=rM (rowP c k.1 16777216 (b0,false));have aM:=nz (mw:=k.1) (mv:=16777216) a6.o;have dU:=od (mw:=k.1) (mv:=16777216) a6.o;have fO:=oj (mw:=k.1) (mv:=16777216) a6.o;rw[aB]at aM dU fO;have dD:=jh aM;have f2:=jh dU;have h2:=jh (eZ.o.add (r:=d.1) H);have dI:G (mJ c k.1 16777216 t d.2 (a8++[d.1])=f):=jh (by
   rw[<-bO.o,nA D,aB])
  have d8:=jh aB;clear aM dU aB fO;go_upto_region 6 with fail
  obtain⟨C,aX⟩:=rK wr.drew;have dM:G (wr.drew=C):=jh aX.symm;have bT:G (Cf wr C):=jh (by rw[aX];exact (J.refl _ _).drew);have a0:=jh (Q.o.same bT.o);have bF:=jh (aH.o.trans bT.o.any);have hT:a.heap.size+2<=C.heap.size:=(by have:=a0.o.r.lt;omega);clear aX F;refine zC (λm=>J (λe=>e=a.heap.size+1\/a.heap.size+2<=e) C m) (λY=>decide (Y=9)) kR ?_;show yC _ _ _ _ _ _ 10 (Array.replicate 10 false) _ wr.drew;rw[dM.o];have n:G (J (λe=>e=a.heap.size+1\/a.heap.size+2<=e) C C):=jh cR;have d0:¬(a.heap.size=a.heap.size+1\/a.heap.size+2<=a.heap.size):=H;refine lq 0 n.o ?_;(refine lf 1 n.o (λ_ O=>O.cellS a0.o.t.c1 d0) ?_);refine lq 2 n.o ?_;refine lq 3 n.o ?_;(refine lf 4 n.o (λ_ O=>O.cellS a0.o.t.c0 d0) ?_);refine zY (i:=5) kR D D 187 #[.pointer (some ⟨a.heap.size+1,0,none⟩),.int .i64 k.1] (λcD S=>∃u,cD=.agg #[.int .i64 d.1.1,.slice u d.1.2.length d.1.2.length]/\vU.In S C.heap.size (u,d.1.2.length,d.1.2.length) d.1.2/\RdAt S (a.heap.size+1) (.slice v c.length w) d.2/\J (λe=>e=a.heap.size+1) C S) (by go_simp) ?_ ?_
  .refine (h9.o k.1 (b0,false) C hO a6.o bF.o a0.o.r).mono ?_
   rw[d8.o];rintro b y ⟨u,rfl,r,l,s⟩;exact⟨_,D,λ_=>n.o.trans (s.mono (λi _ b=>.inl b)),u,D,r,l,s⟩
  rintro cD y c7 ⟨u,rfl,fX,c6,aO⟩ g o;obtain⟨n,eX,b3,b2,i0⟩:=sD (c7 dE) fX (a0.o.read c6 aO) (bF.o.trans (aO.mono (T:=λe=>a.heap.size<=e) (λi _ b=>H))) aO;clear c7 c6 aO fX;(try go_simp)
  refine o _ ?_;clear o g;have z:=jh (b3.o.same ((FR y).alloc (.cells #[.int .i64 d.1.1,.slice u d.1.2.length d.1.2.length] 241)));have hG:G (kU vU (y.alloc (.cells #[.int .i64 d.1.1,.slice u d.1.2.length d.1.2.length] 241)) (a.heap.size+2) (d.1.1,u,d.1.2.length,d.1.2.length) d.1):=jh ⟨D,f2.o,(eX.o.lower hT).same (rT)⟩;have hF:G (0<d.1.2.length->∀a3 aZ,u=some ⟨a3,aZ,none⟩->(Value.slice q b1 a4).ownBlock≠some a3/\(Value.slice none 0 0).ownBlock≠some a3/\a.heap.size+2<=a3):=jh (λhU a3 aZ hQ=>by
   obtain⟨_,_,i4,iC,-,aR⟩:=eX.o;obtain⟨a9,fM⟩:=aR hU;simp only at a9;rw[hQ]at a9;injection a9 with a9;injection a9 with a9;subst a9;obtain⟨hK,dR,_⟩:=a0.o.t.rows;exact⟨λb=>by have:=(dR.blk b).2;omega,(λb=>by cases b),H⟩)
  obtain⟨hL,fR,fT,-⟩:=z.o.t.rows;have cP:=jh fR;have hH:=jh fT;have f4:G (∀cH∈[(d.1.1,u,d.1.2.length,d.1.2.length)],rowE.ok cH):=jh (by intro cH c9;rw[Ay]at c9;subst c9;exact f2.o);have d3:G (a.heap.size+2<=(y.alloc (.cells #[.int .i64 d.1.1,.slice u d.1.2.length d.1.2.length] 241)).heap.size):=jh (by have:=z.o.r.lt;omega);clear fR fT;refine lt 6 (λ_=>n.o.alloc _) ?_;refine yQ (i:=7) kR D D (.tmp 28) (.tmp 33) 199 199 D (.slice q b1 a4) (.slice (some ⟨y.heap.size,0,none⟩) 1 1) D D (λP B=>rowE.Own B (a.heap.size+2) P (hL++[(d.1.1,u,d.1.2.length,d.1.2.length)])/\J (λi=>(Value.slice q b1 a4).ownBlock=some i) (y.alloc (.cells #[.int .i64 d.1.1,.slice u d.1.2.length d.1.2.length] 241)) B/\(P.ownBlock=(Value.slice q b1 a4).ownBlock\/P.ownBlock=some (y.alloc (.cells #[.int .i64 d.1.1,.slice u d.1.2.length d.1.2.length] 241)).heap.size)) ?_ ?_
  .obtain⟨P,B,e9,r,l,⟨s,aR⟩,-⟩:=cP.o.append d3.o 199 (.slice (some ⟨y.heap.size,0,none⟩) 1 1) [(d.1.1,u,d.1.2.length,d.1.2.length)] (rowE.srcLit 1 f4.o) f4.o (by have:=hH.o;simp;omega) 199
   exact⟨P,B,e9,λ_=>(n.o.alloc _).trans (l.mono (λi _ b=>.inr b)),r,s,aR⟩
  rintro P B U ⟨r,l,s⟩ g o;obtain⟨eM,eP,eO,eD⟩:=r.shape3;subst eD;obtain⟨⟨hX,hY⟩,c3,e5⟩:=z.o.t.addRow hG.o hF.o (λi1 hP _=>(by rw[eY hP cP.o];exact r)) l (s.imp id Or.inl);have bH:G (J (λi=>i=a.heap.size\/a.heap.size+2<=i) (y.alloc (.cells #[.int .i64 d.1.1,.slice u d.1.2.length d.1.2.length] 241)) (B.setCell ⟨a.heap.size,1,none⟩ (.slice eM eP eO))):=jh ((l.mono (λi _ b=>.inr ((cP.o.blk b).1))).trans ((zA B a.heap.size 1 _).mono (λi _ b=>.inl b)));have cA:B.frozen? ⟨a.heap.size,0,none⟩=false:=(l.frozen (p:=⟨a.heap.size,0,none⟩) z.o.t.lt (λb=>by have h:a.heap.size+2<=a.heap.size:=(cP.o.blk b).1;omega)).trans z.o.z0;obtain⟨d7,d6,dF⟩:=rZ (z.o.store c3 (z.o.r.chg bH.o H) ((Az3 _ _ _ _).trans cA)) ((b2.o.alloc (.cells #[.int .i64 d.1.1,.slice u d.1.2.length d.1.2.length] 241)).trans (bH.o.mono (T:=λe=>a.heap.size<=e) (λi _ b=>H))) (U dE);clear c3 r l s U e5 cA;(try go_simp)
  refine o _ ?_;clear o g;refine lt 8 (λ_=>dF.o) ?_;refine ld 9 ?_;refine zQ kR ?_ _;go_wp2;go_roundw
  .exact⟨t,d.2,a8++[d.1],_,GN,d7.o,dD.o,⟨sO,h2.o⟩,dI.o,d6.o⟩
  simp[intOf]
 have c2:decide (0<g)=false\/(decide (0<g)=true/\Z=true):=by
  rcases Ax6 g with h|h
  .exact .inl (by simp[h])
  exact .inr ⟨by simpa using h,by cases Z;exact absurd ⟨h,D⟩ aD;rfl⟩
 have bK:G (f=(a8,b0,Z)):=jh (by
  rw[<-bO.o]
  apply mS
  rcases Ax6 g with h|h
  .exact .inr h
  exact .inl (by cases Z;exact absurd ⟨h,D⟩ aD;rfl))
 clear aD;have dO:decide (0<g)=false:=by
  rcases c2 with h|⟨_,h⟩
  .exact h
  have l:=h7.o
  rw[bK.o,h]at l;cases l
 clear c2
 all_goals
  go_upto_region 7 with fail
  have iA:=jh dO;clear F dO;have dH:G (TkSt vU rowE (a.heap.size+1) a.heap.size (a.heap.size+2) (.slice v c.length w) wr f.2 k.1 f.1 [] (.slice q b1 a4) (.slice none 0 0)):=jh (by rw[bK.o];exact Q.o);have f7:G (f.2.1<=c.length):=jh (by rw[bK.o];exact a6.o);have i9:f.1.length<=65536:=(by rw[bK.o];show a8.length<=_;omega);have h3:G (∀cB∈f.1,cB.2.length<=1000000000):=jh (by rw[bK.o];intro cB c5;have:=eZ.o cB c5;omega);have dZ:=yY (m:=65536) f7.o;rw[f9.o]at dZ;have fB:=jh dZ;have dB:=jh (cK.o f.2 wr f7.o aH.o dH.o.r);rw[f9.o]at dB;clear dZ;go_wp2_with fail
  refine dB.o.mono ?_;rintro b iH ⟨rfl,g4,e4⟩;have b3:=jh (dH.o.read g4 e4);have b2:=jh (aH.o.trans (e4.mono (T:=λe=>a.heap.size<=e) (λi _ b=>H)));clear g4 e4 dB dH Q aH;go_wp2
  go_loopw [7] (λx wr=>∃(g:Nat) (j:Rd) (a7:List Int) (cD:Value),x=.int .i64 g/\TkSt vU rowE (a.heap.size+1) a.heap.size (a.heap.size+2) (.slice v c.length w) wr j k.1 f.1 a7 (.slice q b1 a4) cD/\j.1<=c.length/\a7.length+g<=65536/\ofP c 65536 g j a7=V/\J (λe=>a.heap.size<=e) a wr) (λx _=>(intOf x).toNat)
  .exact⟨bV.1,bV.2,[],_,D,b3.o,fB.o.1,by have:=fB.o.2.1;simpa using this,bP.o,b2.o⟩
  clear b3 b2 bP;obtain⟨g,j,a7,cD,rfl,W,U,i6,c0,c1⟩:=hrel;obtain⟨Q,a6,bP,aH⟩:=sB W U c0 c1;obtain⟨A,d2,aP,rfl⟩:=W.t.of.shape3;obtain⟨b0,Z⟩:=j;have F:=W.r.c2;simp only at F;clear W U c0 c1;by_cases aD:0<g/\Z=false
  .obtain⟨o,rfl⟩:=aD
   obtain⟨t,rfl⟩:∃t,g=t+1:=⟨g-1,H⟩;have fH:decide (0<t+1)=true:=sI;have i3:((t+1:Nat):Int)-1=(t:Int):=H;obtain⟨d,aB⟩:=rM (numP c 65536 (b0,false));have aM:=yY (m:=65536) a6.o;rw[aB]at aM;have dD:=jh aM;have i5:=aM.2.1;have dI:G (ofP c 65536 t d.2 (a7++[(d.1:Int)])=V):=jh (by
    rw[<-bP.o,gY D,aB])
   have d8:=jh aB;clear aM aB;go_upto_region 10 with fail
   obtain⟨C,aX⟩:=rK wr.drew;have dM:G (wr.drew=C):=jh aX.symm;have bT:G (Cf wr C):=jh (by rw[aX];exact (J.refl _ _).drew);have a0:=jh (Q.o.same bT.o);have bF:=jh (aH.o.trans bT.o.any);clear aX F;refine zC (λm=>J (λe=>e=a.heap.size+1\/a.heap.size+2<=e) C m) (λY=>decide (Y=7)) kR ?_;show yC _ _ _ _ _ _ 8 (Array.replicate 8 false) _ wr.drew;rw[dM.o];have n:G (J (λe=>e=a.heap.size+1\/a.heap.size+2<=e) C C):=jh cR;have d0:¬(a.heap.size=a.heap.size+1\/a.heap.size+2<=a.heap.size):=H;have d9:=jh (cK.o (b0,false) C a6.o bF.o a0.o.r);rw[d8.o]at d9;refine lq 0 n.o ?_;(refine lf 1 n.o (λ_ O=>O.cellS a0.o.t.c2 d0) ?_);refine lq 2 n.o ?_;refine zY (i:=3) kR D D 186 #[.pointer (some ⟨a.heap.size+1,0,none⟩),.int .i64 65536] (λx S=>x=.int .i64 d.1/\RdAt S (a.heap.size+1) (.slice v c.length w) d.2/\J (λe=>e=a.heap.size+1) C S) (by go_simp) ?_ ?_
   .refine d9.o.mono ?_
    rintro b y ⟨rfl,r,l⟩;exact⟨_,D,λ_=>n.o.trans (l.mono (λi _ b=>.inl b)),D,r,l⟩
   rintro x y c7 ⟨rfl,c6,aO⟩ g o;obtain⟨n,b3,b2⟩:=rZ (c7 dE) (a0.o.read c6 aO) (bF.o.trans (aO.mono (T:=λe=>a.heap.size<=e) (λi _ b=>H)));clear c7 c6 aO d9;(try go_simp)
   refine o _ ?_;clear o g;have z:=jh (b3.o.same ((FR y).alloc (.cells #[.int .i64 d.1] 3)));have f3:G (∀cH∈[(d.1:Int)],intE.ok cH):=jh (by intro cH c9;rw[Ay]at c9;subst c9;exact⟨H,H⟩);have d3:G (a.heap.size+2<=(y.alloc (.cells #[.int .i64 d.1] 3)).heap.size):=jh (by have:=z.o.r.lt;omega);refine lt 4 (λ_=>n.o.alloc _) ?_;refine yQ (i:=5) kR D D (.tmp 50) (.tmp 53) 25 25 D (.slice A d2 aP) (.slice (some ⟨y.heap.size,0,none⟩) 1 1) D D (λP B=>intE.Own B (a.heap.size+2) P (a7++[(d.1:Int)])/\J (λi=>(Value.slice A d2 aP).ownBlock=some i) (y.alloc (.cells #[.int .i64 d.1] 3)) B/\(P.ownBlock=(Value.slice A d2 aP).ownBlock\/P.ownBlock=some (y.alloc (.cells #[.int .i64 d.1] 3)).heap.size)) ?_ ?_
   .obtain⟨P,B,e9,r,l,⟨s,aR⟩,-⟩:=z.o.t.of.append d3.o 25 (.slice (some ⟨y.heap.size,0,none⟩) 1 1) [(d.1:Int)] (intE.srcLit 1 f3.o) f3.o sO 25
    exact⟨P,B,e9,λ_=>(n.o.alloc _).trans (l.mono (λi _ b=>.inr b)),r,s,aR⟩
   rintro P B U ⟨r,l,s⟩ g o;obtain⟨eM,eP,eO,eD⟩:=r.shape3;subst eD;obtain⟨⟨hX,hY⟩,c3,e5⟩:=z.o.t.addOf r l (s.imp id Or.inl);have bH:G (J (λi=>i=a.heap.size\/a.heap.size+2<=i) (y.alloc (.cells #[.int .i64 d.1] 3)) (B.setCell ⟨a.heap.size,2,none⟩ (.slice eM eP eO))):=jh ((l.mono (λi _ b=>.inr ((z.o.t.of.blk b).1))).trans ((zA B a.heap.size 2 _).mono (λi _ b=>.inl b)));have cA:B.frozen? ⟨a.heap.size,0,none⟩=false:=(l.frozen (p:=⟨a.heap.size,0,none⟩) z.o.t.lt (λb=>by have h:a.heap.size+2<=a.heap.size:=(z.o.t.of.blk b).1;omega)).trans z.o.z0;obtain⟨d7,d6,dF⟩:=rZ (z.o.store c3 (z.o.r.chg bH.o H) ((Az3 _ _ _ _).trans cA)) ((b2.o.alloc (.cells #[.int .i64 d.1] 3)).trans (bH.o.mono (T:=λe=>a.heap.size<=e) (λi _ b=>H))) (U dE);clear c3 r l s U e5 cA;(try go_simp)
   refine o _ ?_;clear o g;refine lt 6 (λ_=>dF.o) ?_;refine ld 7 ?_;refine zQ kR ?_ _;go_wp2;go_roundw
   .exact⟨t,d.2,a7++[(d.1:Int)],_,GN,d7.o,dD.o.1,sO,dI.o,d6.o⟩
   simp[intOf]
  have c2:decide (0<g)=false\/(decide (0<g)=true/\Z=true):=by
   rcases Ax6 g with h|h
   .exact .inl (by simp[h])
   exact .inr ⟨by simpa using h,by cases Z;exact absurd ⟨h,D⟩ aD;rfl⟩
  have dK:G (V=(a7,b0,Z)):=jh (by
   rw[<-bP.o]
   apply eC
   rcases Ax6 g with h|h
   .exact .inr h
   exact .inl (by cases Z;exact absurd ⟨h,D⟩ aD;rfl))
  clear aD;have fH:decide (0<g)=false:=by
   rcases c2 with h|⟨_,h⟩
   .exact h
   have l:=fD.o
   rw[dK.o,h]at l;cases l
  clear c2
  all_goals
   go_upto_region 11 with fail
   clear F fH;have R:G (TkSt vU rowE (a.heap.size+1) a.heap.size (a.heap.size+2) (.slice v c.length w) wr V.2 k.1 f.1 V.1 (.slice q b1 a4) (.slice A d2 aP)):=jh (by rw[dK.o];exact Q.o);have i7:V.1.length<=65536:=(by rw[dK.o];show a7.length<=_;omega);obtain⟨-,hW,hR⟩:=R.o.t.rowsIn;obtain⟨-,g0,-,hV,-,hS⟩:=R.o.t.final cR;subst hW hV;have f6:=jh R.o.t.rowsIn.1;obtain⟨hM,fZ,g1⟩:=g0.bytes;have bI:=jh (gj k.1 f.1 V.1 q A a4 aP _ hM 0 wr ⟨H,H⟩ f6.o H h3.o fZ g1 H);obtain⟨M,dT⟩:=rM (mayL ((k.1:Int),f.1,V.1));rw[dT]at bI;have F:=R.o.r.c2;have f0:=jh dT;clear fZ g1 g0 dT Q a6 f6;by_cases b8:V.2.2=true\/M=false
   .have bM:G ((!V.2.2 && mayL ((k.1:Int),f.1,V.1))=false):=jh (by
     rw[f0.o];rcases b8 with h|h
     .rw[h];rfl
     rw[h];exact Av2 _)
    by_cases X:V.2.2=true
    .rw[fD.o]at X;cases X
    have b9:M=false:=b8.resolve_left X
    have X:V.2.2=false:=(by simpa using X);rw[X]at F;rw[b9]at bI;have a2:=R.o.t.c0;have aK:=R.o.t.c1;have bX:=R.o.t.c2;clear b8 X b9;go_wp2_with fail
    refine bI.o.mono ?_;rintro b bD ⟨rfl,aT⟩;have aI:=jh (R.o.same aT);have d4:=jh (aH.o.trans aT.any);clear aT a2 aK F bX;have a2:=aI.o.t.c0;have aK:=aI.o.t.c1;have bX:=aI.o.t.c2;have gZ:=aI.o.z0;have iI:=aI.o.t.z1;have iJ:=aI.o.t.z2;go_wp2;obtain⟨b4,b5,b6,b7⟩:=jS (.int .i64 0) (.slice none 0 0) (.slice none 0 0) a2 aK bX;have aR:=(d4.o.trans (b7.mono (T:=λe=>a.heap.size<=e) (λi _ b=>H))).fresh;clear b7
    generalize ((bD.setCell ⟨a.heap.size,0,none⟩ (.int .i64 0)).setCell ⟨a.heap.size,1,none⟩ (.slice none 0 0)).setCell ⟨a.heap.size,2,none⟩ (.slice none 0 0)=hI at *
    exact bodyPost_ret (v:=.tuple #[.agg #[.int .i64 0,.slice none 0 0,.slice none 0 0],.int .i64 0,.int .i64 4]) (by simp[results,results167,go_sem,b4,b5,b6]) D (.inr ⟨bM.o,D,aR⟩)
   have X:V.2.2=false:=by
    cases h:V.2.2 with
    | false=>rfl
    | true=>exact absurd (.inl h) b8
   have b9:M=true:=by
    cases M with
    | true=>rfl
    | false=>exact absurd (.inr D) b8
   have bM:G (V.2.2=false/\mayL ((k.1:Int),f.1,V.1)=true):=jh ⟨X,by rw[f0.o,b9]⟩;rw[X]at F;rw[b9]at bI;have a2:=R.o.t.c0;have aK:=R.o.t.c1;have bX:=R.o.t.c2;clear b8 X b9;go_wp2_with fail
   refine bI.o.mono ?_;rintro b bD ⟨rfl,aT⟩;have aI:=jh (R.o.same aT);have d4:=jh (aH.o.trans aT.any);clear aT a2 aK F bX;go_upto_region 13 with fail
   obtain⟨L,eI⟩:=rK bD.drew;have hD:G (bD.drew=L):=jh eI.symm;have fF:G (Cf bD L):=jh (by rw[eI];exact (J.refl _ _).drew);have a1:=jh (aI.o.same fF.o);have h0:=jh (d4.o.trans fF.o.any);clear eI;refine zC (λm=>m=L) (λY=>decide (7<=Y)) kR ?_;show yC _ _ _ _ _ _ 10 (Array.replicate 10 false) _ bD.drew;rw[hD.o];have n:G (L=L):=jh D;refine lq 0 n.o ?_;(refine lq 1 n.o ?_ (hr:=by intro E O;subst O;have x:=a1.o.t.c1;go_simp;try with_reducible rfl));refine lq 3 n.o ?_;(refine lq 4 n.o ?_ (hr:=by intro E O;subst O;have x:=a1.o.t.c2;go_simp;try with_reducible rfl));refine zY (i:=2) kR D D 156 #[.slice q f.1.length a4] (λx S=>x=.slice q f.1.length f.1.length/\L=S) (by go_simp) ?_ ?_
   .refine (kh L q _ a4 hR).mono ?_
    rintro b eR ⟨rfl,rfl⟩;exact⟨_,D,λ_=>rfl,D,D⟩
   rintro x S-⟨rfl,rfl⟩ g o;(try go_simp)
   refine o _ ?_;clear o g;refine lq 6 n.o ?_;refine zY (i:=5) kR D D 144 #[.slice A V.1.length aP] (λx S=>x=.slice A V.1.length V.1.length/\L=S) (by go_simp) ?_ ?_
   .refine (cn L A _ aP hS).mono ?_
    rintro b eR ⟨rfl,rfl⟩;exact⟨_,D,λ_=>rfl,D,D⟩
   rintro x S-⟨rfl,rfl⟩ g o;(try go_simp)
   refine o _ ?_;clear o g;have aK:=a1.o.t.c1;have gS:=a1.o.t.z1;have a2:=a1.o.t.c0;have gF:=zA L a.heap.size 1 (.slice q f.1.length f.1.length);have F:(L.setCell ⟨a.heap.size,1,none⟩ (.slice q f.1.length f.1.length)).cell? ⟨a.heap.size,2,none⟩=some (.slice A V.1.length aP):=J.cellNe a1.o.t.c2 (by intro b;injection b with _ b;cases b);have gV:(L.setCell ⟨a.heap.size,1,none⟩ (.slice q f.1.length f.1.length)).frozen? ⟨a.heap.size,2,none⟩=false:=(Az3 _ _ _ _).trans a1.o.t.z2;refine ld 7 ?_;refine lt 8 (λh=>absurd h dE) ?_;refine ld 9 ?_;refine zQ kR ?_ _;obtain⟨a5,aF⟩:=rK ((L.setCell ⟨a.heap.size,1,none⟩ (.slice q f.1.length f.1.length)).setCell ⟨a.heap.size,2,none⟩ (.slice A V.1.length V.1.length));rw[<-aF];have eK:J (λi=>i=a.heap.size) L a5:=(by rw[aF];exact gF.trans (zA _ _ _ _));have dP:a5.cell? ⟨a.heap.size,0,none⟩=some (.int .i64 k.1):=(by rw[aF];exact J.cellNe (J.cellNe a2 (by intro b;injection b with _ b;cases b)) (by intro b;injection b with _ b;cases b));have fI:a5.cell? ⟨a.heap.size,1,none⟩=some (.slice q f.1.length f.1.length):=(by rw[aF];exact J.cellNe (Az9 _ _ _ aK) (by intro b;injection b with _ b;cases b));have fK:a5.cell? ⟨a.heap.size,2,none⟩=some (.slice A V.1.length V.1.length):=(by rw[aF];exact Az9 _ _ _ F);have gR:a5.frozen? ⟨a.heap.size,0,none⟩=false:=(by rw[aF];exact (Az3 _ _ _ _).trans ((Az3 _ _ _ _).trans a1.o.z0));have gT:a5.frozen? ⟨a.heap.size,1,none⟩=false:=(by rw[aF];exact (Az3 _ _ _ _).trans ((Az3 _ _ _ _).trans gS));have gX:a5.frozen? ⟨a.heap.size,2,none⟩=false:=(by rw[aF];exact (Az3 _ _ _ _).trans gV);have h8:=jh (a1.o.r.chg eK H);have hA:=jh eK;clear aF eK gF a2 aK F gS gV;go_upto_region 14 with fail
   have aV:a.heap.size<a5.heap.size:=Az8 _ _ dP;have h1:G (∀m,Cf a5 m->((m.cell? ⟨a.heap.size,0,none⟩=some (.int .i64 k.1)/\m.cell? ⟨a.heap.size,1,none⟩=some (.slice q f.1.length f.1.length)/\m.cell? ⟨a.heap.size,2,none⟩=some (.slice A V.1.length V.1.length))/\m.cell? ⟨a.heap.size+1,1,none⟩=some (.int .i64 V.2.1)/\m.frozen? ⟨a.heap.size,0,none⟩=false/\m.frozen? ⟨a.heap.size,1,none⟩=false/\m.frozen? ⟨a.heap.size,2,none⟩=false)):=jh (λm aY =>
    ⟨⟨aY.cellS dP iD,aY.cellS fI iD,aY.cellS fK iD⟩,aY.cellS h8.o.c1 iD,(aY.frozen (p:=⟨a.heap.size,0,none⟩) aV iD).trans gR,(aY.frozen (p:=⟨a.heap.size,1,none⟩) aV iD).trans gT,(aY.frozen (p:=⟨a.heap.size,2,none⟩) aV iD).trans gX⟩)
   clear dP fI fK gR gT gX aV;refine zS (λm=>((m.cell? ⟨a.heap.size,0,none⟩=some (.int .i64 k.1)/\m.cell? ⟨a.heap.size,1,none⟩=some (.slice q f.1.length f.1.length)/\m.cell? ⟨a.heap.size,2,none⟩=some (.slice A V.1.length V.1.length))/\m.cell? ⟨a.heap.size+1,1,none⟩=some (.int .i64 V.2.1)/\m.frozen? ⟨a.heap.size,0,none⟩=false/\m.frozen? ⟨a.heap.size,1,none⟩=false/\m.frozen? ⟨a.heap.size,2,none⟩=false)/\J (λi=>i=a.heap.size) a5 m) kR kR ?_ ?_
   .exact⟨h1.o _ (J.refl _ _).drew,(J.refl _ _).drew⟩
   (iterate 5 (refine rq ?_ (by intro _ E _ O;obtain⟨⟨⟨g6,g7,g8⟩,g9,gM,gO,gP⟩,e7⟩:=O;go_simp;try with_reducible rfl)))
   refine og D (λ_ E _ O=>?_) (λg o=>?_)
   .obtain⟨⟨⟨g6,g7,g8⟩,g9,gM,gO,gP⟩,e7⟩:=O
    obtain⟨b4,b5,b6,b7⟩:=jS (.int .i64 k.1) (.slice q f.1.length f.1.length) (.slice A V.1.length V.1.length) g6 g7 g8;refine⟨((E.setCell ⟨a.heap.size,0,none⟩ (.int .i64 k.1)).setCell ⟨a.heap.size,1,none⟩ (.slice q f.1.length f.1.length)).setCell ⟨a.heap.size,2,none⟩ (.slice A V.1.length V.1.length),?_,⟨⟨b4,b5,b6⟩,b7.cellS g9 (by show ¬a.heap.size+1=a.heap.size;omega),(Az3 _ _ _ _).trans ((Az3 _ _ _ _).trans ((Az3 _ _ _ _).trans gM)),(Az3 _ _ _ _).trans ((Az3 _ _ _ _).trans ((Az3 _ _ _ _).trans gO)),(Az3 _ _ _ _).trans ((Az3 _ _ _ _).trans ((Az3 _ _ _ _).trans gP))⟩,e7.trans b7⟩;clear b4 b5 b6 b7 e7;go_simp
   ((try go_simp);refine o _ ?_;clear o g)
   (iterate 2 (refine rq ?_))
   refine zW ?_;rintro hI ⟨⟨⟨b4,b5,b6⟩,-⟩,fV⟩;have s:=hA.o.trans fV;obtain⟨a9,fM,-⟩:=a1.o.t.final (s.mono (T:=λi=>i<a.heap.size+2) (λi _ b=>H));have dR:=(h0.o.trans (s.mono (T:=λe=>a.heap.size<=e) (λi _ b=>H))).fresh;clear s fV;go_wp2;exact bodyPost_ret (v:=.tuple #[.agg #[.int .i64 k.1,.slice q f.1.length f.1.length,.slice A V.1.length V.1.length],.int .i64 V.2.1,.int .i64 0]) (by simp[results,results167,go_sem,b4,b5,b6]) D (.inl ⟨by first|exact bM.o|(simp only[bM.o.1,bM.o.2];rfl),q,A,D,a9.lower H,fM.lower H,dR⟩)
theorem ye (c:List Int) (n:Option Addr) (P a8 o:Nat) (a:World) (aH:BytesAt a P a8 c) (cZ:0<c.length->n=some ⟨P,a8,none⟩) (d5:c.length<=o) (d7:n=none->o=0) (h5:c.length<=100000000) (dH:(xQ c vQ).2.2=true) :
  Calls prog 167 #[.slice n c.length o] a λe L=>(qA c vQ=true/\∃f0 eZ,e=.returned (.tuple #[.agg #[.int .i64 (xQ c vQ).1.1,.slice f0 (xQ c vQ).1.2.1.length (xQ c vQ).1.2.1.length,.slice eZ (xQ c vQ).1.2.2.length (xQ c vQ).1.2.2.length],.int .i64 (xQ c vQ).2.1,.int .i64 0]) /\
   vW vU rowE L a.heap.size (f0,(xQ c vQ).1.2.1.length,(xQ c vQ).1.2.1.length) (xQ c vQ).1.2.1/\OfIn L a.heap.size eZ (xQ c vQ).1.2.2/\Cf a L) \/
   (qA c vQ=false/\e=.returned (.tuple #[.agg #[.int .i64 0,.slice none 0 0,.slice none 0 0],.int .i64 0,.int .i64 4])/\Cf a L):=by
 have bF:G (∀(g:Rd) (z:World),g.1<=c.length->J (λd=>a.heap.size<=d) a z->RdAt z (a.heap.size+1) (.slice n c.length o) g->Calls prog 186 #[.pointer (some ⟨a.heap.size+1,0,none⟩),.int .i64 65536] z λe L=>e=.returned (.int .i64 (numP c 65536 g).1)/\RdAt L (a.heap.size+1) (.slice n c.length o) (numP c 65536 g).2/\J (λd=>d=a.heap.size+1) z L):=jh (λg z l k x =>
  fg c n P a8 o (a.heap.size+1) 65536 g z (aH.chg k (λb0 e=>by have:=aH.lt b0;omega)) cZ d5 d7 H l H x)
 have fH:G (∀(y:Nat) (g:Rd) (z:World),y<=65536->g.1<=c.length->J (λd=>a.heap.size<=d) a z->RdAt z (a.heap.size+1) (.slice n c.length o) g->Calls prog 187 #[.pointer (some ⟨a.heap.size+1,0,none⟩),.int .i64 y] z λe L=>∃m,e=.returned (.agg #[.int .i64 (rowP c y 16777216 g).1.1,.slice m (rowP c y 16777216 g).1.2.length (rowP c y 16777216 g).1.2.length]) /\
  vU.In L z.heap.size (m,(rowP c y 16777216 g).1.2.length,(rowP c y 16777216 g).1.2.length) (rowP c y 16777216 g).1.2/\RdAt L (a.heap.size+1) (.slice n c.length o) (rowP c y 16777216 g).2/\J (λd=>d=a.heap.size+1) z L):=jh (λy g z g4 l k x =>
  oe c n P a8 o (a.heap.size+1) y g z (aH.chg k (λb0 e=>by have:=aH.lt b0;omega)) cZ d5 d7 H l g4 (λb0=>by have:=aH.lt b0;omega) x)
 obtain⟨f3,b3⟩:=rK (a.alloc (.cells #[.int .i64 0,.slice none 0 0,.slice none 0 0] 201));obtain⟨f2,c0⟩:=rK (f3.alloc (.cells #[.slice n c.length o,.int .i64 0,.bool false] 274));have C:=jh (TkSt.start vU rowE (.slice n c.length o) a 0 201 274);rw[<-b3,<-c0]at C;have c4:G (J (λd=>a.heap.size<=d) a f2):=jh (by rw[c0,b3];exact (rT).alloc _);have F:f3.heap.size=a.heap.size+1:=by rw[b3];simp
 obtain⟨j,bV⟩:=rM (numP c 65536 (0,false));obtain⟨bO,bX⟩:=rM (numP c 65536 j.2);obtain⟨w,cS⟩:=rM (mJ c j.1 16777216 bO.1 bO.2 []);obtain⟨bP,cT⟩:=rM (numP c 65536 w.2);obtain⟨V,cX⟩:=rM (ofP c 65536 bP.1 bP.2 []);have dB:xQ c vQ=(((j.1:Int),w.1,V.1),V.2):=by
  unfold xQ;simp only[vQ,id];rw[bV,bX,cS,cT,cX]
 have eF:V.2.2=true:=by rw[dB]at dH;exact dH
 have e8:=jh eF;clear eF dH;have aV:=yY (Z:=c) (m:=65536) (s:=(0,false)) (Ax9 _);rw[bV]at aV;have cP:=yY (m:=65536) aV.1;rw[bX]at cP;have fB:=jh aV;have e2:=jh cP;have g6:=aV.2.1;obtain⟨f9,fD,aO,e6,aP,fM,fK⟩:=sH bV bX cS cT cX b3 c0;unfold qA;rw[dB];simp only;clear aH cZ d5 d7 b3 c0 bV bX cS cT cX dB aV cP;go_enter func167,ntmps167
 go_upto_region 1 with fail
 rw[<-fM.o];go_upto_region 2 with fail
 rw[<-fK.o];clear F;go_wp2_with fail
 have dX:=jh (bF.o (0,false) f2 (Ax9 _) c4.o C.o.r);rw[f9.o]at dX;refine dX.o.mono ?_;rintro e f1 ⟨rfl,eT,d1⟩;have bI:=jh (C.o.read eT d1);have dR:=jh (c4.o.trans (d1.mono (T:=λd=>a.heap.size<=d) (λh _ e=>H)));have cK:=bI.o.t.c0;have f4:=bI.o.z0;clear eT d1 C c4;have bK:=jh (bI.o.width (j.1:Int));have bD:=jh (dR.o.trans ((zA f1 a.heap.size 0 (.int .i64 j.1)).mono (T:=λd=>a.heap.size<=d) (λh _ e=>H)));obtain⟨gO,dI⟩:=rK (f1.setCell ⟨a.heap.size,0,none⟩ (.int .i64 j.1));rw[<-dI]at bK bD;have fI:=jh dI;clear dI;go_upto_region 3 with fail
 rw[<-fI.o];clear cK f4;go_wp2_with fail
 refine (bF.o j.2 gO fB.o.1 bD.o bK.o.r).mono ?_;rw[fD.o];rintro e h9 ⟨rfl,eV,d2⟩;have e5:=jh (bK.o.read eV d2);have dT:=jh (bD.o.trans (d2.mono (T:=λd=>a.heap.size<=d) (λh _ e=>H)));clear eV d2 bK bD bI dR;go_wp2
 go_loopw [6] (λQ wr=>∃(f:Nat) (g:Rd) (U:List RowD) (c2:Value),Q=.int .i64 f/\TkSt vU rowE (a.heap.size+1) a.heap.size (a.heap.size+2) (.slice n c.length o) wr g j.1 U [] c2 (.slice none 0 0)/\g.1<=c.length/\(U.length+f<=65536/\dy U)/\mJ c j.1 16777216 f g U=w/\J (λd=>a.heap.size<=d) a wr) (λQ _=>(intOf Q).toNat)
 .exact⟨bO.1,bO.2,[],_,D,e5.o,e2.o.1,⟨by have:=e2.o.2.1;simpa using this,λb6 d8=>by cases d8⟩,aO.o,dT.o⟩
 clear e5 dT aO;obtain⟨f,g,U,c2,rfl,F,E,⟨h2,eM⟩,aX,aY⟩:=hrel;obtain⟨dV,C,R,aO,a3⟩:=sD eM F E aX aY;obtain⟨a1,aB,a2,rfl⟩:∃n gM o,c2=.slice n gM o:=by obtain⟨fT,l,_⟩:=F.t.rows;exact l.shape3
 obtain⟨a9,K⟩:=g;have W:=F.r.c2;simp only at W;clear F E aX aY eM;by_cases Y:0<f/\K=false
 .obtain⟨A,rfl⟩:=Y
  obtain⟨q,rfl⟩:∃q,f=q+1:=⟨f-1,H⟩;have bT:decide (0<q+1)=true:=sI;have gS:((q+1:Nat):Int)-1=(q:Int):=H;obtain⟨b,X⟩:=rM (rowP c j.1 16777216 (a9,false));have Z:=nz (mw:=j.1) (mv:=16777216) R.o;have cO:=od (mw:=j.1) (mv:=16777216) R.o;have eD:=oj (mw:=j.1) (mv:=16777216) R.o;rw[X]at Z cO eD;have cA:=jh Z;have dZ:=jh cO;have f5:=jh (dV.o.add (r:=b.1) H);have cF:G (mJ c j.1 16777216 q b.2 (U++[b.1])=w):=jh (by
   rw[<-aO.o,nA D,X])
  have c7:=jh X;clear Z cO X eD;go_upto_region 6 with fail
  obtain⟨v,a6⟩:=rK wr.drew;have cH:G (wr.drew=v):=jh a6.symm;have aR:G (Cf wr v):=jh (by rw[a6];exact (J.refl _ _).drew);have N:=jh (C.o.same aR.o);have aK:=jh (a3.o.trans aR.o.any);have g9:a.heap.size+2<=v.heap.size:=(by have:=N.o.r.lt;omega);clear a6 W;refine zC (λdP=>J (λd=>d=a.heap.size+1\/a.heap.size+2<=d) v dP) (λa7=>decide (a7=9)) kR ?_;show yC _ _ _ _ _ _ 10 (Array.replicate 10 false) _ wr.drew;rw[cH.o];have s:G (J (λd=>d=a.heap.size+1\/a.heap.size+2<=d) v v):=jh cR;have bZ:¬(a.heap.size=a.heap.size+1\/a.heap.size+2<=a.heap.size):=H;refine lq 0 s.o ?_;(refine lf 1 s.o (λ_ aT=>aT.cellS N.o.t.c1 bZ) ?_);refine lq 2 s.o ?_;refine lq 3 s.o ?_;(refine lf 4 s.o (λ_ aT=>aT.cellS N.o.t.c0 bZ) ?_);refine zY (i:=5) kR D D 187 #[.pointer (some ⟨a.heap.size+1,0,none⟩),.int .i64 j.1] (λb7 aI=>∃m,b7=.agg #[.int .i64 b.1.1,.slice m b.1.2.length b.1.2.length]/\vU.In aI v.heap.size (m,b.1.2.length,b.1.2.length) b.1.2/\RdAt aI (a.heap.size+1) (.slice n c.length o) b.2/\J (λd=>d=a.heap.size+1) v aI) (by go_simp) ?_ ?_
  .refine (fH.o j.1 (a9,false) v g6 R.o aK.o N.o.r).mono ?_
   rw[c7.o];rintro e r ⟨m,rfl,l,k,x⟩;exact⟨_,D,λ_=>s.o.trans (x.mono (λh _ e=>.inl e)),m,D,l,k,x⟩
  rintro b7 r b2 ⟨m,rfl,eK,b1,a0⟩ f A;obtain⟨s,dU,aF,aD,gP⟩:=sD (b2 dE) eK (N.o.read b1 a0) (aK.o.trans (a0.mono (T:=λd=>a.heap.size<=d) (λh _ e=>H))) a0;clear b2 b1 a0 eK;(try go_simp)
  refine A _ ?_;clear A f;have t:=jh (aF.o.same ((FR r).alloc (.cells #[.int .i64 b.1.1,.slice m b.1.2.length b.1.2.length] 241)));have fP:G (kU vU (r.alloc (.cells #[.int .i64 b.1.1,.slice m b.1.2.length b.1.2.length] 241)) (a.heap.size+2) (b.1.1,m,b.1.2.length,b.1.2.length) b.1):=jh ⟨D,dZ.o,(dU.o.lower g9).same (rT)⟩;have fO:G (0<b.1.2.length->∀P a8,m=some ⟨P,a8,none⟩->(Value.slice a1 aB a2).ownBlock≠some P/\(Value.slice none 0 0).ownBlock≠some P/\a.heap.size+2<=P):=jh (λgD P a8 g8=>by
   obtain⟨_,_,gV,h8,-,a4⟩:=dU.o;obtain⟨a5,gX⟩:=a4 gD;simp only at a5;rw[g8]at a5;injection a5 with a5;injection a5 with a5;subst a5;obtain⟨fT,g5,_⟩:=N.o.t.rows;exact⟨λe=>by have:=(g5.blk e).2;omega,(λe=>by cases e),H⟩)
  obtain⟨fV,eH,eI,-⟩:=t.o.t.rows;have bM:=jh eH;have fR:=jh eI;have e1:G (∀bB∈[(b.1.1,m,b.1.2.length,b.1.2.length)],rowE.ok bB):=jh (by intro bB b4;rw[Ay]at b4;subst b4;exact dZ.o);have c3:G (a.heap.size+2<=(r.alloc (.cells #[.int .i64 b.1.1,.slice m b.1.2.length b.1.2.length] 241)).heap.size):=jh (by have:=t.o.r.lt;omega);clear eH eI;refine lt 6 (λ_=>s.o.alloc _) ?_;refine yQ (i:=7) kR D D (.tmp 28) (.tmp 33) 199 199 D (.slice a1 aB a2) (.slice (some ⟨r.heap.size,0,none⟩) 1 1) D D (λB u=>rowE.Own u (a.heap.size+2) B (fV++[(b.1.1,m,b.1.2.length,b.1.2.length)])/\J (λh=>(Value.slice a1 aB a2).ownBlock=some h) (r.alloc (.cells #[.int .i64 b.1.1,.slice m b.1.2.length b.1.2.length] 241)) u/\(B.ownBlock=(Value.slice a1 aB a2).ownBlock\/B.ownBlock=some (r.alloc (.cells #[.int .i64 b.1.1,.slice m b.1.2.length b.1.2.length] 241)).heap.size)) ?_ ?_
  .obtain⟨B,u,d9,l,k,⟨x,a4⟩,-⟩:=bM.o.append c3.o 199 (.slice (some ⟨r.heap.size,0,none⟩) 1 1) [(b.1.1,m,b.1.2.length,b.1.2.length)] (rowE.srcLit 1 e1.o) e1.o (by have:=fR.o;simp;omega) 199
   exact⟨B,u,d9,λ_=>(s.o.alloc _).trans (k.mono (λh _ e=>.inr e)),l,x,a4⟩
  rintro B u E ⟨l,k,x⟩ f A;obtain⟨dK,dO,dM,dF⟩:=l.shape3;subst dF;obtain⟨⟨gI,gK⟩,aZ,d4⟩:=t.o.t.addRow fP.o fO.o (λgR g7 _=>(by rw[eY g7 bM.o];exact l)) k (x.imp id Or.inl);have aM:G (J (λh=>h=a.heap.size\/a.heap.size+2<=h) (r.alloc (.cells #[.int .i64 b.1.1,.slice m b.1.2.length b.1.2.length] 241)) (u.setCell ⟨a.heap.size,1,none⟩ (.slice dK dO dM))):=jh ((k.mono (λh _ e=>.inr ((bM.o.blk e).1))).trans ((zA u a.heap.size 1 _).mono (λh _ e=>.inl e)));have b5:u.frozen? ⟨a.heap.size,0,none⟩=false:=(k.frozen (p:=⟨a.heap.size,0,none⟩) t.o.t.lt (λe=>by have i:a.heap.size+2<=a.heap.size:=(bM.o.blk e).1;omega)).trans t.o.z0;obtain⟨c6,c5,cB⟩:=rZ (t.o.store aZ (t.o.r.chg aM.o H) ((Az3 _ _ _ _).trans b5)) ((aD.o.alloc (.cells #[.int .i64 b.1.1,.slice m b.1.2.length b.1.2.length] 241)).trans (aM.o.mono (T:=λd=>a.heap.size<=d) (λh _ e=>H))) (E dE);clear aZ l k x E d4 b5;(try go_simp)
  refine A _ ?_;clear A f;refine lt 8 (λ_=>cB.o) ?_;refine ld 9 ?_;refine zQ kR ?_ _;go_wp2;go_roundw
  .exact⟨q,b.2,U++[b.1],_,GN,c6.o,cA.o,⟨sO,f5.o⟩,cF.o,c5.o⟩
  simp[intOf]
 have d6:decide (0<f)=false\/(decide (0<f)=true/\K=true):=by
  rcases Ax6 f with i|i
  .exact .inl (by simp[i])
  exact .inr ⟨by simpa using i,by cases K;exact absurd ⟨i,D⟩ Y;rfl⟩
 have bH:G (w=(U,a9,K)):=jh (by
  rw[<-aO.o]
  apply mS
  rcases Ax6 f with i|i
  .exact .inr i
  exact .inl (by cases K;exact absurd ⟨i,D⟩ Y;rfl))
 clear Y;rcases d6 with bT|⟨bT,rfl⟩
 all_goals
  go_upto_region 7 with fail
  have h4:=jh bT;clear W bT;have cD:G (TkSt vU rowE (a.heap.size+1) a.heap.size (a.heap.size+2) (.slice n c.length o) wr w.2 j.1 w.1 [] (.slice a1 aB a2) (.slice none 0 0)):=jh (by rw[bH.o];exact C.o);have e4:G (w.2.1<=c.length):=jh (by rw[bH.o];exact R.o);have h3:w.1.length<=65536:=(by rw[bH.o];show U.length<=_;omega);have f6:G (∀b6∈w.1,b6.2.length<=1000000000):=jh (by rw[bH.o];intro b6 d8;have:=dV.o b6 d8;omega);have cV:=yY (m:=65536) e4.o;rw[e6.o]at cV;have e7:=jh cV;have c9:=jh (bF.o w.2 wr e4.o a3.o cD.o.r);rw[e6.o]at c9;clear cV;go_wp2_with fail
  refine c9.o.mono ?_;rintro e hA ⟨rfl,eX,d3⟩;have aF:=jh (cD.o.read eX d3);have aD:=jh (a3.o.trans (d3.mono (T:=λd=>a.heap.size<=d) (λh _ e=>H)));clear eX d3 c9 cD C a3;go_wp2
  go_loopw [7] (λQ wr=>∃(f:Nat) (g:Rd) (S:List Int) (b7:Value),Q=.int .i64 f/\TkSt vU rowE (a.heap.size+1) a.heap.size (a.heap.size+2) (.slice n c.length o) wr g j.1 w.1 S (.slice a1 aB a2) b7/\g.1<=c.length/\S.length+f<=65536/\ofP c 65536 f g S=V/\J (λd=>a.heap.size<=d) a wr) (λQ _=>(intOf Q).toNat)
  .exact⟨bP.1,bP.2,[],_,D,aF.o,e7.o.1,by have:=e7.o.2.1;simpa using this,aP.o,aD.o⟩
  clear aF aD aP;obtain⟨f,g,S,b7,rfl,F,E,h0,aX,aY⟩:=hrel;obtain⟨C,R,aP,a3⟩:=sB F E aX aY;obtain⟨b8,c1,b9,rfl⟩:=F.t.of.shape3;obtain⟨a9,K⟩:=g;have W:=F.r.c2;simp only at W;clear F E aX aY;by_cases Y:0<f/\K=false
  .obtain⟨A,rfl⟩:=Y
   obtain⟨q,rfl⟩:∃q,f=q+1:=⟨f-1,H⟩;have cI:decide (0<q+1)=true:=sI;have gT:((q+1:Nat):Int)-1=(q:Int):=H;obtain⟨b,X⟩:=rM (numP c 65536 (a9,false));have Z:=yY (m:=65536) R.o;rw[X]at Z;have cA:=jh Z;have gZ:=Z.2.1;have cF:G (ofP c 65536 q b.2 (S++[(b.1:Int)])=V):=jh (by
    rw[<-aP.o,gY D,X])
   have c7:=jh X;clear Z X;go_upto_region 10 with fail
   obtain⟨v,a6⟩:=rK wr.drew;have cH:G (wr.drew=v):=jh a6.symm;have aR:G (Cf wr v):=jh (by rw[a6];exact (J.refl _ _).drew);have N:=jh (C.o.same aR.o);have aK:=jh (a3.o.trans aR.o.any);clear a6 W;refine zC (λdP=>J (λd=>d=a.heap.size+1\/a.heap.size+2<=d) v dP) (λa7=>decide (a7=7)) kR ?_;show yC _ _ _ _ _ _ 8 (Array.replicate 8 false) _ wr.drew;rw[cH.o];have s:G (J (λd=>d=a.heap.size+1\/a.heap.size+2<=d) v v):=jh cR;have bZ:¬(a.heap.size=a.heap.size+1\/a.heap.size+2<=a.heap.size):=H;have c8:=jh (bF.o (a9,false) v R.o aK.o N.o.r);rw[c7.o]at c8;refine lq 0 s.o ?_;(refine lf 1 s.o (λ_ aT=>aT.cellS N.o.t.c2 bZ) ?_);refine lq 2 s.o ?_;refine zY (i:=3) kR D D 186 #[.pointer (some ⟨a.heap.size+1,0,none⟩),.int .i64 65536] (λQ aI=>Q=.int .i64 b.1/\RdAt aI (a.heap.size+1) (.slice n c.length o) b.2/\J (λd=>d=a.heap.size+1) v aI) (by go_simp) ?_ ?_
   .refine c8.o.mono ?_
    rintro e r ⟨rfl,l,k⟩;exact⟨_,D,λ_=>s.o.trans (k.mono (λh _ e=>.inl e)),D,l,k⟩
   rintro Q r b2 ⟨rfl,b1,a0⟩ f A;obtain⟨s,aF,aD⟩:=rZ (b2 dE) (N.o.read b1 a0) (aK.o.trans (a0.mono (T:=λd=>a.heap.size<=d) (λh _ e=>H)));clear b2 b1 a0 c8;(try go_simp)
   refine A _ ?_;clear A f;have t:=jh (aF.o.same ((FR r).alloc (.cells #[.int .i64 b.1] 3)));have e0:G (∀bB∈[(b.1:Int)],intE.ok bB):=jh (by intro bB b4;rw[Ay]at b4;subst b4;exact⟨H,H⟩);have c3:G (a.heap.size+2<=(r.alloc (.cells #[.int .i64 b.1] 3)).heap.size):=jh (by have:=t.o.r.lt;omega);refine lt 4 (λ_=>s.o.alloc _) ?_;refine yQ (i:=5) kR D D (.tmp 50) (.tmp 53) 25 25 D (.slice b8 c1 b9) (.slice (some ⟨r.heap.size,0,none⟩) 1 1) D D (λB u=>intE.Own u (a.heap.size+2) B (S++[(b.1:Int)])/\J (λh=>(Value.slice b8 c1 b9).ownBlock=some h) (r.alloc (.cells #[.int .i64 b.1] 3)) u/\(B.ownBlock=(Value.slice b8 c1 b9).ownBlock\/B.ownBlock=some (r.alloc (.cells #[.int .i64 b.1] 3)).heap.size)) ?_ ?_
   .obtain⟨B,u,d9,l,k,⟨x,a4⟩,-⟩:=t.o.t.of.append c3.o 25 (.slice (some ⟨r.heap.size,0,none⟩) 1 1) [(b.1:Int)] (intE.srcLit 1 e0.o) e0.o sO 25
    exact⟨B,u,d9,λ_=>(s.o.alloc _).trans (k.mono (λh _ e=>.inr e)),l,x,a4⟩
   rintro B u E ⟨l,k,x⟩ f A;obtain⟨dK,dO,dM,dF⟩:=l.shape3;subst dF;obtain⟨⟨gI,gK⟩,aZ,d4⟩:=t.o.t.addOf l k (x.imp id Or.inl);have aM:G (J (λh=>h=a.heap.size\/a.heap.size+2<=h) (r.alloc (.cells #[.int .i64 b.1] 3)) (u.setCell ⟨a.heap.size,2,none⟩ (.slice dK dO dM))):=jh ((k.mono (λh _ e=>.inr ((t.o.t.of.blk e).1))).trans ((zA u a.heap.size 2 _).mono (λh _ e=>.inl e)));have b5:u.frozen? ⟨a.heap.size,0,none⟩=false:=(k.frozen (p:=⟨a.heap.size,0,none⟩) t.o.t.lt (λe=>by have i:a.heap.size+2<=a.heap.size:=(t.o.t.of.blk e).1;omega)).trans t.o.z0;obtain⟨c6,c5,cB⟩:=rZ (t.o.store aZ (t.o.r.chg aM.o H) ((Az3 _ _ _ _).trans b5)) ((aD.o.alloc (.cells #[.int .i64 b.1] 3)).trans (aM.o.mono (T:=λd=>a.heap.size<=d) (λh _ e=>H))) (E dE);clear aZ l k x E d4 b5;(try go_simp)
   refine A _ ?_;clear A f;refine lt 6 (λ_=>cB.o) ?_;refine ld 7 ?_;refine zQ kR ?_ _;go_wp2;go_roundw
   .exact⟨q,b.2,S++[(b.1:Int)],_,GN,c6.o,cA.o.1,sO,cF.o,c5.o⟩
   simp[intOf]
  have d6:decide (0<f)=false\/(decide (0<f)=true/\K=true):=by
   rcases Ax6 f with i|i
   .exact .inl (by simp[i])
   exact .inr ⟨by simpa using i,by cases K;exact absurd ⟨i,D⟩ Y;rfl⟩
  have e9:G (V=(S,a9,K)):=jh (by
   rw[<-aP.o]
   apply eC
   rcases Ax6 f with i|i
   .exact .inr i
   exact .inl (by cases K;exact absurd ⟨i,D⟩ Y;rfl))
  clear Y;rcases d6 with cI|⟨cI,rfl⟩
  all_goals
   go_upto_region 11 with fail
   clear W cI;have O:G (TkSt vU rowE (a.heap.size+1) a.heap.size (a.heap.size+2) (.slice n c.length o) wr V.2 j.1 w.1 V.1 (.slice a1 aB a2) (.slice b8 c1 b9)):=jh (by rw[e9.o];exact C.o);have h1:V.1.length<=65536:=(by rw[e9.o];show S.length<=_;omega);obtain⟨-,gH,h6⟩:=O.o.t.rowsIn;obtain⟨-,eP,-,gF,-,h7⟩:=O.o.t.final cR;subst gH gF;have e3:=jh O.o.t.rowsIn.1;obtain⟨g3,eO,eR⟩:=eP.bytes;have f8:=jh (gj j.1 w.1 V.1 a1 b8 a2 b9 _ g3 0 wr ⟨H,H⟩ e3.o H f6.o eO eR H);obtain⟨M,cM⟩:=rM (mayL ((j.1:Int),w.1,V.1));rw[cM]at f8;have W:=O.o.r.c2;have f7:=jh cM;clear eO eR eP cM C R e3;by_cases d0:V.2.2=true\/M=false
   .have fF:G ((!V.2.2 && mayL ((j.1:Int),w.1,V.1))=false):=jh (by
     rw[f7.o];rcases d0 with i|i
     .rw[i];rfl
     rw[i];exact Av2 _)
    by_cases dD:V.2.2=true
    .rw[dD]at W
     clear d0 dD;have cK:=O.o.t.c0;have fX:=O.o.t.c1;have fZ:=O.o.t.c2;have f4:=O.o.z0;have hB:=O.o.t.z1;have hC:=O.o.t.z2;go_wp2;obtain⟨g0,g1,g2,eB⟩:=jS (.int .i64 0) (.slice none 0 0) (.slice none 0 0) cK fX fZ;have a4:=(a3.o.trans (eB.mono (T:=λd=>a.heap.size<=d) (λh _ e=>H))).fresh;clear eB
     generalize ((wr.setCell ⟨a.heap.size,0,none⟩ (.int .i64 0)).setCell ⟨a.heap.size,1,none⟩ (.slice none 0 0)).setCell ⟨a.heap.size,2,none⟩ (.slice none 0 0)=WW at *
     exact bodyPost_ret (v:=.tuple #[.agg #[.int .i64 0,.slice none 0 0,.slice none 0 0],.int .i64 0,.int .i64 4]) (by simp[results,results167,go_sem,g0,g1,g2]) D (.inr ⟨fF.o,D,a4⟩)
    exact absurd e8.o dD
   exact absurd (.inl e8.o) d0
theorem yf (a:List Int) (c:Option Addr) (e f d:Nat) (b:World) (n:BytesAt b e f a) (j:0<a.length->c=some ⟨e,f,none⟩) (k:a.length<=d) (m:c=none->d=0) (l:a.length<=100000000) :
  Calls prog 167 #[.slice c a.length d] b λh g=>(qA a vQ=true/\∃p o,h=.returned (.tuple #[.agg #[.int .i64 (xQ a vQ).1.1,.slice p (xQ a vQ).1.2.1.length (xQ a vQ).1.2.1.length,.slice o (xQ a vQ).1.2.2.length (xQ a vQ).1.2.2.length],.int .i64 (xQ a vQ).2.1,.int .i64 0]) /\
   vW vU rowE g b.heap.size (p,(xQ a vQ).1.2.1.length,(xQ a vQ).1.2.1.length) (xQ a vQ).1.2.1/\OfIn g b.heap.size o (xQ a vQ).1.2.2/\Cf b g) \/
   (qA a vQ=false/\h=.returned (.tuple #[.agg #[.int .i64 0,.slice none 0 0,.slice none 0 0],.int .i64 0,.int .i64 4])/\Cf b g):=by
 cases i:(xQ a vQ).2.2 with
 | false=>exact yd a c e f d b n j k m l i
 | true=>exact ye a c e f d b n j k m l i
end Go.Proofs.YtgnpmceimpjheaaGreat
