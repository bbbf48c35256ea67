/- A part of the proof: GreT GreP GetC CodZ GetW GetX SameA. -/
import Derived.Test.YtgnpmceimpjheaaGreatGP16
import Derived.Test.YtgnpmceimpjheaaGreatGP14
import Derived.Test.YtgnpmceimpjheaaGreatGP5
import Derived.Test.YtgnpmceimpjheaaGreatGP10
import Derived.Test.YtgnpmceimpjheaaGreatGP15
import Derived.Test.YtgnpmceimpjheaaGreatGP12
import Derived.Test.YtgnpmceimpjheaaGreatGP9
import Derived.Recover
set_option maxRecDepth 100000
set_option maxHeartbeats 16000000
namespace Go.Proofs.YtgnpmceimpjheaaGreat
open Go.RowKit
def gA (t:TabsD) (k:Nat):Nat:=t.rl.length+t.tk.length+t.dr.length+t.lx.r.length+t.lx.c.length+t.lx.e.length+t.lk.length+((t.lx.n.take k).map λl=>l.length+1).sum
def gL (A:List LsD) (j:Nat):Nat:=((A.take j).map λs=>s.2.1.length+s.2.2.length+1).sum
def gB (t:TabsD) (i:Nat):Nat:=gA t t.lx.n.length+((t.lk.take i).map λA=>gL A A.length).sum
def gC (t:TabsD) (k:Nat):Nat:=gB t t.lk.length+(((t.rl++t.tk).take k).map λs=>s.size / 50).sum
theorem zR9 (t:TabsD):gA t 0=t.rl.length+t.tk.length+t.dr.length+t.lx.r.length+t.lx.c.length+t.lx.e.length+t.lk.length:=by simp[gA]
theorem zSa {t:TabsD}{k:Nat}{l:List Int}(h:t.lx.n[k]?=some l):gA t (k+1)=gA t k+1+l.length:=by
 unfold gA;rw[Ay1,h];simp
 omega
theorem zR7 {A:List LsD}{j:Nat}{s:LsD}(h:A[j]?=some s):gL A (j+1)=gL A j+1+s.2.1.length+s.2.2.length:=by
 unfold gL;rw[Ay1,h];simp
 omega
theorem zR8 {t:TabsD}{i:Nat}{A:List LsD}(h:t.lk[i]?=some A):gB t (i+1)=gB t i+gL A A.length:=by
 unfold gB;rw[Ay1,h];simp
 omega
theorem zNp {t:TabsD}{k:Nat}{s:Str}(h:(t.rl++t.tk)[k]?=some s):gC t (k+1)=gC t k+s.size / 50:=by
 unfold gC;rw[Ay1,h];simp
 omega
structure VastT (t:TabsD):Prop where
 rl:t.rl.length<=100000000000000
 tk:t.tk.length<=100000000000000
 dr:t.dr.length<=200000000000000
 rs:∀s∈t.rl,s.size<=1000000000000000
 ts:∀s∈t.tk,s.size<=1000000000000000
 lx:Vast t.lx
 nt:VastN t.nt
 lk:t.lk.length<=100000000000000
 la:∀A∈t.lk,A.length<=100000000000000/\∀s∈A,s.2.1.length<=100000000000000/\s.2.2.length<=100000000000000
theorem zK5 (t:TabsD) (m:TabsS) (S:Nat->Prop) (w:World) (h:TabsIn w S m t) (hv:VastT t) :
  Calls Tryz.prog 7 #[gY m] w λe w'=>∃g,e=.returned (.bool g)/\(g=false->gC t (t.rl.length+t.tk.length)<=2000/\gN t.nt t.nt.st.length<=700)/\Cf w w':=by
 obtain⟨⟨a0,n0,c0⟩,⟨a1,n1,c1⟩,⟨a2,n2,c2⟩,⟨⟨a3,n3,c3⟩,⟨a4,n4,c4⟩,⟨a5,n5,c5⟩,⟨a6,n6,c6⟩⟩,⟨⟨a7,n7,c7⟩,⟨a8,n8,c8⟩,⟨a9,n9,c9⟩,⟨a10,n10,c10⟩,⟨a11,n11,c11⟩⟩,⟨a12,n12,c12⟩⟩:=m;have HT0:=jh h;obtain⟨h0,h1,h2,⟨h3,h4,h5,h6⟩,⟨h7,h8,h9,h10,h11⟩,h12⟩:=h;obtain⟨rfl,-⟩:=h0.len;obtain⟨rfl,-⟩:=h1.len;obtain⟨rfl,-⟩:=h2.len;obtain⟨rfl,-⟩:=h3.len;obtain⟨rfl,-⟩:=h4.len;obtain⟨rfl,-⟩:=h5.len;obtain⟨rfl,-⟩:=h6.len;obtain⟨rfl,-⟩:=h7.len;obtain⟨rfl,-⟩:=h8.len;obtain⟨rfl,-⟩:=h9.len;obtain⟨rfl,-⟩:=h10.len;obtain⟨rfl,-⟩:=h11.len;obtain⟨rfl,-⟩:=h12.len;clear h0 h1 h2 h3 h4 h5 h6 h7 h8 h9 h10 h11 h12;obtain⟨v0,v1,v2,v3,v4,⟨x3,x4,x5,x6,x7⟩,v5,v6,v7⟩:=hv;have HRS:=jh v3;have HTS:=jh v4;have HXL:=jh x7;have HVN:=jh v5;have HVL:=jh v7;have HZ:Hd (gA t 0=t.rl.length+t.tk.length+t.dr.length+t.lx.r.length+t.lx.c.length+t.lx.e.length+t.lk.length):=jh (zR9 t);clear v3 v4 x7 v5 v7;obtain⟨wa,hwa⟩:∃W,W=w.alloc (.cells #[.slice a0 t.rl.length c0,.slice a1 t.tk.length c1,.slice a2 t.dr.length c2,.slice a3 t.lx.r.length c3,.slice a4 t.lx.c.length c4,.slice a5 t.lx.n.length c5,.slice a6 t.lx.e.length c6,.slice a7 t.nt.st.length c7,.slice a8 t.nt.s.length c8,.slice a9 t.nt.p.length c9,.slice a10 t.nt.q.length c10,.slice a11 t.nt.d.length c11,.slice a12 t.lk.length c12] 34):=⟨_,rfl⟩;have HCA:Hd (Cf w wa):=jh (by rw[hwa];exact (Chg.refl _ w).alloc _);have HN0:Hd (∀X,Cf wa X->∀j v,([.slice a0 t.rl.length c0,.slice a1 t.tk.length c1,.slice a2 t.dr.length c2,.slice a3 t.lx.r.length c3,.slice a4 t.lx.c.length c4,.slice a5 t.lx.n.length c5,.slice a6 t.lx.e.length c6,.slice a7 t.nt.st.length c7,.slice a8 t.nt.s.length c8,.slice a9 t.nt.p.length c9,.slice a10 t.nt.q.length c10,.slice a11 t.nt.d.length c11,.slice a12 t.lk.length c12]:List Value)[j]?=some v->X.cell? ⟨w.heap.size,j,none⟩=some v):=jh (λX hx j v hv=>hx.cellS (by
  rw[hwa];exact zE _ rfl (by rw[<-Ax9];exact hv)) iD)
 have HIN:Hd (∀X,Cf wa X->TabsIn X S ⟨(a0,t.rl.length,c0),(a1,t.tk.length,c1),(a2,t.dr.length,c2),⟨(a3,t.lx.r.length,c3),(a4,t.lx.c.length,c4),(a5,t.lx.n.length,c5),(a6,t.lx.e.length,c6)⟩,⟨(a7,t.nt.st.length,c7),(a8,t.nt.s.length,c8),(a9,t.nt.p.length,c9),(a10,t.nt.q.length,c10),(a11,t.nt.d.length,c11)⟩,(a12,t.lk.length,c12)⟩ t):=jh (λX hx=>TabsIn.good.chg HT0.o (HCA.o.trans hx) iF);clear HT0;have HZB:Hd (t.rl.length+t.tk.length+t.dr.length+t.lx.r.length+t.lx.c.length+t.lx.e.length+t.lk.length<=1000000000000000):=jh oM;have q0:=HN0.o wa cR 0 _ rfl;have q1:=HN0.o wa cR 1 _ rfl;have q2:=HN0.o wa cR 2 _ rfl;have q3:=HN0.o wa cR 3 _ rfl;have q4:=HN0.o wa cR 4 _ rfl;have q5:=HN0.o wa cR 5 _ rfl;have q6:=HN0.o wa cR 6 _ rfl;have q7:=HN0.o wa cR 7 _ rfl;have q8:=HN0.o wa cR 8 _ rfl;have q9:=HN0.o wa cR 9 _ rfl;have q10:=HN0.o wa cR 10 _ rfl;have q11:=HN0.o wa cR 11 _ rfl;have q12:=HN0.o wa cR 12 _ rfl;show Calls Tryz.prog 7 #[.agg #[.slice a0 t.rl.length c0,.slice a1 t.tk.length c1,.slice a2 t.dr.length c2,.slice a3 t.lx.r.length c3,.slice a4 t.lx.c.length c4,.slice a5 t.lx.n.length c5,.slice a6 t.lx.e.length c6,.slice a7 t.nt.st.length c7,.slice a8 t.nt.s.length c8,.slice a9 t.nt.p.length c9,.slice a10 t.nt.q.length c10,.slice a11 t.nt.d.length c11,.slice a12 t.lk.length c12]] w _;go_enter Tryz.func7,Tryz.ntmps7
 go_upto_region 1 with (fail)
 rw[<-hwa];clear hwa;have HVS:=jh (show t.rl.length<=100000000000000/\t.tk.length<=100000000000000/\t.lk.length<=100000000000000/\t.lx.n.length<=100000000000000 from ⟨by assumption,by assumption,by assumption,by assumption⟩);go_upto_block 0 with (fail)
 clear q0 q1 q2 q3 q4 q5 q6 q7 q8 q9 q10 q11 q12
 go_cut [3,4] from 38 to 59 (λnv _ w'=>∃x:Nat,nv=.int .i64 x/\x<=1000000000000000/\(2000<x\/x=gA t t.lx.n.length)/\Cf wa w')
 case first =>
  have hlen:=HVS.o;go_wp2_with fail
  go_loopw [3,4] (λnv q wr=>∃k:Nat,k<=t.lx.n.length/\q=.int .i64 k/\nv=.int .i64 (gA t k)/\gA t k<=1000000000000000/\Cf wa wr) (λ_ q _=>t.lx.n.length-(intOf q).toNat)
  case atStart=>exact⟨0,oM,rfl,by rw[HZ.o];go_num,by rw[HZ.o];exact HZB.o,Chg.refl _ _⟩
  case round =>
   obtain⟨k,hk,rfl,rfl,hx,hc⟩:=hrel;have HC:=jh hc;have q5:=HN0.o wr hc 5 _ rfl;clear hc;by_cases hkl:k<t.lx.n.length
   .have b1:decide ((k:Int)<(t.lx.n.length:Int))=true:=by simp;omega
    by_cases hgt:gA t k<=2000
    .have d1:decide ((gA t k:Int)<=2000)=true:=by simp;omega
     obtain⟨⟨ua,un,uc⟩,l,gx,ox,hx2,hr2,rfl,hgx,-,cx⟩:=(HIN.o _ HC.o).lx.n.get1 (f:=slV) rfl hkl (λ_=>rfl);obtain⟨rfl,-⟩:=Elt.InS.len hr2;have hll:l.length<=100000000000000:=HXL.o l (Az2 hx2);have HST:Hd (gA t (k+1)=gA t k+1+l.length):=jh (zSa hx2);simp only[slV]at cx;clear hx2 hr2;go_wp2;go_roundw
     case rel=>exact⟨k+1,oM,by go_num,by rw[HST.o];go_num,by rw[HST.o];omega,HC.o⟩
     case measure=>simp[intOf];omega
    .have d1:decide ((gA t k:Int)<=2000)=false:=by simp;omega
     go_wp2;go_meet
     exact⟨_,rfl,hx,.inl oM,HC.o⟩
   .obtain rfl:k=t.lx.n.length:=oM
    have b1:decide ((t.lx.n.length:Int)<(t.lx.n.length:Int))=false:=sI;go_wp2;go_meet
    exact⟨_,rfl,hx,.inr rfl,HC.o⟩
 case rest =>
  obtain⟨x0,rfl,hx0,hx0g,hc0⟩:=hcut;obtain⟨wb,rfl⟩:∃wb:World,wb=wc:=⟨_,rfl⟩;have HC0:=jh hc0;have HX0:=jh hx0g;have HB0:Hd (gB t 0=gA t t.lx.n.length):=jh (by simp[gB]);have q12:=HN0.o wb hc0 12 _ rfl;clear hc0 hx0g;go_upto_block 2 with (fail)
  clear q12
  go_cut [3,5] from 60 to 111 (λnv _ w'=>∃x:Nat,nv=.int .i64 x/\x<=1000000000000000/\(2000<x\/x=gB t t.lk.length)/\Cf wa w')
  case first =>
   have hlen:=HVS.o;go_wp2_with fail
   go_loopw [3,5] (λnv q wr=>∃(i x:Nat),i<=t.lk.length/\q=.int .i64 i/\nv=.int .i64 x/\x<=1000000000000000/\(2000<x\/x=gB t i)/\Cf wa wr) (λ_ q _=>t.lk.length-(intOf q).toNat)
   case atStart=>exact⟨0,x0,oM,rfl,rfl,hx0,by rw[HB0.o];exact HX0.o,HC0.o⟩
   case round =>
    obtain⟨i,x,hi,rfl,rfl,hx,hxg,hc⟩:=hrel;obtain⟨wo,rfl⟩:∃wo:World,wo=wr:=⟨_,rfl⟩;have HC:=jh hc;have HXG:=jh hxg;have q12:=HN0.o wo hc 12 _ rfl;clear hc hxg;by_cases hil:i<t.lk.length
    .have b1:decide ((i:Int)<(t.lk.length:Int))=true:=by simp;omega
     by_cases hgt:x<=2000
     .have d1:decide ((x:Int)<=2000)=true:=by simp;omega
      have HXI:Hd (x=gB t i):=jh (by rcases HXG.o with h|h <;> omega);obtain⟨⟨ua,un,uc⟩,A,gx,ox,hx2,hr2,rfl,hgx,-,cx⟩:=(HIN.o _ HC.o).lk.get1 (f:=slV) rfl hil (λ_=>rfl);obtain⟨rfl,-⟩:un=A.length/\un<=uc:=(by obtain⟨X,h1,h2,-⟩:=hr2;exact⟨by have:=h1.1;simp only at this;omega,h1.2.1⟩);simp only[slV]at cx;obtain⟨hal,hsl⟩:=HVL.o A (Az2 hx2);have HSL:=jh hsl;have HBS:Hd (gB t (i+1)=gB t i+gL A A.length):=jh (zR8 hx2);have HAR:Hd (∀X,Cf wo X->mA X S (ua,A.length,uc) A):=jh (λX hx=>mA.good.chg hr2 hx iF);have HCX:Hd (∀X,Cf wo X->X.cell? ⟨w.heap.size,12,none⟩=some (.slice (some ⟨gx,ox,none⟩) t.lk.length c12)/\X.cell? ⟨gx,ox+i,none⟩=some (.slice ua A.length uc)):=jh (λX hx=>⟨hx.cellS q12 iD,hx.cellS cx iD⟩);clear hx2 hr2 hsl;go_upto_block 3 with (fail)
      clear q12 cx
      go_cut [3,6] from 60 to 111 (λnv _ w'=>∃y:Nat,nv=.int .i64 y/\y<=1000000000000000/\(2000<y\/y=x+gL A A.length)/\Cf wo w')
      case first =>
       obtain⟨q12,cx⟩:=HCX.o wo cR;go_wp2_with fail
       clear q12 cx
       go_loopw [3,6] (λnv q wr=>∃(j y:Nat),j<=A.length/\q=.int .i64 j/\nv=.int .i64 y/\y<=1000000000000000/\(y=x+gL A j)/\Cf wo wr) (λ_ q _=>A.length-(intOf q).toNat)
       case atStart=>exact⟨0,x,oM,rfl,rfl,oM,by simp[gL],Chg.refl _ _⟩
       case round =>
        obtain⟨j,y,hj,rfl,rfl,hy,hyg,hc⟩:=hrel;have HCJ:=jh hc;have HYJ:=jh hyg;obtain⟨q12,cx⟩:=HCX.o wr hc;clear hc hyg;by_cases hjl:j<A.length
        .have b2:decide ((j:Int)<(A.length:Int))=true:=by simp;omega
         by_cases hgy:y<=2000
         .have d2:decide ((y:Int)<=2000)=true:=by simp;omega
          obtain⟨⟨k,⟨ca,cn,cc⟩,⟨ea,en,ec⟩⟩,⟨kd,ds,es⟩,g2,o2,hx2,⟨r1,r2,r3,r4⟩,rfl,hg2,-,-,hcells⟩:=zJ.get3 (f:=zGy) (HAR.o _ HCJ.o) rfl hjl rfl;simp only at r1 r2 r3 r4;subst r1;obtain⟨rfl,-⟩:=r3.len;obtain⟨rfl,-⟩:=r4.len;obtain⟨f1,f2⟩:=HSL.o _ (Az2 hx2);simp only at f1 f2;have HST:Hd (gL A (j+1)=gL A j+1+ds.length+es.length):=jh (zR7 hx2);obtain⟨-,e1,e2⟩:=hcells _ _ _ rfl;simp only[slV]at e1 e2;have HCC:Hd (wr.cell? ⟨w.heap.size,12,none⟩=some (.slice (some ⟨gx,ox,none⟩) t.lk.length c12)/\wr.cell? ⟨gx,ox+i,none⟩=some (.slice (some ⟨g2,o2,none⟩) A.length uc)/\wr.cell? ⟨g2,o2+j * 3+1,none⟩=some (.slice ca ds.length cc)/\wr.cell? ⟨g2,o2+j * 3+2,none⟩=some (.slice ea es.length ec)):=jh ⟨q12,cx,e1,e2⟩;clear hcells hx2 r2 r3 r4 e1 e2;go_upto_region 12 with (fail)
          clear q12 cx;have hw0:IntKind.i64.wrap ((y:Int)+1)=(y:Int)+1:=(by rw[IntKind.wrap_i64];omega);have hw1:IntKind.i64.wrap ((y:Int)+1+(ds.length:Int))=(y:Int)+1+(ds.length:Int):=(by rw[IntKind.wrap_i64];omega);have hw2:IntKind.i64.wrap ((y:Int)+1+(ds.length:Int)+(es.length:Int))=(y:Int)+1+(ds.length:Int)+(es.length:Int):=(by rw[IntKind.wrap_i64];omega);refine ws (λx=>Cf wr x) ?_;(iterate 27 (refine rq ?_ (by intro _ w' _ hC;have s0:=hC.cellS HCC.o.1 iD;have s1:=hC.cellS HCC.o.2.1 iD;have s2:=hC.cellS HCC.o.2.2.1 iD;have s3:=hC.cellS HCC.o.2.2.2 iD;go_simp;try with_reducible rfl)))
          refine zQ ?_;intro w6 hc6;have HC6:=jh (HCJ.o.trans hc6);clear hc6 hw0 hw1 hw2;go_wp2;go_roundw
          case rel=>exact⟨j+1,y+1+ds.length+es.length,oM,by go_num,by go_num,oM,by rw[HST.o,HYJ.o];omega,HC6.o⟩
          case measure=>simp[intOf];omega
         .have d2:decide ((y:Int)<=2000)=false:=by simp;omega
          go_wp2;go_meet
          exact⟨y,rfl,hy,.inl oM,HCJ.o⟩
        .obtain rfl:j=A.length:=oM
         have b2:decide ((A.length:Int)<(A.length:Int))=false:=sI;go_wp2;go_meet
         exact⟨y,rfl,hy,.inr HYJ.o,HCJ.o⟩
      case rest =>
       obtain⟨y,rfl,hy,hyg,hcy⟩:=hcut;have HCY:=jh (HC.o.trans hcy);have HYG:Hd (2000<y\/y=gB t (i+1)):=jh (hyg.imp id (λh=>by rw[HBS.o,<-HXI.o];exact h));clear hcy hyg;go_wp2;go_roundw
       case rel=>exact⟨i+1,y,oM,by go_num,rfl,hy,HYG.o,HCY.o⟩
       case measure=>simp[intOf];omega
     .have d1:decide ((x:Int)<=2000)=false:=by simp;omega
      go_wp2;go_meet
      exact⟨x,rfl,hx,.inl oM,HC.o⟩
    .obtain rfl:i=t.lk.length:=oM
     have b1:decide ((t.lk.length:Int)<(t.lk.length:Int))=false:=sI;go_wp2;go_meet
     exact⟨x,rfl,hx,HXG.o,HC.o⟩
  case rest =>
   obtain⟨x1,rfl,hx1,hx1g,hc1⟩:=hcut;obtain⟨wb2,rfl⟩:∃wb2:World,wb2=wc:=⟨_,rfl⟩;have HC1:=jh hc1;have HX1:=jh hx1g;have HCZ:Hd (gC t 0=gB t t.lk.length):=jh (by simp[gC]);clear hc1 hx1g;go_upto_block 6 with (fail)
   go_cut [3,7] from 112 to 153 (λnv _ w'=>∃x:Nat,nv=.int .i64 x/\x<=1000000000000000/\(2000<x\/x=gC t (t.rl.length+t.tk.length))/\Cf wa w')
   case first =>
    have hlen:=HVS.o;go_wp2_with fail
    go_loopw [3,7] (λnv q wr=>∃(i x:Nat),i<=t.rl.length+t.tk.length/\q=.int .i64 i/\nv=.int .i64 x/\x<=1000000000000000/\(2000<x\/x=gC t i)/\Cf wa wr) (λ_ q _=>t.rl.length+t.tk.length-(intOf q).toNat)
    case atStart=>exact⟨0,x1,oM,rfl,rfl,hx1,by rw[HCZ.o];exact HX1.o,HC1.o⟩
    case round =>
     obtain⟨i,x,hi,rfl,rfl,hx,hxg,hc⟩:=hrel;have HC:=jh hc;have HXG:=jh hxg;have q0:=HN0.o wr hc 0 _ rfl;have q1:=HN0.o wr hc 1 _ rfl;clear hc hxg;by_cases hil:i<t.rl.length+t.tk.length
     .have b1:decide ((i:Int)<(t.rl.length:Int)+(t.tk.length:Int))=true:=by simp;omega
      by_cases hgt:x<=2000
      .have d1:decide ((x:Int)<=2000)=true:=by simp;omega
       have HXI:Hd (x=gC t i):=jh (by rcases HXG.o with h|h <;> omega);by_cases hir:i<t.rl.length
       .have b2:decide ((i:Int)<(t.rl.length:Int))=true:=by simp;omega
        obtain⟨s,d,gx,ox,hx2,hr2,rfl,-,-,-,cx⟩:=(zJ.of (HIN.o _ HC.o).rl).get1' (f:=zC3) rfl hir rfl;obtain rfl:s=d:=hr2;have c0:=cx _ rfl;have hsz:s.size<=1000000000000000:=HRS.o s (Az2 hx2);have hq:(s.size:Int).tdiv 50=((s.size / 50:Nat):Int):=(by rw[Int.tdiv_eq_ediv_of_nonneg oM];omega);have HST:Hd (gC t (i+1)=gC t i+s.size / 50):=jh (zNp (by rw[Ay8 hir];exact hx2));clear hx2 cx;go_wp2;go_roundw
        case rel=>exact⟨i+1,x+s.size / 50,oM,by go_num,by go_num,oM,.inr (by rw[HST.o,<-HXI.o]),HC.o⟩
        case measure=>simp[intOf];omega
       .have b2:decide ((i:Int)<(t.rl.length:Int))=false:=by simp;omega
        obtain⟨m,rfl⟩:∃m,i=t.rl.length+m:=⟨i-t.rl.length,oM⟩;have hmk:m<t.tk.length:=oM;obtain⟨s,d,gx,ox,hx2,hr2,rfl,-,-,-,cx⟩:=(zJ.of (HIN.o _ HC.o).tk).get1' (f:=zC3) rfl hmk rfl;obtain rfl:s=d:=hr2;have c0:=cx _ rfl;have hsub:((t.rl.length+m:Nat):Int)-(t.rl.length:Int)=(m:Int):=oM;have hsz:s.size<=1000000000000000:=HTS.o s (Az2 hx2);have hq:(s.size:Int).tdiv 50=((s.size / 50:Nat):Int):=(by rw[Int.tdiv_eq_ediv_of_nonneg oM];omega);have HST:Hd (gC t (t.rl.length+m+1)=gC t (t.rl.length+m)+s.size / 50):=jh (zNp (by rw[Ax4 oM,show t.rl.length+m-t.rl.length=m by omega];exact hx2));clear hx2 cx;go_wp2;go_roundw
        case rel=>exact⟨t.rl.length+m+1,x+s.size / 50,oM,by go_num,by go_num,oM,.inr (by rw[HST.o,<-HXI.o]),HC.o⟩
        case measure=>simp[intOf];omega
      .have d1:decide ((x:Int)<=2000)=false:=by simp;omega
       go_wp2;go_meet
       exact⟨x,rfl,hx,.inl oM,HC.o⟩
     .obtain rfl:i=t.rl.length+t.tk.length:=oM
      have b1:decide (((t.rl.length+t.tk.length:Nat):Int)<(t.rl.length:Int)+(t.tk.length:Int))=false:=sI;go_wp2;go_meet
      exact⟨x,rfl,hx,HXG.o,HC.o⟩
   case rest =>
    obtain⟨x2,rfl,hx2,hx2g,hc2⟩:=hcut;have HC2:=jh hc2;have HX2:=jh hx2g;clear hc2 hx2g;by_cases hgt:2000<x2
    .have d1:decide (2000<(x2:Int))=true:=by simp;omega
     go_wp2;go_ret
     exact⟨_,rfl,λh=>(by cases h),HCA.o.trans HC2.o⟩
    .have d1:decide (2000<(x2:Int))=false:=by simp;omega
     have HXF:Hd (gC t (t.rl.length+t.tk.length)<=2000):=jh (by rcases HX2.o with h|h <;> omega);have q7:=HN0.o wc HC2.o 7 _ rfl;have q8:=HN0.o wc HC2.o 8 _ rfl;have q9:=HN0.o wc HC2.o 9 _ rfl;have q10:=HN0.o wc HC2.o 10 _ rfl;have q11:=HN0.o wc HC2.o 11 _ rfl;go_wp2_with fail
     refine (zK6 t.nt ⟨(a7,t.nt.st.length,c7),(a8,t.nt.s.length,c8),(a9,t.nt.p.length,c9),(a10,t.nt.q.length,c10),(a11,t.nt.d.length,c11)⟩ S wc (HIN.o _ HC2.o).nt HVN.o).mono ?_;rintro e w3 ⟨g,rfl,hg,hc3⟩;have HG:=jh hg;have HC3:=jh ((HCA.o.trans HC2.o).trans hc3);clear hg hc3 q7 q8 q9 q10 q11;go_wp2;go_ret
     exact⟨g,rfl,λh=>⟨HXF.o,HG.o h⟩,HC3.o⟩
theorem fA {α:Type}(f:α->Nat):∀(L:List α) (x:α),x∈L->f x<=(L.map f).sum
 | y :: L,x,h=>by
  rcases Ax3.1 h with rfl|h
  .simp
  .have:=fA f L x h
   simp;omega
theorem zEy {α:Type}(f:α->Nat):∀(L:List α),(∀x∈L,1<=f x)->L.length<=(L.map f).sum
 | [],_=>sI
 | y :: L,h=>by
  have h1:=zEy f L (λx hx=>h x (by simp[hx]));have h2:=h y sI;simp;omega
theorem pL {α:Type}(f:α->List Int) (b:Nat):∀(L:List α),(∀x∈L,(f x).length<=b)->(L.flatMap f).length<=b * L.length
 | [],_=>sI
 | y :: L,h=>by
  have h1:=pL f b L (λx hx=>h x (by simp[hx]));have h2:=h y sI;simp only[List.flatMap_cons,Az0,Ax2,Nat.mul_add];omega
theorem zB1 {α:Type}(f:α->List Int) (g:α->Nat) (b c:Nat):∀(L:List α),(∀x∈L,(f x).length<=b+c * g x)->(L.flatMap f).length<=b * L.length+c * (L.map g).sum
 | [],_=>sI
 | y :: L,h=>by
  have h1:=zB1 f g b c L (λx hx=>h x (by simp[hx]));have h2:=h y sI;simp only[List.flatMap_cons,Az0,Ax2,Nat.mul_add,List.map_cons,List.sum_cons];omega
structure NotGreat (t:TabsD):Prop where
 c:gC t (t.rl.length+t.tk.length)<=2000
 n:gN t.nt t.nt.st.length<=700
structure Light (t:TabsD):Prop where
 b:t.rl.length+t.tk.length+t.dr.length+t.lx.r.length+t.lx.c.length+t.lx.e.length+t.lk.length<=2000
 n:(t.lx.n.map λl=>l.length+1).sum<=2000
 k:(t.lk.map λA=>(A.map λs=>s.2.1.length+s.2.2.length+1).sum).sum<=2000
 s:((t.rl++t.tk).map λs=>s.size / 50).sum<=2000
 a:t.nt.st.length+t.nt.s.length+t.nt.p.length+t.nt.q.length+t.nt.d.length<=700
 e:(t.nt.st.map λs=>s.2.1.length+s.2.2.length).sum<=700
theorem NotGreat.light {t:TabsD}(h:NotGreat t):Light t:=by
 obtain⟨h1,h2⟩:=h;have e1:(t.rl++t.tk).take (t.rl.length+t.tk.length)=t.rl++t.tk:=Ax6 sI;unfold gC gB gA at h1;rw[e1,Ay5,Ay5]at h1;unfold gN at h2;rw[Ay5]at h2;have e2:(t.lk.map λA=>gL A A.length)=t.lk.map λA=>(A.map λs=>s.2.1.length+s.2.2.length+1).sum:=by
  apply List.map_congr_left
  intro A _;unfold gL;rw[Ay5]
 rw[e2]at h1;exact⟨oM,oM,oM,oM,oM,oM⟩
theorem Light.fair {t:TabsD}(h:Light t):FairTabs t:=by
 have hb:=h.b;have ha:=h.a;have hn:=h.n;have hs:∀s∈t.rl++t.tk,s.size<=1000000000000:=λs hs=>by
  have h1:=fA (λs:Str=>s.size / 50) _ s hs;have h2:=h.s
  try simp only at h1
  omega
 have hl:=zEy (λl:List Int=>l.length+1) t.lx.n (λ_ _=>oM);refine⟨oM,oM,oM,λs hs'=>hs s (by simp[hs']),λs hs'=>hs s (by simp[hs']),⟨oM,oM,oM,oM,λl hl'=>?_⟩,⟨oM,oM,oM,oM,oM,λs hs'=>?_⟩,oM,λA hA=>?_⟩
 .have:=fA (λl:List Int=>l.length+1) _ l hl'
  try simp only at this
  omega
 .have h1:=fA (λs:StD=>s.2.1.length+s.2.2.length) _ s hs'
  have h2:=h.e
  try simp only at h1
  exact⟨oM,oM⟩
 .have h1:=fA (λA:List LsD=>(A.map λs=>s.2.1.length+s.2.2.length+1).sum) _ A hA
  have h2:=h.k
  try simp only at h1
  have h3:=zEy (λs:LsD=>s.2.1.length+s.2.2.length+1) A (λ_ _=>oM);refine⟨oM,λs hs'=>?_⟩;have h4:=fA (λs:LsD=>s.2.1.length+s.2.2.length+1) _ s hs'
  try simp only at h4
  exact⟨oM,oM⟩
theorem Light.small {t:TabsD}(h:Light t) (hk:∀s∈t.nt.st,∀e∈s.2.1,0<=e.1):SmallT t:=by
 have hb:=h.b;have ha:=h.a;refine⟨oM,λs hs=>?_,oM,λA hA s hs=>?_⟩
 .have h1:=fA (λs:StD=>s.2.1.length+s.2.2.length) _ s hs
  have h2:=h.e
  try simp only at h1
  exact⟨oM,oM,hk s hs⟩
 .have h1:=fA (λA:List LsD=>(A.map λs=>s.2.1.length+s.2.2.length+1).sum) _ A hA
  have h2:=h.k
  try simp only at h1
  have h4:=fA (λs:LsD=>s.2.1.length+s.2.2.length+1) _ s hs
  try simp only at h4
  omega
theorem qN {m:Nat}(hm:m<=16777215) {z:Int}(h:okN m z):(zN z).length<=4:=zAj 3 z.toNat (by obtain⟨h1,h2⟩:=h;omega)
theorem rC {α:Type}{enc:α->List Int}{L:List α}(h:L.length<=16777215):(zS enc L).length<=4+(L.flatMap enc).length:=by
 unfold zS;have:=zAj 3 L.length oM;rw[Az0];omega
theorem zF6 {W:Nat}{LL:List (List Int)}(h1:W<=65536) (hn:LL.length<=65536) (hmk:uG W LL=true):(vJ W LL).length<=5 * (3+3 * LL.length+2 * (LL.length * W)):=by
 have hw:∀l∈LL,l.length=W:=λl hl=>by
  have:=Ax5.1 hmk l hl;simp only[pA,Ay2,decide_eq_true_eq]at this;omega
 have hmay:=zAt (W:=W) oM oM hn hmk;have HCL:∀r∈(yC LL).1,r.2.length<=W:=λr hr=>by
  obtain⟨l,hl,rfl⟩:=gG LL r hr;rw[<-hw l hl];exact uL _ _ _
 have h2:=aS (O:=(yC LL).2) HCL;obtain⟨h3,h4⟩:=tC LL;have h5:=zAd _ (jY hmay).1;have h6:(yC LL).1.length * W<=LL.length * W:=Nat.mul_le_mul_right _ h3;show (bytesOf _).length<=_;omega
theorem zH9 {s:Str}(h:zCg s):(vG s).length<=68:=by
 unfold vG;unfold zCg at h;have:=zAj 3 s.size oM;have:(strB s).length=s.size:=by simp[strB]
 rw[Az0];omega
theorem Light.put {t:TabsD}(h:Light t) (ho:OkTabs t) (hm:yJ t=true):xS t.lx.c<=65536/\(tA t).length<=5000000:=by
 refine⟨ho.lx.cw,?_⟩;have hb:=h.b;have ha:=h.a;obtain⟨o1,o2,⟨o3,o4⟩,o5,o6,o7,o8⟩:=ho;obtain⟨x1,x2,x3,x4,x5,x6,x7,x8,x9⟩:=o5;obtain⟨n1,n2,n3,n4,-⟩:=o6;have hM:=nG hm
 -- texts
 have t1:(zS vG t.rl).length<=4+68 * t.rl.length:=Ay4 (rC o1.1) (by have:=pL vG 68 t.rl (λx hx=>zH9 (o1.2 x hx));omega);have t2:(zS qL (t.tk.zip t.dr)).length<=4+72 * 64:=by
  have hz:(t.tk.zip t.dr).length<=64:=by rw[Au7];omega
  have h1:=pL qL 72 (t.tk.zip t.dr) (λx hx=>by
   have h2:=zH9 (o4 _ (List.of_mem_zip hx).1);unfold qL;rw[Az0];have:(zN (if x.2 then 1 else 0)).length<=4:=qN (m:=1) oM (by cases x.2 <;> exact⟨dE,dE⟩);omega)
  have h3:=rC (enc:=qL) (L:=t.tk.zip t.dr) oM;have h4:72 * (t.tk.zip t.dr).length<=72 * 64:=Nat.mul_le_mul_left _ hz;omega
 -- the lexer
 obtain⟨W,hW⟩:∃W:Nat,xS t.lx.c=W:=⟨(xS t.lx.c).toNat,by
  have:=(zAb t.lx.c 0).1;unfold xS;omega⟩
 have t3:(dS t.lx).length<=200000:=by
  unfold dS;rw[hW];rw[hW]at x5 x7;have hrow:t.lx.n.length * (W+1)<=2000:=by
   have h1:∀(LL:List (List Int)),(∀l∈LL,l.length=W)->LL.length * (W+1)=(LL.map λl=>l.length+1).sum:=by
    intro LL
    induction LL with
    | nil=>intro _;simp
    | cons l LL ih =>
     intro hl;have h2:=ih (λx hx=>hl x (by simp[hx]));have h3:=hl l sI;simp only[Ax2,List.map_cons,List.sum_cons,Nat.succ_mul,h3];omega
   rw[h1 t.lx.n (λl hl=>by
    have:=Ax5.1 x7 l hl;simp only[pA,Ay2,decide_eq_true_eq]at this;omega)]
   exact h.n
  have hnW:t.lx.n.length * (W+1)=t.lx.n.length * W+t.lx.n.length:=Nat.mul_succ _ _;have h1:=zF6 oM x6 x7;have h2:=pL ptRc 12 (t.lx.r.zip t.lx.c) (λx hx=>by
   obtain⟨r1,r2,r3⟩:=x4 x hx;have e1:=qN oM r1;have e2:=qN oM r2;have e3:=qN oM r3;unfold ptRc;rw[Az0,Az0];omega)
  have h3:=rC (enc:=ptRc) (L:=t.lx.r.zip t.lx.c) (by rw[Au7];omega);have h4:(t.lx.r.zip t.lx.c).length<=2000:=by rw[Au7];omega
  have h5:=pL bW 4 t.lx.e (λx hx=>by
   obtain⟨r1,r2⟩:=x9 x hx;exact qN (m:=16777215) oM ⟨oM,oM⟩)
  rw[Az0,Az0];omega
 -- the net
 have t4:(aU t.nt).length<=100000:=by
  have hst:∀s∈t.nt.st,(vQ s).length<=12+12 * (s.2.1.length+s.2.2.length):=λs hs=>by
   obtain⟨r1,⟨r2,r3⟩,r4,r5⟩:=n1.2 s hs;have e1:=qN oM r1;have e2:=pL pG 12 s.2.1 (λx hx=>by
    obtain⟨g1,g2,g3⟩:=r3 x hx;have e1:=qN oM g1;have e2:=qN oM g2;have e3:=qN oM g3;unfold pG;rw[Az0,Az0];omega)
   have e3:=rC (enc:=pG) r2;have e4:=pL zN 4 s.2.2 (λx hx=>qN oM (r5 x hx));have e5:=rC (enc:=zN) r4;unfold vQ;rw[Az0,Az0];omega
  have h1:=zB1 vQ (λs:StD=>s.2.1.length+s.2.2.length) 12 12 t.nt.st hst;have h2:=rC (enc:=vQ) n1.1;have h3:=h.e;have h4:=pL zN 4 t.nt.s (λx hx=>qN oM (n2.2 x hx));have h5:=rC (enc:=zN) n2.1;have h6:=pL zN 4 t.nt.p (λx hx=>qN oM (n3.2 x hx));have h7:=rC (enc:=zN) n3.1;have h8:=pL zN 4 t.nt.q (λx hx=>qN oM (n4.2 x hx));have h9:=rC (enc:=zN) n4.1;unfold aU;rw[Az0,Az0,Az0];omega
 -- what is looked ahead by
 have t5:(t.lk.flatMap (tU t.tk.length)).length<=3000000:=by
  have hlk:∀A∈t.lk,(tU t.tk.length A).length<=40+1000 * (A.map λs=>s.2.1.length+s.2.2.length+1).sum:=λA hA=>by
   obtain⟨r1,r2⟩:=o8 A hA;have e1:=zEy (λs:LsD=>s.2.1.length+s.2.2.length+1) A (λ_ _=>oM);have e2:=zB1 ptLs (λs:Int×List Int=>s.2.length) 8 4 (A.map λs=>(s.1,s.2.1)) (λx hx=>by
    obtain⟨s,hs,rfl⟩:=At0.1 hx;obtain⟨k1,k2,-,-⟩:=r2 s hs;have e1:=qN oM k1;have e4:=pL zN 4 s.2.1 (λx hx=>qN oM (k2.2 x hx));have e5:=rC (enc:=zN) k2.1;unfold ptLs;rw[Az0];simp only;omega)
   have e3:=rC (enc:=ptLs) (L:=A.map λs=>(s.1,s.2.1)) (by rw[Aw3];omega);have e4:((A.map λs=>(s.1,s.2.1)).map λs:Int×List Int=>s.2.length).sum<=(A.map λs=>s.2.1.length+s.2.2.length+1).sum:=by
    rw[List.map_map];clear e1 e2 e3 r1 r2 hA
    induction A with
    | nil=>simp
    | cons s A ih=>simp only[List.map_cons,List.sum_cons,Function.comp];omega
   have e5:=zF6 (W:=t.tk.length+1) (LL:=A.map λs=>yW t.tk.length s.2.2) oM (by rw[Aw3];omega) (by have:=zCp r2;exact_mod_cast this);rw[Aw3]at e2 e5;have e6:A.length * (t.tk.length+1)<=A.length * 65:=Nat.mul_le_mul_left _ oM;unfold tU;rw[Az0];have e7:vJ ((t.tk.length:Int)+1) (A.map λs=>yW t.tk.length s.2.2)=vJ ((t.tk.length+1:Nat):Int) (A.map λs=>yW t.tk.length s.2.2):=(by norm_cast);rw[e7]
   try simp only at e1
   omega
  have h1:=zB1 (tU t.tk.length) (λA:List LsD=>(A.map λs=>s.2.1.length+s.2.2.length+1).sum) 40 1000 t.lk hlk;have h2:=h.k;have h3:40 * t.lk.length<=40 * 2000:=Nat.mul_le_mul_left _ oM;omega
 have t6:qA.length<=100:=dE
 unfold tA zAm;rw[Az0,Az0,Az0,Az0,Az0];omega
def aC:List Value:=[.slice none 0 0,.slice none 0 0,.slice none 0 0,.slice none 0 0,.slice none 0 0,.slice none 0 0,.slice none 0 0,.slice none 0 0,.slice none 0 0,.slice none 0 0,.slice none 0 0,.slice none 0 0,.slice none 0 0]
theorem zFw (tb eb:Nat) (w:World) (v:Nat->Value) (x:Int) (he:tb≠eb) (hc:∀j,j<13->w.cell? ⟨tb,j,none⟩=some (v j)) (hz:∀j,w.frozen? ⟨tb,j,none⟩=false) (h1:w.cell? ⟨eb,0,none⟩=some (.int .i64 x)) (hz1:w.frozen? ⟨eb,0,none⟩=false) :
  CallsD Tryz.prog 53 #[.pointer (some ⟨tb,0,none⟩),.pointer (some ⟨eb,0,none⟩)] (.panicking [{ v:=.iface 129 (.agg #[]),recovered:=false }]) w λe u' w' =>
   e=.returned (.tuple #[])/\u'=.panicking [{ v:=.iface 129 (.agg #[]),recovered:=true }]/\w'=(xQ tb 0 aC (w.alloc (.cells #[] 129))).setCell ⟨eb,0,none⟩ (.int .i64 4):=by
 have hta:∀w,(Instr.typeAssert (.iface 129 (.agg #[])) 20 129 true).run Tryz.prog w=.ok (.tuple #[.agg #[],.bool true]) w:=λ_=>kR
 obtain⟨w1,hw1⟩:∃W,W=w.alloc (.cells #[] 129):=⟨_,rfl⟩;have hC:Cf w w1:=by rw[hw1];exact (Chg.refl _ _).alloc _
 have hK:∀j,j<13->w1.cell? ⟨tb,j,none⟩=some (v j):=λj hj=>hC.cellS (hc j hj) iD
 have htl:tb<w.heap.size:=Az6 _ _ (hc 0 dE);have hZ:∀j,w1.frozen? ⟨tb,j,none⟩=false:=λj=>(hC.frozen (p:=⟨tb,j,none⟩) htl iD).trans (hz j)
 have ke:=hC.cellS h1 iD;have ze:=(hC.frozen (p:=⟨eb,0,none⟩) (Az6 _ _ h1) iD).trans hz1;clear hz hz1 h1 hC hc;refine callsD_of_wpS Tryz.func53 rfl λc₀ cs hu=>?_
 apply wpS_seq
 apply wpS_region
 simp[wpOpsS,go_sem,recoverD,hu,Tryz.ntmps53,Exit.thenS]
 refine wpS_of_wp ?_;go_upto_region 2 with (fail)
 rw[<-hw1];have HW1:=jh hw1;clear hw1;have k0:=hK 0 dE;have z0:=hZ 0;have k1:=hK 1 dE;have z1:=hZ 1;have k2:=hK 2 dE;have z2:=hZ 2;have k3:=hK 3 dE;have z3:=hZ 3;have k4:=hK 4 dE;have z4:=hZ 4;have k5:=hK 5 dE;have z5:=hZ 5;have k6:=hK 6 dE;have z6:=hZ 6;have k7:=hK 7 dE;have z7:=hZ 7;have k8:=hK 8 dE;have z8:=hZ 8;have k9:=hK 9 dE;have z9:=hZ 9;have k10:=hK 10 dE;have z10:=hZ 10;have k11:=hK 11 dE;have z11:=hZ 11;have k12:=hK 12 dE;have z12:=hZ 12;have hne:¬eb=tb:=λh=>he h.symm
 go_upto_region 3 with (fail)
 go_wp2;refine⟨rfl,_,rfl,_,results_none rfl _ _ _,rfl,rfl,?_⟩;rw[<-HW1.o]
 rfl
theorem zEp (tb eb:Nat) (w:World) :
  CallsD Tryz.prog 53 #[.pointer (some ⟨tb,0,none⟩),.pointer (some ⟨eb,0,none⟩)] .returning w λe u' w' =>
   e=.returned (.tuple #[])/\u'=.returning/\w'=w.alloc (.cells #[] 129):=by
 have hta:∀w,(Instr.typeAssert .nilIface 20 129 true).run Tryz.prog w=.ok (.tuple #[.agg #[],.bool false]) w:=λ_=>kR
 refine callsD_of_wpS Tryz.func53 rfl λc₀ cs hu=>?_
 apply wpS_seq
 apply wpS_region
 simp[wpOpsS,go_sem,recoverD,hu,Tryz.ntmps53,Exit.thenS]
 refine wpS_of_wp ?_;go_wp2;refine⟨rfl,_,?_,_,results_none rfl _ _ _,rfl,rfl,rfl⟩;cases c₀
 simp_all
def zBg (pg:Nat) (w:World) (Z:List Int) (e:Ending) (w':World):Prop :=
 Chg (·=pg) w w'/\((bU Z=none/\e=tL)\/∃t m,bU Z=some t/\e=.returned (gY m)/\TabsIn w' (λk=>w.heap.size<=k) m t)
theorem zR2 {Y:List Int}(hY:∀a∈Y,Byte a) (h:Y≠qA):((strOfNums Y).toList == [72,66,84,49])=false:=by
 rw[beq_eq_false_iff_ne];intro e;rw[ByteArray.toList_eq]at e;refine h (zRm hY dE ?_);rw[zL3];exact ByteArray.ext (Array.toList_inj.1 e)
theorem zBa (b:Nat):∀(vs:List Value) (o:Nat) (W:World) (j:Nat),(j<o\/o+vs.length<=j)->(xQ b o vs W).cell? ⟨b,j,none⟩=W.cell? ⟨b,j,none⟩
 | [],_,_,_,_=>rfl
 | v :: vs,o,W,j,h=>by
  rw[show xQ b o (v :: vs) W=xQ b (o+1) vs (W.setCell ⟨b,o,none⟩ v) from rfl,zBa b vs (o+1) _ j (by simp only[Ax2]at h;omega)];exact Ay0 _ _ _ _ (by intro e;injection e with _ e;simp only[Ax2]at h;omega)
theorem zRf {w:World}{S:Nat->Prop}{s:Sl}{L:List (Str×Bool)}(h:zJ strE tokR w S s L):strE.InS w S s (L.map (·.1)):=by
 obtain⟨X,h1,h2,h3⟩:=h;have:X=L.map (·.1):=List.ext_getElem (by rw[Aw3];exact h2) (λj hx hl=>by
  rw[Aw3]at hl;have:=h3 j _ _ (Az hx) (Az hl);rw[List.getElem_map];exact this)
 rw[<-this];exact h1
theorem zJ6 {pg gb:Nat}(w:World) (Z:List Int) (h:GetSt pg gb w Z) (hl4:4<=Z.length):Calls Tryz.prog 55 #[.pointer (some ⟨pg,0,none⟩)] w (zBg pg w Z):=by
 have HG:=jh h;obtain⟨o,cc,h1,h2,h3⟩:=h.c;have hzl:=h.len;have hmf:=mkfn;have b1:decide (4<=Z.length)=true:=decide_eq_true hl4;have b1':decide ((4:Int)<=(Z.length:Int))=true:=decide_eq_true oM;obtain⟨w0,hw0⟩:∃W,W=(w.alloc (.cells #[.pointer (some ⟨pg,0,none⟩)] 132)).alloc (.cells #[.slice none 0 0,.slice none 0 0,.slice none 0 0,.slice none 0 0,.slice none 0 0,.slice none 0 0,.slice none 0 0,.slice none 0 0,.slice none 0 0,.slice none 0 0,.slice none 0 0,.slice none 0 0,.slice none 0 0] 34):=⟨_,rfl⟩;have HC0:Hd (Cf w w0):=jh (by rw[hw0];exact ((Chg.refl _ w).alloc _).alloc _);have HS0:Hd (w0.heap.size=w.heap.size+2):=jh (by rw[hw0];simp);have q0:w0.cell? ⟨w.heap.size,0,none⟩=some (.pointer (some ⟨pg,0,none⟩)):=by rw[hw0];exact yG _ (vW _ _ rfl)
 have HZ0:Hd (∀j,w0.frozen? ⟨w.heap.size+1,j,none⟩=false):=jh (λj=>by
  have e:w.heap.size+1=(w.alloc (.cells #[.pointer (some ⟨pg,0,none⟩)] 132)).heap.size:=sI
  rw[hw0,e];exact Az8 _ _ _ _)
 have HT0:Hd (∀j,j<13->w0.cell? ⟨w.heap.size+1,j,none⟩=some (.slice none 0 0)/\w0.frozen? ⟨w.heap.size+1,j,none⟩=false):=jh (λj hj=>by
  rw[hw0];refine⟨zE _ sI ?_,?_⟩
  .rcases (by omega:j=0\/j=1\/j=2\/j=3\/j=4\/j=5\/j=6\/j=7\/j=8\/j=9\/j=10\/j=11\/j=12) with rfl|rfl|rfl|rfl|rfl|rfl|rfl|rfl|rfl|rfl|rfl|rfl|rfl <;> rfl
  .have e:w.heap.size+1=(w.alloc (.cells #[.pointer (some ⟨pg,0,none⟩)] 132)).heap.size:=sI
   rw[e];exact Az8 _ _ _ _)
 have q1:=HC0.o.cellS h1 iD;have HQ0:=jh q0;have HB:Hd (BytesAt w0 gb o Z):=jh (h3.chg HC0.o iE);have HB4:Hd (BytesAt w0 gb o (Z.take 4)):=jh ⟨λj x hj=>HB.o.c j x (by rw[List.getElem?_take_of_lt (by have:=(Az1.1 hj).1;rw[Ax1]at this;omega)]at hj;exact hj),λ_=>Ay9 HG.o.lb HC0.o.size⟩;have hcv:=zTd cc HB4.o (a:=some ⟨gb,o,none⟩) (λ_=>rfl);rw[Ax1,Nat.min_eq_left hl4]at hcv;have HZC:Hd (Z.length<=cc):=jh h2;have hcc4:4<=cc:=oM
 obtain⟨tb,htb⟩:∃b,b=w.heap.size+1:=⟨_,rfl⟩;have HTB:Hd (tb=w.heap.size+1):=jh htb;rw[<-htb]at HT0 HZ0;clear h h1 h2 h3;go_enter Tryz.func55,Tryz.ntmps55
 go_upto_region 1 with (fail)
 rw[<-hw0,<-htb];clear hw0 htb;by_cases hhd:Z.take 4=qA
 .rw[hhd,zL3]at hcv
  go_wp2_with fail
  refine (cC _).mono ?_;rintro e w1 ⟨rfl,rfl⟩;clear hcv b1 b1' q0;have HTG:Hd (bU Z=match zA6 (Z.drop 4) with
   | none=>none
   | some (t,r)=>if r=[]/\yJ t=true then some t else none):=jh (by unfold bU;rw[if_pos hhd];rfl)
  clear hhd;go_upto_region 2 with (fail)
  obtain⟨wd,hwd⟩:∃W,w1.drew=W:=⟨_,rfl⟩;have HDD:Hd (Cf w1 wd):=jh (by rw[<-hwd];exact (Chg.refl _ _).drew);refine zC (λx=>x=wd) (λi=>decide (8<=i)) kR ?_;show yN _ _ _ _ _ _ 9 (Array.replicate 9 false) _ w1.drew;rw[hwd];clear hwd;have HBX:Hd (wd.cell? ⟨w.heap.size,0,none⟩=some (.pointer (some ⟨pg,0,none⟩))):=jh (HDD.o.cellS HQ0.o iD);have HPC:Hd (wd.cell? ⟨pg,0,none⟩=some (.slice (some ⟨gb,o,none⟩) Z.length cc)):=jh (HDD.o.cellS q1 iD);have HSS:Hd (wd=wd):=jh rfl;(refine lq 0 HSS.o ?_ (hr:=by intro w' hC;subst hC;have q:=HBX.o;go_simp;try with_reducible rfl));(refine lq 1 HSS.o ?_ (hr:=by intro w' hC;subst hC;have q:=HBX.o;go_simp;try with_reducible rfl));(refine lq 2 HSS.o ?_);(refine lq 3 HSS.o ?_);(refine lq 4 HSS.o ?_ (hr:=by intro w' hC;subst hC;have q:=HPC.o;go_simp;try with_reducible rfl));have hz4:(4:Int)<=(Z.length:Int):=oM
  (refine lq 5 HSS.o ?_);obtain⟨A,hA⟩:∃A:Option Addr,(if cc=4 then some ⟨gb,o,none⟩ else some ⟨gb,o+4,none⟩)=A:=⟨_,rfl⟩;rw[hA];(refine lq 6 HSS.o ?_);(refine lq 7 HSS.o ?_);have HCUT:Hd (GetSt pg gb (wd.setCell ⟨pg,0,none⟩ (.slice A (Z.length-4) (cc-4))) (Z.drop 4)):=jh (by
   have h1:=(HG.o.fresh (HC0.o.trans HDD.o)).cut HPC.o HZC.o (HB.o.chg HDD.o iE) hl4;unfold cutV at h1;by_cases hck:cc=4
   .rw[if_pos hck]at h1 hA
    rw[<-hA];have e1:Z.length-4=0:=(by have:=HZC.o;omega);rw[e1,hck];exact h1
   .rw[if_neg hck]at h1 hA
    rw[<-hA];exact h1)
  have k1:=HPC.o;have k2:wd.frozen? ⟨pg,0,none⟩=false:=(HG.o.fresh (HC0.o.trans HDD.o)).z;(refine ld 8 ?_);refine yA kR ?_ _;obtain⟨w2,hw2⟩:∃W,W=wd.setCell ⟨pg,0,none⟩ (.slice A (Z.length-4) (cc-4)):=⟨_,rfl⟩;rw[<-hw2]at HCUT ⊢;have HC2:Hd (Chg (·=pg) w1 w2):=jh (by rw[hw2];exact HDD.o.any.trans (zA _ _ _ _));have HPG:Hd (pg<w.heap.size/\gb<w.heap.size):=jh ⟨HG.o.lt,HG.o.lb⟩;have HSB2:Hd (GetSb pg gb w.heap.size w2 (Z.drop 4)):=jh ⟨HCUT.o,HC2.o.cellS HQ0.o (by have:=HPG.o;show ¬w.heap.size=pg;omega),by have:=HPG.o;omega⟩;have HT2:Hd (∀j,j<13->w2.cell? ⟨tb,j,none⟩=some (.slice none 0 0)/\w2.frozen? ⟨tb,j,none⟩=false):=jh (λj hj=>by
   have hn:¬tb=pg:=(by have:=HPG.o;have:=HTB.o;omega);exact⟨HC2.o.cellS (HT0.o j hj).1 hn,(HC2.o.frozen (p:=⟨tb,j,none⟩) (Az6 _ _ (HT0.o j hj).1) hn).trans (HT0.o j hj).2⟩)
  have htl:tb<w1.heap.size:=Az6 _ _ (HT0.o 0 oM).1;have HZ2:Hd (∀j,w2.frozen? ⟨tb,j,none⟩=false):=jh (λj=>(HC2.o.frozen (p:=⟨tb,j,none⟩) htl (by have:=HPG.o;have:=HTB.o;show ¬tb=pg;omega)).trans (HZ0.o j));clear htl hw2 hA k1 k2 hz4 q1 HPC HBX HSS hcc4;have q0:=HSB2.o.c;go_wp2_with fail
  refine (zLy w2 _ HSB2.o.g).mono ?_;rintro e w3 ⟨hc3,⟨h3,rfl⟩|⟨rl,r3,a3,h3,rfl,hR3,hg3,hn3⟩⟩
  .refine⟨rfl,HC0.o.any.trans (HC2.o.trans hc3),.inl ⟨?_,rfl⟩⟩
   rw[HTG.o];simp only[zA6,h3]
  obtain⟨n3,hn⟩:∃n,rl.length=n:=⟨_,rfl⟩;rw[hn]at hR3 hn3;simp only[hn];have HN3:=jh hn;have H3:=jh h3;have hn':¬tb=pg:=by have:=HPG.o;have:=HTB.o;omega
  have hT3:∀j,j<13->w3.cell? ⟨tb,j,none⟩=some (.slice none 0 0)/\w3.frozen? ⟨tb,j,none⟩=false:=λj hj =>
   ⟨hc3.cellS (HT2.o j hj).1 hn',(hc3.frozen (p:=⟨tb,j,none⟩) (Az6 _ _ (HT2.o j hj).1) hn').trans (HT2.o j hj).2⟩
  have c0:=(hT3 0 oM).1;have z0:=(hT3 0 oM).2;obtain⟨w4,hw4⟩:∃W,W=w3.setCell ⟨tb,0,none⟩ (.slice a3 n3 n3):=⟨_,rfl⟩;have hs4:Chg (·=tb) w3 w4:=by rw[hw4];exact zA _ _ _ _
  have hoth4:∀j,1<=j->j<13->w4.cell? ⟨tb,j,none⟩=some (.slice none 0 0):=λj h1 h2=>by
   rw[hw4,Ay0 _ _ _ _ (by intro e;injection e with _ e;omega)];exact (hT3 j h2).1
  have HC4:Hd (w4.cell? ⟨tb,0,none⟩=some (.slice a3 n3 n3)/\∀j,1<=j->j<13->w4.cell? ⟨tb,j,none⟩=some (.slice none 0 0)):=jh ⟨by rw[hw4];exact Az9 _ _ _ c0,hoth4⟩;have HTK4:Hd (TokSt pg gb w.heap.size tb w4 w4 [] r3):=jh (by
   have hp:=HPG.o;have ht:=HTB.o;have hlt:=Az6 _ _ c0;have hz:∀j,w4.frozen? ⟨tb,j,none⟩=false:=λj=>by
    rw[hw4];have htl2:tb<w2.heap.size:=Az6 _ _ (HT2.o 0 oM).1;refine (Az4 _ _ _ _).trans ((hc3.frozen (p:=⟨tb,j,none⟩) htl2 hn').trans ?_);exact HZ2.o j
   exact⟨(HSB2.o.go hg3 hc3).chg hs4 oM oM oM,oM,⟨_,hoth4 2 oM oM,hz 2,.nil _ _⟩,λj u _ hu=>hu,hz⟩)
  have HR4:Hd (strE.InS w4 (λk=>w2.heap.size<=k/\k<w4.heap.size) (a3,n3,n3) rl):=jh ((hR3.to.chg hs4 (λg hg e=>by have:=Az6 _ _ (HT2.o 0 oM).1;simp only at this;omega)).mono (λg hg hh=>⟨hh,hg⟩));have HC14:Hd (Chg (·=pg) w w4):=jh ((HC0.o.any.trans (HC2.o.trans hc3)).trans2 hs4 (λg hg e=>by have:=HTB.o;omega));have HW24:Hd (w.heap.size+2<=w2.heap.size/\w2.heap.size<=w4.heap.size):=jh ⟨by have:=HC2.o.size;have:=HS0.o;omega,Ay4 hc3.size hs4.size⟩;clear hc3 h3 hR3 hg3 hn3 hn hT3 hs4 hoth4 q0 HC2 HSB2 HT2;go_upto_region 4 with (fail)
  rw[<-hw4];clear hw4 c0 z0;have q0:=HTK4.o.g.c;go_wp2_with fail
  refine (zPm w4 r3 HTK4.o).mono ?_;rintro e w5 ⟨hc5,⟨h5,rfl⟩|⟨L,r5,a5,h5,rfl,hL5,hst5,hl5,-,-,-⟩⟩
  .refine⟨rfl,HC14.o.trans2 hc5 (λg hg e=>?_),.inl ⟨?_,rfl⟩⟩
   .rcases e with e|e|⟨v,hv,e⟩
    .exact e
    .have:=HTB.o;omega
    .rw[HC4.o.2 2 oM oM]at hv
     obtain rfl:=Az3 hv;cases e
   .rw[HTG.o]
    simp only[zA6,H3.o,h5]
  obtain⟨n5,hn⟩:∃n,L.length=n:=⟨_,rfl⟩;rw[hn]at hL5 hl5;simp only[hn];have HN5:=jh hn;have H5:=jh h5;have hc5':Chg (λk=>k=pg\/k=tb) w4 w5:=hc5.mono (λg hg e=>by
   rcases e with e|e|⟨v,hv,e⟩
   .exact .inl e
   .exact .inr e
   .rw[HC4.o.2 2 oM oM]at hv
    obtain rfl:=Az3 hv;cases e)
  obtain⟨dv,hdv⟩:=hst5.f;obtain⟨da,dn,dc,rfl⟩:=hdv.own.shape3;have c1:=hst5.o 1 _ oM (HC4.o.2 1 oM oM);have z1:=hst5.z 1;obtain⟨w6,hw6⟩:∃W,W=w5.setCell ⟨tb,1,none⟩ (.slice a5 n5 n5):=⟨_,rfl⟩;have hs6:Chg (·=tb) w5 w6:=by rw[hw6];exact zA _ _ _ _
  have hoth6:∀j u,j≠1->w5.cell? ⟨tb,j,none⟩=some u->w6.cell? ⟨tb,j,none⟩=some u:=λj u hj hu=>by
   rw[hw6,Ay0 _ _ _ _ (by intro e;injection e with _ e;exact hj e.symm)];exact hu
  have HC6:Hd (w6.cell? ⟨tb,0,none⟩=some (.slice a3 n3 n3)/\w6.cell? ⟨tb,1,none⟩=some (.slice a5 n5 n5)/\w6.cell? ⟨tb,2,none⟩=some (.slice da dn dc)/\∀j,3<=j->j<13->w6.cell? ⟨tb,j,none⟩=some (.slice none 0 0)):=jh
   ⟨hoth6 0 _ oM (hst5.o 0 _ oM HC4.o.1),by rw[hw6];exact Az9 _ _ _ c1,hoth6 2 _ oM hdv.c,λj h1 h2=>hoth6 j _ oM (hst5.o j _ oM (HC4.o.2 j oM h2))⟩
  have HZ6:Hd (∀j,w6.frozen? ⟨tb,j,none⟩=false):=jh (λj=>by rw[hw6];exact (Az4 _ _ _ _).trans (hst5.z j));have HTW:Hd (tb<w6.heap.size):=jh (Az6 _ _ HC6.o.1);have HSB6:Hd (GetSb pg gb w.heap.size w6 r5):=jh (by
   have hp:=HPG.o;have ht:=HTB.o;exact hst5.g.chg hs6 oM oM oM)
  have HD6:Hd (aA.Own w6 (tb+1) (.slice da dn dc) (L.map (·.2))):=jh (hdv.own.chg hs6 (λg hg _ e=>oM));have HR6:Hd (strE.InS w6 (λk=>w.heap.size+2<=k/\k<w6.heap.size) (a3,n3,n3) rl/\strE.InS w6 (λk=>w.heap.size+2<=k/\k<w6.heap.size) (a5,n5,n5) (L.map (·.1))):=jh (by
   have hp:=HPG.o;have ht:=HTB.o;have h24:=HW24.o;exact⟨((HR4.o.chg hc5' (λg hg e=>oM)).chg hs6 (λg hg e=>oM)).mono (λg hg hh=>⟨oM,hg⟩),((zRf hL5).chg hs6 (λg hg e=>oM)).mono (λg hg hh=>⟨oM,hg⟩)⟩)
  have HC16:Hd (Chg (·=pg) w w6):=jh ((HC14.o.trans2 hc5' (λg hg e=>by have:=HTB.o;omega)).trans2 hs6 (λg hg e=>by have:=HTB.o;omega));have HW6:Hd (w.heap.size+2<=w6.heap.size):=jh (by have:=HW24.o;have:=hc5.size;have:=hs6.size;omega);clear hc5 hc5' h5 hL5 hst5 hn hdv hs6 hoth6 q0 HTK4 HR4 HC4 HC14;go_upto_region 5 with (fail)
  rw[<-hw6];clear hw6 c1 z1;obtain⟨wd,hwd⟩:∃W,w6.drew=W:=⟨_,rfl⟩;have HD:Hd (Cf w6 wd):=jh (by rw[<-hwd];exact (Chg.refl _ _).drew);have HSD:=jh (HSB6.o.fresh HD.o);refine zC (λx=>Chg (·=pg) wd x) (λi=>decide (5<=i)) kR ?_;show yN _ _ _ _ _ _ 8 (Array.replicate 8 false) _ w6.drew;rw[hwd];clear hwd;have HSS:Hd (Chg (·=pg) wd wd):=jh cR;(refine lq 0 HSS.o ?_ (hr:=by intro w' hC;have q:=hC.cellS HSD.o.c HSD.o.ne;go_simp;try with_reducible rfl));(refine lq 2 HSS.o ?_ (hr:=by intro w' hC;have q:=hC.cellS HSD.o.c HSD.o.ne;go_simp;try with_reducible rfl));refine tJ (i:=1) kR rfl rfl 107 #[.pointer (some ⟨pg,0,none⟩)] (λv w''=>∃(lx:LexD) (r:List Int) (m:LexS),lexG r5=some (lx,r)/\v=zHw m/\LexIn w'' (λk=>wd.heap.size<=k) m lx/\GetSt pg gb w'' r/\Chg (·=pg) wd w'') (by go_simp) ?_ ?_
  .refine (zNa wd r5 HSD.o.g).mono ?_
   rintro e w7 ⟨hc7,⟨h7,rfl⟩|⟨lx,r7,m7,h7,rfl,hL7,hg7,-,-,-⟩⟩
   .refine .inr ⟨_,rfl,rfl,HC16.o.trans (HD.o.any.trans hc7),.inl ⟨?_,rfl⟩⟩
    rw[HTG.o];simp only[zA6,H3.o,H5.o,h7]
   .exact .inl ⟨_,rfl,λ_=>hc7,lx,r7,m7,h7,rfl,hL7,hg7,hc7⟩
  rintro v w7-⟨lx,r7,m7,h7,rfl,hL7,hg7,hc7⟩ K hK;(try go_simp)
  refine hK _ ?_;clear hK K HSS;have H7:=jh h7;have HC7:=jh hc7;have HL7:=jh hL7;have HG7:=jh hg7;have HSS:Hd (Chg (·=pg) wd w7):=HC7;clear h7 hL7 hg7 hc7;(refine lq 4 HSS.o ?_);refine tJ (i:=3) kR rfl rfl 108 #[.pointer (some ⟨pg,0,none⟩)] (λv w''=>∃(nt:NetD) (r:List Int) (m:NetS),netG r7=some (nt,r)/\v=netV m/\NetIn w'' (λk=>w7.heap.size<=k) m nt/\GetSt pg gb w'' r/\Chg (·=pg) w7 w''/\nt.d.length<=16777215) (by go_simp) ?_ ?_
  .refine (zRv w7 r7 HG7.o).mono ?_
   rintro e w8 ⟨hc8,⟨h8,rfl⟩|⟨nt,r8,m8,h8,rfl,hN8,hg8,hnl⟩⟩
   .refine .inr ⟨_,rfl,rfl,HC16.o.trans (HD.o.any.trans (HC7.o.trans hc8)),.inl ⟨?_,rfl⟩⟩
    rw[HTG.o];simp only[zA6,H3.o,H5.o,H7.o,h8]
   .exact .inl ⟨_,rfl,λ_=>HC7.o.trans hc8,nt,r8,m8,h8,rfl,hN8,hg8,hc8,hnl⟩
  rintro v w8-⟨nt,r8,m8,h8,rfl,hN8,hg8,hc8,hnl⟩ K hK;(try go_simp)
  refine hK _ ?_;clear hK K HSS;have H8:=jh h8;have HC8:Hd (Chg (·=pg) w6 w8):=jh (HD.o.any.trans (HC7.o.trans hc8));have HS78:Hd (w6.heap.size<=wd.heap.size/\wd.heap.size<=w7.heap.size/\w7.heap.size<=w8.heap.size):=jh ⟨HD.o.size,HC7.o.size,hc8.size⟩;have HL8:Hd (LexIn w8 (λk=>w6.heap.size<=k/\k<w8.heap.size) m7 lx):=jh (LexIn.good.mono (LexIn.good.chg HL7.o hc8 (λg hg e=>by have:=HPG.o;have:=HW6.o;have:=HS78.o;omega)) (λg hg hh=>⟨by have:=HS78.o;omega,hg⟩));have HN8:Hd (NetIn w8 (λk=>w6.heap.size<=k/\k<w8.heap.size) m8 nt):=jh (NetIn.good.mono hN8 (λg hg hh=>⟨by have:=HS78.o;omega,hg⟩));have HG8:=jh hg8;have HNL:=jh hnl;clear h8 hN8 hg8 hc8 hnl HL7 HG7;obtain⟨⟨p0,p1,p2⟩,⟨p3,p4,p5⟩,⟨p6,p7,p8⟩,⟨p9,p10,p11⟩⟩:=m7;obtain⟨⟨u0,u1,u2⟩,⟨u3,u4,u5⟩,⟨u6,u7,u8⟩,⟨u9,u10,u11⟩,⟨u12,u13,u14⟩⟩:=m8;simp only[zHw,netV,slV];have hnb:¬tb=pg:=by have:=HPG.o;have:=HTB.o;omega
  have HC8T:Hd (∀j,3<=j->j<13->w8.cell? ⟨tb,j,none⟩=some (.slice none 0 0)):=jh (λj h1 h2=>HC8.o.cellS (HC6.o.2.2.2 j h1 h2) hnb);have HZ8:Hd (∀j,w8.frozen? ⟨tb,j,none⟩=false):=jh (λj=>(HC8.o.frozen (p:=⟨tb,j,none⟩) HTW.o hnb).trans (HZ6.o j));have k3:=HC8T.o 3 oM oM;have k4:=HC8T.o 4 oM oM;have k5:=HC8T.o 5 oM oM;have k6:=HC8T.o 6 oM oM;have z3:=HZ8.o 3;have z4:=HZ8.o 4;have z5:=HZ8.o 5;have z6:=HZ8.o 6;(refine ld 5 ?_);clear k3 k4 k5 k6 z3 z4 z5 z6;obtain⟨w9,hw9⟩:∃W,W=xQ tb 3 [.slice p0 p1 p2,.slice p3 p4 p5,.slice p6 p7 p8,.slice p9 p10 p11] w8:=⟨_,rfl⟩;have HS9:Hd ((w9.cell? ⟨tb,3,none⟩=some (.slice p0 p1 p2)/\w9.cell? ⟨tb,4,none⟩=some (.slice p3 p4 p5)/\w9.cell? ⟨tb,5,none⟩=some (.slice p6 p7 p8)/\w9.cell? ⟨tb,6,none⟩=some (.slice p9 p10 p11))/\(∀j,j<3\/7<=j->w9.cell? ⟨tb,j,none⟩=w8.cell? ⟨tb,j,none⟩)/\Chg (·=tb) w8 w9/\∀j,w9.frozen? ⟨tb,j,none⟩=false):=jh (by
   obtain⟨s1,-,s3,s4⟩:=uC tb [.slice p0 p1 p2,.slice p3 p4 p5,.slice p6 p7 p8,.slice p9 p10 p11] 3 w8 (λj hj=>by
    simp only[Ax2,Aw5]at hj;rw[HC8T.o (3+j) oM oM];rfl)
   rw[hw9];exact⟨⟨s1 0 _ rfl,s1 1 _ rfl,s1 2 _ rfl,s1 3 _ rfl⟩,λj hj=>zBa tb _ 3 w8 j (by simpa using hj),s3,λj=>(s4 _).trans (HZ8.o j)⟩)
  simp only[xQ]at hw9;rw[<-hw9];clear hw9;(refine lt 6 (λh=>absurd h dE) ?_);have k7:=(HS9.o.2.1 7 oM).trans (HC8T.o 7 oM oM);have k8:=(HS9.o.2.1 8 oM).trans (HC8T.o 8 oM oM);have k9:=(HS9.o.2.1 9 oM).trans (HC8T.o 9 oM oM);have k10:=(HS9.o.2.1 10 oM).trans (HC8T.o 10 oM oM);have k11:=(HS9.o.2.1 11 oM).trans (HC8T.o 11 oM oM);have z7:=HS9.o.2.2.2 7;have z8:=HS9.o.2.2.2 8;have z9:=HS9.o.2.2.2 9;have z10:=HS9.o.2.2.2 10;have z11:=HS9.o.2.2.2 11;(refine ld 7 ?_);refine yA kR ?_ _;clear k7 k8 k9 k10 k11 z7 z8 z9 z10 z11;obtain⟨wt,hwt⟩:∃W,W=xQ tb 7 [.slice u0 u1 u2,.slice u3 u4 u5,.slice u6 u7 u8,.slice u9 u10 u11,.slice u12 u13 u14] w9:=⟨_,rfl⟩;have HT:Hd ((wt.cell? ⟨tb,0,none⟩=some (.slice a3 n3 n3)/\wt.cell? ⟨tb,1,none⟩=some (.slice a5 n5 n5)/\wt.cell? ⟨tb,2,none⟩=some (.slice da dn dc)/\wt.cell? ⟨tb,3,none⟩=some (.slice p0 p1 p2)/\wt.cell? ⟨tb,4,none⟩=some (.slice p3 p4 p5)/\wt.cell? ⟨tb,5,none⟩=some (.slice p6 p7 p8)/\wt.cell? ⟨tb,6,none⟩=some (.slice p9 p10 p11)/\wt.cell? ⟨tb,7,none⟩=some (.slice u0 u1 u2)/\wt.cell? ⟨tb,8,none⟩=some (.slice u3 u4 u5)/\wt.cell? ⟨tb,9,none⟩=some (.slice u6 u7 u8)/\wt.cell? ⟨tb,10,none⟩=some (.slice u9 u10 u11)/\wt.cell? ⟨tb,11,none⟩=some (.slice u12 u13 u14)/\wt.cell? ⟨tb,12,none⟩=some (.slice none 0 0))/\Chg (·=tb) w8 wt/\∀j,wt.frozen? ⟨tb,j,none⟩=false):=jh (by
   have f9:=HS9.o;obtain⟨s1,-,s3,s4⟩:=uC tb [.slice u0 u1 u2,.slice u3 u4 u5,.slice u6 u7 u8,.slice u9 u10 u11,.slice u12 u13 u14] 7 w9 (λj hj=>by
    simp only[Ax2,Aw5]at hj;rw[f9.2.1 (7+j) oM,HC8T.o (7+j) oM oM];rfl)
   have so:=λj hj=>zBa tb [.slice u0 u1 u2,.slice u3 u4 u5,.slice u6 u7 u8,.slice u9 u10 u11,.slice u12 u13 u14] 7 w9 j hj
   simp only[Ax2,Aw5]at so;rw[hwt];have e8:∀j u,w6.cell? ⟨tb,j,none⟩=some u->w8.cell? ⟨tb,j,none⟩=some u:=λj u hu=>HC8.o.cellS hu hnb
   exact⟨⟨(so 0 oM).trans ((f9.2.1 0 oM).trans (e8 0 _ HC6.o.1)),(so 1 oM).trans ((f9.2.1 1 oM).trans (e8 1 _ HC6.o.2.1)),(so 2 oM).trans ((f9.2.1 2 oM).trans (e8 2 _ HC6.o.2.2.1)),(so 3 oM).trans f9.1.1,(so 4 oM).trans f9.1.2.1,(so 5 oM).trans f9.1.2.2.1,(so 6 oM).trans f9.1.2.2.2,s1 0 _ rfl,s1 1 _ rfl,s1 2 _ rfl,s1 3 _ rfl,s1 4 _ rfl,(so 12 oM).trans ((f9.2.1 12 oM).trans (HC8T.o 12 oM oM))⟩,f9.2.2.1.trans s3,λj=>(s4 _).trans (f9.2.2.2 j)⟩)
  simp only[xQ]at hwt;go_upto_region 6 with (fail)
  rw[<-hwt];clear hwt HS9;obtain⟨rfl,-⟩:=HN8.o.d.len;have HQT:Hd (QSt pg gb w.heap.size tb wt wt r8):=jh (by
   have hp:=HPG.o;have ht:=HTB.o;have h8w:tb<w8.heap.size:=Ay9 HTW.o HC8.o.size;exact⟨⟨HG8.o.chg HT.o.2.1 oM oM,HT.o.2.1.cellS (HC8.o.cellS HSB6.o.c HSB6.o.ne) (show ¬w.heap.size=tb by omega),HSB6.o.ne⟩,⟨oM,oM,oM,Ay9 h8w HT.o.2.1.size⟩,λj u _ hu=>hu,HT.o.2.2⟩)
  have HIT:Hd ((strE.InS wt (λk=>w.heap.size+2<=k/\k<wt.heap.size) (a3,n3,n3) rl/\strE.InS wt (λk=>w.heap.size+2<=k/\k<wt.heap.size) (a5,n5,n5) (L.map (·.1)))/\aA.Own wt (tb+1) (.slice da dn dc) (L.map (·.2))/\LexIn wt (λk=>w.heap.size+2<=k/\k<wt.heap.size) ⟨(p0,p1,p2),(p3,p4,p5),(p6,p7,p8),(p9,p10,p11)⟩ lx/\NetIn wt (λk=>w.heap.size+2<=k/\k<wt.heap.size) ⟨(u0,u1,u2),(u3,u4,u5),(u6,u7,u8),(u9,u10,u11),(u12,nt.d.length,u14)⟩ nt):=jh (by
   have hp:=HPG.o;have ht:=HTB.o;have hw6:=HW6.o;have h8:=HC8.o;have h9:=HT.o.2.1;refine⟨⟨((HR6.o.1.chg h8 (λg hg e=>oM)).chg h9 (λg hg e=>oM)).mono (λg hg hh=>⟨hh.1,hg⟩),((HR6.o.2.chg h8 (λg hg e=>oM)).chg h9 (λg hg e=>oM)).mono (λg hg hh=>⟨hh.1,hg⟩)⟩,(HD6.o.chg h8 (λg hg _ e=>oM)).chg h9 (λg hg _ e=>oM),LexIn.good.mono (LexIn.good.chg HL8.o h9 (λg hg e=>oM)) (λg hg hh=>⟨oM,hg⟩),NetIn.good.mono (NetIn.good.chg HN8.o h9 (λg hg e=>oM)) (λg hg hh=>⟨oM,hg⟩)⟩)
  have HCT:Hd (Chg (·=pg) w wt):=jh ((HC16.o.trans HC8.o).trans2 HT.o.2.1 (λg hg e=>by have:=HTB.o;omega));have HLT0:Hd (LSt zA7 mA (Cq pg tb) (Tq pg gb w.heap.size tb) (λw' (_:List (List LsD)) Z'=>QSt pg gb w.heap.size tb wt w' Z') wt wt (.slice none 0 0) [] r8 []):=jh (LSt.start (zSt pg gb w.heap.size tb wt) HQT.o HQT.o.g.g cR);have HCE:=jh HT.o.1;have HBD:Hd (zA6 (Z.drop 4)=match repG (jU n5) nt.d.length [] r8 with
   | none=>none
   | some (lk,b5)=>some (⟨rl,L.map (·.1),L.map (·.2),lx,nt,lk⟩,b5)):=jh (by
   rw[<-HN5.o];simp only[zA6,H3.o,H5.o,H7.o,H8.o];cases repG (jU L.length) nt.d.length [] r8 <;> rfl)
  clear HR6 HD6 HL8 HN8 HG8 HSB6 HC6 HZ6 HC8T HZ8 HSD HC7 HS78 HD HT HC8;have q11:=HCE.o.2.2.2.2.2.2.2.2.2.2.2.1;go_wp2;clear q11
  go_loopw [46] (λq wr=>∃(i:Nat) (v0:Value) (acc:List (List LsD)) (Zi:List Int) (X:List Sl),i<=nt.d.length/\q=.int .i64 i/\acc.length=i/\repG (jU n5) (nt.d.length-i) acc Zi=repG (jU n5) nt.d.length [] r8/\LSt zA7 mA (Cq pg tb) (Tq pg gb w.heap.size tb) (λw' (_:List (List LsD)) Z'=>QSt pg gb w.heap.size tb wt w' Z') wt wr v0 acc Zi X/\wr.cell? ⟨tb,12,none⟩=some v0) (λq _=>nt.d.length-(intOf q).toNat)
  case atStart=>exact⟨0,_,[],r8,[],oM,rfl,rfl,rfl,HLT0.o,HCE.o.2.2.2.2.2.2.2.2.2.2.2.2⟩
  case round =>
   clear HLT0;obtain⟨i,v,acc,Zi,X,hi,rfl,hal,hrep,hls,h12⟩:=hrel;obtain⟨va,vn,vc,rfl⟩:=hls.own.shape3;have HL:=jh hls;have HRP:=jh hrep;have HAL:=jh hal;have H12:=jh h12;clear hls hrep hal h12;by_cases hil:i<nt.d.length
   .have b9:decide ((i:Int)<(nt.d.length:Int))=true:=by simp;omega
    have hib:i<16777215:=(by have:=HNL.o;omega);obtain⟨k,hk⟩:∃k,nt.d.length-i=k+1:=⟨nt.d.length-i-1,oM⟩;have HKK:Hd (nt.d.length-i=k+1/\nt.d.length-(i+1)=k):=jh ⟨hk,oM⟩;clear hk;go_upto_region 8 with (fail)
    obtain⟨wd,hwd⟩:∃W,wr.drew=W:=⟨_,rfl⟩;have HDD:Hd (Cf wr wd):=jh (by rw[<-hwd];exact (Chg.refl _ _).drew);have HQD:Hd (QSt pg gb w.heap.size tb wt wd Zi):=jh (HL.o.st.chg HDD.o iD iD iD iD);have h12d:=HDD.o.cellS H12.o iD;have H12D:=jh h12d;have HCL:Hd (Chg (·=pg) w wd):=jh (HCT.o.trans2 (HL.o.chg.trans HDD.o.any) (λg hg e=>by rcases e with e|e;exact e;have:=HTB.o;omega));have hnb:¬tb=pg:=(by have:=HPG.o;have:=HTB.o;omega);refine zC (λx=>Chg (·=pg) wd x) (λi=>decide (8<=i)) kR ?_;show yN _ _ _ _ _ _ 11 (Array.replicate 11 false) _ wr.drew;rw[hwd];clear hwd h12d;have HSS:Hd (Chg (·=pg) wd wd):=jh cR;(refine lq 0 HSS.o ?_);(refine lq 1 HSS.o ?_ (hr:=by intro w' hC;have q:=hC.cellS H12D.o hnb;go_simp;try with_reducible rfl));(refine lq 2 HSS.o ?_ (hr:=by intro w' hC;have q:=hC.cellS HQD.o.g.c HQD.o.g.ne;go_simp;try with_reducible rfl));(refine lq 3 HSS.o ?_);(refine lq 4 HSS.o ?_ (hr:=by intro w' hC;have q:=hC.cellS (HQD.o.o 1 _ oM HCE.o.2.1) hnb;go_simp;try with_reducible rfl));(refine lq 5 HSS.o ?_);refine tJ (i:=6) kR rfl rfl 109 #[.pointer (some ⟨pg,0,none⟩),.int .i64 n5] (λv w''=>∃(A:List LsD) (r:List Int) (ya:Option Addr),jU n5 Zi=some (A,r)/\v=.agg #[.slice ya A.length A.length]/\mA w'' (λk=>wd.heap.size<=k) (ya,A.length,A.length) A/\GetSt pg gb w'' r/\Chg (·=pg) wd w'') (by go_simp) ?_ ?_
    .refine (zP8 hl5 wd Zi HQD.o.g.g).mono ?_
     rintro e w2 ⟨hc2,⟨h2,rfl⟩|⟨A,r,ya,h2,rfl,hA,hg2⟩⟩
     .refine .inr ⟨_,rfl,rfl,HCL.o.trans hc2,.inl ⟨?_,rfl⟩⟩
      rw[HTG.o,HBD.o,<-HRP.o,HKK.o.1];simp only[repG,h2]
     .exact .inl ⟨_,rfl,λ_=>hc2,A,r,ya,h2,rfl,hA,hg2,hc2⟩
    rintro v w2-⟨A,r,ya,h2,rfl,hA,hg2,hc2⟩ K hK;(try go_simp)
    refine hK _ ?_;clear hK K HSS;have HA2:=jh hA;have HG2:=jh hg2;have HC2:=jh hc2;have HREP:Hd (repG (jU n5) (nt.d.length-(i+1)) (acc++[A]) r=repG (jU n5) nt.d.length [] r8):=jh (by
     rw[HKK.o.2,<-HRP.o,HKK.o.1]
     conv=>rhs;unfold repG
     rw[h2])
    clear h2 hA hg2 hc2;have HCR2:Hd (Chg (·=pg) wr w2):=jh (HDD.o.any.trans HC2.o);(refine lt 7 (λ_=>HC2.o.alloc _) ?_);obtain⟨O3,hO3⟩:∃O,O=Obj.cells #[.slice ya A.length A.length] 63:=⟨_,rfl⟩;obtain⟨w3,hw3⟩:∃W,W=w2.alloc O3:=⟨_,rfl⟩;have HC3:Hd (Cf w2 w3):=jh (by rw[hw3];exact (Chg.refl _ _).alloc _);have HSRC:Hd (Src Tryz.prog zA7.sz zA7.sl (.slice (some ⟨w2.heap.size,0,none⟩) 1 1) 1 (zA7.encs [(ya,A.length,A.length)]) w3):=jh (by rw[hw3,hO3];exact zA7.srcLit (Y:=[(ya,A.length,A.length)]) 1 (λ_ _=>trivial));rw[<-hO3,<-hw3];have HOW:Hd (zA7.Own w3 wt.heap.size (.slice va vn vc) X):=jh ((HL.o.own.chgB HCR2.o (λg hg e=>HL.o.ob g hg (.inl e))).chg HC3.o (λ_ _ _ h=>h));have HB3:Hd (wt.heap.size<=w3.heap.size):=jh (Ay4 HL.o.chg.size (Ay4 HCR2.o.size HC3.o.size));have HXL:Hd (X.length<=16777215):=jh (by rw[HL.o.len,HAL.o];omega);have HW3:=jh hw3;clear hw3 hO3;refine xE (i:=8) kR rfl rfl (.tmp 49) (.tmp 55) 32 32 rfl (.slice va vn vc) (.slice (some ⟨w2.heap.size,0,none⟩) 1 1) rfl rfl (λv' w4=>zA7.Own w4 wt.heap.size v' (X++[(ya,A.length,A.length)])/\(Chg (λk=>(Value.slice va vn vc).ownBlock=some k) w3 w4/\(v'.ownBlock=(Value.slice va vn vc).ownBlock\/v'.ownBlock=some w3.heap.size))/\∃a n c,v'=.slice a n c) ?_ ?_
    .obtain⟨v',w4,hrun,h1,h2,⟨h3,h4⟩,-⟩:=HOW.o.append HB3.o 32 (.slice (some ⟨w2.heap.size,0,none⟩) 1 1) [(ya,A.length,A.length)] HSRC.o (λ_ _=>trivial) (by have:=HXL.o;simp;omega) 32
     exact⟨v',w4,hrun,(λh=>absurd h dE),h1,⟨h3,h4⟩,h1.shape3⟩
    rintro v' w4-⟨o1,o2,na,nn,nc,rfl⟩ K hK;have HL4:Hd (LSt zA7 mA (Cq pg tb) (Tq pg gb w.heap.size tb) (λw' (_:List (List LsD)) Z'=>QSt pg gb w.heap.size tb wt w' Z') wt w4 (.slice na nn nc) (acc++[A]) r (X++[(ya,A.length,A.length)])):=jh (by
     have hp:=HPG.o;have hq:=HL.o.st.lt;have hsz:=HL.o.chg.size;have hdz:=HDD.o.size;refine LSt.step (zJ.good lsR.good) (zSt pg gb w.heap.size tb wt) O3 HL.o (zJ.good lsR.good |>.mono HA2.o (λk _ hk=>⟨oM,λht=>by rcases ht with h|h|h|h <;> omega⟩)) (HQD.o.go HG2.o HC2.o) (HCR2.o.mono (λk _ e=>.inl e)) (λk h=>.inl h) (λk h=>.inl h) o1 (by rw[<-HW3.o];exact o2))
    have H124:Hd (w4.cell? ⟨tb,12,none⟩=some (.slice va vn vc)):=jh (o2.1.cellS (HC3.o.cellS (HC2.o.cellS H12D.o hnb) iD) (λe=>HL.o.ob _ e (.inr (.inr (.inr rfl)))));(try go_simp)
    refine hK _ ?_;clear hK K o1 o2;have k12:=H124.o;have z12:=HL4.o.st.z 12;(refine lt 9 (λh=>absurd h dE) ?_);(refine ld 10 ?_);refine yA kR ?_ _;have HL5:Hd (LSt zA7 mA (Cq pg tb) (Tq pg gb w.heap.size tb) (λw' (_:List (List LsD)) Z'=>QSt pg gb w.heap.size tb wt w' Z') wt (w4.setCell ⟨tb,12,none⟩ (.slice na nn nc)) (.slice na nn nc) (acc++[A]) r (X++[(ya,A.length,A.length)])):=jh (by
     exact LSt.store (S:=(·=tb)) (zJ.good lsR.good) HL4.o (zA _ _ _ _) (λk e=>.inr e) (HL4.o.st.set _) (λk h=>h) (λk h=>h) (λk h=>by rcases h with h|h;exact .inl h;exact .inr (.inr (.inr h))))
    have H125:Hd ((w4.setCell ⟨tb,12,none⟩ (.slice na nn nc)).cell? ⟨tb,12,none⟩=some (.slice na nn nc)):=jh (Az9 _ _ _ H124.o);clear k12 z12;go_wp2;go_roundw
    case rel=>exact⟨i+1,_,acc++[A],r,X++[(ya,A.length,A.length)],oM,by go_num,by simp[HAL.o],HREP.o,HL5.o,H125.o⟩
    case measure=>simp[intOf];omega
   .obtain rfl:i=nt.d.length:=oM
    have b9:decide ((nt.d.length:Int)<(nt.d.length:Int))=false:=sI;obtain⟨_,_,hv,hvc,hlk⟩:=HL.o.final (zJ.good lsR.good);injection hv with e1 e2 e3;subst e1 e2 e3;have HLK:=jh hlk;obtain⟨_,_,hv,hdc,hdo⟩:=HIT.o.2.1.clip;injection hv with e1 e2 e3;subst e1 e2 e3;obtain⟨dn,hdn⟩:∃n,(L.map (·.2)).length=n:=⟨_,rfl⟩;rw[hdn]at hdc hdo HCE HIT;have HDO:=jh hdo;obtain⟨t,htt⟩:∃t:TabsD,t=⟨rl,L.map (·.1),L.map (·.2),lx,nt,acc⟩:=⟨_,rfl⟩;obtain⟨m,hm⟩:∃m:TabsS,m=⟨(a3,n3,n3),(a5,n5,n5),(da,dn,dn),⟨(p0,p1,p2),(p3,p4,p5),(p6,p7,p8),(p9,p10,p11)⟩,⟨(u0,u1,u2),(u3,u4,u5),(u6,u7,u8),(u9,u10,u11),(u12,nt.d.length,u14)⟩,(va,acc.length,acc.length)⟩:=⟨_,rfl⟩;have HV:Hd (gY m=.agg #[.slice a3 n3 n3,.slice a5 n5 n5,.slice da dn dn,.slice p0 p1 p2,.slice p3 p4 p5,.slice p6 p7 p8,.slice p9 p10 p11,.slice u0 u1 u2,.slice u3 u4 u5,.slice u6 u7 u8,.slice u9 u10 u11,.slice u12 nt.d.length u14,.slice va acc.length acc.length]):=jh (by rw[hm];rfl);have HRB:Hd (zA6 (Z.drop 4)=some (t,Zi)):=jh (by
     rw[HBD.o,<-HRP.o,Au0,htt];rfl)
    have HFR:=jh (zNr HRB.o);have HTN:Hd (bU Z=if Zi=[]/\yJ t=true then some t else none):=jh (by rw[HTG.o,HRB.o]);clear hlk hdo hdn HTG HBD HRP H3 H5 H7 H8;go_upto_region 10 with (fail)
    have hnb:¬tb=pg:=(by have:=HPG.o;have:=HTB.o;omega);obtain⟨wd,hwd⟩:∃W,wr.drew=W:=⟨_,rfl⟩;have HDD:Hd (Cf wr wd):=jh (by rw[<-hwd];exact (Chg.refl _ _).drew);have HQD:Hd (QSt pg gb w.heap.size tb wt wd Zi):=jh (HL.o.st.chg HDD.o iD iD iD iD);have H2D:Hd (wd.cell? ⟨tb,2,none⟩=some (.slice da dn dc)):=jh (HQD.o.o 2 _ oM HCE.o.2.2.1);have H12D:Hd (wd.cell? ⟨tb,12,none⟩=some (.slice va acc.length vc)):=jh (HDD.o.cellS H12.o iD);refine zC (λx=>x=wd) (λi=>decide (7<=i)) kR ?_;show yN _ _ _ _ _ _ 10 (Array.replicate 10 false) _ wr.drew;rw[hwd];clear hwd;have HSS:Hd (wd=wd):=jh rfl;(refine lq 0 HSS.o ?_);(refine lq 1 HSS.o ?_ (hr:=by intro w' hC;subst hC;have q:=H2D.o;go_simp;try with_reducible rfl));(refine lq 3 HSS.o ?_);(refine lq 4 HSS.o ?_ (hr:=by intro w' hC;subst hC;have q:=H12D.o;go_simp;try with_reducible rfl));refine yE (i:=2) kR rfl rfl 110 #[.slice da dn dc] (λq w''=>q=.slice da dn dn/\wd=w'') (by go_simp) ?_ ?_
    .refine (zQt wd da dn dc hdc).mono ?_
     rintro e w2 ⟨rfl,rfl⟩;exact⟨_,rfl,λ_=>rfl,rfl,rfl⟩
    rintro q w''-⟨rfl,rfl⟩ K hK;(try go_simp)
    refine hK _ ?_;clear hK K;(refine lq 6 HSS.o ?_);refine yE (i:=5) kR rfl rfl 111 #[.slice va acc.length vc] (λq w''=>q=.slice va acc.length acc.length/\wd=w'') (by go_simp) ?_ ?_
    .refine (zQu wd va acc.length vc hvc).mono ?_
     rintro e w2 ⟨rfl,rfl⟩;exact⟨_,rfl,λ_=>rfl,rfl,rfl⟩
    rintro q w''-⟨rfl,rfl⟩ K hK;(try go_simp)
    refine hK _ ?_;clear hK K;have k2:=H2D.o;have k12:=H12D.o;have z2:=HQD.o.z 2;have z12:=HQD.o.z 12;(refine ld 7 ?_);(refine lt 8 (λh=>absurd h dE) ?_);(refine ld 9 ?_);refine yA kR ?_ _;clear k2 k12 z2 z12;obtain⟨we,hwe⟩:∃W,W=(wd.setCell ⟨tb,2,none⟩ (.slice da dn dn)).setCell ⟨tb,12,none⟩ (.slice va acc.length acc.length):=⟨_,rfl⟩;have HCDE:Hd (Chg (·=tb) wd we):=jh (by rw[hwe];exact (zA _ _ _ _).trans (zA _ _ _ _));have HZE:Hd (∀j,we.frozen? ⟨tb,j,none⟩=false):=jh (λj=>by rw[hwe];exact (Az4 _ _ _ _).trans ((Az4 _ _ _ _).trans (HQD.o.z j)));have HEE:Hd (∀w',Cf we w'->w'.cell? ⟨tb,0,none⟩=some (.slice a3 n3 n3)/\w'.cell? ⟨tb,1,none⟩=some (.slice a5 n5 n5)/\w'.cell? ⟨tb,2,none⟩=some (.slice da dn dn)/\w'.cell? ⟨tb,3,none⟩=some (.slice p0 p1 p2)/\w'.cell? ⟨tb,4,none⟩=some (.slice p3 p4 p5)/\w'.cell? ⟨tb,5,none⟩=some (.slice p6 p7 p8)/\w'.cell? ⟨tb,6,none⟩=some (.slice p9 p10 p11)/\w'.cell? ⟨tb,7,none⟩=some (.slice u0 u1 u2)/\w'.cell? ⟨tb,8,none⟩=some (.slice u3 u4 u5)/\w'.cell? ⟨tb,9,none⟩=some (.slice u6 u7 u8)/\w'.cell? ⟨tb,10,none⟩=some (.slice u9 u10 u11)/\w'.cell? ⟨tb,11,none⟩=some (.slice u12 nt.d.length u14)/\w'.cell? ⟨tb,12,none⟩=some (.slice va acc.length acc.length)):=jh (λw' hc=>by
     have hne:∀j u,j≠2->j<12->wt.cell? ⟨tb,j,none⟩=some u->w'.cell? ⟨tb,j,none⟩=some u:=λj u h1 h2 hu=>by
      refine hc.cellS ?_ iD;rw[hwe,Ay0 _ _ _ _ (by intro e;injection e with _ e;omega),Ay0 _ _ _ _ (by intro e;injection e with _ e;omega)];exact HQD.o.o j u h2 hu
     obtain⟨f0,f1,-,f3,f4,f5,f6,f7,f8,f9,f10,f11,-⟩:=HCE.o;refine⟨hne 0 _ oM oM f0,hne 1 _ oM oM f1,hc.cellS ?_ iD,hne 3 _ oM oM f3,hne 4 _ oM oM f4,hne 5 _ oM oM f5,hne 6 _ oM oM f6,hne 7 _ oM oM f7,hne 8 _ oM oM f8,hne 9 _ oM oM f9,hne 10 _ oM oM f10,hne 11 _ oM oM f11,hc.cellS ?_ iD⟩
     .rw[hwe,Ay0 _ _ _ _ (by intro e;injection e with _ e;omega)]
      exact Az9 _ _ _ H2D.o
     .rw[hwe]
      refine Az9 _ _ _ (u:=.slice va acc.length vc) ?_;rw[Ay0 _ _ _ _ (by intro e;injection e with _ e;omega)];exact H12D.o)
    have HTE:Hd (Chg (λk=>k=pg\/k=tb) wt we):=jh (((HL.o.chg.mono (λk _ e=>e)).trans HDD.o.any).trans (HCDE.o.mono (λk _ e=>.inr e)));have HINE:Hd (TabsIn we (λk=>w.heap.size<=k/\k≠tb) m t):=jh (by
     have hp:=HPG.o;have ht:=HTB.o;have hte:=HTE.o;have hzt:=HL.o.chg.size;obtain⟨⟨i1,i2⟩,i3,i4,i5⟩:=HIT.o;rw[hm,htt];refine⟨(i1.chg hte (λg hg e=>oM)).mono (λg _ hg=>⟨oM,oM⟩),(i2.chg hte (λg hg e=>oM)).mono (λg _ hg=>⟨oM,oM⟩),?_,LexIn.good.mono (LexIn.good.chg i4 hte (λg hg e=>oM)) (λg _ hg=>⟨oM,oM⟩),NetIn.good.mono (NetIn.good.chg i5 hte (λg hg e=>oM)) (λg _ hg=>⟨oM,oM⟩),?_⟩
     .exact (((HDO.o.chg hte (λg hg _ e=>oM)).in' (c':=dn) (Ay _)).inS).mono (λg _ hg=>⟨oM,oM⟩)
     .have g2:=(zJ.good mA.good).chg ((zJ.good mA.good).chg HLK.o HDD.o iF) HCDE.o (λg hg e=>hg.2 (.inr (.inr (.inr e))))
      exact (zJ.good mA.good).mono g2 (λg _ hg=>⟨Ay4 HCT.o.size hg.1,λe=>hg.2 (.inr (.inr (.inr e)))⟩))
    have HGE:Hd (GetSb pg gb w.heap.size we Zi):=jh (by
     have hp:=HPG.o;have ht:=HTB.o;exact HQD.o.g.chg HCDE.o oM oM oM)
    have HCWE:Hd (Chg (·=pg) w we):=jh (HCT.o.trans2 HTE.o (λg hg e=>by have:=HTB.o;omega));clear hm htt;go_upto_region 11 with (fail)
    rw[<-hwe];clear hwe HIT HCE HLK HDO HQD H2D H12D HTE HCDE HL H12 HCT HQT;obtain⟨yo,yc,hy1,-,-⟩:=HGE.o.g.c;have g0:=HGE.o.c;by_cases hz:Zi=[]
    .have b5:((Zi.length:Int) == 0)=true:=by rw[hz];rfl
     have b5':(Zi.length == 0)=true:=(by rw[hz];rfl);obtain⟨q0,q1,q2,q3,q4,q5,q6,q7,q8,q9,q10,q11,q12⟩:=HEE.o we cR;have HMAY:Hd (Calls Tryz.prog 12 #[.agg #[.slice a3 n3 n3,.slice a5 n5 n5,.slice da dn dn,.slice p0 p1 p2,.slice p3 p4 p5,.slice p6 p7 p8,.slice p9 p10 p11,.slice u0 u1 u2,.slice u3 u4 u5,.slice u6 u7 u8,.slice u9 u10 u11,.slice u12 nt.d.length u14,.slice va acc.length acc.length]] we λe w'=>e=.returned (.bool (yJ t))/\Cf we w'):=jh (by rw[<-HV.o];exact zAr t m _ we HINE.o HFR.o);go_wp2_with fail
     refine HMAY.o.mono ?_;rintro e w6 ⟨rfl,hc6⟩;have HC6:=jh hc6;clear hc6 HMAY q0 q1 q2 q3 q4 q5 q6 q7 q8 q9 q10 q11 q12;cases hmt:yJ t with
     | false =>
      have HF:Hd (bU Z=none):=jh (by rw[HTN.o,hmt];simp);clear hmt;go_wp2_with fail
      refine (nU _).mono ?_;rintro e w7 ⟨rfl,rfl⟩;exact⟨rfl,HCWE.o.trans HC6.o.any,.inl ⟨HF.o,rfl⟩⟩
     | true =>
      have HF:Hd (bU Z=some t):=jh (by rw[HTN.o,hmt,if_pos ⟨hz,rfl⟩]);clear hmt;go_wp2_with fail
      refine (cC _).mono ?_;rintro e w7 ⟨rfl,rfl⟩;obtain⟨q0,q1,q2,q3,q4,q5,q6,q7,q8,q9,q10,q11,q12⟩:=HEE.o w7 HC6.o;have htl:tb<we.heap.size:=Az6 _ _ (HEE.o we cR).1;have hz6:∀j,w7.frozen? ⟨tb,j,none⟩=false:=λj=>(HC6.o.frozen (p:=⟨tb,j,none⟩) htl iD).trans (HZE.o j)
      have z0:=hz6 0;have z1:=hz6 1;have z2:=hz6 2;have z3:=hz6 3;have z4:=hz6 4;have z5:=hz6 5;have z6:=hz6 6;have z7:=hz6 7;have z8:=hz6 8;have z9:=hz6 9;have z10:=hz6 10;have z11:=hz6 11;have z12:=hz6 12;obtain⟨y1,-,y3,-⟩:=uC tb [.slice a3 n3 n3,.slice a5 n5 n5,.slice da dn dn,.slice p0 p1 p2,.slice p3 p4 p5,.slice p6 p7 p8,.slice p9 p10 p11,.slice u0 u1 u2,.slice u3 u4 u5,.slice u6 u7 u8,.slice u9 u10 u11,.slice u12 nt.d.length u14,.slice va acc.length acc.length] 0 w7 (λj hj=>by
       simp only[Ax2,Aw5]at hj;rcases (by omega:j=0\/j=1\/j=2\/j=3\/j=4\/j=5\/j=6\/j=7\/j=8\/j=9\/j=10\/j=11\/j=12) with rfl|rfl|rfl|rfl|rfl|rfl|rfl|rfl|rfl|rfl|rfl|rfl|rfl
       .rw[q0];rfl
       .rw[q1];rfl
       .rw[q2];rfl
       .rw[q3];rfl
       .rw[q4];rfl
       .rw[q5];rfl
       .rw[q6];rfl
       .rw[q7];rfl
       .rw[q8];rfl
       .rw[q9];rfl
       .rw[q10];rfl
       .rw[q11];rfl
       .rw[q12];rfl)
      have s0:=y1 0 _ rfl;have s1:=y1 1 _ rfl;have s2:=y1 2 _ rfl;have s3:=y1 3 _ rfl;have s4:=y1 4 _ rfl;have s5:=y1 5 _ rfl;have s6:=y1 6 _ rfl;have s7:=y1 7 _ rfl;have s8:=y1 8 _ rfl;have s9:=y1 9 _ rfl;have s10:=y1 10 _ rfl;have s11:=y1 11 _ rfl;have s12:=y1 12 _ rfl;have HFIN:Hd (zBg pg w Z (.returned (gY m)) (xQ tb 0 [.slice a3 n3 n3,.slice a5 n5 n5,.slice da dn dn,.slice p0 p1 p2,.slice p3 p4 p5,.slice p6 p7 p8,.slice p9 p10 p11,.slice u0 u1 u2,.slice u3 u4 u5,.slice u6 u7 u8,.slice u9 u10 u11,.slice u12 nt.d.length u14,.slice va acc.length acc.length] w7)):=jh (by
       refine⟨(HCWE.o.trans HC6.o.any).trans2 y3 (λg hg e=>by have:=HTB.o;omega),.inr ⟨_,_,HF.o,rfl,?_⟩⟩;exact TabsIn.good.mono (TabsIn.good.chg (TabsIn.good.chg HINE.o HC6.o iF) y3 (λg hg e=>hg.2 e)) (λg _ hg=>hg.1))
      rw[HV.o]at HFIN;simp only[xQ,Ax0]at s0 s1 s2 s3 s4 s5 s6 s7 s8 s9 s10 s11 s12 HFIN;clear y1 y3 hz6;go_wp2;exact bodyPost_ret (v:=.agg #[.slice a3 n3 n3,.slice a5 n5 n5,.slice da dn dn,.slice p0 p1 p2,.slice p3 p4 p5,.slice p6 p7 p8,.slice p9 p10 p11,.slice u0 u1 u2,.slice u3 u4 u5,.slice u6 u7 u8,.slice u9 u10 u11,.slice u12 nt.d.length u14,.slice va acc.length acc.length]) (by simp[results,Tryz.results55,go_sem,s0,s1,s2,s3,s4,s5,s6,s7,s8,s9,s10,s11,s12]) rfl HFIN.o
    .have HF:Hd (bU Z=none):=jh (by rw[HTN.o,if_neg (λh=>hz h.1)])
     have b5:((Zi.length:Int) == 0)=false:=(by simpa using hz);have b5':(Zi.length == 0)=false:=(by simpa using hz);go_wp2_with fail
     refine (nU _).mono ?_;rintro e w7 ⟨rfl,rfl⟩;exact⟨rfl,HCWE.o,.inl ⟨HF.o,rfl⟩⟩
 .have HF:Hd (bU Z=none):=jh (by unfold bU;rw[if_neg hhd])
  have hne:=zR2 (λa ha=>HG.o.byte a (At1 ha)) hhd;obtain⟨S4,hS4⟩:∃s,strOfNums (Z.take 4)=s:=⟨_,rfl⟩;rw[hS4]at hcv hne;clear hS4 hhd;go_wp2_with fail
  refine (nU _).mono ?_;rintro e w3 ⟨rfl,rfl⟩;exact⟨rfl,HC0.o.any,.inl ⟨HF.o,rfl⟩⟩
def getB:Option TabsD->Int×Option TabsD
 | none=>(4,none)
 | some t=>(0,some t)
def getR (Z:List Int):Int×Option TabsD :=
 if Z.length<4 then (4,none) else if Z.drop (Z.length-4)=kY (ofI (Z.take (Z.length-4))) then getB (bU (Z.take (Z.length-4))) else (5,none)
def nilT:TabsS:=⟨(none,0,0),(none,0,0),(none,0,0),⟨(none,0,0),(none,0,0),(none,0,0),(none,0,0)⟩,⟨(none,0,0),(none,0,0),(none,0,0),(none,0,0),(none,0,0)⟩,(none,0,0)⟩
def zSn (w:World) (Z:List Int) (e:Ending) (w':World):Prop :=
 Cf w w'/\∃m,e=.returned (.tuple #[gY m,.int .i64 (getR Z).1])/\(((getR Z).2=none/\m=nilT)\/∃t,(getR Z).2=some t/\TabsIn w' (λk=>w.heap.size<=k) m t)
structure ResAt (tb eb:Nat) (w:World) (vs:List Value) (e:Int):Prop where
 c:∀j v,vs[j]?=some v->w.cell? ⟨tb,j,none⟩=some v
 e:w.cell? ⟨eb,0,none⟩=some (.int .i64 e)
 z:∀j,w.frozen? ⟨tb,j,none⟩=false
 z1:w.frozen? ⟨eb,0,none⟩=false
theorem ResAt.chg {S:Nat->Prop}{tb eb:Nat}{w w':World}{vs:List Value}{e:Int}(h:ResAt tb eb w vs e) (hc:Chg S w w') (h0:tb<w.heap.size) (hs:∀k,S k->k≠tb/\k≠eb):ResAt tb eb w' vs e:=by
 have n0:¬S tb:=λe=>(hs _ e).1 rfl
 have n1:¬S eb:=λe=>(hs _ e).2 rfl
 exact⟨λj v hv=>hc.cellS (h.c j v hv) n0,hc.cellS h.e n1,λj=>(hc.frozen (p:=⟨tb,j,none⟩) h0 n0).trans (h.z j),(hc.frozen (p:=⟨eb,0,none⟩) (Az6 _ _ h.e) n1).trans h.z1⟩
theorem ResAt.set {tb eb:Nat}{w:World}{vs:List Value}{e:Int}(h:ResAt tb eb w vs e) (hte:tb≠eb) (us:List Value) (hl:us.length=vs.length) (e':Int):ResAt tb eb ((xQ tb 0 us w).setCell ⟨eb,0,none⟩ (.int .i64 e')) us e'/\Chg (λk=>k=tb\/k=eb) w ((xQ tb 0 us w).setCell ⟨eb,0,none⟩ (.int .i64 e')):=by
 obtain⟨s1,-,s3,s4⟩:=uC tb us 0 w (λj hj=>by
  rw[Ax0,h.c j _ (Az oM)];rfl)
 have hne:∀j,(⟨eb,0,none⟩:Addr)≠⟨tb,j,none⟩:=λj e=>by injection e with e _;exact hte e.symm
 have c1:=s3.cellS h.e (by show ¬eb=tb;exact λe=>hte e.symm);refine⟨⟨λj v hv=>?_,Az9 _ _ _ c1,λj=>(Az4 _ _ _ _).trans ((s4 _).trans (h.z j)),(Az4 _ _ _ _).trans ((s4 _).trans h.z1)⟩,(s3.mono (λk _ e=>.inl e)).trans ((zA _ _ _ _).mono (λk _ e=>.inr e))⟩;rw[Ay0 _ _ _ _ (hne j)];have:=s1 j v hv;rwa [Ax0]at this
theorem Fresh.st {w0 w:World}{v:Value}{X:List Int}{pg:Option Nat}(h:Fresh w0 w v X pg) (hx:X≠[]):∃g,pg=some g/\v=.slice (some ⟨g,0,none⟩) X.length X.length/\w0.heap.size<=g/\Row w g X:=by
 obtain⟨h1,h2,h3⟩:=h;cases pg with
 | none=>exact absurd (h3 rfl) hx
 | some g=>exact⟨g,rfl,h1,(h2 g rfl).1,(h2 g rfl).2⟩
theorem zR4 (Z:List Int) (a:Option Addr) (g o c:Nat) (w:World) (hz:BytesAt w g o Z) (ha:0<Z.length->a=some ⟨g,o,none⟩) (hc:Z.length<=c) (hl:Z.length<=10000000) :
  Calls Tryz.prog 18 #[.slice a Z.length c] w (zSn w Z):=by
 have hmf:=mkfn;have HZ:=jh hz;have hzs:=zH7;obtain⟨w0,hw0⟩:∃W,W=((w.alloc (.cells #[.slice none 0 0,.slice none 0 0,.slice none 0 0,.slice none 0 0,.slice none 0 0,.slice none 0 0,.slice none 0 0,.slice none 0 0,.slice none 0 0,.slice none 0 0,.slice none 0 0,.slice none 0 0,.slice none 0 0] 34)).alloc (.cells #[.int .i64 0] 46)):=⟨_,rfl⟩;obtain⟨w1,hw1⟩:∃W,W=w0.alloc (.cells zB5 104):=⟨_,rfl⟩;have hC0:Cf w w0:=by rw[hw0];exact ((Chg.refl _ w).alloc _).alloc _
 have hC1:Cf w0 w1:=by rw[hw1];exact (Chg.refl _ _).alloc _
 have hS0:w0.heap.size=w.heap.size+2:=by rw[hw0];simp
 have hS1:w1.heap.size=w.heap.size+3:=by rw[hw1];simp[hS0]
 have HS:Hd (nQ w1 (w.heap.size+2)):=jh (by rw[hw1,<-hS0];exact⟨0,_,SumsAt.made w0 _,.inl rfl⟩);have HR0:ResAt w.heap.size (w.heap.size+1) w0 aC 0:=by
  refine⟨λj v hv=>?_,by rw[hw0];exact zE _ sI rfl,λj=>?_,?_⟩
  .rw[hw0,aC]at *
   exact yG _ (zE _ rfl (by rw[<-Ax9];exact hv))
  .rw[hw0]
   exact (((Chg.refl (λ_=>False) _).alloc _).frozen (p:=⟨w.heap.size,j,none⟩) sI iD).trans (Az8 _ _ _ _)
  .rw[hw0]
   have e:w.heap.size+1=(w.alloc (.cells #[.slice none 0 0,.slice none 0 0,.slice none 0 0,.slice none 0 0,.slice none 0 0,.slice none 0 0,.slice none 0 0,.slice none 0 0,.slice none 0 0,.slice none 0 0,.slice none 0 0,.slice none 0 0,.slice none 0 0] 34)).heap.size:=sI;rw[e];exact Az8 _ _ _ _
 have HR1:=jh (HR0.chg hC1 oM (λ_ h=>h.elim));go_enter_defers Tryz.func18,Tryz.ntmps18
 go_upto_region 3 with (fail)
 rw[<-hw0,<-hw1];obtain⟨tb,htb⟩:∃b,b=w.heap.size:=⟨_,rfl⟩;have hsz:w.heap.size=tb:=htb.symm;rw[hsz]at HR1 HS hS0 hS1 ⊢;obtain⟨sb,hsb⟩:∃b,b=tb+1+1:=⟨_,rfl⟩;rw[<-hsb];obtain⟨eb,heb⟩:∃b,b=tb+1:=⟨_,rfl⟩;rw[<-heb];rw[show tb+2=sb by omega]at HS;rw[<-heb]at HR1;have HB:Hd (sb=tb+2/\eb=tb+1/\w1.heap.size=tb+3/\w.heap.size=tb):=jh ⟨oM,heb,hS1,hsz⟩;have HC1:=jh (hC0.trans hC1);have HOPEN:Hd (Calls Tryz.prog 54 #[.pointer (some ⟨sb,0,none⟩),.slice a Z.length c] w1 λe w'=>Chg (·=sb) w1 w'/\((∃code,(code=4\/code=5)/\e=.returned (.tuple #[.slice none 0 0,.int .i64 code])/\getR Z=(code,none)) \/
  (4<=Z.length/\∃v pg,e=.returned (.tuple #[v,.int .i64 0])/\Fresh w1 w' v (Z.take (Z.length-4)) pg/\getR Z=getB (bU (Z.take (Z.length-4)))))):=jh (by
  by_cases h4:Z.length<4
  .refine (zKm _ Z a c w1 h4).mono ?_
   rintro e w' ⟨rfl,rfl⟩;exact⟨Chg.refl _ _,.inl ⟨4,.inl rfl,rfl,by unfold getR;rw[if_pos h4]⟩⟩
  .obtain rfl:=ha oM
   refine (zMq sb Z (Z.length-4) g o c w1 HS.o (HZ.o.chg HC1.o iE) (by have:=hz.lt (by intro e;rw[e]at h4;simp at h4);have:=HB.o;omega) oM oM hc).mono ?_;rintro e w' ⟨-,hcg,⟨h5,v,pg,rfl,hf⟩|⟨h5,rfl⟩⟩
   .exact⟨hcg,.inr ⟨oM,v,pg,rfl,hf,by unfold getR;rw[if_neg h4,if_pos h5]⟩⟩
   .exact⟨hcg,.inl ⟨5,.inr rfl,rfl,by unfold getR;rw[if_neg h4,if_neg h5]⟩⟩)
 clear hz ha hc hw0 hw1 hC0 hC1 hS0 hS1 HR0 htb hsz hsb heb hzs;go_wp2_with fail
 refine HOPEN.o.mono ?_;rintro e w2 ⟨hc2,⟨code,hcode,rfl,hg⟩|⟨h4,v,pg,rfl,hf,hg⟩⟩
 .have HG:=jh hg
  have HC2:=jh hc2;have HR2:=jh (HR1.o.chg hc2 (by have:=HB.o;omega) (λk hk=>by have:=HB.o;omega));have bcode:(code != 0)=true:=by rcases hcode with rfl|rfl <;> rfl
  clear hc2 hg HOPEN hcode;obtain⟨w3,hw3⟩:∃X,X=w2.setCell ⟨eb,0,none⟩ (.int .i64 code):=⟨_,rfl⟩;have HNE:Hd (tb≠eb):=jh (by have:=HB.o;omega);have hR3:ResAt tb eb w3 aC code:=by
   have hc3:=zA w2 eb 0 (.int .i64 code);have hn:=HNE.o;rw[hw3];refine⟨λj v hv=>?_,Az9 _ _ _ HR2.o.e,λj=>(Az4 _ _ _ _).trans (HR2.o.z j),(Az4 _ _ _ _).trans HR2.o.z1⟩;exact hc3.cellS (HR2.o.c j v hv) hn
  have HR3:=jh hR3;have HC3:Hd (Chg (λk=>tb<=k) w1 w3):=jh ((HC2.o.mono (λk _ e=>by have:=HB.o;omega)).trans (by rw[hw3];exact (zA w2 eb 0 _).mono (λk _ e=>by have:=HB.o;omega)));have re2:=HR2.o.e;have rz2:=HR2.o.z1;have hW3:=jh hw3;clear hw3 hR3;go_upto_region 4 with (fail)
  rw[<-hW3.out];clear re2 rz2;have k0:=HR3.o.e;go_upto_region 5 with (fail)
  clear k0;have hne:=HNE.o;have hne2:¬eb=tb:=λh=>hne h.symm
  have hne3:¬tb=eb:=hne;obtain⟨rc,re,rz,rz1⟩:=HR3.o;have k0:=rc 0 _ rfl;have z0:=rz 0;have k1:=rc 1 _ rfl;have z1:=rz 1;have k2:=rc 2 _ rfl;have z2:=rz 2;have k3:=rc 3 _ rfl;have z3:=rz 3;have k4:=rc 4 _ rfl;have z4:=rz 4;have k5:=rc 5 _ rfl;have z5:=rz 5;have k6:=rc 6 _ rfl;have z6:=rz 6;have k7:=rc 7 _ rfl;have z7:=rz 7;have k8:=rc 8 _ rfl;have z8:=rz 8;have k9:=rc 9 _ rfl;have z9:=rz 9;have k10:=rc 10 _ rfl;have z10:=rz 10;have k11:=rc 11 _ rfl;have z11:=rz 11;have k12:=rc 12 _ rfl;have z12:=rz 12;clear rc rz;go_region
  obtain⟨w4,hw4⟩:∃X,X=((xQ tb 0 aC w3).setCell ⟨eb,0,none⟩ (.int .i64 code)).drew:=⟨_,rfl⟩;have hR4:=HR3.o.set HNE.o aC rfl code;have hC4:=(Chg.refl (λ_=>False) ((xQ tb 0 aC w3).setCell ⟨eb,0,none⟩ (.int .i64 code))).drew;rw[<-hw4]at hC4;have HC4:Hd (Cf w w4):=jh (HC1.o.trans2 (HC3.o.trans ((hR4.2.mono (T:=λk=>tb<=k) (λk _ e=>by have:=HB.o;omega)).trans hC4.any)) (λk hk e=>by have:=HB.o;omega));have hR5:=hR4.1.chg hC4 (Az6 _ _ (hR4.1.c 0 _ rfl)) (λ_ h=>h.elim);have HR5:=jh (hR5.chg ((Chg.refl (λ_=>False) w4).alloc (.cells #[] 129)) (Az6 _ _ (hR5.c 0 _ rfl)) (λ_ h=>h.elim));simp only[xQ,aC,Ax0,Nat.reduceAdd]at hw4;rw[<-hw4];clear hw4 hR4 hC4 hR5;clear k0 z0 k1 z1 k2 z2 k3 z3 k4 z4 k5 z5 k6 z6 k7 z7 k8 z8 k9 z9 k10 z10 k11 z11 k12 z12 re rz1;go_wp2;refine leaves_cons (f:=53) (args:=#[.pointer (some ⟨tb,0,none⟩),.pointer (some ⟨eb,0,none⟩)]) sI (by simp[go_sem]) ?_;refine (zEp tb eb w4).mono ?_;rintro e u' w5 ⟨rfl,rfl,rfl⟩;obtain⟨rc,re,-,-⟩:=HR5.o;have s0:=rc 0 _ rfl;have s1:=rc 1 _ rfl;have s2:=rc 2 _ rfl;have s3:=rc 3 _ rfl;have s4:=rc 4 _ rfl;have s5:=rc 5 _ rfl;have s6:=rc 6 _ rfl;have s7:=rc 7 _ rfl;have s8:=rc 8 _ rfl;have s9:=rc 9 _ rfl;have s10:=rc 10 _ rfl;have s11:=rc 11 _ rfl;have s12:=rc 12 _ rfl;simp only[Leaves,settle,results,Tryz.results18];refine⟨_,by simp[go_sem,s0,s1,s2,s3,s4,s5,s6,s7,s8,s9,s10,s11,s12,re];rfl,HC4.o.alloc _,nilT,?_,.inl ⟨by rw[HG.o],rfl⟩⟩;rw[HG.o]
  rfl
 .obtain⟨X,hX⟩:∃X,Z.take (Z.length-4)=X:=⟨_,rfl⟩
  rw[hX]at hf hg;have HX:Hd (X.length<=10000000/\∀a∈X,Byte a):=jh ⟨by rw[<-hX,Ax1];omega,λa ha=>HZ.o.byte a (by rw[<-hX]at ha;exact At1 ha)⟩;have HG:=jh hg;have HF:=jh hf;have HNE:Hd (tb≠eb):=jh (by have:=HB.o;omega);obtain⟨w3,hw3⟩:∃X,X=w2.setCell ⟨eb,0,none⟩ (.int .i64 0):=⟨_,rfl⟩;have HR2:=jh (HR1.o.chg hc2 (by have:=HB.o;omega) (λk hk=>by have:=HB.o;omega));have hR3:ResAt tb eb w3 aC 0:=by
   have hc3:=zA w2 eb 0 (.int .i64 0);have hn:=HNE.o;rw[hw3];refine⟨λj v hv=>?_,Az9 _ _ _ HR2.o.e,λj=>(Az4 _ _ _ _).trans (HR2.o.z j),(Az4 _ _ _ _).trans HR2.o.z1⟩;exact hc3.cellS (HR2.o.c j v hv) hn
  have h23:Chg (·=eb) w2 w3:=by rw[hw3];exact zA w2 eb 0 _
  have HC3:Hd (Chg (λk=>tb<=k) w1 w3):=jh ((hc2.mono (λk _ e=>by have:=HB.o;omega)).trans (h23.mono (λk _ e=>by have:=HB.o;omega)));have HSZ3:Hd (tb+3<=w3.heap.size):=jh (by have:=HC3.o.size;have:=HB.o;omega);obtain⟨va,vl,vc,hv⟩:∃va vl vc,v=.slice va vl vc:=⟨_,_,_,hf.val⟩;subst hv;obtain⟨pgx,hpgx⟩:∃b,b=w3.heap.size:=⟨_,rfl⟩;have HPG:Hd (pgx=w3.heap.size/\tb+3<=pgx):=jh ⟨hpgx,by rw[hpgx];exact HSZ3.o⟩;obtain⟨w4,hw4⟩:∃X,X=w3.alloc (.cells #[.slice va vl vc] 133):=⟨_,rfl⟩;have h34:Cf w3 w4:=by rw[hw4];exact (Chg.refl _ _).alloc _
  have c4:w4.cell? ⟨pgx,0,none⟩=some (.slice va vl vc):=by rw[hw4,hpgx];exact vW _ _ rfl
  have z4:w4.frozen? ⟨pgx,0,none⟩=false:=by rw[hw4,hpgx];exact Az8 _ _ _ _
  have HSZ4:Hd (w4.heap.size=pgx+1):=jh (by rw[hw4,hpgx];simp);have HR4:=jh (hR3.chg h34 (by have:=HSZ3.o;omega) (λ_ h=>h.elim));have HT:Hd (Calls Tryz.prog 55 #[.pointer (some ⟨pgx,0,none⟩)] w4 (zBg pgx w4 X)):=jh (by
   by_cases h4x:X.length<4
   .have hl:vl=X.length:=by have:=hf.val;injection this
    refine (zF5 w4 c4 oM).mono ?_;rintro e w' ⟨rfl,hc⟩;refine⟨hc.any,.inl ⟨?_,rfl⟩⟩;unfold bU;rw[if_neg (λe=>by have:=congrArg List.length e;rw[Ax1]at this;simp only[qA,Ax2,Aw5]at this;omega)]
   .obtain⟨gx,-,hv,hge,hrow⟩:=hf.st (by intro e;rw[e]at h4x;simp at h4x)
    have h24:=h23.trans (h34.any);have hgs:gx<w2.heap.size:=hrow.lt;have hw1s:=HB.o;have hrow4:Row w4 gx X:=hrow.chg h24 (by show ¬gx=eb;omega);refine zJ6 w4 X ⟨⟨0,X.length,by rw[c4,hv],Ay _,hrow4.bytes (Aw6 _)⟩,z4,Az6 _ _ c4,hrow4.lt,?_,HX.o.1,HX.o.2⟩ oM;have:=h23.size;omega)
  have HW3:=jh hw3;have HW4:=jh hw4;have re2:=HR2.o.e;have rz2:=HR2.o.z1;clear hw3 hw4 hR3 h23 h34 c4 z4 hX hf hg hc2 hpgx;go_upto_region 4 with (fail)
  rw[<-HW3.o];clear re2 rz2;have re3:=(show w3.cell? ⟨eb,0,none⟩=some (.int .i64 0) by rw[HW3.o];exact Az9 _ _ _ HR2.o.e);go_upto_region 7 with (fail)
  rw[<-HW4.o,<-HPG.o.1];clear re3;go_wp2_with fail
  refine HT.o.mono ?_;rintro e w6 ⟨hc6,⟨hn,rfl⟩|⟨t,m,ht,rfl,hin⟩⟩
  .have HR6:=jh (HR4.o.chg hc6 (by have:=HPG.o;have:=HSZ4.o;omega) (λk hk=>by have:=HPG.o;have:=HB.o;omega))
   have HC6:Hd (Cf w w6):=jh (HC1.o.trans2 ((HC3.o.trans (by rw[HW4.o];exact (Chg.refl _ _).alloc _)).trans (hc6.mono (T:=λk=>tb<=k) (λk _ e=>by have:=HPG.o;omega))) (λk hk e=>by have:=HB.o;omega));have HGN:Hd (getR Z=(4,none)):=jh (by rw[HG.o,hn];rfl);clear hc6 hn;refine leaves_cons (f:=53) (args:=#[.pointer (some ⟨tb,0,none⟩),.pointer (some ⟨eb,0,none⟩)]) sI (by simp[go_sem]) ?_;refine (zFw tb eb w6 (λ_=>.slice none 0 0) 0 HNE.o (λj hj=>HR6.o.c j _ ?_) HR6.o.z HR6.o.e HR6.o.z1).mono ?_
   .rcases (by omega:j=0\/j=1\/j=2\/j=3\/j=4\/j=5\/j=6\/j=7\/j=8\/j=9\/j=10\/j=11\/j=12) with rfl|rfl|rfl|rfl|rfl|rfl|rfl|rfl|rfl|rfl|rfl|rfl|rfl <;> rfl
   rintro e u' w7 ⟨rfl,rfl,hw7⟩;have hR6a:=HR6.o.chg ((Chg.refl (λ_=>False) w6).alloc (.cells #[] 129)) (Az6 _ _ (HR6.o.c 0 _ rfl)) (λ_ h=>h.elim);have hR7:=hR6a.set HNE.o aC rfl 4;rw[<-hw7]at hR7;have HC7:Hd (Cf w w7):=jh ((HC6.o.alloc _).trans2 hR7.2 (λk hk e=>by have:=HB.o;omega));obtain⟨hR7,-⟩:=hR7;obtain⟨rc,re,-,-⟩:=hR7;have s0:=rc 0 _ rfl;have s1:=rc 1 _ rfl;have s2:=rc 2 _ rfl;have s3:=rc 3 _ rfl;have s4:=rc 4 _ rfl;have s5:=rc 5 _ rfl;have s6:=rc 6 _ rfl;have s7:=rc 7 _ rfl;have s8:=rc 8 _ rfl;have s9:=rc 9 _ rfl;have s10:=rc 10 _ rfl;have s11:=rc 11 _ rfl;have s12:=rc 12 _ rfl;show Leaves Tryz.prog _ _ _ [] FrameMode.returning _;simp only[Leaves,results,Tryz.results18];refine⟨_,by simp[go_sem,s0,s1,s2,s3,s4,s5,s6,s7,s8,s9,s10,s11,s12,re];rfl,HC7.o,nilT,?_,.inl ⟨by rw[HGN.o],rfl⟩⟩;rw[HGN.o]
   rfl
  .have HR6:=jh (HR4.o.chg hc6 (by have:=HPG.o;have:=HSZ4.o;omega) (λk hk=>by have:=HPG.o;have:=HB.o;omega))
   have HC6:Hd (Cf w w6):=jh (HC1.o.trans2 ((HC3.o.trans (by rw[HW4.o];exact (Chg.refl _ _).alloc _)).trans (hc6.mono (T:=λk=>tb<=k) (λk _ e=>by have:=HPG.o;omega))) (λk hk e=>by have:=HB.o;omega));have HGN:Hd (getR Z=(0,some t)):=jh (by rw[HG.o,ht];rfl);have HIN:=jh hin;obtain⟨⟨p0,p1,p2⟩,⟨p3,p4,p5⟩,⟨p6,p7,p8⟩,⟨⟨p9,p10,p11⟩,⟨p12,p13,p14⟩,⟨p15,p16,p17⟩,⟨p18,p19,p20⟩⟩,⟨⟨p21,p22,p23⟩,⟨p24,p25,p26⟩,⟨p27,p28,p29⟩,⟨p30,p31,p32⟩,⟨p33,p34,p35⟩⟩,⟨p36,p37,p38⟩⟩:=m;obtain⟨w7,hw7⟩:∃X,X=(xQ tb 0 [.slice p0 p1 p2,.slice p3 p4 p5,.slice p6 p7 p8,.slice p9 p10 p11,.slice p12 p13 p14,.slice p15 p16 p17,.slice p18 p19 p20,.slice p21 p22 p23,.slice p24 p25 p26,.slice p27 p28 p29,.slice p30 p31 p32,.slice p33 p34 p35,.slice p36 p37 p38] w6).setCell ⟨eb,0,none⟩ (.int .i64 0):=⟨_,rfl⟩;have hR7:=HR6.o.set HNE.o [.slice p0 p1 p2,.slice p3 p4 p5,.slice p6 p7 p8,.slice p9 p10 p11,.slice p12 p13 p14,.slice p15 p16 p17,.slice p18 p19 p20,.slice p21 p22 p23,.slice p24 p25 p26,.slice p27 p28 p29,.slice p30 p31 p32,.slice p33 p34 p35,.slice p36 p37 p38] rfl 0;rw[<-hw7]at hR7;have HC7:Hd (Chg (λk=>k=tb\/k=eb) w6 w7):=jh hR7.2;have HR8:=jh (hR7.1.chg ((Chg.refl (λ_=>False) w7).alloc (.cells #[] 129)) (Az6 _ _ (hR7.1.c 0 _ rfl)) (λ_ h=>h.elim));simp only[xQ,Ax0,Nat.reduceAdd]at hw7;have HW7:=jh hw7;simp only[gY,slV];clear hc6 ht hin hw7 hR7;have hne:=HNE.o;have hne2:¬eb=tb:=λh=>hne h.symm
   have hne3:¬tb=eb:=hne;obtain⟨rc,re,rz,rz1⟩:=HR6.o;have k0:=rc 0 _ rfl;have z0:=rz 0;have k1:=rc 1 _ rfl;have z1:=rz 1;have k2:=rc 2 _ rfl;have z2:=rz 2;have k3:=rc 3 _ rfl;have z3:=rz 3;have k4:=rc 4 _ rfl;have z4:=rz 4;have k5:=rc 5 _ rfl;have z5:=rz 5;have k6:=rc 6 _ rfl;have z6:=rz 6;have k7:=rc 7 _ rfl;have z7:=rz 7;have k8:=rc 8 _ rfl;have z8:=rz 8;have k9:=rc 9 _ rfl;have z9:=rz 9;have k10:=rc 10 _ rfl;have z10:=rz 10;have k11:=rc 11 _ rfl;have z11:=rz 11;have k12:=rc 12 _ rfl;have z12:=rz 12;clear rc rz;go_wp2;rw[<-HW7.o];clear k0 z0 k1 z1 k2 z2 k3 z3 k4 z4 k5 z5 k6 z6 k7 z7 k8 z8 k9 z9 k10 z10 k11 z11 k12 z12 re rz1;refine leaves_cons (f:=53) (args:=#[.pointer (some ⟨tb,0,none⟩),.pointer (some ⟨eb,0,none⟩)]) sI (by simp[go_sem]) ?_;refine (zEp tb eb w7).mono ?_;rintro e u' w8 ⟨rfl,rfl,rfl⟩;obtain⟨rc,re,-,-⟩:=HR8.o;have s0:=rc 0 _ rfl;have s1:=rc 1 _ rfl;have s2:=rc 2 _ rfl;have s3:=rc 3 _ rfl;have s4:=rc 4 _ rfl;have s5:=rc 5 _ rfl;have s6:=rc 6 _ rfl;have s7:=rc 7 _ rfl;have s8:=rc 8 _ rfl;have s9:=rc 9 _ rfl;have s10:=rc 10 _ rfl;have s11:=rc 11 _ rfl;have s12:=rc 12 _ rfl;simp only[Leaves,settle,results,Tryz.results18];refine⟨_,by simp[go_sem,s0,s1,s2,s3,s4,s5,s6,s7,s8,s9,s10,s11,s12,re];rfl,(HC6.o.trans2 HC7.o (λk hk e=>by have:=HB.o;omega)).alloc _,⟨(p0,p1,p2),(p3,p4,p5),(p6,p7,p8),⟨(p9,p10,p11),(p12,p13,p14),(p15,p16,p17),(p18,p19,p20)⟩,⟨(p21,p22,p23),(p24,p25,p26),(p27,p28,p29),(p30,p31,p32),(p33,p34,p35)⟩,(p36,p37,p38)⟩,?_,.inr ⟨t,by rw[HGN.o],?_⟩⟩
   .rw[HGN.o]
    rfl
   .have i1:=TabsIn.good.chg HIN.o HC7.o (λg hg e=>by have:=HSZ4.o;have:=HPG.o;have:=HB.o;omega)
    have i2:=TabsIn.good.chg i1 ((Chg.refl (λ_=>False) w7).alloc (.cells #[] 129)) iF;exact TabsIn.good.mono i2 (λg _ hg=>by have:=HSZ4.o;have:=HPG.o;have:=HB.o;omega)
theorem uY (L:List Int) (a b:Option Addr) (c d:Nat) (S S':Nat->Prop) (w:World) (h:intE.InS w S (a,L.length,c) L) (k:intE.InS w S' (b,L.length,d) L) (hl:L.length<=1000000000) :
  Calls Tryz.prog 50 #[.slice a L.length c,.slice b L.length d] w λe w'=>e=.returned (.bool true)/\Cf w w':=by
 obtain⟨g,o,h1,h2⟩:=h.bytes;obtain⟨g',o',k1,k2⟩:=k.bytes;have HS:=jh (I.zEz L L a b g o g' o' c d w h1 h2 k1 k2 oM);clear h k h1 h2 k1 k2;go_enter Tryz.func50,Tryz.ntmps50
 go_wp2_with fail
 refine HS.o.mono ?_;rintro e w1 ⟨rfl,hc⟩;have HC:=jh hc;clear hc;go_wp2;go_ret
 exact⟨sI,HC.o⟩
theorem zF2 (L:List Str) (a b:Option Addr) (c d:Nat) (S S':Nat->Prop) (w:World) (h:strE.InS w S (a,L.length,c) L) (k:strE.InS w S' (b,L.length,d) L) (hl:L.length<=1000000000) :
  Calls Tryz.prog 49 #[.slice a L.length c,.slice b L.length d] w λe w'=>e=.returned (.bool true)/\Cf w w':=by
 have H1:=jh h;have H2:=jh k;clear h k;go_enter Tryz.func49,Tryz.ntmps49
 go_wp2
 go_loopw [5] (λq wr=>∃k:Nat,k<=L.length/\q=.int .i64 k/\Cf w wr) (λq _=>L.length-(intOf q).toNat)
 case atStart=>exact⟨0,oM,rfl,Chg.refl _ _⟩
 case round =>
  obtain⟨k,hk,rfl,hc⟩:=hrel;have HC:=jh hc;clear hc;by_cases hkl:k<L.length
  .have b9:decide ((k:Int)<(L.length:Int))=true:=by simp;omega
   obtain⟨s,d1,g,o,e1,e2,rfl,-,-,-,e4⟩:=(zJ.of (H1.o.chg HC.o iF)).get1' (f:=zC3) rfl hkl rfl;obtain⟨s',d2,g',o',f1,f2,rfl,-,-,-,f4⟩:=(zJ.of (H2.o.chg HC.o iF)).get1' (f:=zC3) rfl hkl rfl;obtain rfl:s=d1:=e2;obtain rfl:s'=d2:=f2;rw[e1]at f1;obtain rfl:=Az3 f1;have c0:=e4 _ rfl;have c1:=f4 _ rfl;have HCF:Hd (∀X,Cf wr X->X.cell? ⟨g,o+k,none⟩=some (.string s)/\X.cell? ⟨g',o'+k,none⟩=some (.string s)):=jh (λX hx=>⟨hx.cellS c0 iD,hx.cellS c1 iD⟩);have bss:(s.toList == s.toList)=true:=sI;clear e1 e4 f1 f4 c0 c1;go_upto_region 6 with (fail)
   refine ws (λx=>Cf wr x) ?_;(iterate 9 (refine rf HCF.o ?_))
   refine zQ ?_;intro w2 hc2;have HC2:=jh (HC.o.trans hc2);clear hc2;go_wp2;go_roundw
   case rel=>exact⟨k+1,oM,by go_num,HC2.o⟩
   case measure=>simp[intOf];omega
  .obtain rfl:k=L.length:=oM
   have b9:decide ((L.length:Int)<(L.length:Int))=false:=sI;go_wp2;go_ret
   exact⟨rfl,HC.o⟩
end Go.Proofs.YtgnpmceimpjheaaGreat
