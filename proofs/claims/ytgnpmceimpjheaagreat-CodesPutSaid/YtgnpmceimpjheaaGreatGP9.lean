/- A part of the proof: ConcatI EqI CodJ CodC CodD CodO PtE PtF. -/
import Derived.Test.YtgnpmceimpjheaaGreatGP1
import Derived.Test.YtgnpmceimpjheaaGreatGP3
import Derived.Test.YtgnpmceimpjheaaGreatGP8
import Derived.Handy
set_option maxRecDepth 100000
set_option maxHeartbeats 16000000
namespace Go.Proofs.YtgnpmceimpjheaaGreat.I
open Go.RowKit
theorem zFy {w:World}(base:Option Addr) (C0:List Int) (hold:∀w':World,Cf w w'->(Builtin.firstCells 1 C0.length (.slice base C0.length C0.length)).run Tryz.prog w'=.ok (zL C0).toArray w')
  (hX:∀a∈C0,Byte a) (k:Nat) (h0:0<k) (hlen:C0.length+k<=1000000000000) (ty:TypeId) :
  ∃(w':World) (C:List Int),(Builtin.append_ #[25,3] ty #[.slice base C0.length C0.length,.int .i64 k]).run Tryz.prog w=.ok (.slice (some ⟨w.heap.size,0,none⟩) (C0.length+k) C.length) w'/\Row w' w.heap.size C/\C0 <+: C/\C0.length+k<=C.length/\C.length<=maxLen/\Cf w w':=by
 obtain⟨i,hi,hz,h1,h2⟩:=info_parts zCv;have hG:=grownCap_ge w (C0.length+k) C0.length 3;have hG2:=grownCap_le_maxLen w (C0.length+k) C0.length 3 (by unfold maxLen;omega);have hrun:=Lib.run_append_grow_zeros (P:=Tryz.prog) w 25 3 ty 3 i (.int .i64 0) .i64 .i64 Tryz.underlying25 Tryz.underlying3 hi hz base C0.length C0.length (zL C0) (by rw[h1];exact hold _ (Chg.refl _ _).drew) k h0 oM oM oM (by rw[h2];omega)
  (by rw[h2];exact growslice_fits oM oM)
 have e3:∀a b c:List Int,(zL a).toArray++(zL b).toArray++(zL c).toArray=(zL (a++b++c)).toArray:=λa b c=>by simp[zL]
 rw[pY,pY,e3]at hrun;obtain⟨C,hC⟩:∃C,C=C0++List.replicate k 0++List.replicate (grownCap w (C0.length+k) C0.length 3-(C0.length+k)) 0:=⟨_,rfl⟩;rw[<-hC]at hrun;have hl:C.length=grownCap w (C0.length+k) C0.length 3:=by rw[hC];simp only[Az0,Av3];omega
 rw[<-hl]at hrun;refine⟨w.drew.alloc (.cells (zL C).toArray 3),C,hrun,Row.alloc w.drew _ _ (λa ha=>?_),by rw[hC,Az5];exact List.prefix_append _ _,oM,oM,(Chg.refl _ _).drew.alloc _⟩;rw[hC]at ha;simp only[Av2,At3]at ha;rcases ha with (ha|⟨_,rfl⟩)|⟨_,rfl⟩
 .exact hX a ha
 .exact⟨oM,oM⟩
 .exact⟨oM,oM⟩
theorem zNh (w:World) (k:Nat) (hk:0<k) (hl:k<=1000000000) :
  Calls Tryz.prog 132 #[.slice none 0 0,.int .i64 k] w λe w'=>∃v,e=.returned v/\Own w' w.heap.size v []/\Cf w w':=by
 obtain⟨w1,C1,hrun,hR1,hp1,hl1,hm1,hc1⟩:=zFy (w:=w) none [] (λw' _=>run_firstCells_none w' 1 0 0 0) (λ_ h=>by cases h) k hk sO 0;simp only[Aw5,Ax0]at hl1 hrun;have HRUN:Hd ((Builtin.append_ #[25,3] 0 #[.slice none 0 0,.int .i64 k]).run Tryz.prog w=.ok (.slice (some ⟨w.heap.size,0,none⟩) k C1.length) w1):=jh hrun;have HO:Hd (Own w1 w.heap.size (.slice (some ⟨w.heap.size,0,none⟩) 0 C1.length) []):=jh (.inr ⟨_,C1,rfl,Ay _,hR1,hp1,hm1⟩);have HC:=jh hc1;unfold maxLen at hm1;clear hrun hR1 hp1 hc1;go_enter Tryz.func132,Tryz.ntmps132
 go_wp2_with (at_builtin;refine Lib.wpList_append_run _ rfl _ _ _ _ rfl _ _ rfl rfl _ _ HRUN.o ?_)
 go_ret
 exact⟨_,rfl,HO.o,HC.o⟩
theorem zS9 (w:World):Calls Tryz.prog 132 #[.slice none 0 0,.int .i64 0] w λe w'=>∃v,e=.returned v/\Own w' w.heap.size v []/\Cf w w':=by
 go_enter Tryz.func132,Tryz.ntmps132
 go_wp2;go_ret
 exact⟨_,rfl,.inl ⟨rfl,rfl⟩,Chg.refl _ _⟩
theorem zFg (w:World) (k:Nat) (hl:k<=1000000000):Calls Tryz.prog 132 #[.slice none 0 0,.int .i64 k] w λe w'=>∃v,e=.returned v/\Own w' w.heap.size v []/\Cf w w':=by
 rcases Aw4 k with rfl|h
 .exact zS9 w
 .exact zNh w k h hl
theorem bJ (X Y:List Int) (ax ay:Option Addr) (gx ox cx gy oy cy q:Nat) (w:World) (hx:BytesAt w gx ox X) (hax:0<X.length->ax=some ⟨gx,ox,none⟩) (hyr:BytesAt w gy oy Y) (hay:0<Y.length->ay=some ⟨gy,oy,none⟩) (hxl:X.length<=100000000) (hyl2:Y.length<=100000000)
  (q0:w.cell? ⟨q,0,none⟩=some (.slice ax X.length cx)) (q1:w.cell? ⟨q,1,none⟩=some (.slice ay Y.length cy)) :
  Calls Tryz.prog 90 #[.slice (some ⟨q,0,none⟩) 2 2] w λe w'=>∃v,e=.returned v/\Own w' w.heap.size v (X++Y)/\Cf w w':=by
 have HX:=jh hx;have HAX:=jh hax;have HY:=jh hyr;have HAY:=jh hay;have HQ:Hd (∀w',Cf w w'->w'.cell? ⟨q,0,none⟩=some (.slice ax X.length cx)/\w'.cell? ⟨q,1,none⟩=some (.slice ay Y.length cy)):=jh λw' hc=>⟨hc.cellS q0 iD,hc.cellS q1 iD⟩
 have HXB:=jh hx.byte;have HYB:=jh hyr.byte;clear hx hax hyr hay;go_enter Tryz.func90,Tryz.ntmps90
 go_wp2_with fail
 go_loopw [3,11] (λn i wr=>((i=.int .i64 0/\n=.int .i64 0)\/(i=.int .i64 1/\n=.int .i64 X.length)\/(i=.int .i64 2/\n=.int .i64 ((X.length:Int)+Y.length)))/\wr=w) (λ_ i _=>2-(intOf i).toNat)
 case atStart=>exact⟨.inl ⟨rfl,rfl⟩,rfl⟩
 case round =>
  obtain⟨h,rfl⟩:=hrel;rcases h with ⟨rfl,rfl⟩|⟨rfl,rfl⟩|⟨rfl,rfl⟩
  .go_wp2_with fail
   go_roundw
   case rel=>first|exact⟨.inr (.inl ⟨rfl,rfl⟩),rfl⟩|simp
   case measure=>simp[intOf]
  .go_wp2_with fail
   go_roundw
   case rel=>first|exact⟨.inr (.inr ⟨rfl,rfl⟩),rfl⟩|simp
   case measure=>simp[intOf]
  .clear q0 q1
   go_wp2_with fail
   have hsum:(X.length:Int)+Y.length=((X.length+Y.length:Nat):Int):=oM;rw[hsum];refine (zFg wr (X.length+Y.length) oM).mono ?_;rintro e w1 ⟨v1,rfl,h1,hc1⟩;have H1:=jh h1;have HC1:=jh hc1;clear h1 hc1 hsum;go_wp2_with fail
   obtain⟨wo,rfl⟩:∃wo:World,wo=wr:=⟨_,rfl⟩
   go_loopw [6,27] (λv i wr=>((i=.int .i64 0/\Own wr wo.heap.size v [])\/(i=.int .i64 1/\Own wr wo.heap.size v ([]++X))\/(i=.int .i64 2/\Own wr wo.heap.size v ([]++X++Y)))/\Chg (λk=>wo.heap.size<=k) wo wr) (λ_ i _=>2-(intOf i).toNat)
   case atStart=>exact⟨.inl ⟨rfl,H1.o⟩,HC1.o.any⟩
   case round =>
    clear H1 HC1;obtain⟨h,hc⟩:=hrel;have HC:=jh hc;obtain⟨q0,q1⟩:=HQ.o wr hc.fresh;clear hc;rcases h with ⟨rfl,ho⟩|⟨rfl,ho⟩|⟨rfl,ho⟩
    .have HO:=jh ho
     clear ho;go_wp2_with (at_builtin;refine xL rfl _ _ 25 rfl wo.heap.size _ [] X (.slice ax X.length cx) rfl rfl HO.o HC.o.size (tN (HX.o.chg HC.o.fresh iE) HAX.o) HXB.o sO ?_;intro v3 w3 K1 K2 K3)
     go_roundw
     case rel=>exact⟨.inr (.inl ⟨rfl,K1.out⟩),HC.o.trans K2.out⟩
     case measure=>simp[intOf]
    .have HO:=jh ho
     clear ho;go_wp2_with (at_builtin;refine xL rfl _ _ 25 rfl wo.heap.size _ ([]++X) Y (.slice ay Y.length cy) rfl rfl HO.o HC.o.size (tN (HY.o.chg HC.o.fresh iE) HAY.o) HYB.o sO ?_;intro v3 w3 K1 K2 K3)
     go_roundw
     case rel=>exact⟨.inr (.inr ⟨rfl,K1.out⟩),HC.o.trans K2.out⟩
     case measure=>simp[intOf]
    .have HO:=jh ho
     clear ho q0 q1;go_wp2_with fail
     go_ret
     exact⟨_,rfl,HO.o,HC.o.fresh⟩
end Go.Proofs.YtgnpmceimpjheaaGreat.I
namespace Go.Proofs.YtgnpmceimpjheaaGreat
open Go.RowKit
theorem zGx (X Y:List Int) (ax ay:Option Addr) (cx cy Bx By:Nat) (w:World) (hx:intE.In w Bx (ax,X.length,cx) X) (hy:intE.In w By (ay,Y.length,cy) Y) (hl:X.length<=1000000000) :
  Calls Tryz.prog 93 #[.slice ax X.length cx,.slice ay Y.length cy] w λe w'=>e=.returned (.bool (decide (X=Y)))/\Cf w w':=by
 have HX:=jh hx;have HY:=jh hy;clear hx hy;by_cases hxy:X.length=Y.length
 .have b10:((X.length:Int) != (Y.length:Int))=false:=by simp[hxy]
  have HXY:=jh hxy;clear hxy;go_enter Tryz.func93,Tryz.ntmps93
  go_wp2
  go_loopw [13] (λi wr=>∃k:Nat,k<=X.length/\i=.int .i64 k/\Cf w wr/\X.take k=Y.take k) (λi _=>X.length-(intOf i).toNat)
  case atStart=>exact⟨0,oM,rfl,Chg.refl _ _,sI⟩
  case round =>
   obtain⟨k,hk,rfl,hc,he⟩:=hrel;have HC:=jh hc;have HE:=jh he;clear hc he;by_cases hkl:k<X.length
   .have b14:decide ((k:Int)<(X.length:Int))=true:=by simp;omega
    have hkl2:k<Y.length:=(by have:=HXY.o;omega);obtain⟨x,g,o,hx,rfl,c0,-,-,-,-⟩:=(HX.o.same HC.o).getI hkl;obtain⟨y,g2,o2,hy,rfl,c1,-,-,-,-⟩:=(HY.o.same HC.o).getI hkl2;have HP:=jh hx;have HQ:=jh hy;have HCC:=jh (show _/\_ from ⟨c0,c1⟩);clear hx hy c0 c1;go_upto_region 6 with (fail)
    refine ws (λw'=>Cf wr w') ?_;(iterate 9 (refine rq ?_ (by intro _ w' _ hC;have c0:=hC.cellS HCC.o.1 iD;have c1:=hC.cellS HCC.o.2 iD;go_simp;try with_reducible rfl)))
    refine zQ ?_;intro w2 hC2;have HC2:=jh (HC.o.trans hC2);clear hC2 HCC;by_cases hpq:x=y
    .have d1:(x != y)=false:=by simp[hpq]
     have HT:Hd (X.take (k+1)=Y.take (k+1)):=jh (by rw[Ay1,Ay1,HE.o,HP.o,HQ.o,hpq]);clear HE HP HQ hpq;go_wp2;go_roundw
     case rel=>exact⟨k+1,oM,by go_num,HC2.o,HT.o⟩
     case measure=>simp[intOf];omega
    .have d1:(x != y)=true:=by simp[hpq]
     have HD:Hd (decide (X=Y)=false):=jh (by
      apply decide_eq_false
      intro h;have h1:=HP.o;rw[h,HQ.o]at h1;exact hpq (Az3 h1).symm)
     clear HE HP HQ hpq;go_wp2;go_ret
     exact⟨by rw[HD.o];rfl,HC2.o⟩
   .obtain rfl:k=X.length:=oM
    have b14:decide ((X.length:Int)<(X.length:Int))=false:=sI;have HD:Hd (decide (X=Y)=true):=jh (by
     have:=HE.o;rw[Ay5,HXY.o,Ay5]at this;simp[this])
    clear HE;go_wp2;go_ret
    exact⟨by rw[HD.o];rfl,HC.o⟩
 .have b10:((X.length:Int) != (Y.length:Int))=true:=by simp;omega
  have HD:Hd (decide (X=Y)=false):=jh (by
   apply decide_eq_false
   intro h;exact hxy (by rw[h]))
  go_enter Tryz.func93,Tryz.ntmps93
  go_wp2;go_ret
  exact⟨by rw[HD.o];rfl,Chg.refl _ _⟩
def stOk (ns nst np:Nat) (s:StD):Bool:=kU ns nst np s && decide (0<=s.1) && decide (s.1<nst)
def tQ (n:NetD):Bool:=decide (n.s.length=n.p.length) && !(n.s++n.p).any (λi=>!xJ n.st.length i) && !n.q.any (rS n.st.length) && n.st.all (stOk n.st.length n.s.length n.q.length) && decide (qE n.st=n.d)
def stB (d:StD):Prop:=d.2.1.length<=1000000000/\d.2.2.length<=1000000000
structure FairN (n:NetD):Prop where
 st:n.st.length<=1000000000
 s:n.s.length<=100000000
 p:n.p.length<=100000000
 q:n.q.length<=1000000000
 d:n.d.length<=1000000000
 e:∀s∈n.st,stB s
theorem Elt.InS.bytes {w:World}{S:Nat->Prop}{a:Option Addr}{n c:Nat}{L:List Int}(h:intE.InS w S (a,n,c) L):∃g o,I.BytesAt w g o L/\(0<L.length->a=some ⟨g,o,none⟩):=by
 obtain⟨-,-,g,o,h3,h4⟩:=h;exact⟨g,o,zQa.1 h3,λhp=>(h4 hp).1⟩
theorem zR0 {w:World}{B:Nat}{v:Value}{X:List Int}(h:I.Own w B v X):intE.Own w B v X:=by
 rcases h with h|⟨g,C,h1,h2,h3,h4⟩
 .exact .inl h
 .exact .inr ⟨g,C,h1,h2,cG.2 h3,h4⟩
theorem Elt.Own.inC {β:Type}{E:Elt β}{w:World}{B:Nat}{a:Option Addr}{n c:Nat}{X:List β}(h:E.Own w B (.slice a n c) X):E.In w B (a,n,c) X:=by
 obtain⟨a',g,c2,h1,h2,h3,h4⟩:=h.at';injection h1 with e1 e2 e3;subst e1 e2 e3;exact⟨rfl,h2,g,0,h3,h4⟩
theorem zQ0 {α:Type}{p:α->Bool}{L:List α}(h:∀(j:Nat) x,L[j]?=some x->p x=true):L.all p=true:=by
 rw[Ax5];intro x hx;obtain⟨j,hj⟩:=Ax7 hx;exact h j x hj
theorem zKt (n:NetD) (m:NetS) (S:Nat->Prop) (w:World) (h:NetIn w S m n) (hf:FairN n) :
  Calls Tryz.prog 38 #[netV m] w λe w'=>e=.returned (.bool (tQ n))/\Cf w w':=by
 obtain⟨⟨a0,n0,c0⟩,⟨a1,n1,c1⟩,⟨a2,n2,c2⟩,⟨a3,n3,c3⟩,⟨a4,n4,c4⟩⟩:=m;obtain⟨h0,h1,h2,h3,h4⟩:=h;obtain⟨rfl,-⟩:=h0.len;obtain⟨rfl,-⟩:=h1.len;obtain⟨rfl,-⟩:=h2.len;obtain⟨rfl,-⟩:=h3.len;obtain⟨rfl,-⟩:=h4.len;obtain⟨f0,f1,f2,f3,f4,f5⟩:=hf;have H0:=jh (zJ.bnd h0 f5);have H1:=jh h1;have H2:=jh h2;have H3:=jh h3;have H4:=jh h4;clear h0 h1 h2 h3 h4 f5;have hmf:=mkfn;have eg1:=enters_of Tryz.func88 kR rfl;have eg2:=enters_of Tryz.func91 kR rfl;obtain⟨st,ss,ps,qs,ds⟩:=n;simp only at f0 f1 f2 f3 f4 H0 H1 H2 H3 H4 ⊢;show Calls Tryz.prog 38 #[.agg #[.slice a0 st.length c0,.slice a1 ss.length c1,.slice a2 ps.length c2,.slice a3 qs.length c3,.slice a4 ds.length c4]] w _;go_enter Tryz.func38,Tryz.ntmps38
 go_upto_region 3 with (fail)
 obtain⟨wv,hwv⟩:∃W,W=(w.alloc (.cells #[.slice a0 st.length c0,.slice a1 ss.length c1,.slice a2 ps.length c2,.slice a3 qs.length c3,.slice a4 ds.length c4] 31)).alloc (.cells #[.func (.func 87) #[] #[.pointer (some ⟨w.heap.size,0,none⟩)]] 174):=⟨_,rfl⟩;have HCV:Hd (Cf w wv):=jh (by rw[hwv];exact ((Chg.refl _ w).alloc _).alloc _);have HQ:Hd ((wv.cell? ⟨w.heap.size,0,none⟩=some (.slice a0 st.length c0)/\wv.cell? ⟨w.heap.size,1,none⟩=some (.slice a1 ss.length c1)/\wv.cell? ⟨w.heap.size,2,none⟩=some (.slice a2 ps.length c2)/\wv.cell? ⟨w.heap.size,3,none⟩=some (.slice a3 qs.length c3)/\wv.cell? ⟨w.heap.size,4,none⟩=some (.slice a4 ds.length c4))/\wv.cell? ⟨w.heap.size+1,0,none⟩=some (.func (.func 87) #[] #[.pointer (some ⟨w.heap.size,0,none⟩)])):=jh (by
  rw[hwv];exact⟨⟨yG _ (zE _ rfl rfl),yG _ (zE _ rfl rfl),yG _ (zE _ rfl rfl),yG _ (zE _ rfl rfl),yG _ (zE _ rfl rfl)⟩,zE _ sI rfl⟩)
 rw[<-hwv];clear hwv;have q1:=HQ.o.1.2.1;have q2:=HQ.o.1.2.2.1;by_cases hl:ss.length=ps.length
 .have b1:((ss.length:Int) != (ps.length:Int))=false:=by simp;omega
  have b1':(ss.length != ps.length)=false:=by simp;omega
  have HLN:=jh hl;clear hl;obtain⟨g1,o1,hb1,ha1⟩:=(H1.o.chg HCV.o iF).bytes;obtain⟨g2,o2,hb2,ha2⟩:=(H2.o.chg HCV.o iF).bytes;have hcb:=(Chg.refl (λ_=>False) wv).alloc (.cells #[.slice a1 ss.length c1,.slice a2 ps.length c2] 25);have HCO:=jh (I.bJ ss ps a1 a2 g1 o1 c1 g2 o2 c2 wv.heap.size _ (hb1.chg hcb iE) ha1 (hb2.chg hcb iE) ha2 f1 f2 (zE (w:=wv) (cs:=#[.slice a1 ss.length c1,.slice a2 ps.length c2]) 25 rfl rfl) (zE (w:=wv) (cs:=#[.slice a1 ss.length c1,.slice a2 ps.length c2]) 25 rfl rfl));have HCB:=jh hcb;clear hb1 hb2 ha1 ha2 hcb;go_wp2_with fail
  refine HCO.o.mono ?_;rintro e w1 ⟨v1,rfl,ho1,hc1⟩;obtain⟨va,vc,rfl⟩:=ho1.shape;have HV1:Hd (Cf wv w1):=jh (HCB.o.trans hc1);have hcs:=pQ 88 #[.pointer (some ⟨w.heap.size+1,0,none⟩)] (λi=>!xJ st.length i) (ss++ps) va vc 0 w1 eg1 ((zR0 ho1).inC.lower (Av _)) (zGw (w.heap.size+1) w.heap.size st.length a0 c0 w1 (HV1.o.cellS HQ.o.2 iD) (HV1.o.cellS HQ.o.1.1 iD)) (by rw[Az0];omega);rw[Az0]at hcs;have HCS:=jh hcs;clear hcs;have p3:=HV1.o.cellS HQ.o.1.2.2.2.1 iD;clear ho1 hc1 HCO q1 q2;cases hst:(ss++ps).any (λi=>!xJ st.length i) with
  | true =>
   rw[hst]at HCS;have HF:Hd (tQ ⟨st,ss,ps,qs,ds⟩=false):=jh (by simp only[tQ,hst,Bool.not_true,Av1,Aw0]);clear hst;go_wp2_with fail
   refine HCS.o.mono ?_;rintro e w2 ⟨rfl,hc2⟩;have HC2:=jh (HCV.o.trans (HV1.o.trans hc2));have p3:=hc2.cellS p3 iD;clear hc2;go_wp2;go_ret
   exact⟨by rw[HF.o];rfl,HC2.o⟩
  | false =>
   rw[hst]at HCS;have HA1:=jh hst;clear hst;go_wp2_with fail
   refine HCS.o.mono ?_;rintro e w2 ⟨rfl,hc2⟩;have HV2:Hd (Cf wv w2):=jh (HV1.o.trans hc2);have HCP:=jh (pQ 91 #[.pointer (some ⟨w.heap.size,0,none⟩)] (rS st.length) qs a3 c3 0 w2 eg2 ((H3.o.chg (HCV.o.trans HV2.o) iF).in' (λ_ _=>Av _)) (zK8 w.heap.size st.length a0 c0 w2 f0 (HV2.o.cellS HQ.o.1.1 iD)) f3);have p3:=hc2.cellS p3 iD;clear hc2;cases hpr:qs.any (rS st.length) with
   | true =>
    rw[hpr]at HCP;have HF:Hd (tQ ⟨st,ss,ps,qs,ds⟩=false):=jh (by simp only[tQ,hpr,Bool.not_true,Av1,Aw0]);clear hpr;go_wp2_with fail
    refine HCP.o.mono ?_;rintro e w3 ⟨rfl,hc3⟩;have HC3:=jh (HCV.o.trans (HV2.o.trans hc3));clear hc3;go_wp2;go_ret
    exact⟨by rw[HF.o];rfl,HC3.o⟩
   | false =>
    rw[hpr]at HCP;have HMN:Hd (tQ ⟨st,ss,ps,qs,ds⟩=(st.all (stOk st.length ss.length qs.length) && decide (qE st=ds))):=jh (by simp only[tQ,HA1.o,hpr,decide_eq_true HLN.o,Bool.not_false,Av7,Bool.and_true]);clear hpr;go_wp2_with fail
    refine HCP.o.mono ?_;rintro e w3 ⟨rfl,hc3⟩;have HV3:Hd (Cf wv w3):=jh (HV2.o.trans hc3);have q0:=HV3.o.cellS HQ.o.1.1 iD;clear hc3 p3;go_wp2;clear q0
    go_loopw [5,36] (λv q wr=>∃(k:Nat) (v0:Value),v0=v/\k<=st.length/\q=.int .i64 k/\(∀(j:Nat) s,j<k->st[j]?=some s->stOk st.length ss.length qs.length s=true)/\intE.Own wr wv.heap.size v0 (yL 0 (st.take k))/\Cf wv wr) (λ_ q _=>st.length-(intOf q).toNat)
    case atStart=>exact⟨0,_,rfl,oM,rfl,λj e h=>absurd h (Ax _),.nil _ _,HV3.o⟩
    case round =>
     obtain⟨k,v,rfl,hk,rfl,hb,ho,hc⟩:=hrel;have HB:=jh hb;have HO:=jh ho;have HC:=jh hc;have HCW:Hd (Cf w wr):=jh (HCV.o.trans hc);obtain⟨va,vn,vc,rfl⟩:=ho.shape3;clear hb ho hc;by_cases hkl:k<st.length
     .have b9:decide ((k:Int)<(st.length:Int))=true:=by simp;omega
      have hkb:k<1000000000:=oM;obtain⟨x,⟨dr,al,ed⟩,g,o,hd,⟨hx,hxb⟩,ha,-,-,-,hcells⟩:=((zJ.good (bR.good stR.good)).chg H0.o HCW.o iF).get3 (f:=jA) rfl hkl rfl;obtain⟨xr,⟨aa,an,ac⟩,⟨ea,en,ec⟩⟩:=x;obtain⟨hx1,hx2,hxa,hxe⟩:=hx;simp only at hx1 hx2 hxa hxe;obtain⟨rfl,-⟩:=hxa.len;obtain⟨rfl,-⟩:=hxe.len;subst hx1;obtain⟨x0,x1,x2⟩:=hcells _ _ _ rfl;unfold slV at x1 x2;simp only at x0 x1 x2;subst ha;have HD:=jh hd;have HXA:=jh hxa;have HXE:=jh hxe;have HX2:=jh hx2;obtain⟨hxb1,hxb2⟩:=hxb;simp only at hxb1 hxb2;obtain⟨w5,hw5⟩:∃W,W=wr.alloc (.cells #[.int .i64 xr,.slice aa al.length ac,.slice ea ed.length ec] 74):=⟨_,rfl⟩;have HC5:Hd (Cf wr w5):=jh (by rw[hw5];exact (Chg.refl _ _).alloc _);have y0:w5.cell? ⟨wr.heap.size,0,none⟩=some (.int .i64 xr):=(by rw[hw5];exact zE _ rfl rfl);have y1:w5.cell? ⟨wr.heap.size,1,none⟩=some (.slice aa al.length ac):=(by rw[hw5];exact zE _ rfl rfl);have y2:w5.cell? ⟨wr.heap.size,2,none⟩=some (.slice ea ed.length ec):=(by rw[hw5];exact zE _ rfl rfl);have HV5:Hd (Cf wv w5):=jh (HC.o.trans HC5.o);have m0:=HV5.o.cellS HQ.o.1.1 iD;have m1:=HV5.o.cellS HQ.o.1.2.1 iD;have m2:=HV5.o.cellS HQ.o.1.2.2.1 iD;have m3:=HV5.o.cellS HQ.o.1.2.2.2.1 iD;have m4:=HV5.o.cellS HQ.o.1.2.2.2.2 iD;have HSM:=jh (zL8 (xr,al,ed) aa ea ac ec st.length ss.length qs.length ds.length ps.length c0 c1 c2 c3 c4 (some ⟨g,o,none⟩) a1 a2 a3 a4 S w5 (HXA.o.chg HC5.o iF) (HXE.o.chg HC5.o iF) hxb1 hxb2);have HDT:=jh (zG0 hd);have HBAD:Hd (stOk st.length ss.length qs.length (xr,al,ed)=false->tQ ⟨st,ss,ps,qs,ds⟩=false):=jh (λh=>by
       have:st.all (stOk st.length ss.length qs.length)=false:=by
        rw[List.all_eq_false];exact⟨_,Az2 HD.o,by rw[h];exact Au1⟩
       rw[HMN.o,this,Aw0])
      have HNX:Hd (stOk st.length ss.length qs.length (xr,al,ed)=true->∀(j:Nat) s,j<k+1->st[j]?=some s->stOk st.length ss.length qs.length s=true):=jh (λh j s hj hjs=>by
       by_cases hjk:j=k
       .subst hjk
        rw[HD.o]at hjs;obtain rfl:=Az3 hjs;exact h
       .exact HB.o j s oM hjs)
      clear hd hxa hxe hx2 hcells;go_upto_region 9 with (fail)
      rw[<-hw5];clear hw5 x0 x1 x2;cases hsm:kU st.length ss.length qs.length (xr,al,ed) with
      | false =>
       have HF:=jh (HBAD.o (by simp only[stOk,hsm,Aw0]));rw[hsm]at HSM;clear hsm;go_wp2_with fail
       refine HSM.o.mono ?_;rintro e w6 ⟨rfl,hc6⟩;have HC6:=jh (HCV.o.trans (HV5.o.trans hc6));clear hc6;go_wp2;go_ret
       exact⟨by rw[HF.o];rfl,HC6.o⟩
      | true =>
       rw[hsm]at HSM;by_cases r0:xr<0
       .have d1:decide (xr<0)=true:=decide_eq_true r0
        have HF:=jh (HBAD.o (by simp only[stOk,decide_eq_false (show ¬0<=xr by omega),Av1,Aw0]));clear hsm;go_wp2_with fail
        refine HSM.o.mono ?_;rintro e w6 ⟨rfl,hc6⟩;have HC6:=jh (HCV.o.trans (HV5.o.trans hc6));have y0:=hc6.cellS y0 iD;clear hc6;go_wp2;go_ret
        exact⟨by rw[HF.o];rfl,HC6.o⟩
       .have d1:decide (xr<0)=false:=decide_eq_false r0
        by_cases r1:(ss.length:Int)<=xr
        .have d2:decide ((ss.length:Int)<=xr)=true:=decide_eq_true r1
         have HF:=jh (HBAD.o (by simp only[stOk,decide_eq_false (show ¬xr<(ss.length:Int) by omega),Av1]));clear hsm;go_wp2_with fail
         refine HSM.o.mono ?_;rintro e w6 ⟨rfl,hc6⟩;have HC6:=jh (HCV.o.trans (HV5.o.trans hc6));have y0:=hc6.cellS y0 iD;have m1:=hc6.cellS m1 iD;clear hc6;go_wp2;go_ret
         exact⟨by rw[HF.o];rfl,HC6.o⟩
        .have d2:decide ((ss.length:Int)<=xr)=false:=decide_eq_false r1
         have HN:=jh (HNX.o (by simp only[stOk,hsm,decide_eq_true (show 0<=xr by omega),decide_eq_true (show xr<(ss.length:Int) by omega),Bool.and_self]));clear hsm;go_wp2_with fail
         refine HSM.o.mono ?_;rintro e w6 ⟨rfl,hc6⟩;have HV6:Hd (Cf wv w6):=jh (HV5.o.trans hc6);have HO6:=jh ((HO.o.chg HC5.o (λ_ _ _ h=>h)).chg hc6 (λ_ _ _ h=>h));have y0:=hc6.cellS y0 iD;have y2:=hc6.cellS y2 iD;have m1:=hc6.cellS m1 iD;clear hc6 m0 m2 m3 m4 y1;by_cases hdl:0<ed.length
         .have b2:decide (0<ed.length)=true:=decide_eq_true hdl
          rw[if_pos hdl]at HDT;have HXL:Hd ((yL 0 (st.take k)).length<=1000000000):=jh (by have:=tS (st.take k) 0;rw[Ax1]at this;omega);have HY:Hd (∀x∈[(k:Int)],intE.ok x):=jh (λa ha=>by rw[Ay3]at ha;rw[ha];exact⟨oM,oM⟩);have HSRC:Hd (Src Tryz.prog intE.sz intE.sl (.slice (some ⟨w6.heap.size,0,none⟩) 1 1) 1 (intE.encs [(k:Int)]) (w6.alloc (.cells #[.int .i64 k] 3))):=jh (intE.srcLit (Y:=[(k:Int)]) 1 HY.o);have HSW:Hd (wv.heap.size<=w6.heap.size):=jh HV6.o.size;go_wp2_with (at_builtin;refine Elt.wpList_append intE rfl _ _ 25 25 rfl rfl wv.heap.size (.slice va vn vc) (yL 0 (st.take k)) [(k:Int)] (.slice (some ⟨w6.heap.size,0,none⟩) 1 1) rfl rfl (HO6.o.chg ((Chg.refl (λ_=>False) _).alloc _) (λ_ _ _ h=>h)) (by have:=HSW.o;simp;omega) HSRC.o HY.o (by have:=HXL.o;simp;omega) ?_;intro v' w7 HO7 HC7 HN7)
          rw[<-HDT.o]at HO7;have HV7:Hd (Cf wv w7):=jh (((HV6.o.alloc _).any.trans HC7.o).fresh);go_roundw
          case rel=>exact⟨k+1,_,rfl,oM,by go_num,HN.o,HO7.o,HV7.o⟩
          case measure=>simp[intOf];omega
         .have b2:decide (0<ed.length)=false:=decide_eq_false hdl
          rw[if_neg hdl,Av4]at HDT;rw[<-HDT.o]at HO6;go_wp2;go_roundw
          case rel=>exact⟨k+1,_,rfl,oM,by go_num,HN.o,HO6.o,HV6.o⟩
          case measure=>simp[intOf];omega
     .obtain rfl:k=st.length:=oM
      have b9:decide ((st.length:Int)<(st.length:Int))=false:=sI;rw[Ay5]at HO;have HALL:Hd (st.all (stOk st.length ss.length qs.length)=true):=jh (zQ0 (λj x hx=>HB.o j x (Az1.1 hx).1 hx));have HME:Hd (tQ ⟨st,ss,ps,qs,ds⟩=decide (yL 0 st=ds)):=jh (by rw[HMN.o,HALL.o,Av7];rfl);have HDIN:Hd (intE.In wr 0 (va,vn,vc) (yL 0 st)):=jh (HO.o.inC.lower (Av _));obtain⟨rfl,-⟩:=HDIN.o.len;have HDL:Hd ((yL 0 st).length<=1000000000):=jh (by have:=tS st 0;omega);have HEQ:=jh (zGx (yL 0 st) ds va a4 vc c4 0 0 wr HDIN.o ((H4.o.chg HCW.o iF).in' (λ_ _=>Av _)) HDL.o);have q4:=HC.o.cellS HQ.o.1.2.2.2.2 iD;obtain⟨b,hb⟩:∃b,decide (yL 0 st=ds)=b:=⟨_,rfl⟩;rw[hb]at HEQ HME;clear hb;go_wp2_with fail
      refine HEQ.o.mono ?_;rintro e w6 ⟨rfl,hc6⟩;have HC6:=jh (HCW.o.trans hc6);clear hc6;go_wp2;go_ret
      exact⟨by rw[HME.o];rfl,HC6.o⟩
 .have b1:((ss.length:Int) != (ps.length:Int))=true:=by simp;omega
  have b1':(ss.length != ps.length)=true:=by simp;omega
  have HF:Hd (tQ ⟨st,ss,ps,qs,ds⟩=false):=jh (by simp only[tQ,decide_eq_false hl,Aw0]);go_wp2;go_ret
  exact⟨by rw[HF.o];rfl,HCV.o⟩
def sQ (r:Int×Int):Bool:=decide (r.1<0) || decide (1114111<r.2)
def rQ (t:LexD) (tk:Nat):Bool:=mayT t && decide (t.n.length<=65536) && decide ((t.n.length:Int) * xS t.c<=4194304) && !t.r.any sQ && decide (maxI t.e<(tk:Int))
theorem zFj (S:Nat->Prop) (w:World):mG rngE zMd eqR S 83 #[] sQ w:=by
 intro y d w' hyd hok hc;obtain rfl:y=d:=hyd;obtain⟨lo,hi⟩:=y;obtain⟨⟨o1,o2⟩,o3,o4⟩:=hok;simp only at o1 o2 o3 o4;show Calls Tryz.prog 83 #[.agg #[.int .i32 lo,.int .i32 hi]] w' _;by_cases h1:lo<0
 .have d1:decide (lo<0)=true:=decide_eq_true h1
  have HF:Hd (sQ (lo,hi)=true):=jh (by simp only[sQ,d1,Bool.true_or]);go_enter Tryz.func83,Tryz.ntmps83
  go_wp2;go_ret
  exact⟨by rw[HF.o];rfl,(Chg.refl _ w').alloc _⟩
 .have d1:decide (lo<0)=false:=decide_eq_false h1
  have HF:Hd (sQ (lo,hi)=decide (1114111<hi)):=jh (by simp only[sQ,d1,Au8]);go_enter Tryz.func83,Tryz.ntmps83
  go_wp2;go_ret
  exact⟨by rw[HF.o];rfl,(Chg.refl _ w').alloc _⟩
theorem zGs (t:LexD) (m:LexS) (tk:Nat) (S:Nat->Prop) (w:World) (h:LexIn w S m t) (hf:Fair t) :
  Calls Tryz.prog 37 #[zHw m,.int .i64 tk] w λe w'=>e=.returned (.bool (rQ t tk))/\Cf w w':=by
 obtain⟨⟨ra,rn,rc⟩,⟨ca,cn,cc⟩,⟨na,nn,nc⟩,⟨ea,en,ec⟩⟩:=m;obtain⟨h0,h1,h2,h3⟩:=LexIn.good.mono h (S':=(0<=·)) (λ_ _ _=>Av _);obtain⟨rfl,-⟩:=h0.len;obtain⟨rfl,-⟩:=h1.len;obtain⟨rfl,-⟩:=h2.len;obtain⟨rfl,-⟩:=h3.len;have HT0:Hd (LexIn w (0<=·) ⟨(ra,t.r.length,rc),(ca,t.c.length,cc),(na,t.n.length,nc),(ea,t.e.length,ec)⟩ t):=jh ⟨h0,h1,h2,h3⟩;have HFR:=jh hf;clear h h0 h1 h2 h3;show Calls Tryz.prog 37 #[.agg #[.slice ra t.r.length rc,.slice ca t.c.length cc,.slice na t.n.length nc,.slice ea t.e.length ec],.int .i64 tk] w _;have eg:=enters_of Tryz.func83 kR rfl;go_enter Tryz.func37,Tryz.ntmps37
 go_upto_region 2 with (fail)
 obtain⟨wv,hwv⟩:∃W,W=w.alloc (.cells #[.slice ra t.r.length rc,.slice ca t.c.length cc,.slice na t.n.length nc,.slice ea t.e.length ec] 28):=⟨_,rfl⟩;rw[<-hwv];have HQV:Hd (wv.cell? ⟨w.heap.size,0,none⟩=some (.slice ra t.r.length rc)/\wv.cell? ⟨w.heap.size,1,none⟩=some (.slice ca t.c.length cc)/\wv.cell? ⟨w.heap.size,2,none⟩=some (.slice na t.n.length nc)/\wv.cell? ⟨w.heap.size,3,none⟩=some (.slice ea t.e.length ec)):=jh (by
  rw[hwv];exact⟨zE _ rfl rfl,zE _ rfl rfl,zE _ rfl rfl,zE _ rfl rfl⟩)
 obtain⟨wd,hwd⟩:∃W,W=wv.drew:=⟨_,rfl⟩;have HCA:Hd (Cf w wd):=jh (by rw[hwd,hwv];exact ((Chg.refl _ w).alloc _).drew);have HQ:Hd (∀w',Cf wd w'->w'.cell? ⟨w.heap.size,0,none⟩=some (.slice ra t.r.length rc)/\w'.cell? ⟨w.heap.size,1,none⟩=some (.slice ca t.c.length cc)/\w'.cell? ⟨w.heap.size,2,none⟩=some (.slice na t.n.length nc)/\w'.cell? ⟨w.heap.size,3,none⟩=some (.slice ea t.e.length ec)):=jh (λw' hc=>by
  have hd:Cf wv w':=Chg.trans (by rw[hwd];exact (Chg.refl _ _).drew) hc;exact⟨hd.cellS HQV.o.1 iD,hd.cellS HQV.o.2.1 iD,hd.cellS HQV.o.2.2.1 iD,hd.cellS HQV.o.2.2.2 iD⟩)
 have HIN:Hd (∀w',Cf wd w'->LexIn w' (0<=·) ⟨(ra,t.r.length,rc),(ca,t.c.length,cc),(na,t.n.length,nc),(ea,t.e.length,ec)⟩ t):=jh (λw' hc=>LexIn.good.chg HT0.o (HCA.o.trans hc) iF);have HMT0:Hd (∀w',Cf wd w'->Calls Tryz.prog 84 #[.agg #[.slice ra t.r.length rc,.slice ca t.c.length cc,.slice na t.n.length nc,.slice ea t.e.length ec]] w' λe w''=>e=.returned (.bool (mayT t))/\Cf w' w''):=jh (λw' hc=>zK0 t (ra,t.r.length,rc) (ca,t.c.length,cc) (na,t.n.length,nc) (ea,t.e.length,ec) 0 w' (HIN.o w' hc).tab HFR.o);clear hwv;cases hmt:mayT t with
 | false =>
  have HF:Hd (rQ t tk=false):=jh (by simp only[rQ,hmt,Aw0]);have HMT:Hd (∀w',Cf wd w'->Calls Tryz.prog 84 #[.agg #[.slice ra t.r.length rc,.slice ca t.c.length cc,.slice na t.n.length nc,.slice ea t.e.length ec]] w' λe w''=>e=.returned (.bool false)/\Cf w' w''):=jh (by rw[<-hmt];exact HMT0.o);clear hmt HMT0;refine zW (λx=>Cf wd x) kR kR ?_ ?_
  .rw[hwd];exact Chg.refl _ _
  (refine rf HQ.o ?_);refine yS rfl (.bool false )  84  ( #[.agg #[.slice ra t.r.length rc,.slice ca t.c.length cc,.slice na t.n.length nc,.slice ea t.e.length ec]]) (λw'=>by go_simp) (λ_ w' _ hC=>?_) (λK hK=>?_)
  .refine (HMT.o w' hC).mono ?_
   rintro e w'' ⟨rfl,h⟩;exact⟨rfl,hC.trans h⟩
  ((try go_simp);refine hK _ ?_;clear hK K)
  (iterate 30 (first|refine sq ?_|refine rq ?_))
  refine zQ ?_;intro w2 hc2;have HC2:=jh (HCA.o.trans hc2);clear hc2;go_wp2;go_ret
  exact⟨by rw[HF.o];rfl,HC2.o⟩
 | true =>
  have HMT:Hd (∀w',Cf wd w'->Calls Tryz.prog 84 #[.agg #[.slice ra t.r.length rc,.slice ca t.c.length cc,.slice na t.n.length nc,.slice ea t.e.length ec]] w' λe w''=>e=.returned (.bool true)/\Cf w' w''):=jh (by rw[<-hmt];exact HMT0.o);have HM:=jh hmt;have HMS:=jh (fQ.1 hmt);clear hmt HMT0;by_cases c1:t.n.length<=65536
  .have D1:Hd (decide (t.n.length<=65536)=true/\decide ((t.n.length:Int)<=65536)=true):=jh ⟨decide_eq_true c1,decide_eq_true oM⟩
   have HCO0:Hd (∀w',Cf wd w'->Calls Tryz.prog 64 #[.agg #[.slice ra t.r.length rc,.slice ca t.c.length cc,.slice na t.n.length nc,.slice ea t.e.length ec]] w' λe w''=>e=.returned (.int .i64 (xS t.c))/\Cf w' w''):=jh (λw' hc=>zAa t.c ra na ea ca t.r.length rc t.n.length nc t.e.length ec cc 0 w' (HIN.o w' hc).c HFR.o.c (λc hc=>by have h1:=HMS.o.cb c hc;have h2:=HFR.o.c;omega));have hcl0:0<=xS t.c:=tW _;have hcl1:xS t.c<=t.c.length:=fY oM (λc hc=>(HMS.o.cb c hc).2);obtain⟨cl,hcl⟩:∃cl,xS t.c=cl:=⟨_,rfl⟩;have HCL:=jh hcl;rw[hcl]at hcl0 hcl1;have HCO:Hd (∀w',Cf wd w'->Calls Tryz.prog 64 #[.agg #[.slice ra t.r.length rc,.slice ca t.c.length cc,.slice na t.n.length nc,.slice ea t.e.length ec]] w' λe w''=>e=.returned (.int .i64 cl)/\Cf w' w''):=jh (by rw[<-hcl];exact HCO0.o);clear hcl HCO0;have DW:Hd (IntKind.i64.wrap ((t.n.length:Int) * cl)=(t.n.length:Int) * cl):=jh (by
    obtain⟨cn,rfl⟩:∃cn:Nat,cl=cn:=⟨cl.toNat,oM⟩;have h1:t.n.length * cn<=65536 * 1000000000:=Nat.mul_le_mul c1 (by have:=HFR.o.c;omega);rw[<-Int.natCast_mul,IntKind.wrap_i64]
    generalize t.n.length * cn=P at h1
    omega)
   by_cases c2:(t.n.length:Int) * cl<=4194304
   .have D2:Hd (decide ((t.n.length:Int) * cl<=4194304)=true):=jh (decide_eq_true c2)
    have HST0:Hd (∀w',Cf wd w'->Calls Tryz.prog 85 #[.slice ra t.r.length rc,.func (.func 83) #[] #[]] w' λe w''=>e=.returned (.bool (t.r.any sQ))/\Cf w' w''):=jh (λw' hc=>zDk eqR.good _ _ sQ t.r ra rc w' eg (zJ.of (HIN.o w' hc).r) (zFj (0<=·) w') HFR.o.r);cases hst:t.r.any sQ with
    | true =>
     have HF:Hd (rQ t tk=false):=jh (by simp only[rQ,hst,Bool.not_true,Av1,Aw0]);have HST:Hd (∀w',Cf wd w'->Calls Tryz.prog 85 #[.slice ra t.r.length rc,.func (.func 83) #[] #[]] w' λe w''=>e=.returned (.bool true)/\Cf w' w''):=jh (by rw[<-hst];exact HST0.o);clear hst HST0 c1 c2 hcl0 hcl1 hf;refine zW (λx=>Cf wd x) kR kR ?_ ?_
     .rw[hwd];exact Chg.refl _ _
     (refine rf HQ.o ?_);refine yS rfl (.bool true )  84  ( #[.agg #[.slice ra t.r.length rc,.slice ca t.c.length cc,.slice na t.n.length nc,.slice ea t.e.length ec]]) (λw'=>by go_simp) (λ_ w' _ hC=>?_) (λK hK=>?_)
     .refine (HMT.o w' hC).mono ?_
      rintro e w'' ⟨rfl,h⟩;exact⟨rfl,hC.trans h⟩
     ((try go_simp);refine hK _ ?_;clear hK K)
     (iterate 2 (refine rq ?_));(refine rf HQ.o ?_);(refine rq ?_);(refine rq ?_ (by intro _ w' _ hC;have d1:=D1.out.1;have d1b:=D1.out.2;go_simp;try with_reducible rfl));(iterate 3 (refine rq ?_));(refine rf HQ.o ?_);(refine rq ?_);(refine rf HQ.o ?_)
     refine yS rfl (.int .i64 cl )  64  ( #[.agg #[.slice ra t.r.length rc,.slice ca t.c.length cc,.slice na t.n.length nc,.slice ea t.e.length ec]]) (λw'=>by go_simp) (λ_ w' _ hC=>?_) (λK hK=>?_)
     .refine (HCO.o w' hC).mono ?_
      rintro e w'' ⟨rfl,h⟩;exact⟨rfl,hC.trans h⟩
     ((try go_simp);refine hK _ ?_;clear hK K)
     (refine rq ?_ (by intro _ w' _ hC;have dw:=DW.out;go_simp;try with_reducible rfl));(refine rq ?_ (by intro _ w' _ hC;have d2:=D2.out;go_simp;try with_reducible rfl));(iterate 3 (refine rq ?_));(refine rf HQ.o ?_);(refine rq ?_);refine yS rfl (.bool true )  85  ( #[.slice ra t.r.length rc,.func (.func 83) #[] #[]]) (λw'=>by go_simp) (λ_ w' _ hC=>?_) (λK hK=>?_)
     .refine (HST.o w' hC).mono ?_
      rintro e w'' ⟨rfl,h⟩;exact⟨rfl,hC.trans h⟩
     ((try go_simp);refine hK _ ?_;clear hK K)
     (iterate 10 (first|refine sq ?_|refine rq ?_))
     refine zQ ?_;intro w2 hc2;have HC2:=jh (HCA.o.trans hc2);clear hc2;go_wp2;go_ret
     exact⟨by rw[HF.o];rfl,HC2.o⟩
    | false =>
     have HST:Hd (∀w',Cf wd w'->Calls Tryz.prog 85 #[.slice ra t.r.length rc,.func (.func 83) #[] #[]] w' λe w''=>e=.returned (.bool false)/\Cf w' w''):=jh (by rw[<-hst];exact HST0.o);have hep:0<t.e.length:=(by have:=HMS.o.nl;have:=HMS.o.el;omega);have HMX0:Hd (∀w',Cf wd w'->Calls Tryz.prog 86 #[.slice ea t.e.length ec] w' λe w''=>e=.returned (.int .i64 (maxI t.e))/\Cf w' w''):=jh (λw' hc=>(zM5 t.e ea ec 0 w' (HIN.o w' hc).e HFR.o.e hep).mono (λe w'' h=>⟨h.1,by rw[h.2];exact Chg.refl _ _⟩));have HLB:Hd (rQ t tk=decide (maxI t.e<(tk:Int))):=jh (by simp only[rQ,HM.o,HCL.o,hst,decide_eq_true c1,decide_eq_true c2,Bool.not_false,Av7]);obtain⟨me,hme⟩:∃me,maxI t.e=me:=⟨_,rfl⟩;have HMX:Hd (∀w',Cf wd w'->Calls Tryz.prog 86 #[.slice ea t.e.length ec] w' λe w''=>e=.returned (.int .i64 me)/\Cf w' w''):=jh (by rw[<-hme];exact HMX0.o);rw[hme]at HLB;clear hme HMX0 hep hst HST0 c1 c2 hcl0 hcl1 hf;obtain⟨b,hb⟩:∃b,decide (me<(tk:Int))=b:=⟨_,rfl⟩;have HF:Hd (rQ t tk=b):=jh (by rw[HLB.o,hb]);have D4:Hd (decide (me<(tk:Int))=b/\True):=jh ⟨hb,trivial⟩;clear hb;refine zW (λx=>Cf wd x) kR kR ?_ ?_
     .rw[hwd];exact Chg.refl _ _
     (refine rf HQ.o ?_);refine yS rfl (.bool true )  84  ( #[.agg #[.slice ra t.r.length rc,.slice ca t.c.length cc,.slice na t.n.length nc,.slice ea t.e.length ec]]) (λw'=>by go_simp) (λ_ w' _ hC=>?_) (λK hK=>?_)
     .refine (HMT.o w' hC).mono ?_
      rintro e w'' ⟨rfl,h⟩;exact⟨rfl,hC.trans h⟩
     ((try go_simp);refine hK _ ?_;clear hK K)
     (iterate 2 (refine rq ?_));(refine rf HQ.o ?_);(refine rq ?_);(refine rq ?_ (by intro _ w' _ hC;have d1:=D1.out.1;have d1b:=D1.out.2;go_simp;try with_reducible rfl));(iterate 3 (refine rq ?_));(refine rf HQ.o ?_);(refine rq ?_);(refine rf HQ.o ?_)
     refine yS rfl (.int .i64 cl )  64  ( #[.agg #[.slice ra t.r.length rc,.slice ca t.c.length cc,.slice na t.n.length nc,.slice ea t.e.length ec]]) (λw'=>by go_simp) (λ_ w' _ hC=>?_) (λK hK=>?_)
     .refine (HCO.o w' hC).mono ?_
      rintro e w'' ⟨rfl,h⟩;exact⟨rfl,hC.trans h⟩
     ((try go_simp);refine hK _ ?_;clear hK K)
     (refine rq ?_ (by intro _ w' _ hC;have dw:=DW.out;go_simp;try with_reducible rfl));(refine rq ?_ (by intro _ w' _ hC;have d2:=D2.out;go_simp;try with_reducible rfl));(iterate 3 (refine rq ?_));(refine rf HQ.o ?_);(refine rq ?_);refine yS rfl (.bool false )  85  ( #[.slice ra t.r.length rc,.func (.func 83) #[] #[]]) (λw'=>by go_simp) (λ_ w' _ hC=>?_) (λK hK=>?_)
     .refine (HST.o w' hC).mono ?_
      rintro e w'' ⟨rfl,h⟩;exact⟨rfl,hC.trans h⟩
     ((try go_simp);refine hK _ ?_;clear hK K)
     (iterate 5 (refine rf HQ.o ?_))
     refine yS rfl (.int .i64 me )  86  ( #[.slice ea t.e.length ec]) (λw'=>by go_simp) (λ_ w' _ hC=>?_) (λK hK=>?_)
     .refine (HMX.o w' hC).mono ?_
      rintro e w'' ⟨rfl,h⟩;exact⟨rfl,hC.trans h⟩
     ((try go_simp);refine hK _ ?_;clear hK K)
     (iterate 4 (refine rq ?_ (by intro _ w' _ hC;have d4:=D4.out.1;have d4b:=D4.out.2;go_simp;try with_reducible rfl)))
     refine zQ ?_;intro w2 hc2;have HC2:=jh (HCA.o.trans hc2);clear hc2;go_wp2;go_ret
     exact⟨by rw[HF.o];rfl,HC2.o⟩
   .have D2:Hd (decide ((t.n.length:Int) * cl<=4194304)=false):=jh (decide_eq_false c2)
    have HF:Hd (rQ t tk=false):=jh (by simp only[rQ,HCL.o,decide_eq_false c2,Av1,Aw0]);clear c1 c2 hcl0 hcl1 hf;refine zW (λx=>Cf wd x) kR kR ?_ ?_
    .rw[hwd];exact Chg.refl _ _
    (refine rf HQ.o ?_);refine yS rfl (.bool true )  84  ( #[.agg #[.slice ra t.r.length rc,.slice ca t.c.length cc,.slice na t.n.length nc,.slice ea t.e.length ec]]) (λw'=>by go_simp) (λ_ w' _ hC=>?_) (λK hK=>?_)
    .refine (HMT.o w' hC).mono ?_
     rintro e w'' ⟨rfl,h⟩;exact⟨rfl,hC.trans h⟩
    ((try go_simp);refine hK _ ?_;clear hK K)
    (iterate 2 (refine rq ?_));(refine rf HQ.o ?_);(refine rq ?_);(refine rq ?_ (by intro _ w' _ hC;have d1:=D1.out.1;have d1b:=D1.out.2;go_simp;try with_reducible rfl));(iterate 3 (refine rq ?_));(refine rf HQ.o ?_);(refine rq ?_);(refine rf HQ.o ?_)
    refine yS rfl (.int .i64 cl )  64  ( #[.agg #[.slice ra t.r.length rc,.slice ca t.c.length cc,.slice na t.n.length nc,.slice ea t.e.length ec]]) (λw'=>by go_simp) (λ_ w' _ hC=>?_) (λK hK=>?_)
    .refine (HCO.o w' hC).mono ?_
     rintro e w'' ⟨rfl,h⟩;exact⟨rfl,hC.trans h⟩
    ((try go_simp);refine hK _ ?_;clear hK K)
    (refine rq ?_ (by intro _ w' _ hC;have dw:=DW.out;go_simp;try with_reducible rfl));(refine rq ?_ (by intro _ w' _ hC;have d2:=D2.out;go_simp;try with_reducible rfl));(iterate 2 (refine rq ?_));(iterate 5 (refine sq ?_));(iterate 2 (refine rq ?_));(iterate 5 (refine sq ?_));(iterate 2 (refine rq ?_));refine zQ ?_;intro w2 hc2;have HC2:=jh (HCA.o.trans hc2);clear hc2;go_wp2;go_ret
    exact⟨by rw[HF.o];rfl,HC2.o⟩
  .have D1:Hd (decide (t.n.length<=65536)=false/\decide ((t.n.length:Int)<=65536)=false):=jh ⟨decide_eq_false c1,decide_eq_false oM⟩
   have HF:Hd (rQ t tk=false):=jh (by simp only[rQ,decide_eq_false c1,Av1,Aw0]);clear c1 hf;refine zW (λx=>Cf wd x) kR kR ?_ ?_
   .rw[hwd];exact Chg.refl _ _
   (refine rf HQ.o ?_);refine yS rfl (.bool true )  84  ( #[.agg #[.slice ra t.r.length rc,.slice ca t.c.length cc,.slice na t.n.length nc,.slice ea t.e.length ec]]) (λw'=>by go_simp) (λ_ w' _ hC=>?_) (λK hK=>?_)
   .refine (HMT.o w' hC).mono ?_
    rintro e w'' ⟨rfl,h⟩;exact⟨rfl,hC.trans h⟩
   ((try go_simp);refine hK _ ?_;clear hK K)
   (iterate 2 (refine rq ?_));(refine rf HQ.o ?_);(refine rq ?_);(refine rq ?_ (by intro _ w' _ hC;have d1:=D1.out.1;have d1b:=D1.out.2;go_simp;try with_reducible rfl));(iterate 2 (refine rq ?_));(iterate 7 (refine sq ?_));(iterate 2 (refine rq ?_));(iterate 5 (refine sq ?_));(iterate 2 (refine rq ?_));(iterate 5 (refine sq ?_));(iterate 2 (refine rq ?_))
   refine zQ ?_;intro w2 hc2;have HC2:=jh (HCA.o.trans hc2);clear hc2;go_wp2;go_ret
   exact⟨by rw[HF.o];rfl,HC2.o⟩
def sS (s:Str):Bool:=decide (0<s.size) && decide (s.size<=64)
theorem zMy (s:Str) (w:World) (hl:s.size<=1000000000000):Calls Tryz.prog 35 #[.string s] w λe w'=>e=.returned (.bool (sS s))/\w'=w:=by
 by_cases h0:s.size=0
 .obtain rfl:s=⟨#[]⟩:=by
   cases s with
   | mk d =>
    have:d.size=0:=h0;rw[Array.size_eq_zero_iff.1 this]
  go_enter Tryz.func35,Tryz.ntmps35
  go_wp2;go_ret
  exact⟨rfl,rfl⟩
 .have HF:Hd (sS s=decide (s.size<=64)):=jh (by simp only[sS,decide_eq_true (show 0<s.size by omega),Av7])
  have hne:¬s.toList=[]:=λe=>h0 (by
   rw[ByteArray.toList_eq]at e;show s.data.size=0;rw[<-Array.length_toList,e];rfl)
  have he:s.toList.isEmpty=false:=by
   cases h:s.toList with
   | nil=>exact absurd h hne
   | cons _ _=>rfl
  obtain⟨b,hb⟩:∃b,decide (s.size<=64)=b:=⟨_,rfl⟩;have hb2:decide ((s.size:Int)<=64)=b:=by rw[<-hb,Au6];simp <;> omega
  rw[hb]at HF;go_enter Tryz.func35,Tryz.ntmps35
  go_wp2;go_ret
  exact⟨by rw[HF.o];rfl,rfl⟩
theorem zCy (S:Nat->Prop) (w:World):mG strE dG (bR eqR (λs=>s.size<=1000000000000)) S 34 #[] (λs=>!sS s) w:=by
 intro y d w' hyd hok hc;obtain⟨hyd,hl⟩:=hyd;obtain rfl:y=d:=hyd;have HN:=jh (zMy y w' hl);show Calls Tryz.prog 34 #[.string y] w' _;obtain⟨b,hb⟩:∃b,sS y=b:=⟨_,rfl⟩;rw[hb]at HN;have HB:=jh hb;clear hb hl;go_enter Tryz.func34,Tryz.ntmps34
 go_wp2_with fail
 refine HN.o.mono ?_;rintro e w2 ⟨rfl,rfl⟩;go_wp2;go_ret
 exact⟨by show Ending.returned (.bool (!b))=_;rw[<-HB.o],Chg.refl _ _⟩
def sW (tk:Nat) (e:qS):Bool:=decide (e.1=1) && decide ((tk:Int)<=e.2.1)
theorem zNj (q tk:Nat) (S:Nat->Prop) (w:World) (hq:w.cell? ⟨q,0,none⟩=some (.int .i64 tk)):mG qC pN eqR S 43 #[.pointer (some ⟨q,0,none⟩)] (sW tk) w:=by
 intro y d w' hyd hok hc;obtain rfl:y=d:=hyd;obtain⟨k,x,t⟩:=y;have hq':=yG (.cells #[.int .u8 k,.int .i64 x,.int .i64 t] 71) (hc.cellS hq iD);clear hq;show Calls Tryz.prog 43 #[.agg #[.int .u8 k,.int .i64 x,.int .i64 t],.pointer (some ⟨q,0,none⟩)] w' _;by_cases h1:k=1
 .subst h1
  have HF:Hd (sW tk (1,x,t)=decide ((tk:Int)<=x)):=jh (by simp only[sW,decide_true,Av7]);go_enter Tryz.func43,Tryz.ntmps43
  go_wp2;go_ret
  exact⟨by rw[HF.o];rfl,(Chg.refl _ w').alloc _⟩
 .have b1:(k == 1)=false:=by simpa using h1
  have HF:Hd (sW tk (k,x,t)=false):=jh (by simp only[sW,decide_eq_false h1,Aw0]);clear h1;go_enter Tryz.func43,Tryz.ntmps43
  go_wp2;go_ret
  exact⟨by rw[HF.o];rfl,(Chg.refl _ w').alloc _⟩
theorem zK7 (q tk:Nat) (S:Nat->Prop) (w:World) (hq:w.cell? ⟨q,0,none⟩=some (.int .i64 tk)):mG stE zBw (bR stR stB) S 41 #[.pointer (some ⟨q,0,none⟩)] (λs=>s.2.1.any (sW tk)) w:=by
 intro y d w' ⟨⟨hy1,hk,hya,hye⟩,hb1,hb2⟩ hok hc;obtain⟨dr,al,ed⟩:=d;obtain⟨yk,⟨aa,an,ac⟩,⟨ea,en,ec⟩⟩:=y;simp only at hy1 hk hya hye hb1 hb2;obtain⟨rfl,-⟩:=hya.len;obtain⟨rfl,-⟩:=hye.len;subst hy1;have hmf:=mkfn;have eg:=enters_of Tryz.func43 kR rfl;have hd:=(Chg.refl (λ_=>False) w').alloc (.cells #[.int .i64 yk,.slice aa al.length ac,.slice ea ed.length ec] 74);have HC:=jh (cL eqR.good 43 #[.pointer (some ⟨q,0,none⟩)] (sW tk) al aa ac _ eg (zJ.of (hya.chg hd iF)) (zNj q tk S _ (yG _ (hc.cellS hq iD))) hb1);clear hd hya hye hq;show Calls Tryz.prog 41 #[.agg #[.int .i64 yk,.slice aa al.length ac,.slice ea ed.length ec],.pointer (some ⟨q,0,none⟩)] w' _;simp only;obtain⟨b,hb⟩:∃b,al.any (sW tk)=b:=⟨_,rfl⟩;rw[hb]at HC ⊢;clear hb;go_enter Tryz.func41,Tryz.ntmps41
 go_wp2_with fail
 refine HC.o.mono ?_;rintro e w2 ⟨rfl,hc2⟩;have HC2:=jh (((Chg.refl _ w').alloc _).trans hc2);clear hc2;go_wp2;go_ret
 exact⟨rfl,HC2.o⟩
def jS (t:TabsD):Bool:=(List.range t.nt.d.length).all (λi=>xN (t.lk.getD i []) ((t.nt.st.getD (t.nt.d.getD i 0).toNat (0,[],[])).2.2.length:Nat) t.tk.length)
def yJ (t:TabsD):Bool :=
 decide (1<=t.rl.length) && decide (t.rl.length<=64) && decide (t.tk.length<=64) && decide (t.dr.length=t.tk.length) && !t.rl.any (λs=>!sS s) && !t.tk.any (λs=>!sS s) && rQ t.lx t.tk.length && tQ t.nt && decide (t.nt.s.length=t.rl.length) && decide (t.nt.st.length<=65536) && decide (t.lk.length=t.nt.d.length) && jS t && !t.nt.st.any (λs=>s.2.1.any (sW t.tk.length))
structure FairTabs (t:TabsD):Prop where
 rl:t.rl.length<=100000000
 tk:t.tk.length<=100000000
 dr:t.dr.length<=100000000
 rs:∀s∈t.rl,s.size<=1000000000000
 ts:∀s∈t.tk,s.size<=1000000000000
 lx:Fair t.lx
 nt:FairN t.nt
 lk:t.lk.length<=1000000000
 la:∀A∈t.lk,A.length<=1000000000/\∀d∈A,lsB d
theorem mL:∀(L:List StD) (k:Nat) (d:Int),d∈yL k L->∃j:Nat,d=((k+j:Nat):Int)/\j<L.length
 | [],_,_,h=>by cases h
 | s :: L,k,d,h=>by
  simp only[yL]at h;have rest:d∈yL (k+1) L->∃j:Nat,d=((k+j:Nat):Int)/\j<(s :: L).length:=λh=>by
   obtain⟨j,h1,h2⟩:=mL L (k+1) d h;exact⟨j+1,by rw[h1];congr 1;omega,sO⟩
  split at h
  .rcases Ax3.1 h with rfl|h
   .exact⟨0,rfl,sI⟩
   .exact rest h
  .exact rest h
theorem zAr (t:TabsD) (m:TabsS) (S:Nat->Prop) (w:World) (h:TabsIn w S m t) (hf:FairTabs t) :
  Calls Tryz.prog 12 #[gY m] w λe w'=>e=.returned (.bool (yJ t))/\Cf w w':=by
 obtain⟨⟨ra,rn,rc⟩,⟨ka,kn,kc⟩,⟨da,dn,dc⟩,⟨⟨x0,z0,y0⟩,⟨x1,z1,y1⟩,⟨x2,z2,y2⟩,⟨x3,z3,y3⟩⟩,⟨⟨n0,o0,m0⟩,⟨n1,o1,m1⟩,⟨n2,o2,m2⟩,⟨n3,o3,m3⟩,⟨n4,o4,m4⟩⟩,⟨la,ln,lc⟩⟩:=m;have HT:=jh h;obtain⟨h0,h1,h2,⟨h3,h4,h5,h6⟩,⟨h7,h8,h9,h10,h11⟩,h12⟩:=h;obtain⟨rfl,-⟩:=h0.len;obtain⟨rfl,-⟩:=h1.len;obtain⟨rfl,-⟩:=h2.len;obtain⟨rfl,-⟩:=h3.len;obtain⟨rfl,-⟩:=h4.len;obtain⟨rfl,-⟩:=h5.len;obtain⟨rfl,-⟩:=h6.len;obtain⟨rfl,-⟩:=h7.len;obtain⟨rfl,-⟩:=h8.len;obtain⟨rfl,-⟩:=h9.len;obtain⟨rfl,-⟩:=h10.len;obtain⟨rfl,-⟩:=h11.len;obtain⟨rfl,-⟩:=h12.len;clear h0 h1 h2 h3 h4 h5 h6 h7 h8 h9 h10 h11 h12;have HFT:=jh hf;have f_rl:=hf.rl;have f_tk:=hf.tk;have f_dr:=hf.dr;have f_lk:=hf.lk;have f_st:=hf.nt.st;have f_d:=hf.nt.d;clear hf;have eg1:=enters_of Tryz.func34 kR rfl;have eg2:=enters_of Tryz.func41 kR rfl;have hmf:=mkfn;show Calls Tryz.prog 12 #[.agg #[.slice ra t.rl.length rc,.slice ka t.tk.length kc,.slice da t.dr.length dc,.slice x0 t.lx.r.length y0,.slice x1 t.lx.c.length y1,.slice x2 t.lx.n.length y2,.slice x3 t.lx.e.length y3,.slice n0 t.nt.st.length m0,.slice n1 t.nt.s.length m1,.slice n2 t.nt.p.length m2,.slice n3 t.nt.q.length m3,.slice n4 t.nt.d.length m4,.slice la t.lk.length lc]] w _;go_enter Tryz.func12,Tryz.ntmps12
 go_upto_region 1 with (fail)
 obtain⟨wv,hwv⟩:∃W,W=w.alloc (.cells #[.slice ra t.rl.length rc,.slice ka t.tk.length kc,.slice da t.dr.length dc,.slice x0 t.lx.r.length y0,.slice x1 t.lx.c.length y1,.slice x2 t.lx.n.length y2,.slice x3 t.lx.e.length y3,.slice n0 t.nt.st.length m0,.slice n1 t.nt.s.length m1,.slice n2 t.nt.p.length m2,.slice n3 t.nt.q.length m3,.slice n4 t.nt.d.length m4,.slice la t.lk.length lc] 34):=⟨_,rfl⟩;rw[<-hwv];have HQV:Hd (∀w',Cf wv w'->w'.cell? ⟨w.heap.size,0,none⟩=some (.slice ra t.rl.length rc)/\w'.cell? ⟨w.heap.size,1,none⟩=some (.slice ka t.tk.length kc)/\w'.cell? ⟨w.heap.size,2,none⟩=some (.slice da t.dr.length dc)/\w'.cell? ⟨w.heap.size,3,none⟩=some (.slice x0 t.lx.r.length y0)/\w'.cell? ⟨w.heap.size,4,none⟩=some (.slice x1 t.lx.c.length y1)/\w'.cell? ⟨w.heap.size,5,none⟩=some (.slice x2 t.lx.n.length y2)/\w'.cell? ⟨w.heap.size,6,none⟩=some (.slice x3 t.lx.e.length y3)/\w'.cell? ⟨w.heap.size,7,none⟩=some (.slice n0 t.nt.st.length m0)/\w'.cell? ⟨w.heap.size,8,none⟩=some (.slice n1 t.nt.s.length m1)/\w'.cell? ⟨w.heap.size,9,none⟩=some (.slice n2 t.nt.p.length m2)/\w'.cell? ⟨w.heap.size,10,none⟩=some (.slice n3 t.nt.q.length m3)/\w'.cell? ⟨w.heap.size,11,none⟩=some (.slice n4 t.nt.d.length m4)/\w'.cell? ⟨w.heap.size,12,none⟩=some (.slice la t.lk.length lc)):=jh (λw' hc=>by
  rw[hwv]at hc;exact⟨hc.cellS (zE _ rfl rfl) iD,hc.cellS (zE _ rfl rfl) iD,hc.cellS (zE _ rfl rfl) iD,hc.cellS (zE _ rfl rfl) iD,hc.cellS (zE _ rfl rfl) iD,hc.cellS (zE _ rfl rfl) iD,hc.cellS (zE _ rfl rfl) iD,hc.cellS (zE _ rfl rfl) iD,hc.cellS (zE _ rfl rfl) iD,hc.cellS (zE _ rfl rfl) iD,hc.cellS (zE _ rfl rfl) iD,hc.cellS (zE _ rfl rfl) iD,hc.cellS (zE _ rfl rfl) iD⟩)
 have HVS:Hd (wv.heap.size=w.heap.size+1):=jh (by rw[hwv];simp);obtain⟨wd,hwd⟩:∃W,wv.drew=W:=⟨_,rfl⟩;have HVD:Hd (Cf wv wd):=jh (by rw[<-hwd];exact (Chg.refl _ _).drew);have HCD:Hd (Cf w wd):=jh (by rw[<-hwd,hwv];exact ((Chg.refl _ w).alloc _).drew);have HDS:Hd (wd.heap.size=w.heap.size+1):=jh (by rw[<-hwd];exact HVS.o);refine zC (λx=>Cf wd x) (λi=>decide (8<=i)) kR ?_;show yN _ _ _ _ _ _ 9 (Array.replicate 9 false) _ wv.drew;rw[hwd];clear hwd hwv;have HSS:Hd (Cf wd wd):=jh cR;(refine lq 0 HSS.o ?_);(refine lq 1 HSS.o ?_ (hr:=by intro w' hC;obtain⟨q0,-⟩:=HQV.o w' (HVD.o.trans hC);go_simp;try with_reducible rfl));(refine lq 2 HSS.o ?_);(refine lq 3 HSS.o ?_);(refine lq 4 HSS.o ?_ (hr:=by intro w' hC;obtain⟨-,q1,-⟩:=HQV.o w' (HVD.o.trans hC);go_simp;try with_reducible rfl));(refine lq 5 HSS.o ?_);(refine lt 6 (λ_=>(Chg.refl _ _).alloc _) ?_);(refine lt 7 (λ_=>(Chg.refl _ _).alloc _) ?_);(refine ld 8 ?_);refine yA kR ?_ _;obtain⟨we,hwe⟩:∃W,W=wd.alloc (.cells #[.int .i64 t.tk.length] 3):=⟨_,rfl⟩;have HCE:Hd (Cf w we):=jh (by rw[hwe];exact HCD.o.alloc _);have HQ:Hd (∀w',Cf we w'->(w'.cell? ⟨w.heap.size,0,none⟩=some (.slice ra t.rl.length rc)/\w'.cell? ⟨w.heap.size,1,none⟩=some (.slice ka t.tk.length kc)/\w'.cell? ⟨w.heap.size,2,none⟩=some (.slice da t.dr.length dc)/\w'.cell? ⟨w.heap.size,3,none⟩=some (.slice x0 t.lx.r.length y0)/\w'.cell? ⟨w.heap.size,4,none⟩=some (.slice x1 t.lx.c.length y1)/\w'.cell? ⟨w.heap.size,5,none⟩=some (.slice x2 t.lx.n.length y2)/\w'.cell? ⟨w.heap.size,6,none⟩=some (.slice x3 t.lx.e.length y3)/\w'.cell? ⟨w.heap.size,7,none⟩=some (.slice n0 t.nt.st.length m0)/\w'.cell? ⟨w.heap.size,8,none⟩=some (.slice n1 t.nt.s.length m1)/\w'.cell? ⟨w.heap.size,9,none⟩=some (.slice n2 t.nt.p.length m2)/\w'.cell? ⟨w.heap.size,10,none⟩=some (.slice n3 t.nt.q.length m3)/\w'.cell? ⟨w.heap.size,11,none⟩=some (.slice n4 t.nt.d.length m4)/\w'.cell? ⟨w.heap.size,12,none⟩=some (.slice la t.lk.length lc))/\w'.cell? ⟨wd.heap.size,0,none⟩=some (.int .i64 t.tk.length)):=jh (λw' hc=>⟨HQV.o w' ((HVD.o.trans (by rw[hwe];exact (Chg.refl _ _).alloc _)).trans hc),hc.cellS (by rw[hwe];exact vW _ _ rfl) iD⟩);have HIN:Hd (∀w',Cf we w'->TabsIn w' S ⟨(ra,t.rl.length,rc),(ka,t.tk.length,kc),(da,t.dr.length,dc),⟨(x0,t.lx.r.length,y0),(x1,t.lx.c.length,y1),(x2,t.lx.n.length,y2),(x3,t.lx.e.length,y3)⟩,⟨(n0,t.nt.st.length,m0),(n1,t.nt.s.length,m1),(n2,t.nt.p.length,m2),(n3,t.nt.q.length,m3),(n4,t.nt.d.length,m4)⟩,(la,t.lk.length,lc)⟩ t):=jh (λw' hc=>TabsIn.good.chg HT.o (HCE.o.trans hc) iF);rw[<-hwe];clear hwe HQV HVS HVD HCD HDS HSS;obtain⟨bt,hbt⟩:∃b,wd.heap.size=b:=⟨_,rfl⟩;rw[hbt]at HQ ⊢;clear hbt;obtain⟨⟨q0,q1,q2,q3,q4,q5,q6,q7,q8,q9,q10,q11,q12⟩,qt⟩:=HQ.o we cR;by_cases c1:t.rl.length<1
 .have d1:decide (t.rl.length<1)=true:=decide_eq_true c1
  have d1':decide ((t.rl.length:Int)<1)=true:=decide_eq_true oM;have HF:Hd (yJ t=false):=jh (by simp only[yJ,decide_eq_false (show ¬1<=t.rl.length by omega),Aw0]);go_wp2;go_ret
  exact⟨by rw[HF.o];rfl,HCE.o⟩
 have d1:decide (t.rl.length<1)=false:=decide_eq_false c1;have d1':decide ((t.rl.length:Int)<1)=false:=decide_eq_false oM;by_cases c2:64<t.rl.length
 .have d2:decide (64<t.rl.length)=true:=decide_eq_true c2
  have d2':decide ((64:Int)<(t.rl.length:Int))=true:=decide_eq_true oM;have HF:Hd (yJ t=false):=jh (by simp only[yJ,decide_eq_false (show ¬t.rl.length<=64 by omega),Av1,Aw0]);go_wp2;go_ret
  exact⟨by rw[HF.o];rfl,HCE.o⟩
 have d2:decide (64<t.rl.length)=false:=decide_eq_false c2;have d2':decide ((64:Int)<(t.rl.length:Int))=false:=decide_eq_false oM;by_cases c3:64<t.tk.length
 .have d3:decide (64<t.tk.length)=true:=decide_eq_true c3
  have d3':decide ((64:Int)<(t.tk.length:Int))=true:=decide_eq_true oM;have HF:Hd (yJ t=false):=jh (by simp only[yJ,decide_eq_false (show ¬t.tk.length<=64 by omega),Av1,Aw0]);go_wp2;go_ret
  exact⟨by rw[HF.o];rfl,HCE.o⟩
 have d3:decide (64<t.tk.length)=false:=decide_eq_false c3;have d3':decide ((64:Int)<(t.tk.length:Int))=false:=decide_eq_false oM;by_cases c4:t.dr.length=t.tk.length
 rotate_left
 .have d4:((t.dr.length:Int) != (t.tk.length:Int))=true:=by rw[bne_iff_ne];omega
  have d4':(t.dr.length != t.tk.length)=true:=by rw[bne_iff_ne];omega
  have HF:Hd (yJ t=false):=jh (by simp only[yJ,decide_eq_false c4,Av1,Aw0]);clear c4;go_wp2;go_ret
  exact⟨by rw[HF.o];rfl,HCE.o⟩
 have d4:((t.dr.length:Int) != (t.tk.length:Int))=false:=by rw[bne_eq_false_iff_eq];omega
 have d4':(t.dr.length != t.tk.length)=false:=by rw[bne_eq_false_iff_eq];omega
 have HA:Hd (1<=t.rl.length/\t.rl.length<=64/\t.tk.length<=64/\t.dr.length=t.tk.length):=jh ⟨oM,oM,oM,c4⟩;have htk64:t.tk.length<=64:=oM
 clear c1 c2 c3 c4;have HCR0:=aJ (bR.good eqR.good) 34 #[] (λs=>!sS s) t.rl ra rc we eg1 (zJ.bnd (zJ.of (HIN.o we cR).rl) HFT.o.rs) (zCy S we) oM;cases hn1:t.rl.any (λs=>!sS s) with
 | true =>
  have HF:Hd (yJ t=false):=jh (by simp only[yJ,hn1,Bool.not_true,Av1,Aw0]);rw[hn1]at HCR0;have HCR:=jh HCR0;clear HCR0 hn1;go_wp2_with fail
  refine HCR.o.mono ?_;rintro e w1 ⟨rfl,h1⟩;have HC1:=jh (HCE.o.trans h1);clear h1 q0 q1 q2 q3 q4 q5 q6 q7 q8 q9 q10 q11 q12 qt;go_wp2;go_ret
  exact⟨by rw[HF.o];rfl,HC1.o⟩
 | false =>
 rw[hn1]at HCR0;have HCR:=jh HCR0;have HN1:=jh hn1;clear HCR0 hn1;go_wp2_with fail
 refine HCR.o.mono ?_;rintro e w1 ⟨rfl,h1⟩;have HE1:=jh h1;clear h1 HCR d1 d1' d2 d2' d3 d3' d4 d4' q0 q1 q2 q3 q4 q5 q6 q7 q8 q9 q10 q11 q12 qt;obtain⟨⟨q0,q1,q2,q3,q4,q5,q6,q7,q8,q9,q10,q11,q12⟩,qt⟩:=HQ.o w1 HE1.o;have HCR0:=aJ (bR.good eqR.good) 34 #[] (λs=>!sS s) t.tk ka kc w1 eg1 (zJ.bnd (zJ.of (HIN.o w1 HE1.o).tk) HFT.o.ts) (zCy S w1) oM;cases hn2:t.tk.any (λs=>!sS s) with
 | true =>
  have HF:Hd (yJ t=false):=jh (by simp only[yJ,hn2,Bool.not_true,Av1,Aw0]);rw[hn2]at HCR0;have HCR:=jh HCR0;clear HCR0 hn2;go_wp2_with fail
  refine HCR.o.mono ?_;rintro e w2 ⟨rfl,h2⟩;have HC1:=jh (HCE.o.trans (HE1.o.trans h2));clear h2 q0 q1 q2 q3 q4 q5 q6 q7 q8 q9 q10 q11 q12 qt;go_wp2;go_ret
  exact⟨by rw[HF.o];rfl,HC1.o⟩
 | false =>
 rw[hn2]at HCR0;have HCR:=jh HCR0;have HN2:=jh hn2;clear HCR0 hn2;go_wp2_with fail
 refine HCR.o.mono ?_;rintro e w2 ⟨rfl,h2⟩;have HE2:=jh (HE1.o.trans h2);clear h2 HCR HE1 q0 q1 q2 q3 q4 q5 q6 q7 q8 q9 q10 q11 q12 qt;obtain⟨⟨q0,q1,q2,q3,q4,q5,q6,q7,q8,q9,q10,q11,q12⟩,qt⟩:=HQ.o w2 HE2.o;have HLX0:=zGs t.lx ⟨(x0,t.lx.r.length,y0),(x1,t.lx.c.length,y1),(x2,t.lx.n.length,y2),(x3,t.lx.e.length,y3)⟩ t.tk.length S w2 (HIN.o w2 HE2.o).lx HFT.o.lx;cases hlx:rQ t.lx t.tk.length with
 | false =>
  have HF:Hd (yJ t=false):=jh (by simp only[yJ,hlx,Av1,Aw0]);rw[hlx]at HLX0;have HLX:=jh HLX0;clear HLX0 hlx;go_wp2_with fail
  refine HLX.o.mono ?_;rintro e w3 ⟨rfl,h3⟩;have HC1:=jh (HCE.o.trans (HE2.o.trans h3));clear h3 q0 q1 q2 q3 q4 q5 q6 q7 q8 q9 q10 q11 q12 qt;go_wp2;go_ret
  exact⟨by rw[HF.o];rfl,HC1.o⟩
 | true =>
 rw[hlx]at HLX0;have HLX:=jh HLX0;have HLB:=jh hlx;clear HLX0 hlx;go_wp2_with fail
 refine HLX.o.mono ?_;rintro e w3 ⟨rfl,h3⟩;have HE3:=jh (HE2.o.trans h3);clear h3 HLX HE2 q0 q1 q2 q3 q4 q5 q6 q7 q8 q9 q10 q11 q12 qt;obtain⟨⟨q0,q1,q2,q3,q4,q5,q6,q7,q8,q9,q10,q11,q12⟩,qt⟩:=HQ.o w3 HE3.o;have HNT0:=zKt t.nt ⟨(n0,t.nt.st.length,m0),(n1,t.nt.s.length,m1),(n2,t.nt.p.length,m2),(n3,t.nt.q.length,m3),(n4,t.nt.d.length,m4)⟩ S w3 (HIN.o w3 HE3.o).nt HFT.o.nt;cases hnt:tQ t.nt with
 | false =>
  have HF:Hd (yJ t=false):=jh (by simp only[yJ,hnt,Av1,Aw0]);rw[hnt]at HNT0;have HNT:=jh HNT0;clear HNT0 hnt;go_wp2_with fail
  refine HNT.o.mono ?_;rintro e w4 ⟨rfl,h4⟩;have HC1:=jh (HCE.o.trans (HE3.o.trans h4));clear h4 q0 q1 q2 q3 q4 q5 q6 q7 q8 q9 q10 q11 q12 qt;go_wp2;go_ret
  exact⟨by rw[HF.o];rfl,HC1.o⟩
 | true =>
 rw[hnt]at HNT0;have HNT:=jh HNT0;have HNB:=jh hnt;clear HNT0 hnt;go_wp2_with fail
 refine HNT.o.mono ?_;rintro e w4 ⟨rfl,h4⟩;have HE4:=jh (HE3.o.trans h4);clear h4 HNT HE3 q0 q1 q2 q3 q4 q5 q6 q7 q8 q9 q10 q11 q12 qt;obtain⟨⟨q0,q1,q2,q3,q4,q5,q6,q7,q8,q9,q10,q11,q12⟩,qt⟩:=HQ.o w4 HE4.o;have HC4:Hd (Cf w w4):=jh (HCE.o.trans HE4.o);by_cases c5:t.nt.s.length=t.rl.length
 rotate_left
 .have d5:((t.nt.s.length:Int) != (t.rl.length:Int))=true:=by rw[bne_iff_ne];omega
  have d5':(t.nt.s.length != t.rl.length)=true:=by rw[bne_iff_ne];omega
  have HF:Hd (yJ t=false):=jh (by simp only[yJ,decide_eq_false c5,Av1,Aw0]);clear c5;go_wp2;go_ret
  exact⟨by rw[HF.o];rfl,HC4.o⟩
 have d5:((t.nt.s.length:Int) != (t.rl.length:Int))=false:=by rw[bne_eq_false_iff_eq];omega
 have d5':(t.nt.s.length != t.rl.length)=false:=by rw[bne_eq_false_iff_eq];omega
 have H5:=jh c5;clear c5;by_cases c6:65536<t.nt.st.length
 .have d6:decide (65536<t.nt.st.length)=true:=decide_eq_true c6
  have d6':decide ((65536:Int)<(t.nt.st.length:Int))=true:=decide_eq_true oM;have HF:Hd (yJ t=false):=jh (by simp only[yJ,decide_eq_false (show ¬t.nt.st.length<=65536 by omega),Av1,Aw0]);go_wp2;go_ret
  exact⟨by rw[HF.o];rfl,HC4.o⟩
 have d6:decide (65536<t.nt.st.length)=false:=decide_eq_false c6;have d6':decide ((65536:Int)<(t.nt.st.length:Int))=false:=decide_eq_false oM;by_cases c7:t.lk.length=t.nt.d.length
 rotate_left
 .have d7:((t.lk.length:Int) != (t.nt.d.length:Int))=true:=by rw[bne_iff_ne];omega
  have d7':(t.lk.length != t.nt.d.length)=true:=by rw[bne_iff_ne];omega
  have HF:Hd (yJ t=false):=jh (by simp only[yJ,decide_eq_false c7,Av1,Aw0]);clear c7;go_wp2;go_ret
  exact⟨by rw[HF.o];rfl,HC4.o⟩
 have d7:((t.lk.length:Int) != (t.nt.d.length:Int))=false:=by rw[bne_eq_false_iff_eq];omega
 have d7':(t.lk.length != t.nt.d.length)=false:=by rw[bne_eq_false_iff_eq];omega
 have H7:Hd (t.lk.length=t.nt.d.length/\t.nt.st.length<=65536):=jh ⟨c7,oM⟩;clear c6 c7;have HDS:Hd (qE t.nt.st=t.nt.d):=jh (by
  have h:=HNB.o;simp only[tQ,Ay2,decide_eq_true_eq]at h;exact h.2)
 have HMB:Hd (yJ t=(jS t && !t.nt.st.any (λs=>s.2.1.any (sW t.tk.length)))):=jh (by
  simp only[yJ,HN1.o,HN2.o,HLB.o,HNB.o,decide_eq_true HA.o.1,decide_eq_true HA.o.2.1,decide_eq_true HA.o.2.2.1,decide_eq_true HA.o.2.2.2,decide_eq_true H5.o,decide_eq_true H7.o.1,decide_eq_true H7.o.2,Bool.not_false,Av7])
 go_wp2;clear d5 d5' d6 d6' d7 d7' q0 q1 q2 q3 q4 q5 q6 q7 q8 q9 q10 q11 q12 qt
 go_loopw [69] (λq wr=>∃i:Nat,i<=t.nt.d.length/\q=.int .i64 i/\(∀j,j<i->xN (t.lk.getD j []) ((t.nt.st.getD (t.nt.d.getD j 0).toNat (0,[],[])).2.2.length:Nat) t.tk.length=true)/\Cf we wr) (λq _=>t.nt.d.length-(intOf q).toNat)
 case atStart=>exact⟨0,oM,rfl,λj h=>absurd h (Ax _),HE4.o⟩
 case round =>
  clear HC4 HE4;obtain⟨i,hi,rfl,hb,hc⟩:=hrel;have HB:=jh hb;have HC:=jh hc;have HCW:Hd (Cf w wr):=jh (HCE.o.trans hc);have HTW:=jh (HIN.o wr hc);clear hb hc;by_cases hil:i<t.nt.d.length
  .have b9:decide ((i:Int)<(t.nt.d.length:Int))=true:=by simp;omega
   have hib:i<1000000000:=oM;obtain⟨x,gd,od,hx,rfl,cd,-,-,-,-⟩:=HTW.o.nt.d.getI hil;obtain⟨j,hj,hjl⟩:=mL t.nt.st 0 x (by rw[show yL 0 t.nt.st=t.nt.d from HDS.o];exact Az2 hx);rw[Ax0]at hj;subst hj;have hjb:j<1000000000:=oM;obtain⟨xs,⟨sr,sa,se⟩,gs,os,hs,hsr,hga,-,-,-,hcells⟩:=HTW.o.nt.st.get3 (f:=jA) rfl hjl rfl;obtain⟨xr,⟨aa,an,ac⟩,⟨ea,en,ec⟩⟩:=xs;obtain⟨-,-,-,hse⟩:=hsr;simp only at hse;obtain⟨rfl,-⟩:=hse.len;obtain⟨-,-,ce⟩:=hcells _ _ _ rfl;unfold slV at ce;simp only at ce;have hga:=hga.symm;subst hga;have hlk:i<t.lk.length:=(by have:=H7.o.1;omega);obtain⟨⟨ua,un,uc⟩,A,gl,ol,hA,hAR,hgl,-,-,cl⟩:=HTW.o.lk.get1 (f:=slV) rfl hlk (λ_=>rfl);have hgl:=hgl.symm;subst hgl;obtain⟨rfl,-⟩:=zJ.len hAR;unfold slV at cl;simp only at cl;have HARR:=jh hAR;have HAB:=jh (HFT.o.la A (Az2 hA));have hseb:se.length<=1000000000:=(HFT.o.nt.e _ (Az2 hs)).2;have HME:Hd (xN (t.lk.getD i []) ((t.nt.st.getD (t.nt.d.getD i 0).toNat (0,[],[])).2.2.length:Nat) t.tk.length=xN A se.length t.tk.length):=jh (by
    rw[Aw2,hA,Aw2,Aw2,hx];simp only[Option.getD_some,Ay6];rw[hs]
    rfl)
   clear hx hs hAR hA hse hcells;go_upto_region 21 with (fail)
   obtain⟨wd2,hwd⟩:∃W,wr.drew=W:=⟨_,rfl⟩;have HDD:Hd (Cf wr wd2):=jh (by rw[<-hwd];exact (Chg.refl _ _).drew);have HPM:Hd (∀w',Cf wd2 w'->Calls Tryz.prog 39 #[.agg #[.slice ua A.length uc],.int .i64 se.length,.int .i64 t.tk.length] w' λe w''=>e=.returned (.bool (xN A se.length t.tk.length))/\Cf w' w''):=jh (λw' hc=>zE6 A ua uc se.length t.tk.length S w' (mA.good.chg HARR.o (HDD.o.trans hc) iF) HAB.o.1 HAB.o.2 hseb oM);obtain⟨b,hb⟩:∃b,xN A se.length t.tk.length=b:=⟨_,rfl⟩;rw[hb]at HPM HME;clear hb;have HCEL:Hd (∀w',Cf wd2 w'->w'.cell? ⟨w.heap.size,12,none⟩=some (.slice (some ⟨gl,ol,none⟩) t.lk.length lc)/\w'.cell? ⟨gl,ol+i,none⟩=some (.slice ua A.length uc)/\w'.cell? ⟨w.heap.size,7,none⟩=some (.slice (some ⟨gs,os,none⟩) t.nt.st.length m0)/\w'.cell? ⟨gs,os+j * 3+2,none⟩=some (.slice ea se.length ec)/\w'.cell? ⟨bt,0,none⟩=some (.int .i64 t.tk.length)):=jh (λw' hc=>by
    have hd:=HDD.o.trans hc;obtain⟨⟨-,-,-,-,-,-,-,q7,-,-,-,-,q12⟩,qt⟩:=HQ.o wr HC.o;exact⟨hd.cellS q12 iD,hd.cellS cl iD,hd.cellS q7 iD,hd.cellS ce iD,hd.cellS qt iD⟩)
   clear cl ce cd;refine zW (λx=>Cf wd2 x) kR kR ?_ ?_
   .rw[hwd];exact Chg.refl _ _
   (iterate 14 (refine rf HCEL.o ?_))
   refine yS rfl (Value.bool b )  39  ( #[.agg #[.slice ua A.length uc],.int .i64 se.length,.int .i64 t.tk.length]) (λw'=>by go_simp) (λ_ w' _ hC=>?_) (λK hK=>?_)
   .refine (HPM.o w' hC).mono ?_
    rintro e w'' ⟨rfl,h⟩;exact⟨rfl,hC.trans h⟩
   ((try go_simp);refine hK _ ?_;clear hK K)
   (refine rq ?_);refine zQ ?_;intro w6 hc6;have HC6:=jh (HC.o.trans (HDD.o.trans hc6));have HCW6:=jh (HCE.o.trans HC6.o);clear hc6 HPM HCEL hwd;cases b with
   | false =>
    have HF:Hd (yJ t=false):=jh (by
     have:jS t=false:=by
      rw[jS,List.all_eq_false];exact⟨i,At2.2 hil,by rw[HME.o];exact Au1⟩
     rw[HMB.o,this,Aw0])
    go_wp2;go_ret
    exact⟨by rw[HF.o];rfl,HCW6.o⟩
   | true =>
    have HB2:Hd (∀j,j<i+1->xN (t.lk.getD j []) ((t.nt.st.getD (t.nt.d.getD j 0).toNat (0,[],[])).2.2.length:Nat) t.tk.length=true):=jh (λj' hj'=>by
     by_cases hji:j'=i
     .subst hji;exact HME.o
     .exact HB.o j' oM)
    go_wp2;go_roundw
    case rel=>exact⟨i+1,oM,by go_num,HB2.o,HC6.o⟩
    case measure=>simp[intOf];omega
  .obtain rfl:i=t.nt.d.length:=oM
   have b9:decide ((t.nt.d.length:Int)<(t.nt.d.length:Int))=false:=sI;have HLK:Hd (jS t=true):=jh (by
    rw[jS,Ax5];intro i hi;exact HB.o i (At2.1 hi))
   have HMC:Hd (yJ t=!t.nt.st.any (λs=>s.2.1.any (sW t.tk.length))):=jh (by rw[HMB.o,HLK.o,Av7]);obtain⟨⟨-,-,-,-,-,-,-,q7,-,-,-,-,-⟩,qt⟩:=HQ.o wr HC.o;have HCT:=jh (zFs (bR.good stR.good) 41 #[.pointer (some ⟨bt,0,none⟩)] (λs=>s.2.1.any (sW t.tk.length)) t.nt.st n0 m0 wr eg2 (zJ.bnd HTW.o.nt.st HFT.o.nt.e) (zK7 bt t.tk.length S wr qt) f_st);obtain⟨b,hb⟩:∃b,t.nt.st.any (λs=>s.2.1.any (sW t.tk.length))=b:=⟨_,rfl⟩;rw[hb]at HCT HMC;clear hb qt;go_wp2_with fail
   refine HCT.o.mono ?_;rintro e w6 ⟨rfl,hc6⟩;have HC6:=jh (HCW.o.trans hc6);clear hc6;go_wp2;go_ret
   exact⟨by rw[HMC.o];rfl,HC6.o⟩
theorem PSt.newF {pg B:Nat}{w w0:World}{Z:List Int}(h:PSt pg B w Z) (hc:Cf w w0) {k:Nat}(hk:w.heap.size<=k):¬Cp pg w0 k:=λe=>h.new hk ((h.chg hc (λ_ h=>h.elim)).2 _ e)
structure OkNt (n:NetD):Prop where
 st:n.st.length<=1000000000/\∀s∈n.st,okS s
 s:n.s.length<=1000000000/\∀z∈n.s,U32 z
 p:n.p.length<=1000000000/\∀z∈n.p,U32 z
 q:n.q.length<=1000000000/\∀z∈n.q,U32 z
theorem zPv {pg B:Nat}{Z:List Int}(n:NetD) (m:NetS) (w:World) (h:PSt pg B w Z) (hm:NetIn w (·<B) m n) (hok:OkNt n) (hl:(Z++aU n).length<=1000000000) :
  Calls Tryz.prog 29 #[.pointer (some ⟨pg,0,none⟩),netV m] w λe' w'=>e'=.returned (.tuple #[])/\Puts pg B w w' (Z++aU n):=by
 obtain⟨⟨sa,sn,sc⟩,⟨aa,an,ac⟩,⟨pa,pn,pc⟩,⟨qa,qn,qc⟩,⟨da,dn,dc⟩⟩:=m;obtain⟨h1,h2,h3,h4,h5⟩:=hm;obtain⟨rfl,-⟩:=h1.len;obtain⟨rfl,-⟩:=h2.len;obtain⟨rfl,-⟩:=h3.len;obtain⟨rfl,-⟩:=h4.len;simp only at h1 h2 h3 h4;have HL:Hd ((Z++zS vQ n.st).length<=1000000000/\((Z++zS vQ n.st)++zS zN n.s).length<=1000000000/\(((Z++zS vQ n.st)++zS zN n.s)++zS zN n.p).length<=1000000000/\((((Z++zS vQ n.st)++zS zN n.s)++zS zN n.p)++zS zN n.q).length<=1000000000):=jh (by
  simp only[aU,Az0]at hl ⊢;omega)
 obtain⟨w0,hw0⟩:∃W,W=(w.alloc (.cells #[.pointer (some ⟨pg,0,none⟩)] 81)).alloc (.cells #[.slice sa n.st.length sc,.slice aa n.s.length ac,.slice pa n.p.length pc,.slice qa n.q.length qc,.slice da dn dc] 31):=⟨_,rfl⟩;have hC0:Cf w w0:=by rw[hw0];exact ((Chg.refl _ w).alloc _).alloc _
 have hP0:Puts pg B w w0 Z:=h.fresh hC0;have HP0:=jh hP0;have n0:¬Cp pg w0 w.heap.size:=h.newF hC0 (Ay _);have n1:¬Cp pg w0 (w.heap.size+1):=h.newF hC0 oM;have c0:w0.cell? ⟨w.heap.size,0,none⟩=some (.pointer (some ⟨pg,0,none⟩)):=by rw[hw0];exact yG _ (vW _ _ rfl)
 have d0:w0.cell? ⟨w.heap.size+1,0,none⟩=some (.slice sa n.st.length sc):=by rw[hw0];exact zE _ sI rfl
 have d1:w0.cell? ⟨w.heap.size+1,1,none⟩=some (.slice aa n.s.length ac):=by rw[hw0];exact zE _ sI rfl
 have d2:w0.cell? ⟨w.heap.size+1,2,none⟩=some (.slice pa n.p.length pc):=by rw[hw0];exact zE _ sI rfl
 have d3:w0.cell? ⟨w.heap.size+1,3,none⟩=some (.slice qa n.q.length qc):=by rw[hw0];exact zE _ sI rfl
 have HK:Hd (∀W Z',Puts pg B w0 W Z'->W.cell? ⟨w.heap.size,0,none⟩=some (.pointer (some ⟨pg,0,none⟩))/\W.cell? ⟨w.heap.size+1,0,none⟩=some (.slice sa n.st.length sc)/\W.cell? ⟨w.heap.size+1,1,none⟩=some (.slice aa n.s.length ac)/\W.cell? ⟨w.heap.size+1,2,none⟩=some (.slice pa n.p.length pc)/\W.cell? ⟨w.heap.size+1,3,none⟩=some (.slice qa n.q.length qc)):=jh (λW Z' hp =>
  ⟨hp.keep n0 c0,hp.keep n1 d0,hp.keep n1 d1,hp.keep n1 d2,hp.keep n1 d3⟩)
 have HB0:Hd (PSb pg B w.heap.size w0 Z):=jh ⟨hP0.st,c0,n0⟩;have HES:Hd (∀W Z',Puts pg B w0 W Z'->zJ stE stR W (·<B) (sa,n.st.length,sc) n.st/\intE.InS W (·<B) (aa,n.s.length,ac) n.s/\intE.InS W (·<B) (pa,n.p.length,pc) n.p/\intE.InS W (·<B) (qa,n.q.length,qc) n.q):=jh (λW Z' hp=>by
  have hc:=(HP0.o.below h).trans ((hp.below HB0.o.g));exact⟨(zJ.good stR.good).chg h1 hc (λg hg e=>oM),h2.chg hc (λg hg e=>oM),h3.chg hc (λg hg e=>oM),h4.chg hc (λg hg e=>oM)⟩)
 have hmf:=mkfn;have eg:=enters_of Tryz.func66 kR rfl;have HOK:=jh hok;clear h hP0 n0 n1 c0 d0 d1 d2 d3 hl h1 h2 h3 h4 h5 hok hC0;show Calls Tryz.prog 29 #[.pointer (some ⟨pg,0,none⟩),.agg #[.slice sa n.st.length sc,.slice aa n.s.length ac,.slice pa n.p.length pc,.slice qa n.q.length qc,.slice da dn dc]] w _;go_enter Tryz.func29,Tryz.ntmps29
 go_upto_region 1 with (fail)
 rw[<-hw0];clear hw0;obtain⟨q0,q1,q2,q3,q4⟩:=HK.o w0 Z HB0.o.g.refl;go_wp2_with fail
 refine (zTu stR.good (zQ6 StD pg B w.heap.size) _ _ _ vQ okS eg (zFz pg B w.heap.size) n.st sa sc w0 _ HB0.o (HES.o w0 _ HB0.o.g.refl).1 HOK.o.st.2 HOK.o.st.1 HL.o.1).mono ?_;intro e1 w1 h1;obtain⟨rfl,hp1⟩:=h1.putsB;have HP1:=jh hp1;clear hp1 h1 q0 q1 q2 q3 q4;obtain⟨q0,q1,q2,q3,q4⟩:=HK.o w1 _ HP1.o;go_wp2_with fail
 refine (dU n.s aa ac w1 HP1.o.st (HES.o w1 _ HP1.o).2.1 HOK.o.s.2 HOK.o.s.1 HL.o.2.1).mono ?_;rintro e2 w2 ⟨rfl,hp2⟩;have HP2:=jh (HP1.o.trans hp2);clear hp2 q0 q1 q2 q3 q4;obtain⟨q0,q1,q2,q3,q4⟩:=HK.o w2 _ HP2.o;go_wp2_with fail
 refine (dU n.p pa pc w2 HP2.o.st (HES.o w2 _ HP2.o).2.2.1 HOK.o.p.2 HOK.o.p.1 HL.o.2.2.1).mono ?_;rintro e3 w3 ⟨rfl,hp3⟩;have HP3:=jh (HP2.o.trans hp3);clear hp3 q0 q1 q2 q3 q4;obtain⟨q0,q1,q2,q3,q4⟩:=HK.o w3 _ HP3.o;go_wp2_with fail
 refine (dU n.q qa qc w3 HP3.o.st (HES.o w3 _ HP3.o).2.2.2 HOK.o.q.2 HOK.o.q.1 HL.o.2.2.2).mono ?_;rintro e4 w4 ⟨rfl,hp4⟩;have HP4:=jh (HP0.o.trans (HP3.o.trans hp4));clear hp4 q0 q1 q2 q3 q4;go_wp2;go_end0
 refine⟨rfl,?_⟩;have:=HP4.o;simp only[Az5]at this;exact this
theorem aS {W:Nat}{R:List RowD}{O:List Int}(h:∀r∈R,r.2.length<=W):(xU ((W:Int),R,O)).length<=3+2 * R.length+2 * (R.length * W)+O.length:=by
 have cp:∀(l:List (Int×Int)) (last:Int),(zY last l).length=2 * l.length:=by
  intro l
  induction l with
  | nil=>intro last;rfl
  | cons c l ih=>intro last;simp only[zY,Ax2,ih];omega
 have key:∀(R:List RowD),(∀r∈R,r.2.length<=W)->(R.flatMap xG).length<=2 * R.length+2 * (R.length * W):=by
  intro R
  induction R with
  | nil=>intro _;simp
  | cons r R ih =>
   intro h;have h1:=ih (λx hx=>h x (by simp[hx]));have h2:=h r sI;have h4:(R.length+1) * W=R.length * W+W:=Nat.succ_mul _ _;simp only[List.flatMap_cons,Az0,Ax2];rw[h4];have h3:(xG r).length=2+2 * r.2.length:=(by simp only[xG,Ax2,cp];omega);omega
 have:=key R h;simp only[xU,Ax2,Az0];omega
theorem zD2 {pg B:Nat}{Z:List Int}(W:Nat) (LL:List (List Int)) (a:Option Addr) (c:Nat) (w:World) (h:PSt pg B w Z) (hL:sC w 0 (a,LL.length,c) LL) (hW:W<=65536) (hn:LL.length<=65536) (hmk:uG W LL=true) (hpr:LL.length * W<=4194304)
  (hl:(Z++vJ W LL).length<=1000000000) :
  Calls Tryz.prog 63 #[.pointer (some ⟨pg,0,none⟩),.int .i64 W,.slice a LL.length c] w λe' w'=>e'=.returned (.tuple #[])/\Puts pg B w w' (Z++vJ W LL):=by
 have hw:∀l∈LL,l.length=W:=λl hl=>by
  have:=Ax5.1 hmk l hl;simp only[pA,Ay2,decide_eq_true_eq]at this;omega
 have HMAY:=jh (zAt (W:=W) oM oM hn hmk);have HMK:=jh (zP5 (W:Int) LL a c 0 w hL oM oM hn (λl hl=>by rw[hw l hl];exact hW));have HP:=jh h;have HLEN:=jh (tC LL);have hOL:(yC LL).2.length<=65536:=by rw[(tC LL).2];exact hn
 have hRL:(yC LL).1.length<=65536:=Ay4 (tC LL).1 hn;have HCL:Hd (∀r∈(yC LL).1,r.2.length<=W):=jh (λr hr=>by
  obtain⟨l,hl,rfl⟩:=gG LL r hr;rw[<-hw l hl];exact uL _ _ _)
 have HNN:Hd ((xU ((W:Int),(yC LL).1,(yC LL).2)).length<=10000000):=jh (by
  have h1:=aS (O:=(yC LL).2) HCL.o;have h2:(yC LL).1.length * W<=LL.length * W:=Nat.mul_le_mul_right _ (tC LL).1;omega)
 have HZL:=jh hl;have HPT:Hd (vJ W LL=mC ((W:Int),(yC LL).1,(yC LL).2)):=jh rfl;have HBY:Hd (∀a∈vJ W LL,Byte a):=jh (zBv _);obtain⟨PT,hPT⟩:∃P,vJ W LL=P:=⟨_,rfl⟩;rw[hPT]at HZL HPT HBY ⊢;obtain⟨R,hR⟩:∃R,(yC LL).1=R:=⟨_,rfl⟩;obtain⟨O,hO⟩:∃O,(yC LL).2=O:=⟨_,rfl⟩;rw[hR]at hRL HCL;rw[hO]at hOL;rw[hR,hO]at HMAY HNN HPT;clear h hL hl hw hPT;go_enter Tryz.func63,Tryz.ntmps63
 go_wp2_with fail
 refine HMK.o.mono ?_;rintro e w1 (⟨hbad,-,-⟩|⟨-,ra,oa,rfl,hri,hoi,hc1⟩)
 .rw[hmk]at hbad;cases hbad
 rw[hR]at hri;rw[hO]at hoi;simp only[hR,hO,tabV];have HRI:=jh hri;have HC1:=jh hc1;obtain⟨g,o,HOAT,HOAP⟩:∃(g o:Nat),Hd (I.BytesAt w1 g o O)/\Hd (0<O.length->oa=some ⟨g,o,none⟩):=by
  rcases hoi with ⟨rfl,-⟩|⟨g,hg,hrow,-⟩
  .exact⟨0,0,jh ⟨λk a hk=>by simp at hk,λh=>absurd rfl h⟩,jh (λh=>absurd h sI)⟩
  .exact⟨g,0,jh (hrow.bytes (Aw6 _)),jh (λ_=>hg)⟩
 clear hri hoi hc1 HMK hmk;obtain⟨w2,hw2⟩:∃X,X=w1.alloc (.cells #[.int .i64 W,.slice ra R.length R.length,.slice oa O.length O.length] 201):=⟨_,rfl⟩;have HC2:Hd (Cf w1 w2):=jh (by rw[hw2];exact (Chg.refl _ _).alloc _);have k0:w2.cell? ⟨w1.heap.size,0,none⟩=some (.int .i64 W):=by rw[hw2,Az7];rfl
 have k1:w2.cell? ⟨w1.heap.size,1,none⟩=some (.slice ra R.length R.length):=by rw[hw2,Az7];rfl
 have k2:w2.cell? ⟨w1.heap.size,2,none⟩=some (.slice oa O.length O.length):=by rw[hw2,Az7];rfl
 go_upto_region 1 with (fail)
 rw[<-hw2];clear hw2;have HPUT:=jh (zSw [] (W:Int) R O ra oa none R.length O.length 0 0 0 _ g o w2 ⟨oM,oM⟩ (HRI.o.same HC2.o) oM (λr hr=>Ay4 (HCL.o r hr) oM) (HOAT.o.chg HC2.o iE) HOAP.o oM HMAY.o ⟨λj a hj=>by simp at hj,λh=>absurd rfl h⟩ (λh=>absurd h sI) sI HNN.o);rw[Aw7,<-HPT.o]at HPUT;simp only[Aw5]at HPUT;go_wp2_with fail
 refine HPUT.o.mono ?_;rintro e w3 ⟨hb,rfl,-,hr3,hc3⟩;have HR3:=jh hr3;have HC3:=jh (HC1.o.trans (HC2.o.trans hc3));clear hr3 hc3 k0 k1 k2 HPUT;have hP3:=HP.o.fresh HC3.o;have HP3:=jh hP3;obtain⟨v,hv,ho,hne⟩:=hP3.st.ex;obtain⟨va,vl,vc,rfl⟩:=ho.shape3;have HV:=jh hv;have HO:=jh ho;have HB:Hd (B<=w3.heap.size):=jh (by have:=hP3.st.lt;have:=hP3.st.le;omega);clear hP3 ho hne;go_wp2_with (at_builtin;refine rU rfl _ _ 45 rfl B (.slice va vl vc) Z PT (.slice (some ⟨hb,0,none⟩) PT.length PT.length) rfl rfl HO.o HB.o (tN (HR3.o.bytes (Aw6 _)) (λ_=>rfl)) HBY.o (by have:=HZL.o;rw[Az0]at this;omega) ?_;intro v' w4 HO1 HB1;obtain⟨va',vl',vc',hv'⟩:=HO1.o.shape3;subst hv';obtain⟨⟨k1,k2⟩,hf1⟩:=HP3.o.st.store HV.o cR HO1.o HB1.o.1 HB1.o.2;have HFF:=jh (HP3.o.trans hf1);clear hf1)
 go_wp2;go_end0
 exact⟨rfl,HFF.o⟩
structure OkLx (t:LexD):Prop where
 cl:t.c.length=t.r.length
 rl:t.r.length<=1000000000
 el:t.e.length<=1000000000
 rs:∀r∈t.r,U32 r.1/\U32 r.2
 cs:∀c∈t.c,0<=c/\c<=1000000000
 cw:xS t.c<=65536
 nl:t.n.length<=65536
 mo:uG (xS t.c) t.n=true
 pr:(t.n.length:Int) * xS t.c<=4194304
 eb:∀e∈t.e,-1<=e/\e<=1000000000
theorem zKk {pg B:Nat}{Z:List Int}(t:LexD) (m:LexS) (w:World) (h:PSt pg B w Z) (hm:LexIn w (·<B) m t) (hok:OkLx t) (hl:(Z++dS t).length<=1000000000) :
  Calls Tryz.prog 28 #[.pointer (some ⟨pg,0,none⟩),zHw m] w λe' w'=>e'=.returned (.tuple #[])/\Puts pg B w w' (Z++dS t):=by
 obtain⟨⟨ra,rn,rc⟩,⟨ca,cn,cc⟩,⟨na,nn,nc⟩,⟨ea,en,ec⟩⟩:=m;obtain⟨h1,h2,h3,h4⟩:=hm;obtain⟨rfl,-⟩:=h1.len;obtain⟨rfl,-⟩:=h2.len;obtain⟨rfl,-⟩:=h3.len;obtain⟨rfl,-⟩:=h4.len;simp only at h1 h2 h3 h4;obtain⟨NR,hNR⟩:∃n,t.r.length=n:=⟨_,rfl⟩;obtain⟨NE,hNE⟩:∃n,t.e.length=n:=⟨_,rfl⟩;have HNR:=jh hNR;have HNE:=jh hNE;have HNC:Hd (t.c.length=NR):=jh (by rw[<-hNR];exact hok.cl);have hr8:NR<=1000000000:=by rw[<-hNR];exact hok.rl
 have he8:NE<=1000000000:=by rw[<-hNE];exact hok.el
 obtain⟨W,hW⟩:=Aw8 (tW t.c);have HW:Hd (xS t.c=(W:Int)):=jh hW;obtain⟨RC,hRC⟩:∃x,t.r.zip t.c=x:=⟨_,rfl⟩;have HRC:Hd (RC.length=NR/\∀(k:Nat) r c,t.r[k]?=some r->t.c[k]?=some c->RC[k]?=some (r,c)):=jh (by
  rw[<-hRC];refine⟨by rw[Au7,hok.cl,hNR];omega,λk r c hr hc=>?_⟩;rw[List.getElem?_zip_eq_some];exact⟨hr,hc⟩)
 have HPT:Hd (dS t=putL NR++RC.flatMap ptRc++(vJ (W:Int) t.n++t.e.flatMap bW)):=jh (by
  unfold dS zS;rw[hRC,HRC.o.1,hW])
 have HTW:Hd (W<=65536/\t.n.length<=65536/\uG (W:Int) t.n=true/\t.n.length * W<=4194304):=jh (by
  have a1:=hok.cw;have a2:=hok.mo;have a3:=hok.pr;rw[hW]at a1 a2 a3;refine⟨oM,hok.nl,a2,?_⟩;have:((t.n.length * W:Nat):Int)=(t.n.length:Int) * (W:Int):=sI
  omega)
 have HL:Hd (∀k j,(Z++putL NR++(RC.take k).flatMap ptRc).length<=1000000000/\((Z++putL NR++RC.flatMap ptRc)++vJ (W:Int) t.n).length<=1000000000/\(((Z++putL NR++RC.flatMap ptRc)++vJ (W:Int) t.n)++(t.e.take j).flatMap bW).length<=1000000000):=jh (λk j=>by
  rw[HPT.o]at hl;have a1:=yU (enc:=ptRc) (L:=RC) k;have a2:=yU (enc:=bW) (L:=t.e) j;simp only[Az0]at hl ⊢;omega)
 obtain⟨w0,hw0⟩:∃X,X=w.alloc (.cells #[.slice ra NR rc,.slice ca t.c.length cc,.slice na t.n.length nc,.slice ea NE ec] 28):=⟨_,rfl⟩;have hC0:Cf w w0:=by rw[hw0];exact (Chg.refl _ w).alloc _
 have hP0:Puts pg B w w0 Z:=h.fresh hC0;have HP0:=jh hP0;have HZ0:=jh hP0.st;have n0:¬Cp pg w0 w.heap.size:=h.newF hC0 (Ay _);have d0:w0.cell? ⟨w.heap.size,0,none⟩=some (.slice ra NR rc):=by rw[hw0,Az7];rfl
 have d1:w0.cell? ⟨w.heap.size,1,none⟩=some (.slice ca t.c.length cc):=by rw[hw0,Az7];rfl
 have d2:w0.cell? ⟨w.heap.size,2,none⟩=some (.slice na t.n.length nc):=by rw[hw0,Az7];rfl
 have d3:w0.cell? ⟨w.heap.size,3,none⟩=some (.slice ea NE ec):=by rw[hw0,Az7];rfl
 have HK:Hd (∀W Z',Puts pg B w0 W Z'->W.cell? ⟨w.heap.size,0,none⟩=some (.slice ra NR rc)/\W.cell? ⟨w.heap.size,1,none⟩=some (.slice ca t.c.length cc)/\W.cell? ⟨w.heap.size,2,none⟩=some (.slice na t.n.length nc)/\W.cell? ⟨w.heap.size,3,none⟩=some (.slice ea NE ec)):=jh (λW Z' hp =>
  ⟨hp.keep n0 d0,hp.keep n0 d1,hp.keep n0 d2,hp.keep n0 d3⟩)
 have HES:Hd (∀X Z',Puts pg B w0 X Z'->rngE.InS X (·<B) (ra,t.r.length,rc) t.r/\intE.InS X (·<B) (ca,t.c.length,cc) t.c/\zJ nW (inR intE) X (·<B) (na,t.n.length,nc) t.n/\intE.InS X (·<B) (ea,t.e.length,ec) t.e):=jh (λX Z' hp=>by
  have hc:=(HP0.o.below h).trans ((hp.below HZ0.o));exact⟨h1.chg hc (λg hg e=>oM),h2.chg hc (λg hg e=>oM),(zJ.good inR.good).chg h3 hc (λg hg e=>oM),h4.chg hc (λg hg e=>oM)⟩)
 have HOK:=jh hok;have HRI:Hd (zN (NR:Int)=putL NR):=jh (by unfold zN;rw[Ay6]);have HZL:Hd (Z.length<=1000000000):=jh (by rw[Az0]at hl;omega);rw[HPT.o];show Calls Tryz.prog 28 #[.pointer (some ⟨pg,0,none⟩),.agg #[.slice ra t.r.length rc,.slice ca t.c.length cc,.slice na t.n.length nc,.slice ea t.e.length ec]] w _;rw[hNR,hNE];clear h hP0 n0 d0 d1 d2 d3 hl h1 h2 h3 h4 hok hC0 hNR hNE hW hRC;go_enter Tryz.func28,Tryz.ntmps28
 go_upto_region 1 with (fail)
 rw[<-hw0];clear hw0;obtain⟨q0,q1,q2,q3⟩:=HK.o w0 Z HZ0.o.refl;go_wp2_with fail
 refine (uA (NR:Int) w0 HZ0.o oM HZL.o).mono ?_;rintro e1 w1 ⟨rfl,hp1⟩;rw[HRI.o]at hp1;have HP1:=jh hp1;clear hp1 q0 q1 q2 q3;obtain⟨q0,q1,q2,q3⟩:=HK.o w1 _ HP1.o;go_upto_region 3 with (fail)
 go_loopw [16] (λq wr=>∃k:Nat,k<=NR/\q=.int .i64 k/\Puts pg B w0 wr (Z++putL NR++(RC.take k).flatMap ptRc)) (λq _=>NR-(intOf q).toNat)
 case atStart=>exact⟨0,oM,rfl,by simpa using HP1.o⟩
 case round =>
  clear HP1 q0 q1 q2 q3;obtain⟨k,hk,rfl,hp⟩:=hrel;have HP:=jh hp;clear hp;by_cases hkl:k<NR
  .have b9:decide ((k:Int)<(NR:Int))=true:=by simp;omega
   have hkr:k<t.r.length:=(by rw[HNR.o];exact hkl);have hkc:k<t.c.length:=(by rw[HNC.o];exact hkl);obtain⟨h1,h2,-,-⟩:=HES.o wr _ HP.o;obtain⟨⟨lo,hi⟩,d,g,o,hx,hr,rfl,-,-,-,hcells⟩:=(zJ.of h1).get2 (f:=zEj) rfl hkr rfl;obtain⟨c0,c1⟩:=hcells _ _ rfl;obtain⟨z,d',gc,oc,hxc,hrc,rfl,-,-,-,hcells'⟩:=(zJ.of h2).get1' (f:=zH0) rfl hkc rfl;have e0:=hcells' _ rfl;obtain rfl:(lo,hi)=d:=hr;obtain rfl:z=d':=hrc;have HX:Hd (RC[k]?=some ((lo,hi),z)):=jh (HRC.o.2 k _ _ hx hxc);obtain⟨o1,o2⟩:=HOK.o.rs _ (Az2 hx);obtain⟨o3,o4⟩:=HOK.o.cs _ (Az2 hxc);simp only at o1 o2;have HO:Hd (U32 lo/\U32 hi/\U32 z):=jh ⟨o1,o2,oM,oM⟩;have HLE:Hd ((Z++putL NR++(RC.take k).flatMap ptRc).length<=1000000000/\((Z++putL NR++(RC.take k).flatMap ptRc)++zN lo).length<=1000000000/\(((Z++putL NR++(RC.take k).flatMap ptRc)++zN lo)++zN hi).length<=1000000000):=jh (by
    have a1:=(HL.o (k+1) 0).1;rw[zU HX.o]at a1;simp only[ptRc,Az0]at a1 ⊢;omega)
   have w1':IntKind.i64.wrap lo=lo:=(by rw[IntKind.wrap_i64];omega);have w2':IntKind.i64.wrap hi=hi:=(by rw[IntKind.wrap_i64];omega);obtain⟨w4,hw4⟩:∃X,X=wr.alloc (.cells #[.int .i32 lo,.int .i32 hi] 117):=⟨_,rfl⟩;have hC4:Cf wr w4:=(by rw[hw4];exact (Chg.refl _ wr).alloc _);have HP4:Hd (Puts pg B w0 w4 (Z++putL NR++(RC.take k).flatMap ptRc)):=jh (HP.o.trans (HP.o.st.fresh hC4));have n4:¬Cp pg w4 wr.heap.size:=HP.o.st.newF hC4 (Ay _);have f0:w4.cell? ⟨wr.heap.size,0,none⟩=some (.int .i32 lo):=(by rw[hw4,Az7];rfl);have f1:w4.cell? ⟨wr.heap.size,1,none⟩=some (.int .i32 hi):=(by rw[hw4,Az7];rfl);have g0:∀X,Chg (λk=>B<=k) wr X->X.cell? ⟨gc,oc+k,none⟩=some (.int .i64 z)->True:=λ_ _ _=>trivial
   have hgc:gc<B:=by
    obtain⟨-,-,g',o',h5,h6⟩:=h2;obtain⟨h7,h8⟩:=h6 oM;injection h7 with h7;injection h7 with h7;rw[h7];exact h8
   have HK4:Hd (∀X Z',Puts pg B w4 X Z'->X.cell? ⟨wr.heap.size,0,none⟩=some (.int .i32 lo)/\X.cell? ⟨wr.heap.size,1,none⟩=some (.int .i32 hi)/\X.cell? ⟨gc,oc+k,none⟩=some (.int .i64 z)):=jh (λX Z' hp =>
    ⟨hp.keep n4 f0,hp.keep n4 f1,(hp.below HP4.o.st).cellS (hC4.cellS e0 iD) (by show ¬B<=gc;omega)⟩)
   clear hx hxc hcells hcells' o1 o2 o3 o4 n4 f0 f1 g0 hgc h1 h2 hC4 hkr;go_upto_region 5 with (fail)
   rw[<-hw4];clear hw4 e0;obtain⟨q0,q1,q2⟩:=HK4.o w4 _ HP4.o.st.refl;go_wp2_with fail
   refine (uA lo w4 HP4.o.st HO.o.1 HLE.o.1).mono ?_;rintro e5 w5 ⟨rfl,hp5⟩;have HP5:=jh hp5;clear hp5 q0 q1 q2;obtain⟨q0,q1,q2⟩:=HK4.o w5 _ HP5.o;go_wp2_with fail
   refine (uA hi w5 HP5.o.st HO.o.2.1 HLE.o.2.1).mono ?_;rintro e6 w6 ⟨rfl,hp6⟩;have HP6:=jh (HP5.o.trans hp6);clear hp6 q0 q1 q2;obtain⟨q0,q1,q2⟩:=HK4.o w6 _ HP6.o;obtain⟨r0,r1,r2,r3⟩:=HK.o w6 _ (HP4.o.trans HP6.o);clear q0 q1 r0 r2 r3;go_wp2_with fail
   refine (uA z w6 HP6.o.st HO.o.2.2 HLE.o.2.2).mono ?_;rintro e7 w7 ⟨rfl,hp7⟩;have HP7:Hd (Puts pg B w0 w7 (Z++putL NR++(RC.take (k+1)).flatMap ptRc)):=jh (by
    have:=HP4.o.trans (HP6.o.trans hp7);rw[zU HX.o];simp only[ptRc,Az5]at this ⊢;exact this)
   clear hp7 q2 r1;go_wp2;go_roundw
   case rel=>exact⟨k+1,oM,by go_num,HP7.o⟩
   case measure=>simp[intOf];omega
  .obtain rfl:k=NR:=oM
   have b9:decide ((k:Int)<(k:Int))=false:=sI;have hwhole:=HP.o;rw[Ax6 (by rw[HRC.o.1];exact Ay _)]at hwhole;have HPW:=jh hwhole;clear hwhole;go_upto_region 9 with (fail)
   obtain⟨wd,hwd⟩:∃X,wr.drew=X:=⟨_,rfl⟩;have HWD:Hd (Cf wr wd):=jh (by rw[<-hwd];exact (Chg.refl _ _).drew);refine zC (λx=>Cf wd x) (λi=>decide (i=5)) kR ?_;show yN _ _ _ _ _ _ 6 (Array.replicate 6 false) _ wr.drew;rw[hwd];clear hwd;have HSS:Hd (Cf wd wd):=jh cR;have HKD:Hd (∀X,Cf wd X->X.cell? ⟨w.heap.size,0,none⟩=some (.slice ra k rc)/\X.cell? ⟨w.heap.size,1,none⟩=some (.slice ca t.c.length cc)/\X.cell? ⟨w.heap.size,2,none⟩=some (.slice na t.n.length nc)/\X.cell? ⟨w.heap.size,3,none⟩=some (.slice ea NE ec)):=jh (λX hc=>HK.o X _ (HPW.o.trans (HPW.o.st.fresh (HWD.o.trans hc))));(refine lq 0 HSS.o ?_);(refine lf 1 HSS.o HKD.o ?_);(refine lq 3 HSS.o ?_);(refine lf 4 HSS.o HKD.o ?_);refine yE (i:=2) kR rfl rfl 64 #[.agg #[.slice ra k rc,.slice ca t.c.length cc,.slice na t.n.length nc,.slice ea NE ec]] (λu w''=>u=.int .i64 (W:Int)) (by go_simp) ?_ ?_
   .have h2:=(HES.o wd _ (HPW.o.trans (HPW.o.st.fresh HWD.o))).2.1
    have hc2:intE.In wd 0 (ca,t.c.length,cc) t.c:=Elt.InS.in' h2 (λ_ _=>Av _);have:=zAa t.c ra na ea ca k rc t.n.length nc NE ec cc 0 wd hc2 (by have:=HNC.o;omega) HOK.o.cs;rw[HW.o]at this;refine this.mono ?_;rintro e' w'' ⟨rfl,hc⟩;exact⟨_,rfl,λ_=>hc,rfl⟩
   rintro u w2 hs2 rfl K hK;have HC2:=jh (HWD.o.trans (hs2 dE));clear hs2;(try go_simp)
   refine hK _ ?_;clear hK K;have HP2:=jh (HPW.o.trans (HPW.o.st.fresh HC2.o));refine yE (i:=5) kR rfl rfl 63 #[.pointer (some ⟨pg,0,none⟩),.int .i64 (W:Int),.slice na t.n.length nc] (λu w''=>u=.tuple #[]/\Puts pg B w0 w'' ((Z++putL k++RC.flatMap ptRc)++vJ (W:Int) t.n)) (by go_simp) ?_ ?_
   .have h3:=(HES.o w2 _ HP2.o).2.2.1
    have hli:sC w2 0 (na,t.n.length,nc) t.n:=by
     have:=(zJ.good inR.good).mono h3 (S':=(0<=·)) (λ_ _ _=>Av _);exact this
    refine (zD2 W t.n na nc w2 HP2.o.st hli HTW.o.1 HTW.o.2.1 HTW.o.2.2.1 HTW.o.2.2.2 (HL.o 0 0).2.1).mono ?_;rintro e' w'' ⟨rfl,hp⟩;exact⟨_,rfl,λh=>absurd h dE,rfl,HP2.o.trans hp⟩
   rintro u w3-⟨rfl,hp3⟩ K hK;have HP3:=jh hp3;clear hp3;(try go_simp)
   refine hK _ ?_;clear hK K;refine yA kR ?_ _;obtain⟨q0,q1,q2,q3⟩:=HK.o w3 _ HP3.o;clear q0 q1 q2;go_upto_region 11 with (fail)
   go_loopw [48] (λq wr=>∃j:Nat,j<=NE/\q=.int .i64 j/\Puts pg B w0 wr (((Z++putL k++RC.flatMap ptRc)++vJ (W:Int) t.n)++(t.e.take j).flatMap bW)) (λq _=>NE-(intOf q).toNat)
   case atStart=>exact⟨0,oM,rfl,by simpa using HP3.o⟩
   case round =>
    clear HP3 q3;obtain⟨j,hj,rfl,hp⟩:=hrel;have HPJ:=jh hp;clear hp;by_cases hjl:j<NE
    .have b10:decide ((j:Int)<(NE:Int))=true:=by simp;omega
     have hje:j<t.e.length:=(by rw[HNE.o];exact hjl);obtain⟨-,-,-,h4⟩:=HES.o wr _ HPJ.o;obtain⟨z,d',gc,oc,hxc,hrc,rfl,-,-,-,hcells'⟩:=(zJ.of h4).get1' (f:=zH0) rfl hje rfl;have e0:=hcells' _ rfl;obtain rfl:z=d':=hrc;have HX:=jh hxc;obtain⟨o3,o4⟩:=HOK.o.eb _ (Az2 hxc);have HO:Hd (U32 (z+1)):=jh ⟨oM,oM⟩;have w1':wrap64 (z+1)=z+1:=(by unfold wrap64;omega);clear h4 hxc hcells' hje;go_wp2_with fail
     refine (uA (z+1) wr HPJ.o.st HO.o (HL.o 0 j).2.2).mono ?_;rintro e7 w7 ⟨rfl,hp7⟩;have HP7:Hd (Puts pg B w0 w7 (((Z++putL k++RC.flatMap ptRc)++vJ (W:Int) t.n)++(t.e.take (j+1)).flatMap bW)):=jh (by
      have:=HPJ.o.trans hp7;rw[zU HX.o];unfold bW at this ⊢;simp only[Az5]at this ⊢;exact this)
     clear hp7 e0;go_wp2;go_roundw
     case rel=>exact⟨j+1,oM,by go_num,HP7.o⟩
     case measure=>simp[intOf];omega
    .obtain rfl:j=NE:=oM
     have b10:decide ((j:Int)<(j:Int))=false:=sI;have HF:Hd (Puts pg B w wr (Z++(putL k++RC.flatMap ptRc++(vJ (W:Int) t.n++t.e.flatMap bW)))):=jh (by
      have:=HP0.o.trans HPJ.o;rw[Ax6 (by rw[HNE.o];exact Ay _)]at this;simp only[Az5]at this ⊢;exact this)
     go_wp2;go_end0
     exact⟨rfl,HF.o⟩
end Go.Proofs.YtgnpmceimpjheaaGreat
