/- A part of the proof: OthB OthC OthD GreN OpenB OpenI OpenT9. -/
import Derived.Test.YtgnpmceimpjheaaGreatGP15
import Derived.Test.YtgnpmceimpjheaaGreatGP9
import Derived.Test.YtgnpmceimpjheaaGreatGP1
import Derived.Test.YtgnpmceimpjheaaGreatGP3
import Derived.ProofKit
import Derived.OpenShut
import Derived.ShutString
import Derived.ChangeOld
import Derived.Deep.Slices
import Derived.Deep.Fields
import Derived.SizedLaws
import Derived.Deep.Matrix
set_option maxRecDepth 100000
set_option maxHeartbeats 16000000
namespace Go.Proofs.YtgnpmceimpjheaaGreat
open Go.RowKit
section
variable {β δ:Type}{E:Elt β}{R:Rp β δ}
def pR (P:Nat->Prop) (R:Rp β δ):Rp β δ:=λw S x d=>R w (λk=>S k/\P k) x d
theorem pR.good {P:Nat->Prop}(hR:Good R):Good (pR P R):=⟨λh hc hs=>hR.chg h hc (λg hg=>hs g hg.1),λh hs=>hR.mono h (λg hg hg2=>⟨hs g hg hg2.1,hg2.2⟩)⟩
theorem Mk.inP {P:Nat->Prop}{bx bo off:Nat}{w:World}{a:Option Addr}{n c:Nat}{acc:List δ}(h:Mk E (pR P R) bx bo off w (.slice a n c) acc) (hR:Good R) (hP:∀k,bo<k->P k) (hbx:bx<=bo):n=acc.length/\zJ E R w (λk=>P k/\k≠bo/\k≠bx) (a,n,c) acc:=by
 obtain⟨X,h1,h2,h3⟩:=h.ex;obtain⟨a',g,c',e1,e2,e3,e4⟩:=h1.at';injection e1 with e1 e5 e6;subst e1 e5 e6;refine⟨h2,X,⟨rfl,e2,g,0,e3,λhp=>⟨(e4 hp).1,by have:=(e4 hp).2;exact⟨hP g oM,oM,oM⟩⟩⟩,h2,λj x d hx hd=>hR.mono (h3 j x d hx hd) (λk _ hk=>⟨hk.2,hk.1.1⟩)⟩
end
theorem zGg (n:NetD) (m:NetS) (S:Nat->Prop) (w:World) (h:NetIn w S m n) (hf:FairN n) :
  Calls Tryz.prog 23 #[netV m] w λe w'=>∃m',e=.returned (netV m')/\DNetIn w' (λk=>S k\/w.heap.size<=k) m' n/\Cf w w':=by
 obtain⟨⟨sa,sn,sc⟩,⟨aa,an,ac⟩,⟨pa,pn,pc⟩,⟨qa,qn,qc⟩,⟨da,dn,dc⟩⟩:=m;have h':=NetIn.good.mono h (S':=λk=>k<w.heap.size/\S k) (λ_ hg hs=>⟨hg,hs⟩);clear h;obtain⟨h1,h2,h3,h4,h5⟩:=h';obtain⟨rfl,-⟩:=h1.len;obtain⟨rfl,-⟩:=h2.len;obtain⟨rfl,-⟩:=h3.len;obtain⟨rfl,-⟩:=h4.len;obtain⟨rfl,-⟩:=h5.len;simp only at h1 h2 h3 h4 h5;have HF:=jh hf;have f_st:=hf.st;obtain⟨w0,hw0⟩:∃W,W=(w.alloc (.cells #[.slice sa n.st.length sc,.slice aa n.s.length ac,.slice pa n.p.length pc,.slice qa n.q.length qc,.slice da n.d.length dc] 31)).alloc (.cells #[.slice none 0 0,.slice none 0 0,.slice none 0 0,.slice none 0 0,.slice none 0 0] 40):=⟨_,rfl⟩;obtain⟨w1,hw1⟩:∃W,W=w0.alloc (.cells #[.slice none 0 0,.slice aa n.s.length ac,.slice pa n.p.length pc,.slice qa n.q.length qc,.slice da n.d.length dc] 40):=⟨_,rfl⟩;have hC0:Cf w w0:=by rw[hw0];exact ((Chg.refl _ w).alloc _).alloc _
 have hC1:Cf w0 w1:=by rw[hw1];exact (Chg.refl _ w0).alloc _
 have hs0:w0.heap.size=w.heap.size+2:=by rw[hw0];simp
 obtain⟨br,hbr⟩:∃b,b=w.heap.size+1:=⟨_,rfl⟩;obtain⟨bo,hbo⟩:∃b,b=w.heap.size+1+1:=⟨_,rfl⟩;have HBN:Hd (br=w.heap.size+1/\bo=w.heap.size+2):=jh ⟨hbr,hbo⟩;have HN0:Hd (∀j v,([.slice sa n.st.length sc,.slice aa n.s.length ac,.slice pa n.p.length pc,.slice qa n.q.length qc,.slice da n.d.length dc]:List Value)[j]?=some v->w0.cell? ⟨w.heap.size,j,none⟩=some v):=jh (λj v hv=>by
  rw[hw0];exact yG _ (zE _ rfl (by rw[<-Ax9];exact hv)))
 have HR0:Hd (∀j,j<5->w1.cell? ⟨br,j,none⟩=some (.slice none 0 0)):=jh (λj hj=>hC1.cellS (by
  rw[hw0,hbr];exact zE _ sI (by rcases (by omega:j=0\/j=1\/j=2\/j=3\/j=4) with rfl|rfl|rfl|rfl|rfl <;> rfl)) iD)
 have HRZ:Hd (∀j,w1.frozen? ⟨br,j,none⟩=false):=jh (λj=>(hC1.frozen (p:=⟨br,j,none⟩) (by show br<w0.heap.size;omega) iD).trans (by
  have e:br=(w.alloc (.cells #[.slice sa n.st.length sc,.slice aa n.s.length ac,.slice pa n.p.length pc,.slice qa n.q.length qc,.slice da n.d.length dc] 31)).heap.size:=by rw[hbr];simp
  rw[hw0,e];exact Az8 _ _ _ _))
 have HO1:Hd (∀j v,([.slice none 0 0,.slice aa n.s.length ac,.slice pa n.p.length pc,.slice qa n.q.length qc,.slice da n.d.length dc]:List Value)[j]?=some v->w1.cell? ⟨bo,j,none⟩=some v):=jh (λj v hv=>by
  rw[hw1];exact zE _ (by rw[hs0,hbo]) (by rw[<-Ax9];exact hv))
 have HOZ:Hd (∀j,w1.frozen? ⟨bo,j,none⟩=false):=jh (λj=>by
  have e:bo=w0.heap.size:=by rw[hs0,hbo]
  rw[hw1,e];exact Az8 _ _ _ _)
 have HM1:Hd (Mk dStE (pR (λk=>S k\/w.heap.size<=k) dStR) br bo 0 w1 (.slice none 0 0) []):=jh ⟨HO1.o 0 _ rfl,HOZ.o 0,[],.nil _ _,rfl,λj x d hx=>by simp at hx⟩;have HC1:=jh (hC0.trans hC1);have HN1:Hd (∀j v,([.slice sa n.st.length sc,.slice aa n.s.length ac,.slice pa n.p.length pc,.slice qa n.q.length qc,.slice da n.d.length dc]:List Value)[j]?=some v->w1.cell? ⟨w.heap.size,j,none⟩=some v):=jh (λj v hv=>hC1.cellS (HN0.o j v hv) iD);have HIN:Hd (∀X,Chg (λk=>w.heap.size<=k) w X->NetIn X (λk=>k<w.heap.size/\S k) ⟨(sa,n.st.length,sc),(aa,n.s.length,ac),(pa,n.p.length,pc),(qa,n.q.length,qc),(da,n.d.length,dc)⟩ n):=jh (λX hx=>NetIn.good.chg ⟨h1,h2,h3,h4,h5⟩ hx (λg hg e=>by have:=hg.1;omega));have d1:=HN0.o 1 _ rfl;have d2:=HN0.o 2 _ rfl;have d3:=HN0.o 3 _ rfl;have d4:=HN0.o 4 _ rfl;clear h1 h2 h3 h4 h5 hf;show Calls Tryz.prog 23 #[.agg #[.slice sa n.st.length sc,.slice aa n.s.length ac,.slice pa n.p.length pc,.slice qa n.q.length qc,.slice da n.d.length dc]] w _;go_enter Tryz.func23,Tryz.ntmps23
 go_upto_region 1 with (fail)
 rw[<-hw0];have hw1':=hw1;clear hw0 hw1;go_upto_region 3 with (fail)
 rw[<-hw1',<-hbo,<-hbr];clear hw1' hbo hbr d1 d2 d3 d4 hC0 hC1 hs0
 go_loopw [4] (λq wr=>∃(i:Nat) (v:Value),i<=n.st.length/\q=.int .i64 i/\Mk dStE (pR (λk=>S k\/w.heap.size<=k) dStR) br bo 0 wr v (n.st.take i)/\(∀j u,([.slice none 0 0,.slice aa n.s.length ac,.slice pa n.p.length pc,.slice qa n.q.length qc,.slice da n.d.length dc]:List Value)[j]?=some u->j≠0->wr.cell? ⟨bo,j,none⟩=some u)/\Chg (λk=>bo<=k) w1 wr) (λq _=>n.st.length-(intOf q).toNat)
 case atStart=>exact⟨0,_,oM,rfl,HM1.o,λj u hu _=>HO1.o j u hu,Chg.refl _ _⟩
 case round =>
  clear HM1;obtain⟨i,v,hi,rfl,hm,ho,hc⟩:=hrel;obtain⟨wo,rfl⟩:∃wo:World,wo=wr:=⟨_,rfl⟩;have HM:=jh hm;have HO:=jh ho;have HC:=jh hc;have HCW:Hd (Chg (λk=>w.heap.size<=k) w wo):=jh (HC1.o.any.trans (hc.mono (λk _ e=>by have:=HBN.o;omega)));obtain⟨va,vl,vc,rfl⟩:=hm.own;have HBO:Hd (bo<wo.heap.size):=jh hm.lt;have HNX:Hd (∀X,Chg (λk=>bo<=k) w1 X->X.cell? ⟨w.heap.size,0,none⟩=some (.slice sa n.st.length sc)):=jh (λX hx=>hx.cellS (HN1.o 0 _ rfl) (by have:=HBN.o;show ¬bo<=w.heap.size;omega));have n0:=HNX.o wo hc;clear hm ho hc;by_cases hil:i<n.st.length
  .have hb9:decide ((i:Int)<(n.st.length:Int))=true:=by simp;omega
   obtain⟨⟨k,⟨ea,en,ec⟩,⟨ta,tn,tc⟩⟩,⟨kd,es,ds⟩,gx,ox,hx,⟨r1,r2,r3,r4⟩,rfl,hgx,-,-,hcells⟩:=(HIN.o _ HCW.o).st.get3 (f:=jA) rfl hil rfl;simp only at r1 r2 r3 r4;subst r1;obtain⟨rfl,-⟩:=r3.len;obtain⟨rfl,-⟩:=r4.len;have HX:=jh hx;obtain⟨lb1,lb2⟩:=HF.o.e _ (Az2 hx);simp only at lb1 lb2;obtain⟨x0,x1,x2⟩:=hcells _ _ _ rfl;simp only[slV]at x1 x2;have HCF:Hd (∀X,Chg (λk=>wo.heap.size<=k) wo X->X.cell? ⟨w.heap.size,0,none⟩=some (.slice (some ⟨gx,ox,none⟩) n.st.length sc)/\X.cell? ⟨gx,ox+i * 3,none⟩=some (.int .i64 k)/\X.cell? ⟨gx,ox+i * 3+1,none⟩=some (.slice ea es.length ec)/\X.cell? ⟨gx,ox+i * 3+2,none⟩=some (.slice ta ds.length tc)):=jh (λX hx =>
    ⟨hx.fresh.cellS n0 iD,hx.fresh.cellS x0 iD,hx.fresh.cellS x1 iD,hx.fresh.cellS x2 iD⟩)
   have HRE:Hd (I.Byte k/\qC.InS wo (·<w.heap.size) (ea,es.length,ec) es/\intE.InS wo (λk=>k<w.heap.size/\S k) (ta,ds.length,tc) ds):=jh ⟨r2,r3.mono (λ_ _ h=>h.1),r4⟩;clear hx hcells r2 r3 r4;go_upto_region 5 with (fail)
   clear x0 x1 x2 n0;obtain⟨wd,hwd⟩:∃X,wo.drew=X:=⟨_,rfl⟩;have HWD:Hd (Cf wo wd):=jh (by rw[<-hwd];exact (Chg.refl _ _).drew);have hsd:wd.heap.size=wo.heap.size:=(by rw[<-hwd];rfl);refine zC (λx=>Cf wd x) (λi=>decide (i=14)) kR ?_;show yN _ _ _ _ _ _ 15 (Array.replicate 15 false) _ wo.drew;rw[hwd];clear hwd;have HSS:Hd (Cf wd wd):=jh cR;(refine lq 0 HSS.o ?_);(refine lq 1 HSS.o ?_ (hr:=by intro w' hC;obtain⟨q0,q1,q2,q3⟩:=HCF.o _ (HWD.o.trans hC).any;go_simp;try with_reducible rfl));(refine lq 2 HSS.o ?_);(refine lq 3 HSS.o ?_);(refine lq 4 HSS.o ?_);(refine lq 5 HSS.o ?_ (hr:=by intro w' hC;obtain⟨q0,q1,q2,q3⟩:=HCF.o _ (HWD.o.trans hC).any;go_simp;try with_reducible rfl));(refine lq 6 HSS.o ?_);(refine lq 7 HSS.o ?_ (hr:=by intro w' hC;obtain⟨q0,q1,q2,q3⟩:=HCF.o _ (HWD.o.trans hC).any;go_simp;try with_reducible rfl));(refine lq 8 HSS.o ?_);(refine lq 9 HSS.o ?_);(refine lq 10 HSS.o ?_);(refine lq 11 HSS.o ?_ (hr:=by intro w' hC;obtain⟨q0,q1,q2,q3⟩:=HCF.o _ (HWD.o.trans hC).any;go_simp;try with_reducible rfl));(refine lq 12 HSS.o ?_);(refine lt 13 (λ_=>(Chg.refl _ _).alloc _) ?_);(refine ld 14 ?_);refine yA kR ?_ _;obtain⟨w5,hw5⟩:∃X,X=wd.alloc (.cells #[.int .i64 k,.slice none 0 0,.slice ta ds.length tc] 121):=⟨_,rfl⟩;rw[<-hw5];obtain⟨bs,hbs⟩:∃b,b=wo.heap.size:=⟨_,rfl⟩;rw[<-hbs];have HBS:Hd (bs=wo.heap.size):=jh hbs;have HC5:Hd (Cf wo w5):=jh (HWD.o.trans (by rw[hw5];exact (Chg.refl _ _).alloc _));have y0:w5.cell? ⟨bs,0,none⟩=some (.int .i64 k):=(by rw[hw5];exact zE _ (by rw[hbs,hsd]) rfl);have y1:w5.cell? ⟨bs,1,none⟩=some (.slice none 0 0):=(by rw[hw5];exact zE _ (by rw[hbs,hsd]) rfl);have y2:w5.cell? ⟨bs,2,none⟩=some (.slice ta ds.length tc):=(by rw[hw5];exact zE _ (by rw[hbs,hsd]) rfl);have z1:w5.frozen? ⟨bs,1,none⟩=false:=by
    rw[hw5,show bs=wd.heap.size by rw[hbs,hsd]];exact Az8 _ _ _ _
   have HM5:Hd (Mk cJ eqR bs bs 1 w5 (.slice none 0 0) []):=jh ⟨y1,z1,[],.nil _ _,rfl,λj x d hx=>by simp at hx⟩;have HY5:Hd (w5.cell? ⟨bs,0,none⟩=some (.int .i64 k)/\w5.cell? ⟨bs,2,none⟩=some (.slice ta ds.length tc)):=jh ⟨y0,y2⟩;clear hw5 hbs hsd y0 y1 y2 z1 HSS;obtain⟨q0,q1,q2,q3⟩:=HCF.o w5 HC5.o.any;go_upto_region 7 with (fail)
   go_loopw [6] (λq wr=>∃(j:Nat) (v:Value),j<=es.length/\q=.int .i64 j/\Mk cJ eqR bs bs 1 wr v (es.take j)/\(wr.cell? ⟨bs,0,none⟩=some (.int .i64 k)/\wr.cell? ⟨bs,2,none⟩=some (.slice ta ds.length tc))/\Chg (λk=>wo.heap.size<=k) wo wr) (λq _=>es.length-(intOf q).toNat)
   case atStart=>exact⟨0,_,oM,rfl,HM5.o,HY5.o,HC5.o.any⟩
   case round =>
    clear HM5 HY5 q0 q1 q2 q3;obtain⟨j,v,hj,rfl,hm,hy,hc⟩:=hrel;have HMJ:=jh hm;have HYJ:=jh hy;have HCJ:=jh hc;obtain⟨ua,ul,uc,rfl⟩:=hm.own;obtain⟨q0,q1,q2,q3⟩:=HCF.o wr hc;have HEW:Hd (qC.InS wr (·<w.heap.size) (ea,es.length,ec) es):=jh (HRE.o.2.1.chg hc.fresh iF);have m1:=hm.c;have mz:=hm.z;clear hm hy hc;by_cases hjl:j<es.length
    .have hb10:decide ((j:Int)<(es.length:Int))=true:=by simp;omega
     obtain⟨⟨t1,t2,t3⟩,f1,gl,ol,hx,hr1,rfl,-,-,hek,hcells⟩:=(zJ.of HEW.o).get3 (f:=aY) rfl hjl rfl;obtain rfl:(t1,t2,t3)=f1:=hr1;have HXE:=jh hx;obtain⟨⟨hk1,hk2⟩,hk3,hk4⟩:=hek;simp only at hk1 hk2 hk3 hk4;have hwk:IntKind.i64.wrap t1=t1:=(by rw[IntKind.wrap_i64];omega);have HOKE:Hd (∀x∈[((t1,t2,t3):qS)],cJ.ok x):=jh (λx hx=>by
      rw[Ay3.1 hx];exact⟨⟨by show -9223372036854775808<=t1;omega,by show t1<=9223372036854775807;omega⟩,hk3,hk4⟩)
     obtain⟨x0,x1,x2⟩:=hcells _ _ _ rfl;obtain⟨w7,hw7⟩:∃X,X=wr.alloc (.cells #[.int .u8 t1,.int .i64 t2,.int .i64 t3] 71):=⟨_,rfl⟩;have HC7:Hd (Cf wr w7):=jh (by rw[hw7];exact (Chg.refl _ _).alloc _);have e0:w7.cell? ⟨wr.heap.size,0,none⟩=some (.int .u8 t1):=(by rw[hw7];exact zE _ rfl rfl);have e1:w7.cell? ⟨wr.heap.size,1,none⟩=some (.int .i64 t2):=(by rw[hw7];exact zE _ rfl rfl);have e2:w7.cell? ⟨wr.heap.size,2,none⟩=some (.int .i64 t3):=(by rw[hw7];exact zE _ rfl rfl);have m7:=HC7.o.cellS m1 iD;clear hx hcells hk1 hk2 hk3 hk4;go_upto_region 10 with (fail)
     rw[<-hw7];clear hw7 x0 x1 x2 q0 q1 q2 q3 m1 mz;have HM7:=jh (HMJ.o.chg eqR.good HC7.o (λ_ h=>h.elim));obtain⟨X,h1,h2,h3⟩:=HM7.o.ex;have HO1:=jh h1;have HL1:=jh h2;have HR1:=jh h3;have HB1:Hd (bs+1<=w7.heap.size):=jh HM7.o.lt;have HXL:Hd (X.length<=1000000000):=jh (by rw[h2,Ax1];omega);clear h1 h2 h3;go_wp2_with (at_builtin;refine Elt.wpList_append2 cJ rfl _ _ 119 119 rfl rfl (bs+1) (.slice ua ul uc) X [((t1,t2,t3):qS)] (.slice (some ⟨w7.heap.size,0,none⟩) 1 1) rfl rfl (HO1.o.chg ((Chg.refl (λ_=>False) _).alloc _) (λ_ _ _ h=>h)) (by have:=HB1.o;simp;omega) (Elt.srcLit cJ (w:=w7) (Y:=[((t1,t2,t3):qS)]) (e:=123) 1 HOKE.o) HOKE.o (by have:=HXL.o;simp;omega) ?_;intro v' wb HO2 HC4 HB2;obtain⟨va',vl',vc',hv'⟩:=HO2.o.shape3;subst hv';obtain⟨⟨k1,k2⟩,hf1,hf2,hf3⟩:=Mk.step eqR.good (d:=((t1,t2,t3):qS)) HM7.o HL1.o HR1.o (λk hk=>by have:=HO1.o.blk hk;omega) ((Chg.refl (λ_=>False) w7).alloc _) rfl HO2.o HB2.o.1 HB2.o.2;have HFF:=jh hf1;have HCG:=jh hf2;have HYY:=jh hf3;clear hf1 hf2 hf3)
     have HYF:=jh (show _/\_ from ⟨HYY.o 0 _ dE (HC7.o.cellS HYJ.o.1 iD),HYY.o 2 _ dE (HC7.o.cellS HYJ.o.2 iD)⟩);have HCGF:=jh ((HCJ.o.trans HC7.o.any).trans2 HCG.o (λk hk e=>by
      have hb1:=HBS.o;rcases e with e|e
      .omega
      .have:=(HO1.o.blk e).1;omega))
     clear e0 e1 e2 m7;go_wp2;go_roundw
     case rel=>exact⟨j+1,_,oM,by go_num,by rw[Ay1,HXE.o];exact HFF.o,HYF.o,HCGF.o⟩
     case measure=>simp[intOf];omega
    .obtain rfl:j=es.length:=oM
     have hb10:decide ((es.length:Int)<(es.length:Int))=false:=sI;have HMF:Hd (Mk dStE (pR (λk=>S k\/w.heap.size<=k) dStR) br bo 0 wr (.slice va vl vc) (n.st.take i)):=jh (HM.o.chg (pR.good dStR.good) HCJ.o iE);obtain⟨Y,y1,y2,y3⟩:=HMF.o.ex;have HOY:=jh y1;have HLY:=jh y2;have HRY:=jh y3;have HBY:Hd (bo+1<=wr.heap.size):=jh HMF.o.lt;have HYL:Hd (Y.length<=1000000000):=jh (by rw[y2,Ax1];omega);obtain⟨hul,hli⟩:=HMJ.o.list eqR.good (Ay _);rw[Ax6 (Ay _)]at hul hli;subst hul;have s0:=HMF.o.c;obtain⟨s1,s2⟩:=HYJ.o;have HEL:Hd (cJ.InS wr (λk=>wo.heap.size<=k) (ua,es.length,uc) es):=jh (by
      obtain⟨X,h1,h2,h3⟩:=HMJ.o.ex;rw[Ax6 (Ay _)]at h2 h3;have hXe:X=es:=List.ext_getElem h2 (λj hx hl=>h3 j _ _ (Az hx) (Az hl));subst hXe;obtain⟨a',g,c',e1,e2,e3,e4⟩:=h1.at';injection e1 with e1 e5 e6;subst e1 e6;exact⟨rfl,e2,g,0,e3,λhp=>⟨(e4 hp).1,by have:=(e4 hp).2;have:=HBS.o;omega⟩⟩)
     have HOKS:Hd (∀x∈[((k,(ua,es.length,uc),(ta,ds.length,tc)):Int×Sl×Sl)],dStE.ok x):=jh (λx hx=>by
      rw[Ay3.1 hx];exact HRE.o.1)
     have HSS:Hd (∀X,Cf wr X->pR (λk=>S k\/w.heap.size<=k) dStR X (λq=>(q≠bo/\q≠br)/\(Value.slice va vl vc).ownBlock≠some q) (k,(ua,es.length,uc),(ta,ds.length,tc)) (k,es,ds)):=jh (λX hx=>by
      have hB:=HBN.o;have hBo:=HBO.o;refine⟨rfl,HRE.o.1,(HEL.o.chg hx iF).mono (λq _ hq=>⟨⟨⟨oM,oM⟩,λe=>?_⟩,.inr oM⟩),((HRE.o.2.2.chg HCJ.o.fresh iF).chg hx iF).mono (λq _ hq=>⟨⟨⟨by have:=hq.1;omega,by have:=hq.1;omega⟩,λe=>?_⟩,.inl hq.2⟩)⟩
      .obtain⟨Y',g1,-⟩:=HM.o.ex
       have:=(g1.blk e).2;omega
      .obtain⟨Y',g1,-⟩:=HM.o.ex
       have h0:=hq.1;have:=(g1.blk e).1;omega)
     clear y1 y2 y3 hli mz q1 q3;go_wp2_with (at_builtin;refine Elt.wpList_append2 dStE rfl _ _ 38 38 rfl rfl (bo+1) (.slice va vl vc) Y [((k,(ua,es.length,uc),(ta,ds.length,tc)):Int×Sl×Sl)] (.slice (some ⟨wr.heap.size,0,none⟩) 1 1) rfl rfl (HOY.o.chg ((Chg.refl (λ_=>False) _).alloc _) (λ_ _ _ h=>h)) (by have:=HBY.o;simp;omega) (Elt.srcLit dStE (w:=wr) (Y:=[((k,(ua,es.length,uc),(ta,ds.length,tc)):Int×Sl×Sl)]) (e:=121) 1 HOKS.o) HOKS.o (by have:=HYL.o;simp;omega) ?_;intro v' wb HO2 HC4 HB2;obtain⟨va',vl',vc',hv'⟩:=HO2.o.shape3;subst hv';obtain⟨⟨k1,k2⟩,hf1,hf2,hf3⟩:=Mk.step (pR.good dStR.good) (d:=((k,es,ds):StD)) HMF.o HLY.o HRY.o (λq hq=>by have:=HOY.o.blk hq;omega) ((Chg.refl (λ_=>False) wr).alloc _) (HSS.o _ ((Chg.refl (λ_=>False) wr).alloc _)) HO2.o HB2.o.1 HB2.o.2;have HFF:=jh hf1;have HCG:=jh hf2;have HYY:=jh hf3;clear hf1 hf2 hf3)
     have HOF:=jh (λ(j:Nat) (u:Value) (hu:([.slice none 0 0,.slice aa n.s.length ac,.slice pa n.p.length pc,.slice qa n.q.length qc,.slice da n.d.length dc]:List Value)[j]?=some u) (hj:j≠0)=>HYY.o j u hj (HCJ.o.fresh.cellS (HO.o j u hu hj) iD));have HCF2:=jh ((HC.o.trans2 HCJ.o (λk hk e=>by have:=HC.o.size;omega)).trans2 HCG.o (λq hq e=>by
      rcases e with e|e
      .omega
      .have:=(HOY.o.blk e).1;omega))
     clear s0 s1 s2 q0 q2 m1;go_wp2;go_roundw
     case rel=>exact⟨i+1,_,oM,by go_num,by rw[Ay1,HX.o];exact HFF.o,HOF.o,HCF2.o⟩
     case measure=>simp[intOf];omega
  .obtain rfl:i=n.st.length:=oM
   have hb9:decide ((n.st.length:Int)<(n.st.length:Int))=false:=sI;have HMF:=HM.o;rw[Ax6 (Ay _)]at HMF;obtain⟨hul,hli⟩:=HMF.inP dStR.good (λk hk=>.inr (by have:=HBN.o;omega)) (by have:=HBN.o;omega);subst hul;have s0:=HMF.c;have s1:=HO.o 1 _ rfl dE;have s2:=HO.o 2 _ rfl dE;have s3:=HO.o 3 _ rfl dE;have s4:=HO.o 4 _ rfl dE;have HLI:=jh hli;have hr:∀j,j<5->wo.cell? ⟨br,j,none⟩=some (.slice none 0 0):=λj hj=>HC.o.cellS (HR0.o j hj) (by have:=HBN.o;show ¬bo<=br;omega)
   have hz:∀j,wo.frozen? ⟨br,j,none⟩=false:=λj=>(HC.o.frozen (p:=⟨br,j,none⟩) (by have:=Az6 _ _ (HR0.o 0 dE);exact this) (by have:=HBN.o;show ¬bo<=br;omega)).trans (HRZ.o j)
   have u0:=hr 0 dE;have u1:=hr 1 dE;have u2:=hr 2 dE;have u3:=hr 3 dE;have u4:=hr 4 dE;have z0:=hz 0;have z1:=hz 1;have z2:=hz 2;have z3:=hz 3;have z4:=hz 4;obtain⟨wf,hwf⟩:∃X,X=xQ br 0 [.slice va n.st.length vc,.slice aa n.s.length ac,.slice pa n.p.length pc,.slice qa n.q.length qc,.slice da n.d.length dc] wo:=⟨_,rfl⟩;obtain⟨t1,-,t3,-⟩:=uC br [.slice va n.st.length vc,.slice aa n.s.length ac,.slice pa n.p.length pc,.slice qa n.q.length qc,.slice da n.d.length dc] 0 wo (λj hj=>by
    rw[Ax0,hr j hj];rfl)
   rw[<-hwf]at t1 t3;have HCF:Hd (Chg (λk=>w.heap.size<=k) w wf):=jh (HCW.o.trans (t3.mono (λk _ e=>by have:=HBN.o;omega)));have HDI:Hd (DNetIn wf (λk=>S k\/w.heap.size<=k) ⟨(va,n.st.length,vc),(aa,n.s.length,ac),(pa,n.p.length,pc),(qa,n.q.length,qc),(da,n.d.length,dc)⟩ n):=jh (by
    have hI:=HIN.o wf HCF.o;exact⟨(zJ.good dStR.good).mono ((zJ.good dStR.good).chg HLI.o t3 (λg hg e=>hg.2.2 e)) (λ_ _ h=>h.1),hI.s.mono (λ_ _ h=>.inl h.2),hI.p.mono (λ_ _ h=>.inl h.2),hI.q.mono (λ_ _ h=>.inl h.2),hI.d.mono (λ_ _ h=>.inl h.2)⟩)
   have v0:=t1 0 _ rfl;have v1:=t1 1 _ rfl;have v2:=t1 2 _ rfl;have v3:=t1 3 _ rfl;have v4:=t1 4 _ rfl;simp only[Ax0]at v0 v1 v2 v3 v4;simp only[xQ,Ax0,Nat.reduceAdd]at hwf;have HWF:=jh hwf;clear hwf t1 t3 hr hz hli HMF;go_wp2;rw[<-HWF.o];exact bodyPost_ret (v:=.agg #[.slice va n.st.length vc,.slice aa n.s.length ac,.slice pa n.p.length pc,.slice qa n.q.length qc,.slice da n.d.length dc]) (by simp[results,Tryz.results23,go_sem,v0,v1,v2,v3,v4]) rfl ⟨⟨(va,n.st.length,vc),(aa,n.s.length,ac),(pa,n.p.length,pc),(qa,n.q.length,qc),(da,n.d.length,dc)⟩,rfl,HDI.o,HCF.o.fresh⟩
end Go.Proofs.YtgnpmceimpjheaaGreat
namespace Go.Proofs.YtgnpmceimpjheaaGreat
open Go.RowKit
section
variable {β δ:Type}{E:Elt β}{R:Rp β δ}
def bR' (B:Nat) (R:Rp β δ):Rp β δ:=λw S x d=>R w (λk=>S k/\B<=k) x d
theorem bR'.good {B:Nat}(hR:Good R):Good (bR' B R):=⟨λh hc hs=>hR.chg h hc (λg hg=>hs g hg.1),λh hs=>hR.mono h (λg hg hg2=>⟨hs g hg hg2.1,hg2.2⟩)⟩
theorem Mk.fresh {B bx bo off:Nat}{w:World}{a:Option Addr}{n c:Nat}{acc:List δ}(h:Mk E (bR' B R) bx bo off w (.slice a n c) acc) (hR:Good R) (hB:B<=bo) (hbx:bx<=bo):n=acc.length/\zJ E R w (λk=>B<=k/\k≠bo/\k≠bx) (a,n,c) acc:=by
 obtain⟨X,h1,h2,h3⟩:=h.ex;obtain⟨a',g,c',e1,e2,e3,e4⟩:=h1.at';injection e1 with e1 e5 e6;subst e1 e5 e6;refine⟨h2,X,⟨rfl,e2,g,0,e3,λhp=>⟨(e4 hp).1,by have:=(e4 hp).2;exact⟨oM,oM,oM⟩⟩⟩,h2,λj x d hx hd=>hR.mono (h3 j x d hx hd) (λk _ hk=>⟨hk.2,hk.1.1⟩)⟩
end
structure LsNew (wo x:World) (bs:Nat) (k:Int) (ca:Option Addr) (cc:Nat) (ds:List Int):Prop where
 lo:wo.heap.size<=bs
 c0:x.cell? ⟨bs,0,none⟩=some (.int .i64 k)
 c1:x.cell? ⟨bs,1,none⟩=some (.slice ca ds.length cc)
 c2:x.cell? ⟨bs,2,none⟩=some (.slice none 0 0)
 z2:x.frozen? ⟨bs,2,none⟩=false
 al:intE.InS x (λq=>wo.heap.size<=q/\q≠bs) (ca,ds.length,cc) ds
 ch:Cf wo x
theorem LsNew.of {wo x x':World}{bs:Nat}{k:Int}{ca:Option Addr}{cc:Nat}{ds:List Int}(hc:Cf wo x) (hlo:wo.heap.size<=bs) (y0:x.cell? ⟨bs,0,none⟩=some (.int .i64 0)) (y1:x.cell? ⟨bs,1,none⟩=some (.slice none 0 0)) (y2:x.cell? ⟨bs,2,none⟩=some (.slice none 0 0)) (z:∀j,x.frozen? ⟨bs,j,none⟩=false)
  (ho:intE.InS x (λq=>wo.heap.size<=q/\q≠bs) (ca,ds.length,cc) ds) (hx:x'=xQ bs 0 [.int .i64 k,.slice ca ds.length cc,.slice none 0 0] x):LsNew wo x' bs k ca cc ds:=by
 obtain⟨k1,-,k3,k4⟩:=uC bs [.int .i64 k,.slice ca ds.length cc,.slice none 0 0] 0 x (λj hj=>by
  simp only[Ax2,Aw5]at hj;rcases (by omega:j=0\/j=1\/j=2) with rfl|rfl|rfl
  .rw[y0];rfl
  .rw[y1];rfl
  .rw[y2];rfl)
 rw[<-hx]at k1 k3 k4;exact⟨hlo,k1 0 _ rfl,k1 1 _ rfl,k1 2 _ rfl,(k4 _).trans (z 2),ho.chg k3 (λg hg e=>hg.2 e),hc.trans2 k3 (λk hk e=>oM)⟩
theorem zE7 (A:List LsD) (sa:Option Addr) (sc:Nat) (S:Nat->Prop) (w:World) (h:mA w S (sa,A.length,sc) A) (hA:A.length<=1000000000) (hb:∀d∈A,lsB d) :
  Calls Tryz.prog 24 #[.agg #[.slice sa A.length sc]] w λe w'=>∃s:Sl,e=.returned (.agg #[slV s])/\sJ w' (λk=>w.heap.size<=k) s A/\Cf w w':=by
 have h':=mA.good.mono h (S':=(·<w.heap.size)) (λ_ hg _=>hg);clear h;have HF:=jh hb;obtain⟨w0,hw0⟩:∃W,W=(w.alloc (.cells #[.slice sa A.length sc] 63)).alloc (.cells #[.slice none 0 0] 79):=⟨_,rfl⟩;obtain⟨w1,hw1⟩:∃W,W=w0.alloc (.cells #[.slice none 0 0] 79):=⟨_,rfl⟩;have hC0:Cf w w0:=by rw[hw0];exact ((Chg.refl _ w).alloc _).alloc _
 have hC1:Cf w0 w1:=by rw[hw1];exact (Chg.refl _ w0).alloc _
 have hs0:w0.heap.size=w.heap.size+2:=by rw[hw0];simp
 obtain⟨br,hbr⟩:∃b,b=w.heap.size+1:=⟨_,rfl⟩;obtain⟨bo,hbo⟩:∃b,b=w.heap.size+1+1:=⟨_,rfl⟩;have HBN:Hd (br=w.heap.size+1/\bo=w.heap.size+2):=jh ⟨hbr,hbo⟩;have HN0:Hd (w0.cell? ⟨w.heap.size,0,none⟩=some (.slice sa A.length sc)):=jh (by rw[hw0];exact yG _ (zE _ rfl rfl));have HR0:Hd (w1.cell? ⟨br,0,none⟩=some (.slice none 0 0)):=jh (hC1.cellS (by rw[hw0,hbr];exact zE _ sI rfl) iD);have HRZ:Hd (w1.frozen? ⟨br,0,none⟩=false):=jh ((hC1.frozen (p:=⟨br,0,none⟩) (by show br<w0.heap.size;omega) iD).trans (by
  have e:br=(w.alloc (.cells #[.slice sa A.length sc] 63)).heap.size:=by rw[hbr];simp
  rw[hw0,e];exact Az8 _ _ _ _))
 have HM1:Hd (Mk dLsE (bR' w.heap.size dLsR) br bo 0 w1 (.slice none 0 0) []):=jh ⟨by rw[hw1];exact zE _ (by rw[hs0,hbo]) rfl,by
  have e:bo=w0.heap.size:=by rw[hs0,hbo]
  rw[hw1,e];exact Az8 _ _ _ _,[],.nil _ _,rfl,λj x d hx=>by simp at hx⟩
 have HC1:=jh (hC0.trans hC1);have HN1:=jh (hC1.cellS HN0.o iD);have HIN:Hd (∀X,Chg (λk=>w.heap.size<=k) w X->mA X (·<w.heap.size) (sa,A.length,sc) A):=jh (λX hx=>mA.good.chg h' hx (λg hg e=>oM));have HAL:Hd (A.length<=1000000000):=jh hA;have d0:=HN0.o;clear h' hb;go_enter Tryz.func24,Tryz.ntmps24
 go_upto_region 1 with (fail)
 rw[<-hw0];have hw1':=hw1;clear hw0 hw1;go_upto_region 3 with (fail)
 rw[<-hw1',<-hbo,<-hbr];clear hw1' hbo hbr d0 hC0 hC1 hs0
 go_loopw [4] (λq wr=>∃(i:Nat) (v:Value),i<=A.length/\q=.int .i64 i/\Mk dLsE (bR' w.heap.size dLsR) br bo 0 wr v (A.take i)/\Chg (λk=>bo<=k) w1 wr) (λq _=>A.length-(intOf q).toNat)
 case atStart=>exact⟨0,_,oM,rfl,HM1.o,Chg.refl _ _⟩
 case round =>
  clear HM1;obtain⟨i,v,hi,rfl,hm,hc⟩:=hrel;obtain⟨wo,rfl⟩:∃wo:World,wo=wr:=⟨_,rfl⟩;have HM:=jh hm;have HC:=jh hc;have HCW:Hd (Chg (λk=>w.heap.size<=k) w wo):=jh (HC1.o.any.trans (hc.mono (λk _ e=>by have:=HBN.o;omega)));obtain⟨va,vl,vc,rfl⟩:=hm.own;have HBO:Hd (bo<wo.heap.size):=jh hm.lt;have n0:=hc.cellS HN1.o (by have:=HBN.o;show ¬bo<=w.heap.size;omega);clear hm hc;by_cases hil:i<A.length
  .have hb9:decide ((i:Int)<(A.length:Int))=true:=by simp;omega
   obtain⟨⟨k,⟨ca,cn,cc⟩,⟨ea,en,ec⟩⟩,⟨kd,ds,es⟩,gx,ox,hx,⟨r1,r2,r3,r4⟩,rfl,hgx,-,-,hcells⟩:=zJ.get3 (f:=zGy) (HIN.o _ HCW.o) rfl hil rfl;simp only at r1 r2 r3 r4;subst r1;obtain⟨rfl,-⟩:=r3.len;obtain⟨rfl,-⟩:=r4.len;have HX:=jh hx;obtain⟨lb1,lb2⟩:=HF.o _ (Az2 hx);simp only at lb1 lb2;obtain⟨x0,x1,x2⟩:=hcells _ _ _ rfl;simp only[slV]at x1 x2;have HCF:Hd (∀X,Chg (λk=>wo.heap.size<=k) wo X->X.cell? ⟨w.heap.size,0,none⟩=some (.slice (some ⟨gx,ox,none⟩) A.length sc)/\X.cell? ⟨gx,ox+i * 3,none⟩=some (.int .u8 k)/\X.cell? ⟨gx,ox+i * 3+1,none⟩=some (.slice ca ds.length cc)/\X.cell? ⟨gx,ox+i * 3+2,none⟩=some (.slice ea es.length ec)):=jh (λX hx =>
    ⟨hx.fresh.cellS n0 iD,hx.fresh.cellS x0 iD,hx.fresh.cellS x1 iD,hx.fresh.cellS x2 iD⟩)
   have HRE:Hd (U8 k/\intE.InS wo (·<w.heap.size) (ca,ds.length,cc) ds/\rY.InS wo (·<w.heap.size) (ea,es.length,ec) es):=jh ⟨r2,r3,r4⟩;obtain⟨hk1,hk2⟩:=r2;clear hx hcells r3 r4;go_upto_region 5 with (fail)
   have hwk:IntKind.i64.wrap k=k:=(by rw[IntKind.wrap_i64];omega);clear x0 x1 x2 n0
   go_cut [5] from 7 to 71 (λs5 w'=>∃(bs:Nat) (ca':Option Addr) (cc':Nat),s5=.pointer (some ⟨bs,0,none⟩)/\LsNew wo w' bs k ca' cc' ds)
   case first =>
    obtain⟨wd,hwd⟩:∃X,wo.drew=X:=⟨_,rfl⟩;have HWD:Hd (Cf wo wd):=jh (by rw[<-hwd];exact (Chg.refl _ _).drew);have HSD:Hd (wd.heap.size=wo.heap.size):=jh (by rw[<-hwd];rfl);refine zC (λx=>Cf wd x) (λi=>decide (i=16)) kR ?_;show yN _ _ _ _ _ _ 17 (Array.replicate 17 false) _ wo.drew;rw[hwd];clear hwd;have HSS:Hd (Cf wd wd):=jh cR;have HQ:Hd (∀x,Cf wd x->Chg (λk=>wo.heap.size<=k) wo x):=jh (λx hx=>(HWD.o.trans hx).any);(refine lq 0 HSS.o ?_);(refine lq 1 HSS.o ?_ (hr:=by intro w' hC;obtain⟨q0,q1,q2,q3⟩:=HCF.o _ (HQ.o _ hC);go_simp;try with_reducible rfl));(refine lq 2 HSS.o ?_);(refine lq 3 HSS.o ?_);(refine lq 4 HSS.o ?_);(refine lq 5 HSS.o ?_ (hr:=by intro w' hC;obtain⟨q0,q1,q2,q3⟩:=HCF.o _ (HQ.o _ hC);go_simp;try with_reducible rfl));(refine lq 6 HSS.o ?_);(refine lq 7 HSS.o ?_);(refine lq 8 HSS.o ?_ (hr:=by intro w' hC;obtain⟨q0,q1,q2,q3⟩:=HCF.o _ (HQ.o _ hC);go_simp;try with_reducible rfl));(refine lq 9 HSS.o ?_);(refine lq 10 HSS.o ?_);(refine lq 11 HSS.o ?_);(refine lq 12 HSS.o ?_ (hr:=by intro w' hC;obtain⟨q0,q1,q2,q3⟩:=HCF.o _ (HQ.o _ hC);go_simp;try with_reducible rfl));have HAPP:Hd (∀x ty,Cf wo x->∃v' w'',(Builtin.append_ #[25,25] ty #[.slice none 0 0,.slice ca ds.length cc]).run Tryz.prog x=.ok v' w''/\intE.Own w'' x.heap.size v' ds/\Cf x w''):=jh (λx ty hx=>by
     have hi:intE.InS x (·<w.heap.size) (ca,ds.length,cc) ds:=HRE.o.2.1.chg hx iF;obtain⟨-,-,g,o,h3,h4⟩:=hi;obtain⟨v',w'',g1,g2,-,g4,-⟩:=(Elt.Own.nil (E:=intE) x x.heap.size).append (Ay _) 25 (.slice ca ds.length cc) ds (h3.src (λhp=>(h4 hp).1)) h3.ok sO ty;exact⟨v',w'',g1,g2,g4.1.mono (λ_ _ h=>by cases h)⟩)
    refine zDg (i:=13) (j:=15) kR rfl rfl rfl rfl (.const (.slice none 0 0)) (.tmp 26) 25 25 rfl (.slice none 0 0) (.slice ca ds.length cc) rfl rfl (λv' x1=>intE.Own x1 wd.heap.size v' ds/\Cf wd x1) ?_ ?_ ?_
    .obtain⟨v',x1,g1,g2,g3⟩:=HAPP.o wd 25 HWD.o
     exact⟨v',x1,g1,λ_=>g3,g2,g3⟩
    .rintro v' x1 hs ⟨ho,hc⟩ K hK
     obtain⟨a0,k0,rfl,hk0,-⟩:=ho.clip;have HO:=jh ho;have HX:=jh hc;clear ho hc hs;(try go_simp)
     refine hK _ ?_;clear hK K;have HSS:=HX;(refine lq 14 HSS.o ?_);(refine lt 15 (λ_=>HX.o.alloc _) ?_);obtain⟨x2,hn⟩:∃x,x1.alloc (.cells #[.int .i64 0,.slice none 0 0,.slice none 0 0] 145)=x:=⟨_,rfl⟩;have hc2:Cf x1 x2:=(by rw[<-hn];exact (Chg.refl _ _).alloc _);obtain⟨y0,y1,y2,y3⟩:x2.cell? ⟨x1.heap.size,0,none⟩=some (.int .i64 0)/\x2.cell? ⟨x1.heap.size,1,none⟩=some (.slice none 0 0)/\x2.cell? ⟨x1.heap.size,2,none⟩=some (.slice none 0 0)/\∀j,x2.frozen? ⟨x1.heap.size,j,none⟩=false:=by
      rw[<-hn];exact⟨zE _ rfl rfl,zE _ rfl rfl,zE _ rfl rfl,λj=>Az8 _ _ _ _⟩
     rw[hn];clear hn;obtain⟨bs,hbs⟩:∃b,b=x1.heap.size:=⟨_,rfl⟩;rw[<-hbs];rw[<-hbs]at y0 y1 y2 y3;have z0:=y3 0;have z1:=y3 1;have z2:=y3 2;obtain⟨x3,hx3⟩:∃x,x=xQ bs 0 [.int .i64 k,.slice a0 ds.length k0,.slice none 0 0] x2:=⟨_,rfl⟩;have HLN:Hd (LsNew wo x3 bs k a0 k0 ds):=jh (LsNew.of ((HWD.o.trans HX.o).trans hc2) (by have:=HX.o.size;have:=HWD.o.size;omega) y0 y1 y2 y3 (by
      obtain⟨a',g,c',e1,e2,e3,e4⟩:=(HO.o.chg hc2 (λ_ _ _ h=>h)).at';injection e1 with e1 e5 e6;subst e1 e6;exact⟨rfl,e2,g,0,e3,λhp=>⟨(e4 hp).1,by
       have h1:=(e4 hp).2;have h2:=HO.o.blk (g:=g) (by rw[(e4 hp).1];rfl);have h3:=HWD.o.size;exact⟨oM,oM⟩⟩⟩) hx3)
     simp only[xQ,Ax0,Nat.reduceAdd]at hx3;have HX3:=jh hx3;have HBS:=jh hbs;clear hx3 y3 hc2 hbs;(refine ld 16 ?_);refine yA kR ?_ _;rw[<-HX3.o];clear y0 y1 y2 z0 z1 z2;go_wp2;go_meet
     exact⟨_,_,_,rfl,HLN.o⟩
    .intro K hK
     apply Ay7
     apply Ay7
     refine⟨?_,?_,?_⟩
     (go_simp;try first|with_reducible rfl|exact⟨rfl,rfl⟩)
     exact λ_=>(Chg.refl _ _).alloc _
     (try go_simp)
     refine hK _ _ ?_;clear hK K;obtain⟨x1,hn⟩:∃x,wd.alloc (.cells #[.int .i64 0,.slice none 0 0,.slice none 0 0] 145)=x:=⟨_,rfl⟩;have HC2:Hd (Cf wd x1/\x1.heap.size=wd.heap.size+1):=jh (by rw[<-hn];exact⟨(Chg.refl _ _).alloc _,sI⟩);have HY:Hd (x1.cell? ⟨wd.heap.size,0,none⟩=some (.int .i64 0)/\x1.cell? ⟨wd.heap.size,1,none⟩=some (.slice none 0 0)/\x1.cell? ⟨wd.heap.size,2,none⟩=some (.slice none 0 0)/\∀j,x1.frozen? ⟨wd.heap.size,j,none⟩=false):=jh (by
      rw[<-hn];exact⟨zE _ rfl rfl,zE _ rfl rfl,zE _ rfl rfl,λj=>Az8 _ _ _ _⟩)
     rw[hn];clear hn;refine xE (i:=13) kR rfl rfl (.const (.slice none 0 0)) (.tmp 26) 25 25 rfl (.slice none 0 0) (.slice ca ds.length cc) rfl rfl (λv' x2=>intE.Own x2 x1.heap.size v' ds/\Cf x1 x2) ?_ ?_
     .obtain⟨v',x2,g1,g2,g3⟩:=HAPP.o x1 25 (HWD.o.trans HC2.o.1)
      exact⟨v',x2,g1,λ_=>HC2.o.1.trans g3,g2,g3⟩
     rintro v' x2 hs ⟨ho,hc2⟩ K hK;obtain⟨a0,k0,rfl,hk0,-⟩:=ho.clip;have HO:=jh ho;have HX:Hd (Cf wd x2):=jh (HC2.o.1.trans hc2);obtain⟨y0,y1,y2,y3⟩:x2.cell? ⟨wd.heap.size,0,none⟩=some (.int .i64 0)/\x2.cell? ⟨wd.heap.size,1,none⟩=some (.slice none 0 0)/\x2.cell? ⟨wd.heap.size,2,none⟩=some (.slice none 0 0)/\∀j,x2.frozen? ⟨wd.heap.size,j,none⟩=false :=
      ⟨hc2.cellS HY.o.1 iD,hc2.cellS HY.o.2.1 iD,hc2.cellS HY.o.2.2.1 iD,λj=>(hc2.frozen (p:=⟨wd.heap.size,j,none⟩) (by have:=HC2.o.2;show wd.heap.size<x1.heap.size;omega) iD).trans (HY.o.2.2.2 j)⟩
     clear ho hs hc2;(try go_simp)
     refine hK _ ?_;clear hK K;obtain⟨bs,hbs⟩:∃b,b=wd.heap.size:=⟨_,rfl⟩;rw[<-hbs];rw[<-hbs]at y0 y1 y2 y3;have z0:=y3 0;have z1:=y3 1;have z2:=y3 2;obtain⟨x3,hx3⟩:∃x,x=xQ bs 0 [.int .i64 k,.slice a0 ds.length k0,.slice none 0 0] x2:=⟨_,rfl⟩;have HLN:Hd (LsNew wo x3 bs k a0 k0 ds):=jh (LsNew.of (HWD.o.trans HX.o) (by have:=HWD.o.size;omega) y0 y1 y2 y3 (by
      obtain⟨a',g,c',e1,e2,e3,e4⟩:=HO.o.at';injection e1 with e1 e5 e6;subst e1 e6;exact⟨rfl,e2,g,0,e3,λhp=>⟨(e4 hp).1,by
       have h1:=(e4 hp).2;have h3:=HWD.o.size;have h4:=HC2.o.2;exact⟨oM,oM⟩⟩⟩) hx3)
     simp only[xQ,Ax0,Nat.reduceAdd]at hx3;have HX3:=jh hx3;have HBS:=jh hbs;clear hx3 y3 hbs;have HSS:=HX;(refine lq 14 HSS.o ?_);(refine ld 16 ?_);refine yA kR ?_ _;rw[<-HX3.o];clear y0 y1 y2 z0 z1 z2;go_wp2;go_meet
     exact⟨_,_,_,rfl,HLN.o⟩
   case rest =>
    obtain⟨bs,ca',cc',rfl,hln⟩:=hcut;have HLN:=jh hln;have HBS:Hd (wo.heap.size<=bs/\bs<wc.heap.size):=jh ⟨hln.lo,Az6 _ _ hln.c0⟩;have HC5:Hd (Cf wo wc):=jh hln.ch;have HM5:Hd (Mk dLeE eqR bs bs 2 wc (.slice none 0 0) []):=jh ⟨hln.c2,hln.z2,[],.nil _ _,rfl,λj x d hx=>by simp at hx⟩;have HY5:Hd (wc.cell? ⟨bs,0,none⟩=some (.int .i64 k)/\wc.cell? ⟨bs,1,none⟩=some (.slice ca' ds.length cc')):=jh ⟨hln.c0,hln.c1⟩;clear hln hwk;obtain⟨q0,q1,q2,q3⟩:=HCF.o wc HC5.o.any;go_upto_region 7 with (fail)
    go_loopw [6] (λq wr=>∃(j:Nat) (v:Value),j<=es.length/\q=.int .i64 j/\Mk dLeE eqR bs bs 2 wr v (es.take j)/\(wr.cell? ⟨bs,0,none⟩=some (.int .i64 k)/\wr.cell? ⟨bs,1,none⟩=some (.slice ca' ds.length cc'))/\(∀q,v.ownBlock=some q->wc.heap.size<=q)/\Chg (λk=>k=bs\/wc.heap.size<=k) wc wr) (λq _=>es.length-(intOf q).toNat)
    case atStart=>exact⟨0,_,oM,rfl,HM5.o,HY5.o,λq hq=>(by cases hq),Chg.refl _ _⟩
    case round =>
     clear HM5 HY5 q0 q1 q2 q3;obtain⟨j,v,hj,rfl,hm,hy,hob,hc⟩:=hrel;have HMJ:=jh hm;have HYJ:=jh hy;have HOB:=jh hob;have HCJ:=jh hc;obtain⟨ua,ul,uc,rfl⟩:=hm.own;have HCX:Hd (Chg (λk=>wo.heap.size<=k) wo wr):=jh (HC5.o.any.trans (hc.mono (λk _ e=>by have:=HBS.o;omega)));obtain⟨q0,q1,q2,q3⟩:=HCF.o wr HCX.o;have HEW:Hd (rY.InS wr (·<w.heap.size) (ea,es.length,ec) es):=jh (HRE.o.2.2.chg HCX.o.fresh iF);clear hm hy hc hob;by_cases hjl:j<es.length
     .have hb10:decide ((j:Int)<(es.length:Int))=true:=by simp;omega
      obtain⟨⟨t1,t2⟩,f1,gl,ol,hx,hr1,rfl,hgl,-,hek,hcells⟩:=(zJ.of HEW.o).get2 (f:=uW) rfl hjl rfl;obtain rfl:(t1,t2)=f1:=hr1;have HXE:=jh hx;have HOKE:Hd (∀x∈[((t1,t2):Int×Int)],dLeE.ok x):=jh (λx hx=>by
       rw[Ay3.1 hx];exact hek)
      obtain⟨x0,x1⟩:=hcells _ _ rfl;have HE2:Hd (wr.cell? ⟨gl,ol+j * 2,none⟩=some (.int .i64 t1)/\wr.cell? ⟨gl,ol+j * 2+1,none⟩=some (.int .i64 t2)/\gl<w.heap.size):=jh ⟨x0,x1,hgl⟩;clear hx hcells x0 x1 hek hgl;go_upto_region 9 with (fail)
      clear q0 q1 q2 q3;obtain⟨wd,hwd⟩:∃X,wr.drew=X:=⟨_,rfl⟩;have HWD:Hd (Cf wr wd):=jh (by rw[<-hwd];exact (Chg.refl _ _).drew);refine zC (λx=>Chg (λq=>(Value.slice ua ul uc).ownBlock=some q) wd x) (λi=>decide (i=26)) kR ?_;show yN _ _ _ _ _ _ 27 (Array.replicate 27 false) _ wr.drew;rw[hwd];clear hwd;have HSS:Hd (Chg (λq=>(Value.slice ua ul uc).ownBlock=some q) wd wd):=jh cR;have HMD:=jh (HMJ.o.chg eqR.good HWD.o (λ_ h=>h.elim));obtain⟨X,h1,h2,h3⟩:=HMD.o.ex;have HO1:=jh h1;have HL1:=jh h2;have HR1:=jh h3;have HXL:Hd (X.length<=1000000000):=jh (by rw[h2,Ax1];omega);clear h1 h2 h3;have HQ:Hd (∀x,Chg (λq=>(Value.slice ua ul uc).ownBlock=some q) wd x->(x.cell? ⟨w.heap.size,0,none⟩=some (.slice (some ⟨gx,ox,none⟩) A.length sc)/\x.cell? ⟨gx,ox+i * 3+2,none⟩=some (.slice (some ⟨gl,ol,none⟩) es.length ec))/\(x.cell? ⟨gl,ol+j * 2,none⟩=some (.int .i64 t1)/\x.cell? ⟨gl,ol+j * 2+1,none⟩=some (.int .i64 t2))/\x.cell? ⟨bs,2,none⟩=some (.slice ua ul uc)):=jh (λx hx=>by
       have h1:Chg (λq=>wc.heap.size<=q) wr x:=HWD.o.any.trans (hx.mono (λq _ e=>HOB.o q e));obtain⟨g1,-,-,g2⟩:=HCF.o x (HCX.o.trans (h1.mono (λq _ e=>by have:=HBS.o;omega)));have hgl:=HE2.o.2.2;have hb:=HBS.o;have hwo:=HCW.o.size;exact⟨⟨g1,g2⟩,⟨h1.cellS HE2.o.1 (by show ¬wc.heap.size<=gl;omega),h1.cellS HE2.o.2.1 (by show ¬wc.heap.size<=gl;omega)⟩,h1.cellS HMJ.o.c (by show ¬wc.heap.size<=bs;omega)⟩)
      (refine lq 0 HSS.o ?_);(refine lf 1 HSS.o HQ.o ?_);(refine lq 2 HSS.o ?_);(refine lf 3 HSS.o HQ.o ?_);(refine lq 4 HSS.o ?_);(refine lq 5 HSS.o ?_);(refine lq 6 HSS.o ?_);(refine lf 7 HSS.o HQ.o ?_);(refine lq 8 HSS.o ?_);(refine lq 9 HSS.o ?_);(refine lq 10 HSS.o ?_);(refine lf 11 HSS.o HQ.o ?_);(refine lq 12 HSS.o ?_);(refine lf 13 HSS.o HQ.o ?_);(refine lq 14 HSS.o ?_);(refine lq 15 HSS.o ?_);(refine lq 16 HSS.o ?_);(refine lf 17 HSS.o HQ.o ?_);(refine lq 18 HSS.o ?_);(refine lq 19 HSS.o ?_);(refine lq 20 HSS.o ?_);(refine lf 21 HSS.o HQ.o ?_);(refine lq 22 HSS.o ?_);(refine lt 23 (λ_=>(Chg.refl _ _).alloc _) ?_);obtain⟨we,hwe⟩:∃X,X=wd.alloc (.cells #[.int .i64 t1,.int .i64 t2] 147):=⟨_,rfl⟩;have HWE:Hd (Cf wd we):=jh (by rw[hwe];exact (Chg.refl _ _).alloc _);have HSRC:Hd (Src Tryz.prog dLeE.sz dLeE.sl (.slice (some ⟨wd.heap.size,0,none⟩) 1 1) 1 (dLeE.encs [((t1,t2):Int×Int)]) we):=jh (by rw[hwe];exact dLeE.srcLit (Y:=[((t1,t2):Int×Int)]) 1 HOKE.o);have HME:=jh (HMD.o.chg eqR.good HWE.o (λ_ h=>h.elim));have HOE:=jh (HO1.o.chg HWE.o (λ_ _ _ h=>h));have HB1:Hd (bs+1<=we.heap.size):=jh HME.o.lt;rw[<-hwe];clear hwe;refine xE (i:=24) kR rfl rfl (.tmp 41) (.tmp 63) 143 143 rfl (.slice ua ul uc) (.slice (some ⟨wd.heap.size,0,none⟩) 1 1) rfl rfl (λv' wb=>dLeE.Own wb (bs+1) v' (X++[((t1,t2):Int×Int)])/\(Chg (λk=>(Value.slice ua ul uc).ownBlock=some k) we wb/\(v'.ownBlock=(Value.slice ua ul uc).ownBlock\/v'.ownBlock=some we.heap.size))) ?_ ?_
      .obtain⟨v',wb,hrun,h1,-,h4,-⟩:=HOE.o.append HB1.o 143 (.slice (some ⟨wd.heap.size,0,none⟩) 1 1) [((t1,t2):Int×Int)] HSRC.o HOKE.o (by have:=HXL.o;simp;omega) 143
       exact⟨v',wb,hrun,λ_=>HWE.o.any.trans h4.1,h1,h4⟩
      rintro v' wb hs ⟨o1,o2,o3⟩ K hK;obtain⟨va',vl',vc',hv'⟩:=o1.shape3;subst hv';obtain⟨⟨k1,k2⟩,hf1,hf2,hf3⟩:=Mk.step eqR.good (d:=((t1,t2):Int×Int)) HME.o HL1.o (λj x d hx hd=>eqR.good.chg (HR1.o j x d hx hd) HWE.o iF) (λk hk=>by have:=HOE.o.blk hk;omega) (Chg.refl (λ_=>False) we) rfl o1 o2 o3;have HFF:=jh hf1;have HYF:=jh (show _/\_ from ⟨hf3 0 _ dE (HWE.o.cellS (HWD.o.cellS HYJ.o.1 iD) iD),hf3 1 _ dE (HWE.o.cellS (HWD.o.cellS HYJ.o.2 iD) iD)⟩);have HOBF:Hd (∀q,(Value.slice va' vl' vc').ownBlock=some q->wc.heap.size<=q):=jh (λq hq=>by
       rcases o3 with e|e
       .exact HOB.o q (e ▸ hq)
       .rw[e]at hq
        have:=Az3 hq;have h1:=HCJ.o.size;have h2:=HWD.o.size;have h3:=HWE.o.size;omega)
      have HCGF:=jh ((HCJ.o.trans (HWD.o.any.trans HWE.o.any)).trans (hf2.mono (T:=λk=>k=bs\/wc.heap.size<=k) (λk _ e=>e.imp id (λe=>HOB.o k e))));have HSL:=jh (hs dE);clear hf1 hf2 hf3 o1 o2 o3 hs;(try go_simp)
      refine hK _ ?_;clear hK K;(refine lt 25 (λ_=>HSL.o) ?_);(refine ld 26 ?_);refine yA kR ?_ _;clear k1 k2;go_wp2;go_roundw
      case rel=>exact⟨j+1,_,oM,by go_num,by rw[Ay1,HXE.o];exact HFF.o,HYF.o,HOBF.o,HCGF.o⟩
      case measure=>simp[intOf];omega
     .obtain rfl:j=es.length:=oM
      have hb10:decide ((es.length:Int)<(es.length:Int))=false:=sI;have HMF:Hd (Mk dLsE (bR' w.heap.size dLsR) br bo 0 wr (.slice va vl vc) (A.take i)):=jh (HM.o.chg (bR'.good dLsR.good) HCX.o iE);obtain⟨Y,y1,y2,y3⟩:=HMF.o.ex;have HOY:=jh y1;have HLY:=jh y2;have HRY:=jh y3;have HBY:Hd (bo+1<=wr.heap.size):=jh HMF.o.lt;have HYL:Hd (Y.length<=1000000000):=jh (by have:=HAL.o;rw[y2,Ax1];omega);obtain⟨hul,hli⟩:=HMJ.o.list eqR.good (Ay _);rw[Ax6 (Ay _)]at hul hli;subst hul;have s0:=HMF.o.c;have sj:=HMJ.o.c;obtain⟨s1,s2⟩:=HYJ.o;have HEL:Hd (dLeE.InS wr (λk=>wo.heap.size<=k) (ua,es.length,uc) es):=jh (by
       obtain⟨X,h1,h2,h3⟩:=HMJ.o.ex;rw[Ax6 (Ay _)]at h2 h3;have hXe:X=es:=List.ext_getElem h2 (λj hx hl=>h3 j _ _ (Az hx) (Az hl));subst hXe;obtain⟨a',g,c',e1,e2,e3,e4⟩:=h1.at';injection e1 with e1 e5 e6;subst e1 e6;exact⟨rfl,e2,g,0,e3,λhp=>⟨(e4 hp).1,by have:=(e4 hp).2;have:=HBS.o;omega⟩⟩)
      have HDL:Hd (intE.InS wr (λk=>wo.heap.size<=k) (ca',ds.length,cc') ds):=jh (by
       obtain⟨h1,h2,g,o,h3,h4⟩:=HLN.o.al;have hx:intE.InS wr (λk=>wo.heap.size<=k/\k≠bs/\k<wc.heap.size) (ca',ds.length,cc') ds:=by
        refine Elt.InS.chg ⟨h1,h2,g,o,h3,λhp=>⟨(h4 hp).1,(h4 hp).2.1,(h4 hp).2.2,h3.lt (List.length_pos_iff.1 hp)⟩⟩ HCJ.o (λg hg e=>?_);rcases e with e|e
        .exact hg.2.1 e
        .omega
       exact hx.mono (λ_ _ h=>h.1))
      have HRB:Hd (I.Byte k):=jh (by obtain⟨h1,h2⟩:=HRE.o.1;exact⟨by show -9223372036854775808<=k;omega,by show k<=9223372036854775807;omega⟩);have HOKS:Hd (∀x∈[((k,(ca',ds.length,cc'),(ua,es.length,uc)):Int×Sl×Sl)],dLsE.ok x):=jh (λx hx=>by
       rw[Ay3.1 hx];exact HRB.o)
      have HSS:Hd (∀X,Cf wr X->bR' w.heap.size dLsR X (λq=>(q≠bo/\q≠br)/\(Value.slice va vl vc).ownBlock≠some q) (k,(ca',ds.length,cc'),(ua,es.length,uc)) (k,ds,es)):=jh (λX hx=>by
       have hB:=HBN.o;have hBo:=HBO.o;refine⟨rfl,HRB.o,(HDL.o.chg hx iF).mono (λq _ hq=>⟨⟨⟨oM,oM⟩,λe=>?_⟩,oM⟩),(HEL.o.chg hx iF).mono (λq _ hq=>⟨⟨⟨oM,oM⟩,λe=>?_⟩,oM⟩)⟩
       .obtain⟨Y',g1,-⟩:=HM.o.ex
        have:=(g1.blk e).2;omega
       .obtain⟨Y',g1,-⟩:=HM.o.ex
        have:=(g1.blk e).2;omega)
      clear y1 y2 y3 hli q1 q2;go_wp2_with (at_builtin;refine Elt.wpList_append2 dLsE rfl _ _ 77 77 rfl rfl (bo+1) (.slice va vl vc) Y [((k,(ca',ds.length,cc'),(ua,es.length,uc)):Int×Sl×Sl)] (.slice (some ⟨wr.heap.size,0,none⟩) 1 1) rfl rfl (HOY.o.chg ((Chg.refl (λ_=>False) _).alloc _) (λ_ _ _ h=>h)) (by have:=HBY.o;simp;omega) (Elt.srcLit dLsE (w:=wr) (Y:=[((k,(ca',ds.length,cc'),(ua,es.length,uc)):Int×Sl×Sl)]) (e:=145) 1 HOKS.o) HOKS.o (by have:=HYL.o;simp;omega) ?_;intro v' wb HO2 HC4 HB2;obtain⟨va',vl',vc',hv'⟩:=HO2.o.shape3;subst hv';obtain⟨⟨k1,k2⟩,hf1,hf2,hf3⟩:=Mk.step (bR'.good dLsR.good) (d:=((k,ds,es):LsD)) HMF.o HLY.o HRY.o (λq hq=>by have:=HOY.o.blk hq;omega) ((Chg.refl (λ_=>False) wr).alloc _) (HSS.o _ ((Chg.refl (λ_=>False) wr).alloc _)) HO2.o HB2.o.1 HB2.o.2;have HFF:=jh hf1;have HCG:=jh hf2;clear hf1 hf2 hf3)
      have HCF2:=jh ((HC.o.trans (HCX.o.mono (T:=λk=>bo<=k) (λk _ e=>by have:=HBO.o;omega))).trans2 HCG.o (λq hq e=>by
       rcases e with e|e
       .omega
       .have:=(HOY.o.blk e).1;omega))
      clear s0 s1 s2 sj q0 q3;go_wp2;go_roundw
      case rel=>exact⟨i+1,_,oM,by go_num,by rw[Ay1,HX.o];exact HFF.o,HCF2.o⟩
      case measure=>simp[intOf];omega
  .obtain rfl:i=A.length:=oM
   have hb9:decide ((A.length:Int)<(A.length:Int))=false:=sI;have HMF:=HM.o;rw[Ax6 (Ay _)]at HMF;obtain⟨hul,hli⟩:=HMF.fresh dLsR.good (by have:=HBN.o;omega) (by have:=HBN.o;omega);subst hul;have s0:=HMF.c;have HLI:=jh hli;have u0:wo.cell? ⟨br,0,none⟩=some (.slice none 0 0):=HC.o.cellS HR0.o (by have:=HBN.o;show ¬bo<=br;omega);have z0:wo.frozen? ⟨br,0,none⟩=false:=(HC.o.frozen (p:=⟨br,0,none⟩) (by have:=Az6 _ _ HR0.o;exact this) (by have:=HBN.o;show ¬bo<=br;omega)).trans HRZ.o;obtain⟨wf,hwf⟩:∃X,X=wo.setCell ⟨br,0,none⟩ (.slice va A.length vc):=⟨_,rfl⟩;have t3:Chg (·=br) wo wf:=(by rw[hwf];exact zA _ _ _ _);have v0:wf.cell? ⟨br,0,none⟩=some (.slice va A.length vc):=(by rw[hwf];exact Az9 _ _ _ u0);have HCF:Hd (Chg (λk=>w.heap.size<=k) w wf):=jh (HCW.o.trans (t3.mono (λk _ e=>by have:=HBN.o;omega)));have HDI:Hd (sJ wf (λk=>w.heap.size<=k) (va,A.length,vc) A):=jh ((zJ.good dLsR.good).mono ((zJ.good dLsR.good).chg HLI.o t3 (λg hg e=>hg.2.2 e)) (λg _ hg=>hg.1));have HWF:=jh hwf;clear hwf t3 hli HMF;go_wp2;rw[<-HWF.o];exact bodyPost_ret (v:=.agg #[.slice va A.length vc]) (by simp[results,Tryz.results24,go_sem,v0]) rfl ⟨(va,A.length,vc),rfl,HDI.o,HCF.o.fresh⟩
end Go.Proofs.YtgnpmceimpjheaaGreat
namespace Go.Proofs.YtgnpmceimpjheaaGreat
open Go.RowKit
structure DocNew (w0 x:World) (bo:Nat) (L:List Value) (mn:NetS) (n:NetD):Prop where
 lo:w0.heap.size<=bo
 c:∀j v,L[j]?=some v->x.cell? ⟨bo,j,none⟩=some v
 z:x.frozen? ⟨bo,12,none⟩=false
 nt:DNetIn x (λq=>q≠bo/\q+1≠w0.heap.size) mn n
 ch:Cf w0 x
theorem DocNew.of {w0 x x':World}{bo:Nat}{L:List Value}{mn:NetS}{n:NetD}(hL:L.length=13) (hc:Cf w0 x) (hlo:w0.heap.size<=bo) (y:∀j,j<13->x.cell? ⟨bo,j,none⟩=some (.slice none 0 0)) (z:∀j,x.frozen? ⟨bo,j,none⟩=false) (hn:DNetIn x (λq=>q≠bo/\q+1≠w0.heap.size) mn n)
  (hx:x'=xQ bo 0 L x):DocNew w0 x' bo L mn n:=by
 obtain⟨k1,-,k3,k4⟩:=uC bo L 0 x (λj hj=>by
  rw[Ax0,y j oM];rfl)
 rw[<-hx]at k1 k3 k4;exact⟨hlo,λj v hv=>by have:=k1 j v hv;rwa [Ax0]at this,(k4 _).trans (z 12),DNetIn.good.chg hn k3 (λg hg e=>hg.1 e),hc.trans2 k3 (λk hk e=>oM)⟩
theorem DNetIn.len {w:World}{S:Nat->Prop}{m:NetS}{n:NetD}(h:DNetIn w S m n):∃b7 d7 b8 d8 b9 d9 b10 d10 b11 d11,m=⟨(b7,n.st.length,d7),(b8,n.s.length,d8),(b9,n.p.length,d9),(b10,n.q.length,d10),(b11,n.d.length,d11)⟩:=by
 obtain⟨⟨b7,k7,d7⟩,⟨b8,k8,d8⟩,⟨b9,k9,d9⟩,⟨b10,k10,d10⟩,⟨b11,k11,d11⟩⟩:=m;obtain⟨h1,h2,h3,h4,h5⟩:=h;obtain⟨rfl,-⟩:=h1.len;obtain⟨rfl,-⟩:=h2.len;obtain⟨rfl,-⟩:=h3.len;obtain⟨rfl,-⟩:=h4.len;obtain⟨rfl,-⟩:=h5.len;exact⟨_,_,_,_,_,_,_,_,_,_,rfl⟩
theorem zD3 (t:TabsD) (m:TabsS) (S:Nat->Prop) (w:World) (h:TabsIn w S m t) (hf:FairTabs t) :
  Calls Tryz.prog 9 #[gY m] w λe w'=>∃m',e=.returned (gY m')/\DocIn w' (λ_=>True) m' t/\Cf w w':=by
 obtain⟨⟨a0,n0,c0⟩,⟨a1,n1,c1⟩,⟨a2,n2,c2⟩,⟨⟨a3,n3,c3⟩,⟨a4,n4,c4⟩,⟨a5,n5,c5⟩,⟨a6,n6,c6⟩⟩,⟨⟨a7,n7,c7⟩,⟨a8,n8,c8⟩,⟨a9,n9,c9⟩,⟨a10,n10,c10⟩,⟨a11,n11,c11⟩⟩,⟨a12,n12,c12⟩⟩:=m;have h':=TabsIn.good.mono h (S':=(·<w.heap.size)) (λ_ hg _=>hg);obtain⟨h0,h1,h2,⟨h3,h4,h5,h6⟩,⟨h7,h8,h9,h10,h11⟩,h12⟩:=h;obtain⟨rfl,-⟩:=h0.len;obtain⟨rfl,-⟩:=h1.len;obtain⟨rfl,-⟩:=h2.len;obtain⟨rfl,-⟩:=h3.len;obtain⟨rfl,-⟩:=h4.len;obtain⟨rfl,-⟩:=h5.len;obtain⟨rfl,-⟩:=h6.len;obtain⟨rfl,-⟩:=h7.len;obtain⟨rfl,-⟩:=h8.len;obtain⟨rfl,-⟩:=h9.len;obtain⟨rfl,-⟩:=h10.len;obtain⟨rfl,-⟩:=h11.len;obtain⟨rfl,-⟩:=h12.len;clear h0 h1 h2 h3 h4 h5 h6 h7 h8 h9 h10 h11 h12;have HF:=jh hf;have HAL:Hd (t.lk.length<=1000000000):=jh hf.lk;obtain⟨w0,hw0⟩:∃W,W=(w.alloc (.cells #[.slice a0 t.rl.length c0,.slice a1 t.tk.length c1,.slice a2 t.dr.length c2,.slice a3 t.lx.r.length c3,.slice a4 t.lx.c.length c4,.slice a5 t.lx.n.length c5,.slice a6 t.lx.e.length c6,.slice a7 t.nt.st.length c7,.slice a8 t.nt.s.length c8,.slice a9 t.nt.p.length c9,.slice a10 t.nt.q.length c10,.slice a11 t.nt.d.length c11,.slice a12 t.lk.length c12] 34)).alloc (.cells #[.slice none 0 0,.slice none 0 0,.slice none 0 0,.slice none 0 0,.slice none 0 0,.slice none 0 0,.slice none 0 0,.slice none 0 0,.slice none 0 0,.slice none 0 0,.slice none 0 0,.slice none 0 0,.slice none 0 0] 43):=⟨_,rfl⟩;have hC0:Cf w w0:=by rw[hw0];exact ((Chg.refl _ w).alloc _).alloc _
 have hs0:w0.heap.size=w.heap.size+2:=by rw[hw0];simp
 obtain⟨br,hbr⟩:∃b,b=w.heap.size+1:=⟨_,rfl⟩;have HBN:Hd (br=w.heap.size+1/\w0.heap.size=w.heap.size+2):=jh ⟨hbr,hs0⟩;have HN0:Hd (∀j v,([.slice a0 t.rl.length c0,.slice a1 t.tk.length c1,.slice a2 t.dr.length c2,.slice a3 t.lx.r.length c3,.slice a4 t.lx.c.length c4,.slice a5 t.lx.n.length c5,.slice a6 t.lx.e.length c6,.slice a7 t.nt.st.length c7,.slice a8 t.nt.s.length c8,.slice a9 t.nt.p.length c9,.slice a10 t.nt.q.length c10,.slice a11 t.nt.d.length c11,.slice a12 t.lk.length c12]:List Value)[j]?=some v->w0.cell? ⟨w.heap.size,j,none⟩=some v):=jh (λj v hv=>by
  rw[hw0];exact yG _ (zE _ rfl (by rw[<-Ax9];exact hv)))
 have HR0:Hd (∀j,j<13->w0.cell? ⟨br,j,none⟩=some (.slice none 0 0)):=jh (λj hj=>by
  rw[hw0,hbr];exact zE _ sI (by rcases (by omega:j=0\/j=1\/j=2\/j=3\/j=4\/j=5\/j=6\/j=7\/j=8\/j=9\/j=10\/j=11\/j=12) with rfl|rfl|rfl|rfl|rfl|rfl|rfl|rfl|rfl|rfl|rfl|rfl|rfl <;> rfl))
 have HRZ:Hd (∀j,w0.frozen? ⟨br,j,none⟩=false):=jh (λj=>by
  have e:br=(w.alloc (.cells #[.slice a0 t.rl.length c0,.slice a1 t.tk.length c1,.slice a2 t.dr.length c2,.slice a3 t.lx.r.length c3,.slice a4 t.lx.c.length c4,.slice a5 t.lx.n.length c5,.slice a6 t.lx.e.length c6,.slice a7 t.nt.st.length c7,.slice a8 t.nt.s.length c8,.slice a9 t.nt.p.length c9,.slice a10 t.nt.q.length c10,.slice a11 t.nt.d.length c11,.slice a12 t.lk.length c12] 34)).heap.size:=by rw[hbr];simp
  rw[hw0,e];exact Az8 _ _ _ _)
 have HC0:=jh hC0;have HIN:Hd (∀X,Chg (λk=>w.heap.size<=k) w X->TabsIn X (·<w.heap.size) ⟨(a0,t.rl.length,c0),(a1,t.tk.length,c1),(a2,t.dr.length,c2),⟨(a3,t.lx.r.length,c3),(a4,t.lx.c.length,c4),(a5,t.lx.n.length,c5),(a6,t.lx.e.length,c6)⟩,⟨(a7,t.nt.st.length,c7),(a8,t.nt.s.length,c8),(a9,t.nt.p.length,c9),(a10,t.nt.q.length,c10),(a11,t.nt.d.length,c11)⟩,(a12,t.lk.length,c12)⟩ t):=jh (λX hx=>TabsIn.good.chg h' hx (λg hg e=>oM));clear h' hf;show Calls Tryz.prog 9 #[.agg #[.slice a0 t.rl.length c0,.slice a1 t.tk.length c1,.slice a2 t.dr.length c2,.slice a3 t.lx.r.length c3,.slice a4 t.lx.c.length c4,.slice a5 t.lx.n.length c5,.slice a6 t.lx.e.length c6,.slice a7 t.nt.st.length c7,.slice a8 t.nt.s.length c8,.slice a9 t.nt.p.length c9,.slice a10 t.nt.q.length c10,.slice a11 t.nt.d.length c11,.slice a12 t.lk.length c12]] w _;go_enter Tryz.func9,Tryz.ntmps9
 go_upto_region 1 with (fail)
 rw[<-hw0,<-hbr];clear hw0 hbr hC0 hs0
 go_cut [3] (λs3 w'=>∃(bo:Nat) (b7:Option Addr) (d7:Nat) (b8:Option Addr) (d8:Nat) (b9:Option Addr) (d9:Nat) (b10:Option Addr) (d10:Nat) (b11:Option Addr) (d11:Nat),s3=.pointer (some ⟨bo,0,none⟩)/\DocNew w0 w' bo [.slice a0 t.rl.length c0,.slice a1 t.tk.length c1,.slice a2 t.dr.length c2,.slice a3 t.lx.r.length c3,.slice a4 t.lx.c.length c4,.slice a5 t.lx.n.length c5,.slice a6 t.lx.e.length c6,.slice b7 t.nt.st.length d7,.slice b8 t.nt.s.length d8,.slice b9 t.nt.p.length d9,.slice b10 t.nt.q.length d10,.slice b11 t.nt.d.length d11,.slice none 0 0] ⟨(b7,t.nt.st.length,d7),(b8,t.nt.s.length,d8),(b9,t.nt.p.length,d9),(b10,t.nt.q.length,d10),(b11,t.nt.d.length,d11)⟩ t.nt)
 case first =>
  obtain⟨wd,hwd⟩:∃X,w0.drew=X:=⟨_,rfl⟩;have HWD:Hd (Cf w0 wd):=jh (by rw[<-hwd];exact (Chg.refl _ _).drew);refine zC (λx=>Cf wd x) (λi=>decide (i=14)) kR ?_;show yN _ _ _ _ _ _ 15 (Array.replicate 15 false) _ w0.drew;rw[hwd];clear hwd;have HSS:Hd (Cf wd wd):=jh cR;have HQ:Hd (∀x,Cf wd x->∀j v,([.slice a0 t.rl.length c0,.slice a1 t.tk.length c1,.slice a2 t.dr.length c2,.slice a3 t.lx.r.length c3,.slice a4 t.lx.c.length c4,.slice a5 t.lx.n.length c5,.slice a6 t.lx.e.length c6,.slice a7 t.nt.st.length c7,.slice a8 t.nt.s.length c8,.slice a9 t.nt.p.length c9,.slice a10 t.nt.q.length c10,.slice a11 t.nt.d.length c11,.slice a12 t.lk.length c12]:List Value)[j]?=some v->x.cell? ⟨w.heap.size,j,none⟩=some v):=jh (λx hx j v hv=>(HWD.o.trans hx).cellS (HN0.o j v hv) iD);have HINX:Hd (∀x,Cf wd x->NetIn x (·<w.heap.size) ⟨(a7,t.nt.st.length,c7),(a8,t.nt.s.length,c8),(a9,t.nt.p.length,c9),(a10,t.nt.q.length,c10),(a11,t.nt.d.length,c11)⟩ t.nt):=jh (λx hx=>(HIN.o x ((HC0.o.trans HWD.o).trans hx).any).nt);have HFN:Hd (FairN t.nt):=jh HF.o.nt;have HLEX:Hd (∀x,Calls Tryz.prog 22 #[.agg #[.slice a3 t.lx.r.length c3,.slice a4 t.lx.c.length c4,.slice a5 t.lx.n.length c5,.slice a6 t.lx.e.length c6]] x λe w'=>e=.returned (.agg #[.slice a3 t.lx.r.length c3,.slice a4 t.lx.c.length c4,.slice a5 t.lx.n.length c5,.slice a6 t.lx.e.length c6])/\Cf x w'):=jh (λx=>zGh _ _ _ _ _ _ _ _ _ _ _ _ x);have HNET:Hd (∀x,Cf wd x->Calls Tryz.prog 23 #[.agg #[.slice a7 t.nt.st.length c7,.slice a8 t.nt.s.length c8,.slice a9 t.nt.p.length c9,.slice a10 t.nt.q.length c10,.slice a11 t.nt.d.length c11]] x λe w'=>∃b7 d7 b8 d8 b9 d9 b10 d10 b11 d11,e=.returned (.agg #[.slice b7 t.nt.st.length d7,.slice b8 t.nt.s.length d8,.slice b9 t.nt.p.length d9,.slice b10 t.nt.q.length d10,.slice b11 t.nt.d.length d11])/\DNetIn w' (λk=>k<w.heap.size\/x.heap.size<=k) ⟨(b7,t.nt.st.length,d7),(b8,t.nt.s.length,d8),(b9,t.nt.p.length,d9),(b10,t.nt.q.length,d10),(b11,t.nt.d.length,d11)⟩ t.nt/\Cf x w'):=jh (λx hx=>(zGg t.nt ⟨(a7,t.nt.st.length,c7),(a8,t.nt.s.length,c8),(a9,t.nt.p.length,c9),(a10,t.nt.q.length,c10),(a11,t.nt.d.length,c11)⟩ (·<w.heap.size) x (HINX.o x hx) HFN.o).mono (by
   rintro e w' ⟨m',rfl,hd,hc⟩;obtain⟨b7,d7,b8,d8,b9,d9,b10,d10,b11,d11,rfl⟩:=hd.len;exact⟨b7,d7,b8,d8,b9,d9,b10,d10,b11,d11,rfl,hd,hc⟩))
  (refine lq 0 HSS.o ?_);(refine lq 1 HSS.o ?_ (hr:=by intro w' hC;have r0:=HQ.o _ hC 0 _ rfl;go_simp;try with_reducible rfl));(refine lq 2 HSS.o ?_);(refine lq 3 HSS.o ?_ (hr:=by intro w' hC;have r1:=HQ.o _ hC 1 _ rfl;go_simp;try with_reducible rfl));(refine lq 4 HSS.o ?_);(refine lq 5 HSS.o ?_ (hr:=by intro w' hC;have r2:=HQ.o _ hC 2 _ rfl;go_simp;try with_reducible rfl));(refine lq 6 HSS.o ?_);(refine lq 7 HSS.o ?_ (hr:=by intro w' hC;have r3:=HQ.o _ hC 3 _ rfl;have r4:=HQ.o _ hC 4 _ rfl;have r5:=HQ.o _ hC 5 _ rfl;have r6:=HQ.o _ hC 6 _ rfl;go_simp;try with_reducible rfl));(refine lq 9 HSS.o ?_);(refine lq 10 HSS.o ?_ (hr:=by intro w' hC;have r7:=HQ.o _ hC 7 _ rfl;have r8:=HQ.o _ hC 8 _ rfl;have r9:=HQ.o _ hC 9 _ rfl;have r10:=HQ.o _ hC 10 _ rfl;have r11:=HQ.o _ hC 11 _ rfl;go_simp;try with_reducible rfl));refine zBn (i:=8) (j:=13) kR rfl rfl rfl rfl 22 #[.agg #[.slice a3 t.lx.r.length c3,.slice a4 t.lx.c.length c4,.slice a5 t.lx.n.length c5,.slice a6 t.lx.e.length c6]] (λv x'=>v=.agg #[.slice a3 t.lx.r.length c3,.slice a4 t.lx.c.length c4,.slice a5 t.lx.n.length c5,.slice a6 t.lx.e.length c6]/\Cf wd x') (by go_simp) ?_ ?_ ?_
  .exact (HLEX.o wd).mono (by rintro e x' ⟨rfl,hc⟩;exact⟨_,rfl,λ_=>hc,rfl,hc⟩)
  .rintro v x1 hs ⟨rfl,hc⟩ K hK
   have HX1:=jh hc;clear hc hs;(try go_simp)
   refine hK _ ?_;clear hK K;have HSS:=HX1;refine zBn (i:=11) (j:=13) kR rfl rfl rfl rfl 23 #[.agg #[.slice a7 t.nt.st.length c7,.slice a8 t.nt.s.length c8,.slice a9 t.nt.p.length c9,.slice a10 t.nt.q.length c10,.slice a11 t.nt.d.length c11]] (λv x'=>∃b7 d7 b8 d8 b9 d9 b10 d10 b11 d11,v=.agg #[.slice b7 t.nt.st.length d7,.slice b8 t.nt.s.length d8,.slice b9 t.nt.p.length d9,.slice b10 t.nt.q.length d10,.slice b11 t.nt.d.length d11]/\DNetIn x' (λk=>k<w.heap.size\/x1.heap.size<=k) ⟨(b7,t.nt.st.length,d7),(b8,t.nt.s.length,d8),(b9,t.nt.p.length,d9),(b10,t.nt.q.length,d10),(b11,t.nt.d.length,d11)⟩ t.nt/\Cf x1 x') (by go_simp) ?_ ?_ ?_
   .exact (HNET.o x1 HX1.o).mono (by rintro e x' ⟨b7,d7,b8,d8,b9,d9,b10,d10,b11,d11,rfl,hd,hc⟩;exact⟨_,rfl,λ_=>HX1.o.trans hc,b7,d7,b8,d8,b9,d9,b10,d10,b11,d11,rfl,hd,hc⟩)
   .rintro v x2 hs ⟨b7,d7,b8,d8,b9,d9,b10,d10,b11,d11,rfl,hd,hc⟩ K hK
    have H2D:=jh hd;have H2C:=jh hc;have H2X:Hd (Cf wd x2):=jh (HX1.o.trans hc);clear hd hc hs;(try go_simp)
    refine hK _ ?_;clear hK K;have HSS:=H2X;(refine lq 12 HSS.o ?_);(refine lt 13 (λ_=>H2X.o.alloc _) ?_);obtain⟨x3,hn⟩:∃X,x2.alloc (.cells #[.slice none 0 0,.slice none 0 0,.slice none 0 0,.slice none 0 0,.slice none 0 0,.slice none 0 0,.slice none 0 0,.slice none 0 0,.slice none 0 0,.slice none 0 0,.slice none 0 0,.slice none 0 0,.slice none 0 0] 43)=X:=⟨_,rfl⟩;have H3:Hd (Cf wd x3/\x3.heap.size=x2.heap.size+1):=jh (by rw[<-hn];exact⟨H2X.o.alloc _,sI⟩);have H3N:Hd (Chg (λq=>x2.heap.size<=q) x2 x3):=jh (by rw[<-hn];exact (Chg.refl _ _).alloc _);obtain⟨bo,hbo⟩:∃b,b=x2.heap.size:=⟨_,rfl⟩;have HBO:Hd (bo=x2.heap.size/\wd.heap.size<=bo):=jh ⟨hbo,by have:=H2X.o.size;omega⟩;have HYY:Hd ((∀j,j<13->x3.cell? ⟨bo,j,none⟩=some (.slice none 0 0))/\∀j,x3.frozen? ⟨bo,j,none⟩=false):=jh (by
     rw[<-hn,hbo];exact⟨λj hj=>zE _ rfl (by rcases (by omega:j=0\/j=1\/j=2\/j=3\/j=4\/j=5\/j=6\/j=7\/j=8\/j=9\/j=10\/j=11\/j=12) with rfl|rfl|rfl|rfl|rfl|rfl|rfl|rfl|rfl|rfl|rfl|rfl|rfl <;> rfl),λj=>Az8 _ _ _ _⟩)
    rw[hn,<-hbo];clear hn hbo;have hy:=HYY.o.1;have hz:=HYY.o.2;have HDN:Hd (DNetIn x3 (λq=>q≠bo/\q+1≠w0.heap.size) ⟨(b7,t.nt.st.length,d7),(b8,t.nt.s.length,d8),(b9,t.nt.p.length,d9),(b10,t.nt.q.length,d10),(b11,t.nt.d.length,d11)⟩ t.nt):=jh (by
     have h1:=DNetIn.good.mono H2D.o (S':=λq=>q<x2.heap.size/\q+1≠w0.heap.size) (λg hg hs=>⟨hg,by have:=HBN.o;have:=HWD.o.size;have:=HX1.o.size;omega⟩);have h2:=DNetIn.good.chg h1 (T:=λq=>x2.heap.size<=q) (w':=x3) (by have:=H3N.o;exact this) (λg hg e=>oM);exact DNetIn.good.mono h2 (λg _ hg=>by have:=HBO.o.1;omega))
    obtain⟨xf,hxf⟩:∃X,X=xQ bo 0 [.slice a0 t.rl.length c0,.slice a1 t.tk.length c1,.slice a2 t.dr.length c2,.slice a3 t.lx.r.length c3,.slice a4 t.lx.c.length c4,.slice a5 t.lx.n.length c5,.slice a6 t.lx.e.length c6,.slice b7 t.nt.st.length d7,.slice b8 t.nt.s.length d8,.slice b9 t.nt.p.length d9,.slice b10 t.nt.q.length d10,.slice b11 t.nt.d.length d11,.slice none 0 0] x3:=⟨_,rfl⟩;have HLN:Hd (DocNew w0 xf bo [.slice a0 t.rl.length c0,.slice a1 t.tk.length c1,.slice a2 t.dr.length c2,.slice a3 t.lx.r.length c3,.slice a4 t.lx.c.length c4,.slice a5 t.lx.n.length c5,.slice a6 t.lx.e.length c6,.slice b7 t.nt.st.length d7,.slice b8 t.nt.s.length d8,.slice b9 t.nt.p.length d9,.slice b10 t.nt.q.length d10,.slice b11 t.nt.d.length d11,.slice none 0 0] ⟨(b7,t.nt.st.length,d7),(b8,t.nt.s.length,d8),(b9,t.nt.p.length,d9),(b10,t.nt.q.length,d10),(b11,t.nt.d.length,d11)⟩ t.nt):=jh (DocNew.of rfl (HWD.o.trans H3.o.1) (by have:=HWD.o.size;have:=HBO.o;omega) hy hz HDN.o hxf);simp only[xQ,Ax0,Nat.reduceAdd]at hxf;have HXF:=jh hxf;have y0:=hy 0 dE;have z0:=hz 0;have y1:=hy 1 dE;have z1:=hz 1;have y2:=hy 2 dE;have z2:=hz 2;have y3:=hy 3 dE;have z3:=hz 3;have y4:=hy 4 dE;have z4:=hz 4;have y5:=hy 5 dE;have z5:=hz 5;have y6:=hy 6 dE;have z6:=hz 6;have y7:=hy 7 dE;have z7:=hz 7;have y8:=hy 8 dE;have z8:=hz 8;have y9:=hy 9 dE;have z9:=hz 9;have y10:=hy 10 dE;have z10:=hz 10;have y11:=hy 11 dE;have z11:=hz 11;have y12:=hy 12 dE;have z12:=hz 12;clear hxf hy hz;(refine ld 14 ?_);refine yA kR ?_ _;rw[<-HXF.o];clear y0 z0 y1 z1 y2 z2 y3 z3 y4 z4 y5 z5 y6 z6 y7 z7 y8 z8 y9 z9 y10 z10 y11 z11 y12 z12;go_wp2;go_meet
    exact⟨bo,b7,d7,b8,d8,b9,d9,b10,d10,b11,d11,rfl,HLN.o⟩
   .intro K hK
    apply Ay7
    apply Ay7
    refine⟨?_,?_,?_⟩
    (go_simp;try first|with_reducible rfl|exact⟨rfl,rfl⟩)
    exact λ_=>HX1.o.alloc _
    (try go_simp)
    refine hK _ _ ?_;clear hK K;obtain⟨x2,hn⟩:∃X,x1.alloc (.cells #[.slice none 0 0,.slice none 0 0,.slice none 0 0,.slice none 0 0,.slice none 0 0,.slice none 0 0,.slice none 0 0,.slice none 0 0,.slice none 0 0,.slice none 0 0,.slice none 0 0,.slice none 0 0,.slice none 0 0] 43)=X:=⟨_,rfl⟩;have H2:Hd (Cf wd x2/\x2.heap.size=x1.heap.size+1):=jh (by rw[<-hn];exact⟨HX1.o.alloc _,sI⟩);obtain⟨bo,hbo⟩:∃b,b=x1.heap.size:=⟨_,rfl⟩;have HBO:Hd (bo=x1.heap.size/\wd.heap.size<=bo):=jh ⟨hbo,by have:=HX1.o.size;omega⟩;have HYY:Hd ((∀j,j<13->x2.cell? ⟨bo,j,none⟩=some (.slice none 0 0))/\∀j,x2.frozen? ⟨bo,j,none⟩=false):=jh (by
     rw[<-hn,hbo];exact⟨λj hj=>zE _ rfl (by rcases (by omega:j=0\/j=1\/j=2\/j=3\/j=4\/j=5\/j=6\/j=7\/j=8\/j=9\/j=10\/j=11\/j=12) with rfl|rfl|rfl|rfl|rfl|rfl|rfl|rfl|rfl|rfl|rfl|rfl|rfl <;> rfl),λj=>Az8 _ _ _ _⟩)
    rw[hn,<-hbo];clear hn hbo;have HSS:Hd (Cf wd x2):=jh H2.o.1;refine yE (i:=11) kR rfl rfl 23 #[.agg #[.slice a7 t.nt.st.length c7,.slice a8 t.nt.s.length c8,.slice a9 t.nt.p.length c9,.slice a10 t.nt.q.length c10,.slice a11 t.nt.d.length c11]] (λv x'=>∃b7 d7 b8 d8 b9 d9 b10 d10 b11 d11,v=.agg #[.slice b7 t.nt.st.length d7,.slice b8 t.nt.s.length d8,.slice b9 t.nt.p.length d9,.slice b10 t.nt.q.length d10,.slice b11 t.nt.d.length d11]/\DNetIn x' (λk=>k<w.heap.size\/x2.heap.size<=k) ⟨(b7,t.nt.st.length,d7),(b8,t.nt.s.length,d8),(b9,t.nt.p.length,d9),(b10,t.nt.q.length,d10),(b11,t.nt.d.length,d11)⟩ t.nt/\Cf x2 x') (by go_simp) ?_ ?_
    .exact (HNET.o x2 H2.o.1).mono (by rintro e x' ⟨b7,d7,b8,d8,b9,d9,b10,d10,b11,d11,rfl,hd,hc⟩;exact⟨_,rfl,λ_=>H2.o.1.trans hc,b7,d7,b8,d8,b9,d9,b10,d10,b11,d11,rfl,hd,hc⟩)
    rintro v x3 hs ⟨b7,d7,b8,d8,b9,d9,b10,d10,b11,d11,rfl,hd,hc⟩ K hK;have H3D:=jh hd;have H3C:=jh hc;have H3X:Hd (Cf wd x3):=jh (H2.o.1.trans hc);clear hd hc hs;(try go_simp)
    refine hK _ ?_;clear hK K;have hy:∀j,j<13->x3.cell? ⟨bo,j,none⟩=some (.slice none 0 0):=λj hj=>(H3C.o).cellS (HYY.o.1 j hj) iD
    have hz:∀j,x3.frozen? ⟨bo,j,none⟩=false:=λj=>((H3C.o).frozen (p:=⟨bo,j,none⟩) (by have:=Az6 _ _ (HYY.o.1 0 dE);exact this) iD).trans (HYY.o.2 j)
    have HDN:Hd (DNetIn x3 (λq=>q≠bo/\q+1≠w0.heap.size) ⟨(b7,t.nt.st.length,d7),(b8,t.nt.s.length,d8),(b9,t.nt.p.length,d9),(b10,t.nt.q.length,d10),(b11,t.nt.d.length,d11)⟩ t.nt):=jh (DNetIn.good.mono H3D.o (λg _ hg=>by have:=HBO.o;have:=H2.o.2;have:=HWD.o.size;have:=HBN.o;omega));have HSS:=H3X;(refine lq 12 HSS.o ?_);obtain⟨xf,hxf⟩:∃X,X=xQ bo 0 [.slice a0 t.rl.length c0,.slice a1 t.tk.length c1,.slice a2 t.dr.length c2,.slice a3 t.lx.r.length c3,.slice a4 t.lx.c.length c4,.slice a5 t.lx.n.length c5,.slice a6 t.lx.e.length c6,.slice b7 t.nt.st.length d7,.slice b8 t.nt.s.length d8,.slice b9 t.nt.p.length d9,.slice b10 t.nt.q.length d10,.slice b11 t.nt.d.length d11,.slice none 0 0] x3:=⟨_,rfl⟩;have HLN:Hd (DocNew w0 xf bo [.slice a0 t.rl.length c0,.slice a1 t.tk.length c1,.slice a2 t.dr.length c2,.slice a3 t.lx.r.length c3,.slice a4 t.lx.c.length c4,.slice a5 t.lx.n.length c5,.slice a6 t.lx.e.length c6,.slice b7 t.nt.st.length d7,.slice b8 t.nt.s.length d8,.slice b9 t.nt.p.length d9,.slice b10 t.nt.q.length d10,.slice b11 t.nt.d.length d11,.slice none 0 0] ⟨(b7,t.nt.st.length,d7),(b8,t.nt.s.length,d8),(b9,t.nt.p.length,d9),(b10,t.nt.q.length,d10),(b11,t.nt.d.length,d11)⟩ t.nt):=jh (DocNew.of rfl (HWD.o.trans H3X.o) (by have:=HWD.o.size;have:=HBO.o;omega) hy hz HDN.o hxf);simp only[xQ,Ax0,Nat.reduceAdd]at hxf;have HXF:=jh hxf;have y0:=hy 0 dE;have z0:=hz 0;have y1:=hy 1 dE;have z1:=hz 1;have y2:=hy 2 dE;have z2:=hz 2;have y3:=hy 3 dE;have z3:=hz 3;have y4:=hy 4 dE;have z4:=hz 4;have y5:=hy 5 dE;have z5:=hz 5;have y6:=hy 6 dE;have z6:=hz 6;have y7:=hy 7 dE;have z7:=hz 7;have y8:=hy 8 dE;have z8:=hz 8;have y9:=hy 9 dE;have z9:=hz 9;have y10:=hy 10 dE;have z10:=hz 10;have y11:=hy 11 dE;have z11:=hz 11;have y12:=hy 12 dE;have z12:=hz 12;clear hxf hy hz;(refine ld 14 ?_);refine yA kR ?_ _;rw[<-HXF.o];clear y0 z0 y1 z1 y2 z2 y3 z3 y4 z4 y5 z5 y6 z6 y7 z7 y8 z8 y9 z9 y10 z10 y11 z11 y12 z12;go_wp2;go_meet
    exact⟨bo,b7,d7,b8,d8,b9,d9,b10,d10,b11,d11,rfl,HLN.o⟩
  .intro K hK
   apply Ay7
   apply Ay7
   refine⟨?_,?_,?_⟩
   (go_simp;try first|with_reducible rfl|exact⟨rfl,rfl⟩)
   exact λ_=>(Chg.refl _ _).alloc _
   (try go_simp)
   refine hK _ _ ?_;clear hK K;obtain⟨x1,hn⟩:∃X,wd.alloc (.cells #[.slice none 0 0,.slice none 0 0,.slice none 0 0,.slice none 0 0,.slice none 0 0,.slice none 0 0,.slice none 0 0,.slice none 0 0,.slice none 0 0,.slice none 0 0,.slice none 0 0,.slice none 0 0,.slice none 0 0] 43)=X:=⟨_,rfl⟩;have H1:Hd (Cf wd x1/\x1.heap.size=wd.heap.size+1):=jh (by rw[<-hn];exact⟨(Chg.refl (λ_=>False) wd).alloc _,sI⟩);obtain⟨bo,hbo⟩:∃b,b=wd.heap.size:=⟨_,rfl⟩;have HBO:Hd (bo=wd.heap.size/\wd.heap.size<=bo):=jh ⟨hbo,by have:=(Chg.refl (λ_=>False) wd).size;omega⟩;have HYY:Hd ((∀j,j<13->x1.cell? ⟨bo,j,none⟩=some (.slice none 0 0))/\∀j,x1.frozen? ⟨bo,j,none⟩=false):=jh (by
    rw[<-hn,hbo];exact⟨λj hj=>zE _ rfl (by rcases (by omega:j=0\/j=1\/j=2\/j=3\/j=4\/j=5\/j=6\/j=7\/j=8\/j=9\/j=10\/j=11\/j=12) with rfl|rfl|rfl|rfl|rfl|rfl|rfl|rfl|rfl|rfl|rfl|rfl|rfl <;> rfl),λj=>Az8 _ _ _ _⟩)
   rw[hn,<-hbo];clear hn hbo;refine yE (i:=8) kR rfl rfl 22 #[.agg #[.slice a3 t.lx.r.length c3,.slice a4 t.lx.c.length c4,.slice a5 t.lx.n.length c5,.slice a6 t.lx.e.length c6]] (λv x'=>v=.agg #[.slice a3 t.lx.r.length c3,.slice a4 t.lx.c.length c4,.slice a5 t.lx.n.length c5,.slice a6 t.lx.e.length c6]/\Cf x1 x') (by go_simp) ?_ ?_
   .exact (HLEX.o x1).mono (by rintro e x' ⟨rfl,hc⟩;exact⟨_,rfl,λ_=>H1.o.1.trans hc,rfl,hc⟩)
   rintro v x2 hs ⟨rfl,hc⟩ K hK;have H2X:Hd (Cf wd x2):=jh (H1.o.1.trans hc);have H2C:=jh hc;clear hc hs;(try go_simp)
   refine hK _ ?_;clear hK K;have HSS:=H2X;refine yE (i:=11) kR rfl rfl 23 #[.agg #[.slice a7 t.nt.st.length c7,.slice a8 t.nt.s.length c8,.slice a9 t.nt.p.length c9,.slice a10 t.nt.q.length c10,.slice a11 t.nt.d.length c11]] (λv x'=>∃b7 d7 b8 d8 b9 d9 b10 d10 b11 d11,v=.agg #[.slice b7 t.nt.st.length d7,.slice b8 t.nt.s.length d8,.slice b9 t.nt.p.length d9,.slice b10 t.nt.q.length d10,.slice b11 t.nt.d.length d11]/\DNetIn x' (λk=>k<w.heap.size\/x2.heap.size<=k) ⟨(b7,t.nt.st.length,d7),(b8,t.nt.s.length,d8),(b9,t.nt.p.length,d9),(b10,t.nt.q.length,d10),(b11,t.nt.d.length,d11)⟩ t.nt/\Cf x2 x') (by go_simp) ?_ ?_
   .exact (HNET.o x2 H2X.o).mono (by rintro e x' ⟨b7,d7,b8,d8,b9,d9,b10,d10,b11,d11,rfl,hd,hc⟩;exact⟨_,rfl,λ_=>H2X.o.trans hc,b7,d7,b8,d8,b9,d9,b10,d10,b11,d11,rfl,hd,hc⟩)
   rintro v x3 hs ⟨b7,d7,b8,d8,b9,d9,b10,d10,b11,d11,rfl,hd,hc⟩ K hK;have H3D:=jh hd;have H3C:=jh hc;have H3X:Hd (Cf wd x3):=jh (H2X.o.trans hc);clear hd hc hs;(try go_simp)
   refine hK _ ?_;clear hK K;have hy:∀j,j<13->x3.cell? ⟨bo,j,none⟩=some (.slice none 0 0):=λj hj=>(H2C.o.trans H3C.o).cellS (HYY.o.1 j hj) iD
   have hz:∀j,x3.frozen? ⟨bo,j,none⟩=false:=λj=>((H2C.o.trans H3C.o).frozen (p:=⟨bo,j,none⟩) (by have:=Az6 _ _ (HYY.o.1 0 dE);exact this) iD).trans (HYY.o.2 j)
   have HDN:Hd (DNetIn x3 (λq=>q≠bo/\q+1≠w0.heap.size) ⟨(b7,t.nt.st.length,d7),(b8,t.nt.s.length,d8),(b9,t.nt.p.length,d9),(b10,t.nt.q.length,d10),(b11,t.nt.d.length,d11)⟩ t.nt):=jh (DNetIn.good.mono H3D.o (λg _ hg=>by have:=HBO.o;have:=H1.o.2;have:=H2C.o.size;have:=HWD.o.size;have:=HBN.o;omega));have HSS:=H3X;(refine lq 12 HSS.o ?_);obtain⟨xf,hxf⟩:∃X,X=xQ bo 0 [.slice a0 t.rl.length c0,.slice a1 t.tk.length c1,.slice a2 t.dr.length c2,.slice a3 t.lx.r.length c3,.slice a4 t.lx.c.length c4,.slice a5 t.lx.n.length c5,.slice a6 t.lx.e.length c6,.slice b7 t.nt.st.length d7,.slice b8 t.nt.s.length d8,.slice b9 t.nt.p.length d9,.slice b10 t.nt.q.length d10,.slice b11 t.nt.d.length d11,.slice none 0 0] x3:=⟨_,rfl⟩;have HLN:Hd (DocNew w0 xf bo [.slice a0 t.rl.length c0,.slice a1 t.tk.length c1,.slice a2 t.dr.length c2,.slice a3 t.lx.r.length c3,.slice a4 t.lx.c.length c4,.slice a5 t.lx.n.length c5,.slice a6 t.lx.e.length c6,.slice b7 t.nt.st.length d7,.slice b8 t.nt.s.length d8,.slice b9 t.nt.p.length d9,.slice b10 t.nt.q.length d10,.slice b11 t.nt.d.length d11,.slice none 0 0] ⟨(b7,t.nt.st.length,d7),(b8,t.nt.s.length,d8),(b9,t.nt.p.length,d9),(b10,t.nt.q.length,d10),(b11,t.nt.d.length,d11)⟩ t.nt):=jh (DocNew.of rfl (HWD.o.trans H3X.o) (by have:=HWD.o.size;have:=HBO.o;omega) hy hz HDN.o hxf);simp only[xQ,Ax0,Nat.reduceAdd]at hxf;have HXF:=jh hxf;have y0:=hy 0 dE;have z0:=hz 0;have y1:=hy 1 dE;have z1:=hz 1;have y2:=hy 2 dE;have z2:=hz 2;have y3:=hy 3 dE;have z3:=hz 3;have y4:=hy 4 dE;have z4:=hz 4;have y5:=hy 5 dE;have z5:=hz 5;have y6:=hy 6 dE;have z6:=hz 6;have y7:=hy 7 dE;have z7:=hz 7;have y8:=hy 8 dE;have z8:=hz 8;have y9:=hy 9 dE;have z9:=hz 9;have y10:=hy 10 dE;have z10:=hz 10;have y11:=hy 11 dE;have z11:=hz 11;have y12:=hy 12 dE;have z12:=hz 12;clear hxf hy hz;(refine ld 14 ?_);refine yA kR ?_ _;rw[<-HXF.o];clear y0 z0 y1 z1 y2 z2 y3 z3 y4 z4 y5 z5 y6 z6 y7 z7 y8 z8 y9 z9 y10 z10 y11 z11 y12 z12;go_wp2;go_meet
   exact⟨bo,b7,d7,b8,d8,b9,d9,b10,d10,b11,d11,rfl,HLN.o⟩
 case rest =>
  obtain⟨bo,b7,d7,b8,d8,b9,d9,b10,d10,b11,d11,rfl,hln⟩:=hcut;have HLN:=jh hln;have HBO:Hd (w0.heap.size<=bo/\bo<wc.heap.size):=jh ⟨hln.lo,Az6 _ _ (hln.c 0 _ rfl)⟩;have HCW:Hd (Cf w wc):=jh (HC0.o.trans hln.ch);have HM0:Hd (Mk zBs sJ br bo 12 wc (.slice none 0 0) []):=jh ⟨hln.c 12 _ rfl,hln.z,[],.nil _ _,rfl,λj x d hx=>by simp at hx⟩;have HP:Hd (∀X,Chg (λk=>k=bo\/wc.heap.size<=k) wc X->X.cell? ⟨w.heap.size,12,none⟩=some (.slice a12 t.lk.length c12)):=jh (λX hx=>hx.cellS (HLN.o.ch.cellS (HN0.o 12 _ rfl) iD) (by
   have h1:=HBO.o;have h2:=HBN.o;have h3:=HLN.o.ch.size;rintro (e|e)
   .have e:w.heap.size=bo:=e
    omega
   .have e:wc.heap.size<=w.heap.size:=e
    omega))
  clear hln;go_upto_region 3 with (fail)
  go_loopw [4] (λq wr=>∃(i:Nat) (v:Value),i<=t.lk.length/\q=.int .i64 i/\Mk zBs sJ br bo 12 wr v (t.lk.take i)/\(∀j u,([.slice a0 t.rl.length c0,.slice a1 t.tk.length c1,.slice a2 t.dr.length c2,.slice a3 t.lx.r.length c3,.slice a4 t.lx.c.length c4,.slice a5 t.lx.n.length c5,.slice a6 t.lx.e.length c6,.slice b7 t.nt.st.length d7,.slice b8 t.nt.s.length d8,.slice b9 t.nt.p.length d9,.slice b10 t.nt.q.length d10,.slice b11 t.nt.d.length d11,.slice none 0 0]:List Value)[j]?=some u->j≠12->wr.cell? ⟨bo,j,none⟩=some u)/\(∀q,v.ownBlock=some q->wc.heap.size<=q)/\Chg (λk=>k=bo\/wc.heap.size<=k) wc wr) (λq _=>t.lk.length-(intOf q).toNat)
  case atStart=>exact⟨0,_,oM,rfl,HM0.o,λj u hu _=>HLN.o.c j u hu,λq hq=>(by cases hq),Chg.refl _ _⟩
  case round =>
   clear HM0;obtain⟨i,v,hi,rfl,hm,ho,hob,hc⟩:=hrel;have HM:=jh hm;have HO:=jh ho;have HOB:=jh hob;have HC:=jh hc;obtain⟨va,vl,vc,rfl⟩:=hm.own;have HCX:Hd (Chg (λk=>w.heap.size<=k) w wr):=jh (HCW.o.any.trans (hc.mono (λk _ e=>by have:=HBO.o;have:=HBN.o;have:=HCW.o.size;omega)));have p0:=HP.o wr hc;have f_lk:=HAL.o;clear hm ho hob hc;by_cases hil:i<t.lk.length
   .have hb9:decide ((i:Int)<(t.lk.length:Int))=true:=by simp;omega
    obtain⟨⟨ua,un,uc⟩,A,gx,ox,hx,har,rfl,hgx,-,cx⟩:=(HIN.o _ HCX.o).lk.get1 (f:=slV) rfl hil (λ_=>rfl);obtain⟨rfl,-⟩:un=A.length/\un<=uc:=(by obtain⟨X,h1,h2,-⟩:=har;exact⟨by have:=h1.1;simp only at this;omega,h1.2.1⟩);simp only[slV]at cx;have HX:=jh hx;have HAR:=jh har;have HFA:=jh (HF.o.la A (Az2 hx));have HCX0:Hd (wr.cell? ⟨gx,ox+i,none⟩=some (.slice ua A.length uc)/\gx<w.heap.size):=jh ⟨cx,hgx⟩;clear hx har hgx cx;go_upto_region 5 with (fail)
    clear p0;obtain⟨wd,hwd⟩:∃X,wr.drew=X:=⟨_,rfl⟩;have HWD:Hd (Cf wr wd):=jh (by rw[<-hwd];exact (Chg.refl _ _).drew);refine zC (λx=>Chg (λq=>(Value.slice va vl vc).ownBlock=some q) wd x) (λi=>decide (i=11)) kR ?_;show yN _ _ _ _ _ _ 12 (Array.replicate 12 false) _ wr.drew;rw[hwd];clear hwd;have HSS:Hd (Chg (λq=>(Value.slice va vl vc).ownBlock=some q) wd wd):=jh cR;have HMD:=jh (HM.o.chg sJ.good HWD.o (λ_ h=>h.elim));obtain⟨X,h1,h2,h3⟩:=HMD.o.ex;have HO1:=jh h1;have HL1:=jh h2;have HR1:=jh h3;have HXL:Hd (X.length<=1000000000):=jh (by have:=HAL.o;rw[h2,Ax1];omega);clear h1 h2 h3;have HQ:Hd (∀x,Chg (λq=>(Value.slice va vl vc).ownBlock=some q) wd x->x.cell? ⟨w.heap.size,12,none⟩=some (.slice (some ⟨gx,ox,none⟩) t.lk.length c12)/\x.cell? ⟨gx,ox+i,none⟩=some (.slice ua A.length uc)/\x.cell? ⟨bo,12,none⟩=some (.slice va vl vc)):=jh (λx hx=>by
     have h1:Chg (λq=>wc.heap.size<=q) wr x:=HWD.o.any.trans (hx.mono (λq _ e=>HOB.o q e));have hgx:=HCX0.o.2;have hb:=HBO.o;have hw:=HCW.o.size;exact⟨HP.o x (HC.o.trans (h1.mono (λq _ e=>.inr e))),h1.cellS HCX0.o.1 (by show ¬wc.heap.size<=gx;omega),h1.cellS HM.o.c (by show ¬wc.heap.size<=bo;omega)⟩)
    (refine lq 0 HSS.o ?_);(refine lf 1 HSS.o HQ.o ?_);(refine lq 2 HSS.o ?_);(refine lf 3 HSS.o HQ.o ?_);(refine lq 4 HSS.o ?_);(refine lq 5 HSS.o ?_);(refine lf 6 HSS.o HQ.o ?_);have HCALL:Hd (Calls Tryz.prog 24 #[.agg #[.slice ua A.length uc]] wd λe w'=>∃a n c,e=.returned (.agg #[.slice a n c])/\sJ w' (λk=>wd.heap.size<=k) (a,n,c) A/\Cf wd w'):=jh ((zE7 A ua uc (·<w.heap.size) wd (mA.good.chg HAR.o HWD.o iF) HFA.o.1 HFA.o.2).mono (by
     rintro e w' ⟨⟨a,n,c⟩,rfl,h1,h2⟩;exact⟨a,n,c,rfl,h1,h2⟩))
    refine yE (i:=7) kR rfl rfl 24 #[.agg #[.slice ua A.length uc]] (λv w'=>∃a n c,v=.agg #[.slice a n c]/\sJ w' (λk=>wd.heap.size<=k) (a,n,c) A/\Cf wd w') (by go_simp) ?_ ?_
    .exact HCALL.o.mono (by rintro e x' ⟨a,n,c,rfl,h1,h2⟩;exact⟨_,rfl,λ_=>h2.any,a,n,c,rfl,h1,h2⟩)
    rintro v x1 hs ⟨sa,sn,sc,rfl,hd,hc⟩ K hK;have HD:=jh hd;have HX1:=jh hc;clear hd hc hs;(try go_simp)
    refine hK _ ?_;clear hK K;(refine lt 8 (λ_=>(HX1.o.any).alloc _) ?_);obtain⟨we,hwe⟩:∃X,X=x1.alloc (.cells #[.slice sa sn sc] 79):=⟨_,rfl⟩;have HWE:Hd (Cf wd we/\Cf x1 we):=jh (by rw[hwe];exact⟨HX1.o.alloc _,(Chg.refl _ _).alloc _⟩);have HSRC:Hd (Src Tryz.prog zBs.sz zBs.sl (.slice (some ⟨x1.heap.size,0,none⟩) 1 1) 1 (zBs.encs [((sa,sn,sc):Sl)]) we):=jh (by rw[hwe];exact zBs.srcLit (Y:=[((sa,sn,sc):Sl)]) 1 (λ_ _=>trivial));have HME:=jh (HMD.o.chg sJ.good HWE.o.1 (λ_ h=>h.elim));have HOE:=jh (HO1.o.chg HWE.o.1 (λ_ _ _ h=>h));have HB1:Hd (bo+1<=we.heap.size):=jh HME.o.lt;have HRD:Hd (sJ we (λq=>(q≠bo/\q≠br)/\(Value.slice va vl vc).ownBlock≠some q) (sa,sn,sc) A):=jh (sJ.good.mono (sJ.good.chg HD.o HWE.o.2 iF) (λg _ hg=>by
     have h1:=HMD.o.lt;have h2:=HBO.o;have h3:=HBN.o;refine⟨⟨oM,oM⟩,λe=>?_⟩;have:=(HO1.o.blk e).2;omega))
    rw[<-hwe];clear hwe;refine xE (i:=9) kR rfl rfl (.tmp 26) (.tmp 33) 41 41 rfl (.slice va vl vc) (.slice (some ⟨x1.heap.size,0,none⟩) 1 1) rfl rfl (λv' wb=>zBs.Own wb (bo+1) v' (X++[((sa,sn,sc):Sl)])/\(Chg (λk=>(Value.slice va vl vc).ownBlock=some k) we wb/\(v'.ownBlock=(Value.slice va vl vc).ownBlock\/v'.ownBlock=some we.heap.size))) ?_ ?_
    .obtain⟨v',wb,hrun,h1,-,h4,-⟩:=HOE.o.append HB1.o 41 (.slice (some ⟨x1.heap.size,0,none⟩) 1 1) [((sa,sn,sc):Sl)] HSRC.o (λ_ _=>trivial) (by have:=HXL.o;simp;omega) 41
     exact⟨v',wb,hrun,λ_=>HWE.o.1.any.trans h4.1,h1,h4⟩
    rintro v' wb hs ⟨o1,o2,o3⟩ K hK;obtain⟨va',vl',vc',hv'⟩:=o1.shape3;subst hv';obtain⟨⟨k1,k2⟩,hf1,hf2,hf3⟩:=Mk.step sJ.good (d:=(A:List LsD)) HME.o HL1.o (λj x d hx hd=>sJ.good.chg (HR1.o j x d hx hd) HWE.o.1 iF) (λk hk=>by have:=HOE.o.blk hk;omega) (Chg.refl (λ_=>False) we) HRD.o o1 o2 o3;have HFF:=jh hf1;have HOF:=jh (λ(j:Nat) (u:Value) (hu:([.slice a0 t.rl.length c0,.slice a1 t.tk.length c1,.slice a2 t.dr.length c2,.slice a3 t.lx.r.length c3,.slice a4 t.lx.c.length c4,.slice a5 t.lx.n.length c5,.slice a6 t.lx.e.length c6,.slice b7 t.nt.st.length d7,.slice b8 t.nt.s.length d8,.slice b9 t.nt.p.length d9,.slice b10 t.nt.q.length d10,.slice b11 t.nt.d.length d11,.slice none 0 0]:List Value)[j]?=some u) (hj:j≠12)=>hf3 j u hj (HWE.o.1.cellS (HWD.o.cellS (HO.o j u hu hj) iD) iD));have HOBF:Hd (∀q,(Value.slice va' vl' vc').ownBlock=some q->wc.heap.size<=q):=jh (λq hq=>by
     rcases o3 with e|e
     .exact HOB.o q (e ▸ hq)
     .rw[e]at hq
      have:=Az3 hq;have h1:=HC.o.size;have h2:=HWD.o.size;have h3:=HWE.o.1.size;omega)
    have HCGF:=jh ((HC.o.trans (HWD.o.any.trans HWE.o.1.any)).trans (hf2.mono (T:=λk=>k=bo\/wc.heap.size<=k) (λk _ e=>e.imp id (λe=>HOB.o k e))));have HSL:=jh (hs dE);clear hf1 hf2 hf3 o1 o2 o3 hs;(try go_simp)
    refine hK _ ?_;clear hK K;(refine lt 10 (λ_=>HSL.o) ?_);(refine ld 11 ?_);refine yA kR ?_ _;clear k1 k2;go_wp2;go_roundw
    case rel=>exact⟨i+1,_,oM,by go_num,by rw[Ay1,HX.o];exact HFF.o,HOF.o,HOBF.o,HCGF.o⟩
    case measure=>simp[intOf];omega
   .obtain rfl:i=t.lk.length:=oM
    have hb9:decide ((t.lk.length:Int)<(t.lk.length:Int))=false:=sI;have HMF:=HM.o;rw[Ax6 (Ay _)]at HMF;obtain⟨hul,hli⟩:=HMF.list sJ.good (by have:=HBN.o;have:=HBO.o;omega);subst hul;have s12:=HMF.c;have HLI:=jh hli;have s0:=HO.o 0 _ rfl dE;have s1:=HO.o 1 _ rfl dE;have s2:=HO.o 2 _ rfl dE;have s3:=HO.o 3 _ rfl dE;have s4:=HO.o 4 _ rfl dE;have s5:=HO.o 5 _ rfl dE;have s6:=HO.o 6 _ rfl dE;have s7:=HO.o 7 _ rfl dE;have s8:=HO.o 8 _ rfl dE;have s9:=HO.o 9 _ rfl dE;have s10:=HO.o 10 _ rfl dE;have s11:=HO.o 11 _ rfl dE;have hr:∀j,j<13->wr.cell? ⟨br,j,none⟩=some (.slice none 0 0):=λj hj=>HC.o.cellS (HLN.o.ch.cellS (HR0.o j hj) iD) (by
     have h1:=HBO.o;have h2:=HBN.o;have h3:=HLN.o.ch.size;rintro (e|e)
     .have e:br=bo:=e
      omega
     .have e:wc.heap.size<=br:=e
      omega)
    have hz:∀j,wr.frozen? ⟨br,j,none⟩=false:=λj=>(HC.o.frozen (p:=⟨br,j,none⟩) (by have h2:=HBN.o;have h3:=HLN.o.ch.size;show br<wc.heap.size;omega) (by
     have h1:=HBO.o;have h2:=HBN.o;have h3:=HLN.o.ch.size;rintro (e|e)
     .have e:br=bo:=e
      omega
     .have e:wc.heap.size<=br:=e
      omega)).trans ((HLN.o.ch.frozen (p:=⟨br,j,none⟩) (by have h2:=HBN.o;show br<w0.heap.size;omega) iD).trans (HRZ.o j))
    have u0:=hr 0 dE;have z0:=hz 0;have u1:=hr 1 dE;have z1:=hz 1;have u2:=hr 2 dE;have z2:=hz 2;have u3:=hr 3 dE;have z3:=hz 3;have u4:=hr 4 dE;have z4:=hz 4;have u5:=hr 5 dE;have z5:=hz 5;have u6:=hr 6 dE;have z6:=hz 6;have u7:=hr 7 dE;have z7:=hz 7;have u8:=hr 8 dE;have z8:=hz 8;have u9:=hr 9 dE;have z9:=hz 9;have u10:=hr 10 dE;have z10:=hz 10;have u11:=hr 11 dE;have z11:=hz 11;have u12:=hr 12 dE;have z12:=hz 12;obtain⟨wf,hwf⟩:∃X,X=xQ br 0 [.slice a0 t.rl.length c0,.slice a1 t.tk.length c1,.slice a2 t.dr.length c2,.slice a3 t.lx.r.length c3,.slice a4 t.lx.c.length c4,.slice a5 t.lx.n.length c5,.slice a6 t.lx.e.length c6,.slice b7 t.nt.st.length d7,.slice b8 t.nt.s.length d8,.slice b9 t.nt.p.length d9,.slice b10 t.nt.q.length d10,.slice b11 t.nt.d.length d11,.slice va t.lk.length vc] wr:=⟨_,rfl⟩;obtain⟨t1,-,t3,-⟩:=uC br [.slice a0 t.rl.length c0,.slice a1 t.tk.length c1,.slice a2 t.dr.length c2,.slice a3 t.lx.r.length c3,.slice a4 t.lx.c.length c4,.slice a5 t.lx.n.length c5,.slice a6 t.lx.e.length c6,.slice b7 t.nt.st.length d7,.slice b8 t.nt.s.length d8,.slice b9 t.nt.p.length d9,.slice b10 t.nt.q.length d10,.slice b11 t.nt.d.length d11,.slice va t.lk.length vc] 0 wr (λj hj=>by
     rw[Ax0,hr j hj];rfl)
    rw[<-hwf]at t1 t3;have HCF:Hd (Chg (λk=>w.heap.size<=k) w wf):=jh (HCX.o.trans (t3.mono (λk _ e=>by have:=HBN.o;omega)));have HDI:Hd (DocIn wf (λ_=>True) ⟨(a0,t.rl.length,c0),(a1,t.tk.length,c1),(a2,t.dr.length,c2),⟨(a3,t.lx.r.length,c3),(a4,t.lx.c.length,c4),(a5,t.lx.n.length,c5),(a6,t.lx.e.length,c6)⟩,⟨(b7,t.nt.st.length,d7),(b8,t.nt.s.length,d8),(b9,t.nt.p.length,d9),(b10,t.nt.q.length,d10),(b11,t.nt.d.length,d11)⟩,(va,t.lk.length,vc)⟩ t):=jh (by
     have hI:=HIN.o wf HCF.o;have hN:=DNetIn.good.mono HLN.o.nt (S':=λg=>(g≠bo/\g+1≠w0.heap.size)/\g<wc.heap.size) (λg h1 h2=>⟨h2,h1⟩);have hN2:=DNetIn.good.chg hN HC.o (λg hg e=>oM);have hNb:DNetIn wr (λg=>g≠br) ⟨(b7,t.nt.st.length,d7),(b8,t.nt.s.length,d8),(b9,t.nt.p.length,d9),(b10,t.nt.q.length,d10),(b11,t.nt.d.length,d11)⟩ t.nt:=DNetIn.good.mono hN2 (λg _ hg=>by have:=HBN.o;omega);exact⟨hI.rl.mono (λ_ _ _=>trivial),hI.tk.mono (λ_ _ _=>trivial),hI.dr.mono (λ_ _ _=>trivial),LexIn.good.mono hI.lx (λ_ _ _=>trivial),DNetIn.good.mono (DNetIn.good.chg hNb t3 (λg hg e=>hg e)) (λ_ _ _=>trivial),(zJ.good sJ.good).mono ((zJ.good sJ.good).chg HLI.o t3 (λg hg e=>hg.2 e)) (λ_ _ _=>trivial)⟩)
    have v0:=t1 0 _ rfl;have v1:=t1 1 _ rfl;have v2:=t1 2 _ rfl;have v3:=t1 3 _ rfl;have v4:=t1 4 _ rfl;have v5:=t1 5 _ rfl;have v6:=t1 6 _ rfl;have v7:=t1 7 _ rfl;have v8:=t1 8 _ rfl;have v9:=t1 9 _ rfl;have v10:=t1 10 _ rfl;have v11:=t1 11 _ rfl;have v12:=t1 12 _ rfl;simp only[Ax0]at v0 v1 v2 v3 v4 v5 v6 v7 v8 v9 v10 v11 v12;simp only[xQ,Ax0,Nat.reduceAdd]at hwf;have HWF:=jh hwf;clear hwf t1 t3 hr hz hli HMF;go_wp2;rw[<-HWF.o];exact bodyPost_ret (v:=.agg #[.slice a0 t.rl.length c0,.slice a1 t.tk.length c1,.slice a2 t.dr.length c2,.slice a3 t.lx.r.length c3,.slice a4 t.lx.c.length c4,.slice a5 t.lx.n.length c5,.slice a6 t.lx.e.length c6,.slice b7 t.nt.st.length d7,.slice b8 t.nt.s.length d8,.slice b9 t.nt.p.length d9,.slice b10 t.nt.q.length d10,.slice b11 t.nt.d.length d11,.slice va t.lk.length vc]) (by simp[results,Tryz.results9,go_sem,v0,v1,v2,v3,v4,v5,v6,v7,v8,v9,v10,v11,v12]) rfl ⟨⟨(a0,t.rl.length,c0),(a1,t.tk.length,c1),(a2,t.dr.length,c2),⟨(a3,t.lx.r.length,c3),(a4,t.lx.c.length,c4),(a5,t.lx.n.length,c5),(a6,t.lx.e.length,c6)⟩,⟨(b7,t.nt.st.length,d7),(b8,t.nt.s.length,d8),(b9,t.nt.p.length,d9),(b10,t.nt.q.length,d10),(b11,t.nt.d.length,d11)⟩,(va,t.lk.length,vc)⟩,rfl,HDI.o,HCF.o.fresh⟩
def gN (n:NetD) (k:Nat):Nat:=n.st.length+n.s.length+n.p.length+n.q.length+n.d.length+((n.st.take k).map λs=>s.2.1.length+s.2.2.length).sum
theorem zR5 (n:NetD):gN n 0=n.st.length+n.s.length+n.p.length+n.q.length+n.d.length:=by simp[gN]
theorem zR6 {n:NetD}{k:Nat}{s:StD}(h:n.st[k]?=some s):gN n (k+1)=gN n k+s.2.1.length+s.2.2.length:=by
 unfold gN;rw[Ay1,h];simp
 omega
structure VastN (n:NetD):Prop where
 st:n.st.length<=100000000000000
 s:n.s.length<=100000000000000
 p:n.p.length<=100000000000000
 q:n.q.length<=100000000000000
 d:n.d.length<=100000000000000
 e:∀s∈n.st,s.2.1.length<=100000000000000/\s.2.2.length<=100000000000000
theorem zK6 (n:NetD) (m:NetS) (S:Nat->Prop) (w:World) (h:NetIn w S m n) (hv:VastN n) :
  Calls Tryz.prog 21 #[netV m] w λe w'=>∃g,e=.returned (.bool g)/\(g=false->gN n n.st.length<=700)/\Cf w w':=by
 obtain⟨⟨sa,sn,sc⟩,⟨aa,an,ac⟩,⟨pa,pn,pc⟩,⟨qa,qn,qc⟩,⟨da,dn,dc⟩⟩:=m;have hN:∀X,Cf w X->NetIn X S _ n:=λX hx=>NetIn.good.chg h hx iF
 obtain⟨h1,h2,h3,h4,h5⟩:=h;obtain⟨rfl,-⟩:=h1.len;obtain⟨rfl,-⟩:=h2.len;obtain⟨rfl,-⟩:=h3.len;obtain⟨rfl,-⟩:=h4.len;obtain⟨rfl,-⟩:=h5.len;have HN:=jh hN;obtain⟨v1,v2,v3,v4,v5,v6⟩:=hv;have HV:=jh v6;have HZ:Hd (gN n 0=n.st.length+n.s.length+n.p.length+n.q.length+n.d.length):=jh (zR5 n);clear h1 h2 h3 h4 h5 hN v6;obtain⟨wa,hwa⟩:∃x,x=w.alloc (.cells #[.slice sa n.st.length sc,.slice aa n.s.length ac,.slice pa n.p.length pc,.slice qa n.q.length qc,.slice da n.d.length dc] 31):=⟨_,rfl⟩;have HCA:Hd (Cf w wa):=jh (by rw[hwa];exact (Chg.refl _ _).alloc _);have hq:∀j v,([.slice sa n.st.length sc,.slice aa n.s.length ac,.slice pa n.p.length pc,.slice qa n.q.length qc,.slice da n.d.length dc]:List Value)[j]?=some v->wa.cell? ⟨w.heap.size,j,none⟩=some v:=λj v hv=>by
  rw[hwa];exact zE _ rfl (by rw[<-Ax9];exact hv)
 have q0:=hq 0 _ rfl;have q1:=hq 1 _ rfl;have q2:=hq 2 _ rfl;have q3:=hq 3 _ rfl;have q4:=hq 4 _ rfl;have HQ:=jh q0;clear hq;show Calls Tryz.prog 21 #[.agg #[.slice sa n.st.length sc,.slice aa n.s.length ac,.slice pa n.p.length pc,.slice qa n.q.length qc,.slice da n.d.length dc]] w _;go_enter Tryz.func21,Tryz.ntmps21
 go_upto_region 1 with (fail)
 rw[<-hwa];clear hwa;go_upto_region 3 with (fail)
 clear q0 q1 q2 q3 q4
 go_loopw [3,4] (λnv q wr=>∃k:Nat,k<=n.st.length/\q=.int .i64 k/\nv=.int .i64 (gN n k)/\gN n k<=500000000000000/\Cf wa wr) (λ_ q _=>n.st.length-(intOf q).toNat)
 case atStart=>exact⟨0,oM,rfl,by rw[HZ.o];go_num,by rw[HZ.o];omega,Chg.refl _ _⟩
 case round =>
  obtain⟨k,hk,rfl,rfl,hx,hc⟩:=hrel;have HC:=jh hc;have q0:=hc.cellS HQ.o iD;clear hc;by_cases hkl:k<n.st.length
  .have b1:decide ((k:Int)<(n.st.length:Int))=true:=by simp;omega
   by_cases hgt:gN n k<=700
   .have d1:decide ((gN n k:Int)<=700)=true:=by simp;omega
    obtain⟨⟨x0,⟨ea,en,ec⟩,⟨ta,tn,tc⟩⟩,⟨kd,es,ds⟩,gx,ox,hx2,⟨r1,r2,r3,r4⟩,rfl,hgx,-,-,hcells⟩:=(HN.o _ (HCA.o.trans HC.o)).st.get3 (f:=jA) rfl hkl rfl;simp only at r1 r2 r3 r4;subst r1;obtain⟨rfl,-⟩:=r3.len;obtain⟨rfl,-⟩:=r4.len;obtain⟨g1,g2⟩:=HV.o _ (Az2 hx2);simp only at g1 g2;have HST:Hd (gN n (k+1)=gN n k+es.length+ds.length):=jh (zR6 hx2);obtain⟨-,c1,c2⟩:=hcells _ _ _ rfl;simp only[slV]at c1 c2;have HCC:Hd (wr.cell? ⟨gx,ox+k * 3+1,none⟩=some (.slice ea es.length ec)/\wr.cell? ⟨gx,ox+k * 3+2,none⟩=some (.slice ta ds.length tc)/\wr.cell? ⟨w.heap.size,0,none⟩=some (.slice (some ⟨gx,ox,none⟩) n.st.length sc)):=jh ⟨c1,c2,q0⟩;clear hcells hx2 r2 r3 r4 c1 c2;go_upto_region 5 with (fail)
    clear q0;have hw1:IntKind.i64.wrap ((gN n k:Int)+(es.length:Int))=(gN n k:Int)+(es.length:Int):=(by rw[IntKind.wrap_i64];omega);have hw2:IntKind.i64.wrap ((gN n k:Int)+(es.length:Int)+(ds.length:Int))=(gN n k:Int)+(es.length:Int)+(ds.length:Int):=(by rw[IntKind.wrap_i64];omega);refine ws (λx=>Cf wr x) ?_;(iterate 18 (refine rq ?_ (by intro _ w' _ hC;have s0:=hC.cellS HCC.o.2.2 iD;have s1:=hC.cellS HCC.o.1 iD;have s2:=hC.cellS HCC.o.2.1 iD;go_simp;try with_reducible rfl)))
    refine zQ ?_;intro w6 hc6;have HC6:=jh (HC.o.trans hc6);clear hc6 hw1 hw2;go_wp2;go_roundw
    case rel=>exact⟨k+1,oM,by go_num,by rw[HST.o];go_num,by rw[HST.o];omega,HC6.o⟩
    case measure=>simp[intOf];omega
   .have d1:decide ((gN n k:Int)<=700)=false:=by simp;omega
    have d2:decide (700<(gN n k:Int))=true:=sO;go_wp2;go_ret
    exact⟨_,rfl,λh=>(by cases h),HCA.o.trans HC.o⟩
  .obtain rfl:k=n.st.length:=oM
   have b1:decide ((n.st.length:Int)<(n.st.length:Int))=false:=sI;obtain⟨r,hr⟩:∃r,decide (700<(gN n n.st.length:Int))=r:=⟨_,rfl⟩;have HR:Hd (r=false->gN n n.st.length<=700):=jh (λh=>by rw[h]at hr;simp at hr;omega);go_wp2;go_ret
   exact⟨r,rfl,HR.o,HCA.o.trans HC.o⟩
end Go.Proofs.YtgnpmceimpjheaaGreat
namespace Go.Proofs.YtgnpmceimpjheaaGreat
open Go.ChangeShapes Go.WideShapes Go.ChangeAt Go.RowKit Go.Deep Go.WideMaps
section
variable {H:Type}{enc:TypeId×Value->H}{W:World}
end
end Go.Proofs.YtgnpmceimpjheaaGreat
namespace Go.Proofs.YtgnpmceimpjheaaGreat
open Go.ChangeShapes Go.WideShapes Go.ChangeAt Go.RowKit Go.Deep Go.WideMaps
section
variable {H:Type}{enc:TypeId×Value->H}{W:World}
end
end Go.Proofs.YtgnpmceimpjheaaGreat
namespace Go.Proofs.YtgnpmceimpjheaaGreat
open Go.ChangeShapes Go.WideShapes Go.ChangeAt Go.RowKit Go.Deep Go.WideMaps
section
variable {H:Type}{enc:TypeId×Value->H}{W:World}{α:Type}{E:Elt α}
theorem Elt.encs_get {L:List α}{j:Nat}{u:Value}(h:(E.encs L)[j]?=some u):∃x,L[j / E.sz]?=some x/\(E.enc x)[j % E.sz]?=some u:=by
 have h1:=(Az1.1 h).1;rw[E.encs_length]at h1;have h2:j / E.sz<L.length:=Nat.div_lt_of_lt_mul (by rw[Nat.mul_comm];exact h1);have h3:j % E.sz<(E.enc L[j / E.sz]).length:=by rw[E.len];exact Nat.mod_lt _ E.pos
 refine⟨L[j / E.sz],Az h2,?_⟩;have h4:=E.encs_at (Az h2) (Az h3);rw[Nat.div_add_mod' j E.sz,h]at h4;rw[Az h3];exact h4.symm
theorem dA {P:Program}{e:TypeId}{d:DataW H}{n:Nat}(hn:n∈d.weights P e):∀{ds:List (DataW H)},d∈ds->n∈DataW.weightsAll P e ds
 | [],h=>by cases h
 | d' :: ds,h=>by
  simp only[DataW.weightsAll,Av2];rcases Ax3.1 h with rfl|h
  .exact .inl hn
  .exact .inr (dA hn h)
theorem yY {P:Program}{t:TypeId}{fs:Array Field}(hu:P.underlying t=some (.struct fs)) {i:Nat}{f:Field}{d:DataW H}{parts:List (DataW H)}(hf:fs[i]?=some f) (hd:parts[i]?=some d) {n:Nat}(hn:n∈d.weights P f.type):n∈(DataW.agg parts).weights P t:=by
 simp only[DataW.weights,hu];refine DataW.weights_mem_each (j:=i) ?_ hd n hn;rw[Aw,Ax9,hf]
 rfl
theorem rW (E:Elt α) (hsz:Tryz.prog.cellsOf E.e=E.sz) (hbs:Tryz.prog.bytesOf E.e=E.bs) (Q:α->Prop) {fuel:Nat}{cs:List Value}{d:DataW H}{p:List MemPlace}(h:DataW.trod enc Tryz.prog W 0 (λ_=>true) true fuel E.sl cs=some (d,p)) (hz:∀n∈d.weights Tryz.prog E.sl,n<=reachBytes)
  (hel:∀fuel cs' d' pl,DataW.trod enc Tryz.prog W 0 (λ_=>true) true fuel E.e cs'=some (d',pl)->cs'.length=E.sz->(∀n∈d'.weights Tryz.prog E.e,n<=reachBytes)->∃x,cs'=E.enc x/\E.ok x/\Q x) :
  ∃(a:Option Addr) (c:Nat) (L:List α),cs=[.slice a L.length c]/\E.In W 0 (a,L.length,c) L/\(∀x∈L,Q x)/\L.length * E.bs<=reachBytes:=by
 rcases open_slice E.und h with ⟨rfl,_⟩|⟨a,len,cap,m,n,D,Pl,rfl,_,hl,_,hm,hx,hi⟩
 .exact⟨none,0,[],rfl,.nil _ _ _,(λx hx=>by cases hx),sI⟩
 .simp only[if_true]at hm
  subst hm;simp only[Prod.mk.injEq]at hx;obtain⟨rfl,-⟩:=hx;simp only[DataW.weights,E.und,hbs,Ax3,Av2,Aw3,List.length_range]at hz;have hlen:=hz _ (.inl rfl);have each:∀i,i<len->∃x:α,(∀k,k<E.sz->W.cell? (a.add (i * E.sz+k))=(E.enc x)[k]?)/\E.ok x/\Q x:=by
   intro i hil;obtain⟨cs',hc,ht⟩:=hi i oM;rw[hsz]at hc;obtain⟨_,hcl,hat⟩:=World.cells?_some hc;obtain⟨x,rfl,h1,h2⟩:=hel _ _ _ _ ht hcl (λn hn=>hz n (.inr (.inl (dA hn (At0.2 ⟨i,At2.2 hil,rfl⟩)))));exact⟨x,λk hk=>by rw[<-hat k hk,Go.Deep.add_add],h1,h2⟩
  haveI:Inhabited α:=⟨E.z⟩
  obtain⟨f,hf⟩:=choose_lt each;have hL:((List.range len).map f).length=len:=sI
  have hget:∀k x,((List.range len).map f)[k]?=some x->k<len/\x=f k:=by
   intro k x hx;have h1:=(Az1.1 hx).1;simp at h1
   simp[h1]at hx
   exact⟨h1,hx.symm⟩
  have hmem:∀x∈(List.range len).map f,∃k,k<len/\x=f k:=by
   intro x hx;obtain⟨k,hk⟩:=Ax7 hx;exact⟨k,hget k x hk⟩
  obtain⟨b,o,sp⟩:=a;have hfst:0<len->∃u,W.cell? ((⟨b,o,sp⟩:Addr).add 0)=some u:=λh0=>by
   have h1:=(hf 0 h0).1 0 E.pos;rw[Nat.zero_mul,Ax0,Az (by rw[E.len];exact E.pos)]at h1;exact⟨_,h1⟩
  have hsp:0<len->sp=none:=λh0=>by
   obtain⟨u,hu⟩:=hfst h0;have:=World.cell?_spot hu;simpa [Addr.add] using this
  refine⟨some ⟨b,o,sp⟩,m,(List.range len).map f,by rw[hL],⟨rfl,by show ((List.range len).map f).length<=m;rw[hL];exact hl,b,o,⟨λj u hj=>?_,λx hx=>?_,λhne=>?_⟩,λh0=>?_⟩,λx hx=>?_,?_⟩
  .obtain⟨x,h1,h2⟩:=Elt.encs_get hj
   obtain⟨h3,rfl⟩:=hget _ _ h1;obtain rfl:=hsp (Nat.lt_of_le_of_lt (Av _) h3);have h4:=(hf _ h3).1 (j % E.sz) (Nat.mod_lt _ E.pos);rw[Nat.div_add_mod' j E.sz,h2,Addr.add_lit]at h4;exact h4
  .obtain⟨k,h1,rfl⟩:=hmem x hx
   exact (hf k h1).2.1
  .have h0:0<len:=by
    rcases Aw4 len with h|h
    .subst h;simp at hne
    .exact h
   obtain⟨u,hu⟩:=hfst h0;have:=Az6 _ _ hu;simpa [Addr.add] using this
  .rw[hL]at h0
   obtain rfl:=hsp h0;exact⟨rfl,Av _⟩
  .obtain⟨k,h1,rfl⟩:=hmem x hx
   exact (hf k h1).2.2
  .rw[hL]
   exact Ay4 (Nat.mul_le_mul_right _ oM) hlen
theorem zEq {x:Int}(h:(Lit.int .i32 x).wf=true):I32 x:=by
 have e1:IntKind.i32.min=-2147483648:=rfl;have e2:IntKind.i32.max=2147483647:=rfl;simp[Lit.wf,e1,e2]at h
 exact h
structure Vast (t:LexD):Prop where
 r:t.r.length<=100000000000000
 c:t.c.length<=100000000000000
 n:t.n.length<=100000000000000
 e:t.e.length<=100000000000000
 l:∀l∈t.n,l.length<=100000000000000
theorem zQc:Tryz.prog.cellsOf 21=1:=kR
theorem pJ {fuel:Nat}{cs:List Value}{d:DataW H}{p:List MemPlace}(h:DataW.trod enc Tryz.prog W 0 (λ_=>true) true fuel 25 cs=some (d,p)) (hz:∀n∈d.weights Tryz.prog 25,n<=reachBytes) :
  ∃(a:Option Addr) (c:Nat) (L:List Int),cs=[.slice a L.length c]/\intE.In W 0 (a,L.length,c) L/\L.length<=100000000000000:=by
 obtain⟨a,c,L,h1,h2,-,h4⟩:=rW intE kR kR (λ_=>True) h hz (λfuel cs' d' pl ht hl _=>by
  obtain⟨x,e,_,w⟩:=DataW.trod_int Tryz.underlying3 ht;exact⟨x,e,bounds_i64 w,trivial⟩)
 exact⟨a,c,L,h1,h2,by have hrb:reachBytes=140737488351232:=rfl;have:intE.bs=8:=rfl;rw[this]at h4;omega⟩
end
end Go.Proofs.YtgnpmceimpjheaaGreat
