/- A part of the proof: RMt Crc OfLaw RefOf OpenS RefSeal DPut OthA. -/
import Derived.Test.YtgnpmceimpjheaaGreatGP14
import Derived.Test.YtgnpmceimpjheaaGreatGP12
import Derived.Test.YtgnpmceimpjheaaGreatGP10
import Derived.Test.YtgnpmceimpjheaaGreatGP13
import Derived.Test.YtgnpmceimpjheaaGreatGP5
import Derived.Test.YtgnpmceimpjheaaGreatGP9
import Derived.Test.YtgnpmceimpjheaaGreatGP2
import Derived.Lib.EndianBits
set_option maxRecDepth 100000
set_option maxHeartbeats 16000000
namespace Go.Proofs.YtgnpmceimpjheaaGreat
open Go.RowKit
theorem zGk {t:TabsD}(h:MayP t):yJ t=true:=by
 have any_no:∀{α:Type}{p:α->Bool}{l:List α},(∀x∈l,p x=true)->l.any (λx=>!p x)=false:=λh=>by
  rw[Aw1];intro x hx;rw[h x hx];simp
 unfold yJ;simp only[Ay2,decide_eq_true_eq,Ax8];exact⟨⟨⟨⟨⟨⟨⟨⟨⟨⟨⟨⟨h.rl1,h.rl⟩,h.tk⟩,h.dr⟩,any_no h.rn⟩,any_no h.tn⟩,h.lx⟩,h.nt⟩,h.sl⟩,h.st⟩,h.ll⟩,h.lk⟩,Aw1.2 (λs hs=>by rw[h.tb s hs];simp)⟩
theorem zMz {s:Str}:sS s=(!(decide (s.size=0) || decide (64<s.size))):=by
 rw[Au6];simp only[sS,Ay2,decide_eq_true_eq,Ax8,Bool.or_eq_false_iff,decide_eq_false_iff_not];omega
theorem zRk {s:Str}:(s.toList == ([]:List UInt8))=decide (s.size=0):=by
 have:s.toList.length=s.size:=by rw[ByteArray.toList_eq,Array.length_toList];rfl
 rw[Au6,beq_iff_eq,decide_eq_true_eq,<-this,Aw9]
theorem zCe (t:TabsD) (m:TabsS) (S:Nat->Prop) (w:World) (h:DocIn w S m t) (hf:FairTabs t) (hkd:∀s∈t.nt.st,∀e∈s.2.1,0<=e.1) :
  Calls Tryz.prog 13 #[gY m] w λe w'=>e=.returned (.bool (yJ t))/\Cf w w':=by
 obtain⟨⟨a0,n0,c0⟩,⟨a1,n1,c1⟩,⟨a2,n2,c2⟩,⟨⟨a3,n3,c3⟩,⟨a4,n4,c4⟩,⟨a5,n5,c5⟩,⟨a6,n6,c6⟩⟩,⟨⟨a7,n7,c7⟩,⟨a8,n8,c8⟩,⟨a9,n9,c9⟩,⟨a10,n10,c10⟩,⟨a11,n11,c11⟩⟩,⟨a12,n12,c12⟩⟩:=m;have HT0:=jh h;have HKD:=jh hkd;have HF:=jh hf;obtain⟨h0,h1,h2,⟨h3,h4,h5,h6⟩,⟨h7,h8,h9,h10,h11⟩,h12⟩:=h;obtain⟨rfl,-⟩:=h0.len;obtain⟨rfl,-⟩:=h1.len;obtain⟨rfl,-⟩:=h2.len;obtain⟨rfl,-⟩:=h3.len;obtain⟨rfl,-⟩:=h4.len;obtain⟨rfl,-⟩:=h5.len;obtain⟨rfl,-⟩:=h6.len;obtain⟨rfl,-⟩:=h7.len;obtain⟨rfl,-⟩:=h8.len;obtain⟨rfl,-⟩:=h9.len;obtain⟨rfl,-⟩:=h10.len;obtain⟨rfl,-⟩:=h11.len;obtain⟨rfl,-⟩:=h12.len;clear h0 h1 h2 h3 h4 h5 h6 h7 h8 h9 h10 h11 h12;have l_rl:=hf.rl;have l_tk:=hf.tk;have l_dr:=hf.dr;have l_lk:=hf.lk;have l_lr:=hf.lx.r;have l_lc:=hf.lx.c;have l_ln:=hf.lx.n;have l_le:=hf.lx.e;have l_st:=hf.nt.st;have l_s:=hf.nt.s;have l_d:=hf.nt.d;clear hf hkd;obtain⟨R,hR⟩:∃b,yJ t=b:=⟨_,rfl⟩;have HNO:Hd ((MayP t->False)->R=false):=jh (λhn=>by
  cases hr:R with
  | true=>exact (hn (nG (by rw[hR,hr]))).elim
  | false=>rfl)
 have HYES:Hd (MayP t->R=true):=jh (λhm=>by rw[<-hR];exact zGk hm);rw[hR];clear hR;obtain⟨bv,hbv⟩:∃b,b=w.heap.size:=⟨_,rfl⟩;obtain⟨w0,hw0⟩:∃W,W=w.alloc (.cells #[.slice a0 t.rl.length c0,.slice a1 t.tk.length c1,.slice a2 t.dr.length c2,.slice a3 t.lx.r.length c3,.slice a4 t.lx.c.length c4,.slice a5 t.lx.n.length c5,.slice a6 t.lx.e.length c6,.slice a7 t.nt.st.length c7,.slice a8 t.nt.s.length c8,.slice a9 t.nt.p.length c9,.slice a10 t.nt.q.length c10,.slice a11 t.nt.d.length c11,.slice a12 t.lk.length c12] 43):=⟨_,rfl⟩;have HC0:Hd (Cf w w0):=jh (by rw[hw0];exact (Chg.refl _ w).alloc _);have HA:Hd (∀X,Cf w0 X->∀j v,([.slice a0 t.rl.length c0,.slice a1 t.tk.length c1,.slice a2 t.dr.length c2,.slice a3 t.lx.r.length c3,.slice a4 t.lx.c.length c4,.slice a5 t.lx.n.length c5,.slice a6 t.lx.e.length c6,.slice a7 t.nt.st.length c7,.slice a8 t.nt.s.length c8,.slice a9 t.nt.p.length c9,.slice a10 t.nt.q.length c10,.slice a11 t.nt.d.length c11,.slice a12 t.lk.length c12]:List Value)[j]?=some v->X.cell? ⟨bv,j,none⟩=some v):=jh (λX hx j v hv=>hx.cellS (by
  rw[hw0];exact zE _ hbv (by rw[<-Ax9];exact hv)) iD)
 have HTI:Hd (∀X,Cf w0 X->DocIn X S ⟨(a0,t.rl.length,c0),(a1,t.tk.length,c1),(a2,t.dr.length,c2),⟨(a3,t.lx.r.length,c3),(a4,t.lx.c.length,c4),(a5,t.lx.n.length,c5),(a6,t.lx.e.length,c6)⟩,⟨(a7,t.nt.st.length,c7),(a8,t.nt.s.length,c8),(a9,t.nt.p.length,c9),(a10,t.nt.q.length,c10),(a11,t.nt.d.length,c11)⟩,(a12,t.lk.length,c12)⟩ t):=jh (λX hx=>DocIn.good.chg HT0.o (HC0.o.trans hx) iF);clear HT0;show Calls Tryz.prog 13 #[.agg #[.slice a0 t.rl.length c0,.slice a1 t.tk.length c1,.slice a2 t.dr.length c2,.slice a3 t.lx.r.length c3,.slice a4 t.lx.c.length c4,.slice a5 t.lx.n.length c5,.slice a6 t.lx.e.length c6,.slice a7 t.nt.st.length c7,.slice a8 t.nt.s.length c8,.slice a9 t.nt.p.length c9,.slice a10 t.nt.q.length c10,.slice a11 t.nt.d.length c11,.slice a12 t.lk.length c12]] w _;have v0:=HA.o w0 cR 0 _ rfl;have v1:=HA.o w0 cR 1 _ rfl;have v2:=HA.o w0 cR 2 _ rfl;go_enter Tryz.func13,Tryz.ntmps13
 go_upto_region 1 with (fail)
 rw[<-hw0,<-hbv];clear hw0 hbv;obtain⟨b1,e1⟩:∃b,decide ((t.rl.length:Int)<1)=b:=⟨_,rfl⟩;obtain⟨b2,e2⟩:∃b,decide ((64:Int)<(t.rl.length:Int))=b:=⟨_,rfl⟩;obtain⟨b3,e3⟩:∃b,decide ((64:Int)<(t.tk.length:Int))=b:=⟨_,rfl⟩;obtain⟨b4,e4⟩:∃b,((t.dr.length:Int) != (t.tk.length:Int))=b:=⟨_,rfl⟩;have e1':decide (t.rl.length<1)=b1:=by rw[<-e1];exact decide_eq_decide.2 oM
 have e2':decide (64<t.rl.length)=b2:=by rw[<-e2];exact decide_eq_decide.2 oM
 have e3':decide (64<t.tk.length)=b3:=by rw[<-e3];exact decide_eq_decide.2 oM
 have e4':(t.dr.length != t.tk.length)=b4:=by rw[<-e4,bneC]
 by_cases hq:(1<=t.rl.length/\t.rl.length<=64)/\(t.tk.length<=64/\t.dr.length=t.tk.length)
 rotate_left
 .have HFL:Hd (R=false):=jh (HNO.o (λh=>hq ⟨⟨h.rl1,h.rl⟩,h.tk,h.dr⟩))
  have hb:b1=true\/b1=false/\b2=true\/b1=false/\b2=false/\b3=true\/b1=false/\b2=false/\b3=false/\b4=true:=by
   rcases lad4 b1 b2 b3 b4 with h|h|h|h|⟨rfl,rfl,rfl,rfl⟩
   .exact .inl h
   .exact .inr (.inl h)
   .exact .inr (.inr (.inl h))
   .exact .inr (.inr (.inr h))
   .exfalso
    apply hq
    have h1:=of_decide_eq_false e1';have h2:=of_decide_eq_false e2';have h3:=of_decide_eq_false e3';simp at e4'
    omega
  clear hq;rcases hb with rfl|⟨rfl,rfl⟩|⟨rfl,rfl,rfl⟩|⟨rfl,rfl,rfl,rfl⟩ <;> (go_wp2;go_ret;exact⟨by rw[HFL.o];rfl,HC0.o⟩)
 obtain⟨⟨q1,q2⟩,q3,q4⟩:=hq;obtain rfl:b1=false:=by rw[<-e1'];exact decide_eq_false oM
 obtain rfl:b2=false:=by rw[<-e2'];exact decide_eq_false oM
 obtain rfl:b3=false:=by rw[<-e3'];exact decide_eq_false oM
 obtain rfl:b4=false:=by rw[<-e4'];simp[q4]
 have HQ:=jh (show _/\_ from ⟨q4,q1⟩);clear q4;go_upto_region 3 with (fail)
 clear e1 e2 e3 e4 e1' e2' e3' e4' v0 v1 v2;obtain⟨wd,hwd⟩:∃X,w0.drew=X:=⟨_,rfl⟩;have HWD:Hd (Cf w0 wd):=jh (by rw[<-hwd];exact (Chg.refl _ _).drew);refine zC (λx=>Chg (λg=>wd.heap.size<=g) wd x) (λ_=>false) kR ?_;show yN _ _ _ _ _ _ 7 (Array.replicate 7 false) _ w0.drew;rw[hwd];clear hwd;have HSS:Hd (Chg (λg=>wd.heap.size<=g) wd wd):=jh cR;have HRN:Hd (∀x,Chg (λg=>wd.heap.size<=g) wd x->∀j v,([.slice a0 t.rl.length c0,.slice a1 t.tk.length c1,.slice a2 t.dr.length c2,.slice a3 t.lx.r.length c3,.slice a4 t.lx.c.length c4,.slice a5 t.lx.n.length c5,.slice a6 t.lx.e.length c6,.slice a7 t.nt.st.length c7,.slice a8 t.nt.s.length c8,.slice a9 t.nt.p.length c9,.slice a10 t.nt.q.length c10,.slice a11 t.nt.d.length c11,.slice a12 t.lk.length c12]:List Value)[j]?=some v->x.cell? ⟨bv,j,none⟩=some v):=jh (λx hx j v hv=>HA.o x (HWD.o.trans hx.fresh) j v hv);(refine lq 0 HSS.o ?_ (hr:=by intro w' hC;have v0:=HRN.o _ hC 0 _ rfl;go_simp;try with_reducible rfl));(refine lq 1 HSS.o ?_ (hr:=by intro w' hC;have v0:=HRN.o _ hC 0 _ rfl;go_simp;try with_reducible rfl));(refine lq 3 HSS.o ?_ (hr:=by intro w' hC;have v1:=HRN.o _ hC 1 _ rfl;go_simp;try with_reducible rfl));(refine lq 4 HSS.o ?_ (hr:=by intro w' hC;have v1:=HRN.o _ hC 1 _ rfl;go_simp;try with_reducible rfl));have HIN0:=jh (HTI.o wd HWD.o);refine xE (i:=2) kR rfl rfl (.const (.slice none 0 0)) (.tmp 39) 22 22 rfl (.slice none 0 0) (.slice a0 t.rl.length c0) rfl rfl (λv' wb=>strE.Own wb wd.heap.size v' t.rl/\Chg (λg=>wd.heap.size<=g) wd wb) ?_ ?_
 .obtain⟨v',wb,hrun,h1,h2,-,-⟩:=Elt.Own.append (E:=strE) (w:=wd) (B:=wd.heap.size) (v:=.slice none 0 0) (X:=[]) (.inl ⟨rfl,rfl⟩) (Ay _) 22 (.slice a0 t.rl.length c0) t.rl HIN0.o.rl.srcS (λx hx=>HIN0.o.rl.oks x hx) (by have:=l_rl;simp;omega) 22
  exact⟨v',wb,hrun,λ_=>h2,by simpa using h1,h2⟩
 rintro vn1 wn1 hs ⟨ho1,hc1⟩ K hK;have HO1:=jh ho1;have HCN1:=jh hc1;clear ho1 hc1 hs;(try go_simp)
 refine hK _ ?_;clear hK K;have HIN1:=jh (HTI.o wn1 (HWD.o.trans HCN1.o.fresh));refine xE (i:=5) kR rfl rfl (.tmp 40) (.tmp 42) 22 22 rfl vn1 (.slice a1 t.tk.length c1) rfl rfl (λv' wb=>strE.Own wb wd.heap.size v' (t.rl++t.tk)/\Chg (λg=>wd.heap.size<=g) wd wb) ?_ ?_
 .obtain⟨v',wb,hrun,h1,h2,-,-⟩:=HO1.o.append HCN1.o.size 22 (.slice a1 t.tk.length c1) t.tk HIN1.o.tk.srcS (λx hx=>HIN1.o.tk.oks x hx) oM 22
  exact⟨v',wb,hrun,λ_=>HCN1.o.trans h2,h1,HCN1.o.trans h2⟩
 rintro vn2 wn2 hs ⟨ho2,hc2⟩ K hK;obtain⟨NL,hNL⟩:∃L,L=t.rl++t.tk:=⟨_,rfl⟩;rw[<-hNL]at ho2;have hnl:NL.length<=128:=by rw[hNL,Az0];omega
 have HNL:=jh hNL;clear hNL;obtain⟨na,nc,hn2,hnc,-⟩:=ho2.clip;subst hn2;have HL2:Hd (strE.InS wn2 (λg=>wd.heap.size<=g) (na,NL.length,nc) NL):=jh ho2.inC.inS;have HCN2:=jh hc2;have HCW2:Hd (Cf w0 wn2):=jh (HWD.o.trans hc2.fresh);clear ho2 hc2 hs HO1 HCN1 HIN1 HIN0;(try go_simp)
 refine hK _ ?_;clear hK K;have HSS:=HCN2;(refine lq 6 HSS.o ?_);refine yA kR ?_ _;have HNS:Hd (∀s∈NL,s.size<=1000000000000):=jh (λs hs=>by
  rw[HNL.o]at hs;rcases Av2.1 hs with h|h
  .exact HF.o.rs s h
  .exact HF.o.ts s h)
 go_wp2
 go_loopw [4] (λq wr=>∃k:Nat,k<=NL.length/\q=.int .i64 k/\(∀(j:Nat) s,j<k->NL[j]?=some s->sS s=true)/\Cf wn2 wr) (λq _=>NL.length-(intOf q).toNat)
 case atStart=>exact⟨0,oM,rfl,λj d h=>absurd h (Ax _),Chg.refl _ _⟩
 case round =>
  obtain⟨i,hi,rfl,hfi,hc⟩:=hrel;obtain⟨wo,rfl⟩:∃x:World,x=wr:=⟨_,rfl⟩;have HFI:=jh hfi;have HC:=jh hc;clear hfi hc;by_cases hil:i<NL.length
  .have b9:decide ((i:Int)<(NL.length:Int))=true:=by simp;omega
   obtain⟨s,s',g,o,hs,hss,rfl,-,-,-,hcs⟩:=(zJ.of (HL2.o.chg HC.o iF)).get1' (f:=λs=>[.string s]) rfl hil rfl;obtain rfl:s=s':=hss;have cs:=hcs _ rfl;have hsl:=HNS.o s (Az2 hs);have HS:=jh hs;clear hs hcs;obtain⟨b1,e1⟩:∃b,decide (s.size=0)=b:=⟨_,rfl⟩;have e1':(s.toList == ([]:List UInt8))=b1:=(by rw[zRk,e1]);have e1'':(s.toList == (⟨#[]⟩:Str).toList)=b1:=(by rw[show (⟨#[]⟩:Str).toList=[] from by rw[ByteArray.toList_eq]];exact e1');have e5q:s.toList.isEmpty=b1:=(by rw[<-e1'];cases s.toList <;> rfl);obtain⟨b2,e2⟩:∃b,decide ((64:Int)<(s.size:Int))=b:=⟨_,rfl⟩;have e2':decide (64<s.size)=b2:=(by rw[<-e2];exact decide_eq_decide.2 oM);have HB:Hd (sS s=!(b1 || b2)):=jh (by rw[zMz,e1,e2']);clear e1;rcases lad2 b1 b2 with hb|hb|⟨rfl,rfl⟩
   .subst hb
    have HFL:Hd (R=false):=jh (HNO.o (λh=>by
     have hb:=HB.o;have:s∈t.rl++t.tk:=by rw[<-HNL.o];exact Az2 HS.o
     rcases Av2.1 this with h2|h2
     .rw[h.rn s h2]at hb;cases hb
     .rw[h.tn s h2]at hb;cases hb))
    go_wp2;go_ret
    exact⟨by rw[HFL.o];rfl,HC0.o.trans (HCW2.o.trans HC.o)⟩
   .obtain⟨rfl,rfl⟩:=hb
    have HFL:Hd (R=false):=jh (HNO.o (λh=>by
     have hb:=HB.o;have:s∈t.rl++t.tk:=by rw[<-HNL.o];exact Az2 HS.o
     rcases Av2.1 this with h2|h2
     .rw[h.rn s h2]at hb;cases hb
     .rw[h.tn s h2]at hb;cases hb))
    go_wp2;go_ret
    exact⟨by rw[HFL.o];rfl,HC0.o.trans (HCW2.o.trans HC.o)⟩
   .have HNN:Hd (∀(j:Nat) z,j<i+1->NL[j]?=some z->sS z=true):=jh (λj z hj hz=>by
     by_cases hji:j=i
     .subst hji
      rw[HS.o]at hz;rw[<-Az3 hz];exact HB.o
     .exact HFI.o j z oM hz)
    go_wp2;go_roundw
    case rel=>first|exact⟨i+1,oM,by go_num,HNN.o,HC.o⟩|((repeat apply Ay7);exact⟨⟨i+1,oM,by go_num,HNN.o,HC.o⟩,rfl⟩)
    case measure=>simp[intOf];omega
  .obtain rfl:i=NL.length:=oM
   have b9:decide ((NL.length:Int)<(NL.length:Int))=false:=sI;have HNM:Hd (∀s∈t.rl++t.tk,sS s=true):=jh (λs hs=>by
    rw[<-HNL.o]at hs;obtain⟨j,hj⟩:=Ax7 hs;exact HFI.o j s (Az1.1 hj).1 hj)
   have HCA:Hd (Cf w0 wo):=jh (HCW2.o.trans HC.o);clear HFI HL2 HNS;have v3:=HA.o wo HCA.o 3 _ rfl;have v4:=HA.o wo HCA.o 4 _ rfl;have v5:=HA.o wo HCA.o 5 _ rfl;have v6:=HA.o wo HCA.o 6 _ rfl;obtain⟨bx,hbx⟩:∃b,b=wo.heap.size:=⟨_,rfl⟩;obtain⟨w1,hw1⟩:∃W,W=wo.alloc (.cells #[.slice a3 t.lx.r.length c3,.slice a4 t.lx.c.length c4,.slice a5 t.lx.n.length c5,.slice a6 t.lx.e.length c6] 37):=⟨_,rfl⟩;have HC1:Hd (Cf w0 w1):=jh (HCA.o.trans (by rw[hw1];exact (Chg.refl _ _).alloc _));have HX:Hd (∀X,Cf w1 X->X.cell? ⟨bx,0,none⟩=some (.slice a3 t.lx.r.length c3)/\X.cell? ⟨bx,1,none⟩=some (.slice a4 t.lx.c.length c4)/\X.cell? ⟨bx,2,none⟩=some (.slice a5 t.lx.n.length c5)/\X.cell? ⟨bx,3,none⟩=some (.slice a6 t.lx.e.length c6)):=jh (λX hx=>by
    have h1:∀j v,(#[.slice a3 t.lx.r.length c3,.slice a4 t.lx.c.length c4,.slice a5 t.lx.n.length c5,.slice a6 t.lx.e.length c6]:Array Value)[j]?=some v->X.cell? ⟨bx,j,none⟩=some v:=λj v hv=>hx.cellS (by rw[hw1];exact zE _ hbx hv) iD
    exact⟨h1 0 _ rfl,h1 1 _ rfl,h1 2 _ rfl,h1 3 _ rfl⟩)
   go_upto_region 10 with (fail)
   rw[<-hw1,<-hbx];clear hw1 hbx v3 v4 v5 v6;have HMC:Hd (∀X,Cf w1 X->Calls Tryz.prog 44 #[.agg #[.slice a3 t.lx.r.length c3,.slice a4 t.lx.c.length c4,.slice a5 t.lx.n.length c5,.slice a6 t.lx.e.length c6]] X λe w'=>e=.returned (.bool (mayT t.lx))/\Cf X w'):=jh (λX hx=>zE3 t.lx (a3,t.lx.r.length,c3) (a4,t.lx.c.length,c4) (a5,t.lx.n.length,c5) (a6,t.lx.e.length,c6) 0 X (LexIn.tab (LexIn.good.mono (HTI.o X (HC1.o.trans hx)).lx (λ_ _ _=>Av _))) HF.o.lx);obtain⟨b1,hb1⟩:∃b,mayT t.lx=b:=⟨_,rfl⟩;rw[hb1]at HMC;cases b1 with
   | false =>
    have HFL:Hd (R=false):=jh (HNO.o (λh=>by
     have:=(tG h.lx).m;rw[fQ.2 this]at hb1;cases hb1))
    clear hb1;refine ws (λw'=>Cf w1 w') ?_;(refine rf HX.o ?_);refine yS rfl (Value.bool false )  44  ( #[.agg #[.slice a3 t.lx.r.length c3,.slice a4 t.lx.c.length c4,.slice a5 t.lx.n.length c5,.slice a6 t.lx.e.length c6]]) (λw'=>by go_simp) (λ_ w' _ hC=>?_) (λK hK=>?_)
    .refine (HMC.o w' hC).mono ?_
     rintro e w4 ⟨rfl,hc⟩;exact⟨rfl,hC.trans hc⟩
    ((try go_simp);refine hK _ ?_;clear hK K)
    (iterate 16 (first|(refine rq ?_)|(refine sq ?_)))
    refine zQ ?_;intro wy hCy;have HCY:=jh hCy;clear hCy;go_wp2;go_ret
    exact⟨by rw[HFL.o];rfl,HC0.o.trans (HC1.o.trans HCY.o)⟩
   | true =>
    have hms:=fQ.1 hb1;have HMS:=jh hms;have HCB:Hd (∀c∈t.lx.c,0<=c/\c<=1000000000):=jh (λc hc=>by have:=hms.cb c hc;omega);have HCC:Hd (∀X,Cf w1 X->Calls Tryz.prog 45 #[.agg #[.slice a3 t.lx.r.length c3,.slice a4 t.lx.c.length c4,.slice a5 t.lx.n.length c5,.slice a6 t.lx.e.length c6]] X λe w'=>e=.returned (.int .i64 (xS t.lx.c))/\Cf X w'):=jh (λX hx=>zCf t.lx ⟨(a3,t.lx.r.length,c3),(a4,t.lx.c.length,c4),(a5,t.lx.n.length,c5),(a6,t.lx.e.length,c6)⟩ S X (HTI.o X (HC1.o.trans hx)).lx HF.o.lx.c HCB.o);have hcn:=tW t.lx.c;have hcl:xS t.lx.c<=1000000000:=fY oM (λc hc=>by have:=hms.cb c hc;omega);obtain⟨cw,hcw⟩:∃x,xS t.lx.c=x:=⟨_,rfl⟩;rw[hcw]at HCC hcn hcl;have HCWW:=jh hcw;clear hb1 hms hcw;obtain⟨b2,e2⟩:∃b,decide ((65536:Int)<(t.lx.n.length:Int))=b:=⟨_,rfl⟩;have e2':decide (65536<t.lx.n.length)=b2:=(by rw[<-e2];exact decide_eq_decide.2 oM);cases b2 with
    | true =>
     have HFL:Hd (R=false):=jh (HNO.o (λh=>by
      have:=(tG h.lx).nl;have:=of_decide_eq_true e2';omega))
     refine ws (λw'=>Cf w1 w') ?_;(refine rf HX.o ?_);refine yS rfl (Value.bool true )  44  ( #[.agg #[.slice a3 t.lx.r.length c3,.slice a4 t.lx.c.length c4,.slice a5 t.lx.n.length c5,.slice a6 t.lx.e.length c6]]) (λw'=>by go_simp) (λ_ w' _ hC=>?_) (λK hK=>?_)
     .refine (HMC.o w' hC).mono ?_
      rintro e w4 ⟨rfl,hc⟩;exact⟨rfl,hC.trans hc⟩
     ((try go_simp);refine hK _ ?_;clear hK K)
     (iterate 16 (first|(refine rf HX.o ?_)|(refine sq ?_)))
     refine zQ ?_;intro wy hCy;have HCY:=jh hCy;clear hCy;go_wp2;go_ret
     exact⟨by rw[HFL.o];rfl,HC0.o.trans (HC1.o.trans HCY.o)⟩
    | false =>
     have hnl2:t.lx.n.length<=65536:=(by have:=of_decide_eq_false e2';omega);obtain⟨pw,hpw⟩:∃x,(t.lx.n.length:Int) * cw=x:=⟨_,rfl⟩;have hp0:0<=pw:=(by rw[<-hpw];exact Int.mul_nonneg oM hcn);have hp1:pw<=65536 * 1000000000:=(by rw[<-hpw];exact Int.mul_le_mul oM hcl hcn oM);have HPW:=jh hpw;have hpe:IntKind.i64.wrap pw=pw:=IntWalk.i64_in _ oM;have HPE:=jh hpe;obtain⟨b3,e3⟩:∃b,decide ((4194304:Int)<pw)=b:=⟨_,rfl⟩;clear hpw hpe
     go_cut [82] from 65 to 82 (λv wx=>v=.bool b3/\Cf w1 wx)
     case first =>
      refine ws (λw'=>Cf w1 w') ?_;(refine rf HX.o ?_);refine yS rfl (Value.bool true )  44  ( #[.agg #[.slice a3 t.lx.r.length c3,.slice a4 t.lx.c.length c4,.slice a5 t.lx.n.length c5,.slice a6 t.lx.e.length c6]]) (λw'=>by go_simp) (λ_ w' _ hC=>?_) (λK hK=>?_)
      .refine (HMC.o w' hC).mono ?_
       rintro e w4 ⟨rfl,hc⟩;exact⟨rfl,hC.trans hc⟩
      ((try go_simp);refine hK _ ?_;clear hK K)
      (iterate 12 (first|(refine rf HX.o ?_)|(refine sq ?_)))
      refine yS rfl (Value.int .i64 cw )  45  ( #[.agg #[.slice a3 t.lx.r.length c3,.slice a4 t.lx.c.length c4,.slice a5 t.lx.n.length c5,.slice a6 t.lx.e.length c6]]) (λw'=>by go_simp) (λ_ w' _ hC=>?_) (λK hK=>?_)
      .refine (HCC.o w' hC).mono ?_
       rintro e w4 ⟨rfl,hc⟩;exact⟨rfl,hC.trans hc⟩
      ((try go_simp);refine hK _ ?_;clear hK K)
      (iterate 3 (first|(refine rq ?_ (by intro _ w' _ hC;have hpe:=HPE.o;have hpw:=HPW.o;go_simp;try with_reducible rfl))|(refine sq ?_)))
      refine zQ ?_;intro wy hCy;have HCY:=jh hCy;clear hCy;go_wp2_with fail
      go_meet
      exact⟨rfl,HCY.o⟩
     case rest =>
      obtain⟨rfl,hc2⟩:=hcut;have HC2:=jh hc2;clear hc2;cases b3 with
      | true =>
       have HFL:Hd (R=false):=jh (HNO.o (λh=>by
        have h1:=(tG h.lx).pr;have h2:=of_decide_eq_true e3;rw[HCWW.o,HPW.o]at h1;omega))
       go_wp2;go_ret
       exact⟨by rw[HFL.o];rfl,HC0.o.trans (HC1.o.trans HC2.o)⟩
      | false =>
       have HLX1:Hd (t.lx.n.length<=65536/\(t.lx.n.length:Int) * xS t.lx.c<=4194304):=jh (by
        have h2:=of_decide_eq_false e3;rw[HCWW.o,HPW.o];omega)
       clear e2 e2' e3 HPE HPW hp0 hp1 HCC HMC HCB;obtain⟨y0,y1,y2,y3⟩:=HX.o _ HC2.o;obtain⟨wq,rfl⟩:∃x:World,x=wc:=⟨_,rfl⟩;go_wp2
       go_loopw [6] (λq wr=>∃k:Nat,k<=t.lx.r.length/\q=.int .i64 k/\(∀(j:Nat) r,j<k->t.lx.r[j]?=some r->sQ r=false)/\Cf w1 wr) (λq _=>t.lx.r.length-(intOf q).toNat)
       case atStart=>exact⟨0,oM,rfl,λj d h=>absurd h (Ax _),HC2.o⟩
       case round =>
        clear y0 y1 y2 y3 HC2;obtain⟨i,hi,rfl,hfi,hc⟩:=hrel;obtain⟨wo,rfl⟩:∃x:World,x=wr:=⟨_,rfl⟩;have HFI:=jh hfi;have HC2:=jh hc;obtain⟨y0,y1,y2,y3⟩:=HX.o wo hc;clear hfi hc;by_cases hil:i<t.lx.r.length
        .have b9:decide ((i:Int)<(t.lx.r.length:Int))=true:=by simp;omega
         obtain⟨lo,hi2,gr,og,hx,rfl,s0,s1,⟨x1,x2⟩,⟨x3,x4⟩,-,-⟩:=(LexIn.tab (LexIn.good.mono (HTI.o wo (HC1.o.trans HC2.o)).lx (S':=(0<=·)) (λ_ _ _=>Av _))).r.getR hil;have HXX:=jh hx;clear hx;obtain⟨b1,e1⟩:∃b,decide (lo<0)=b:=⟨_,rfl⟩;obtain⟨b2,e2⟩:∃b,decide ((1114111:Int)<hi2)=b:=⟨_,rfl⟩;have HB:Hd (sQ (lo,hi2)=(b1 || b2)):=jh (by rw[<-e1,<-e2];rfl);rcases lad2 b1 b2 with hb|hb|⟨rfl,rfl⟩
         .subst hb
          have HFL:Hd (R=false):=jh (HNO.o (λh=>by
           have h1:=(tG h.lx).rs _ (Az2 HXX.o);have:=of_decide_eq_true e1;simp only at h1;omega))
          go_wp2;go_ret
          exact⟨by rw[HFL.o];rfl,HC0.o.trans (HC1.o.trans HC2.o)⟩
         .obtain⟨rfl,rfl⟩:=hb
          have HFL:Hd (R=false):=jh (HNO.o (λh=>by
           have h1:=(tG h.lx).rs _ (Az2 HXX.o);have:=of_decide_eq_true e2;simp only at h1;omega))
          go_wp2;go_ret
          exact⟨by rw[HFL.o];rfl,HC0.o.trans (HC1.o.trans HC2.o)⟩
         .have HNN:Hd (∀(j:Nat) r,j<i+1->t.lx.r[j]?=some r->sQ r=false):=jh (λj r hj hr=>by
           by_cases hji:j=i
           .subst hji
            rw[HXX.o]at hr;rw[<-Az3 hr];exact HB.o
           .exact HFI.o j r oM hr)
          go_wp2;go_roundw
          case rel=>first|exact⟨i+1,oM,by go_num,HNN.o,HC2.o⟩|((repeat apply Ay7);exact⟨⟨i+1,oM,by go_num,HNN.o,HC2.o⟩,rfl⟩)
          case measure=>simp[intOf];omega
        .obtain rfl:i=t.lx.r.length:=oM
         have b9:decide ((t.lx.r.length:Int)<(t.lx.r.length:Int))=false:=sI;have HSR:Hd (t.lx.r.any sQ=false):=jh (by
          rw[Aw1];intro r hr;obtain⟨j,hj⟩:=Ax7 hr;rw[HFI.o j r (Az1.1 hj).1 hj];exact Au1)
         clear HFI;go_wp2_with fail
         obtain⟨wq,rfl⟩:∃x:World,x=wo:=⟨_,rfl⟩
         go_loopw [7] (λq wr=>∃k:Nat,k<=t.lx.e.length/\q=.int .i64 k/\(∀(j:Nat) r,j<k->t.lx.e[j]?=some r->r<(t.tk.length:Int))/\Cf w1 wr) (λq _=>t.lx.e.length-(intOf q).toNat)
         case atStart=>exact⟨0,oM,rfl,λj d h=>absurd h (Ax _),HC2.o⟩
         case round =>
          clear y0 y1 y2 y3 HC2;obtain⟨i,hi,rfl,hfi,hc⟩:=hrel;obtain⟨wo,rfl⟩:∃x:World,x=wr:=⟨_,rfl⟩;have HFI:=jh hfi;have HC2:=jh hc;obtain⟨y0,y1,y2,y3⟩:=HX.o wo hc;clear hfi hc;by_cases hil:i<t.lx.e.length
          .have b9:decide ((i:Int)<(t.lx.e.length:Int))=true:=by simp;omega
           obtain⟨x,gx,ox,hx,rfl,cx,-,-,-,-⟩:=(HTI.o wo (HC1.o.trans HC2.o)).lx.e.getI hil;have HXX:=jh hx;have HCX:=jh (show _/\_ from ⟨cx,HA.o wo (HC1.o.trans HC2.o) 1 _ rfl⟩);clear hx cx;obtain⟨b1,e1⟩:∃b,decide ((t.tk.length:Int)<=x)=b:=⟨_,rfl⟩;go_upto_region 20 with (fail)
           clear y0 y1 y2 y3
           go_cut [121] from 106 to 121 (λv wx=>v=.bool b1/\Cf wo wx)
           case first =>
            (refine ws (λw'=>Cf wo w') ?_;(iterate 9 (first|(refine rq ?_ (by intro _ w' _ hC;obtain⟨y0,y1,y2,y3⟩:=HX.o _ (HC2.o.trans hC);have cx:=hC.cellS HCX.o.1 iD;have v1:=hC.cellS HCX.o.2 iD;go_simp;try with_reducible rfl))|(refine sq ?_)));refine zQ ?_;intro wy hCy);have HCY:=jh hCy;clear hCy;go_wp2_with fail
            go_meet
            exact⟨rfl,HCY.o⟩
           case rest =>
            obtain⟨rfl,hc2⟩:=hcut;have HC3:=jh (HC2.o.trans hc2);clear hc2;cases b1 with
            | true =>
             have HFL:Hd (R=false):=jh (HNO.o (λh=>by
              have h1:=(tG h.lx).eb _ (Az2 HXX.o);have:=of_decide_eq_true e1;omega))
             go_wp2;go_ret
             exact⟨by rw[HFL.o];rfl,HC0.o.trans (HC1.o.trans HC3.o)⟩
            | false =>
             have HNN:Hd (∀(j:Nat) r,j<i+1->t.lx.e[j]?=some r->r<(t.tk.length:Int)):=jh (λj r hj hr=>by
              by_cases hji:j=i
              .subst hji
               rw[HXX.o]at hr;rw[<-Az3 hr];have:=of_decide_eq_false e1;omega
              .exact HFI.o j r oM hr)
             go_wp2;go_roundw
             case rel=>first|exact⟨i+1,oM,by go_num,HNN.o,HC3.o⟩|((repeat apply Ay7);exact⟨⟨i+1,oM,by go_num,HNN.o,HC3.o⟩,rfl⟩)
             case measure=>simp[intOf];omega
          .obtain rfl:i=t.lx.e.length:=oM
           have b9:decide ((t.lx.e.length:Int)<(t.lx.e.length:Int))=false:=sI;have HLXB:Hd (rQ t.lx t.tk.length=true):=jh (by
            unfold rQ;have hne:t.lx.e≠[]:=λe=>by
             have h1:=HMS.o.el;have h2:=HMS.o.nl;rw[e]at h1;simp at h1
             omega
            have h1:=(zAs hne).1;obtain⟨j,hj⟩:=Ax7 h1;have h2:=HFI.o j _ (Az1.1 hj).1 hj;rw[fQ.2 HMS.o,HSR.o,decide_eq_true HLX1.o.1,decide_eq_true HLX1.o.2,decide_eq_true h2]
            rfl)
           have HCB2:Hd (Cf w0 wo):=jh (HC1.o.trans HC2.o);clear HFI HSR HMS HLX1 HX HCWW;clear HC2;have v7:=HA.o wo HCB2.o 7 _ rfl;have v8:=HA.o wo HCB2.o 8 _ rfl;have v9:=HA.o wo HCB2.o 9 _ rfl;have v10:=HA.o wo HCB2.o 10 _ rfl;have v11:=HA.o wo HCB2.o 11 _ rfl;obtain⟨bn,hbn⟩:∃b,b=wo.heap.size:=⟨_,rfl⟩;obtain⟨w2,hw2⟩:∃W,W=wo.alloc (.cells #[.slice a7 t.nt.st.length c7,.slice a8 t.nt.s.length c8,.slice a9 t.nt.p.length c9,.slice a10 t.nt.q.length c10,.slice a11 t.nt.d.length c11] 40):=⟨_,rfl⟩;have HC3:Hd (Cf w0 w2):=jh (HCB2.o.trans (by rw[hw2];exact (Chg.refl _ _).alloc _));have HN:Hd (∀X,Cf w2 X->∀j v,([.slice a7 t.nt.st.length c7,.slice a8 t.nt.s.length c8,.slice a9 t.nt.p.length c9,.slice a10 t.nt.q.length c10,.slice a11 t.nt.d.length c11]:List Value)[j]?=some v->X.cell? ⟨bn,j,none⟩=some v):=jh (λX hx j v hv=>hx.cellS (by
            rw[hw2];exact zE _ hbn (by rw[<-Ax9];exact hv)) iD)
           go_upto_region 23 with (fail)
           rw[<-hw2,<-hbn];clear hw2 hbn v7 v8 v9 v10 v11 y0 y1 y2 y3;have n0:=HN.o w2 cR 0 _ rfl;have n1:=HN.o w2 cR 1 _ rfl;have n2:=HN.o w2 cR 2 _ rfl;have n3:=HN.o w2 cR 3 _ rfl;have n4:=HN.o w2 cR 4 _ rfl;have HNM2:=jh (zE2 t.nt ⟨(a7,t.nt.st.length,c7),(a8,t.nt.s.length,c8),(a9,t.nt.p.length,c9),(a10,t.nt.q.length,c10),(a11,t.nt.d.length,c11)⟩ S w2 (HTI.o w2 HC3.o).nt HF.o.nt HKD.o);go_wp2_with fail
           refine HNM2.o.mono ?_;rintro e w3 ⟨rfl,hc3⟩;have HC4:=jh hc3;have HC5:=jh (HC3.o.trans hc3);clear hc3 HNM2 n0 n1 n2 n3 n4;obtain⟨nm,hnm⟩:∃b,tQ t.nt=b:=⟨_,rfl⟩;rw[hnm];cases nm with
           | false =>
            have HFL:Hd (R=false):=jh (HNO.o (λh=>by
             rw[h.nt]at hnm;cases hnm))
            clear hnm;go_wp2;go_ret
            exact⟨by rw[HFL.o];rfl,HC0.o.trans HC5.o⟩
           | true =>
            have HNMT:=jh hnm;clear hnm;have n0:=HN.o w3 HC4.o 0 _ rfl;have n1:=HN.o w3 HC4.o 1 _ rfl;have n4:=HN.o w3 HC4.o 4 _ rfl;have v0:=HA.o w3 HC5.o 0 _ rfl;have v12:=HA.o w3 HC5.o 12 _ rfl;obtain⟨b1,e1⟩:∃b,((t.nt.s.length:Int) != (t.rl.length:Int))=b:=⟨_,rfl⟩;obtain⟨b2,e2⟩:∃b,decide ((65536:Int)<(t.nt.st.length:Int))=b:=⟨_,rfl⟩;obtain⟨b3,e3⟩:∃b,((t.lk.length:Int) != (t.nt.d.length:Int))=b:=⟨_,rfl⟩;have e1':(t.nt.s.length != t.rl.length)=b1:=(by rw[<-e1,bneC]);have e2':decide (65536<t.nt.st.length)=b2:=(by rw[<-e2];exact decide_eq_decide.2 oM);have e3':(t.lk.length != t.nt.d.length)=b3:=(by rw[<-e3,bneC]);by_cases hq:t.nt.s.length=t.rl.length/\t.nt.st.length<=65536/\t.lk.length=t.nt.d.length
            rotate_left
            .have HFL:Hd (R=false):=jh (HNO.o (λh=>hq ⟨h.sl,h.st,h.ll⟩))
             have hb:b1=true\/b1=false/\b2=true\/b1=false/\b2=false/\b3=true:=by
              rcases lad3 b1 b2 b3 with h|h|h|⟨rfl,rfl,rfl⟩
              .exact .inl h
              .exact .inr (.inl h)
              .exact .inr (.inr h)
              .exfalso
               apply hq
               have h2:=of_decide_eq_false e2';simp at e1' e3'
               omega
             clear hq;rcases hb with rfl|⟨rfl,rfl⟩|⟨rfl,rfl,rfl⟩ <;> (go_wp2;go_ret;exact⟨by rw[HFL.o];rfl,HC0.o.trans HC5.o⟩)
            obtain⟨q4,q5,q6⟩:=hq;obtain rfl:b1=false:=(by rw[<-e1'];simp[q4]);obtain rfl:b2=false:=(by rw[<-e2'];exact decide_eq_false oM);obtain rfl:b3=false:=(by rw[<-e3'];simp[q6]);have HQ2:=jh (show _/\_ from ⟨q4,q6⟩);clear q4 q6;go_wp2;obtain⟨wq,rfl⟩:∃x:World,x=w3:=⟨_,rfl⟩;clear e1 e2 e3 e1' e2' e3'
            go_loopw [9] (λq wr=>∃k:Nat,k<=t.nt.st.length/\q=.int .i64 k/\(∀(j:Nat) s,j<k->t.nt.st[j]?=some s->s.2.1.any (sW t.tk.length)=false)/\Cf w2 wr) (λq _=>t.nt.st.length-(intOf q).toNat)
            case atStart=>exact⟨0,oM,rfl,λj d h=>absurd h (Ax _),HC4.o⟩
            case round =>
             clear n0 n1 n4 v0 v12 HC4 HC5;obtain⟨i,hi,rfl,hfi,hc⟩:=hrel;obtain⟨wo,rfl⟩:∃x:World,x=wr:=⟨_,rfl⟩;have HFI:=jh hfi;have HC4:=jh hc;have HC5:=jh (HC3.o.trans hc);have n0:=HN.o wo hc 0 _ rfl;clear hfi hc;by_cases hil:i<t.nt.st.length
             .have b9:decide ((i:Int)<(t.nt.st.length:Int))=true:=by simp;omega
              have HST:Hd (∀X,Cf wo X->zJ dStE dStR X S (a7,t.nt.st.length,c7) t.nt.st):=jh (λX hx=>(HTI.o X (HC5.o.trans hx)).nt.st);obtain⟨⟨yr,⟨ea,en,ec⟩,⟨ta,tn,tc⟩⟩,⟨sr,ed,ts⟩,g,o,hd,⟨hy1,-,hye,hyt⟩,rfl,-,hgl,-,hcells⟩:=(HST.o wo cR).get3 (f:=jA) rfl hil rfl;simp only at hy1 hye hyt;subst hy1;obtain⟨rfl,-⟩:=hye.len;obtain⟨-,s1,-⟩:=hcells _ _ _ rfl;simp only[slV]at s1;have HD:=jh hd;have HS1:=jh s1;have hel:=(HF.o.nt.e _ (Az2 hd)).1;simp only at hel;have HYE:Hd (∀X,Cf wo X->zJ cJ eqR X S (ea,ed.length,ec) ed):=jh (λX hx=>zJ.of (hye.chg hx iF));clear hd hye hyt hcells;go_wp2;clear s1 n0
              go_loopw [10] (λq wr=>∃k:Nat,k<=ed.length/\q=.int .i64 k/\(∀(j:Nat) e,j<k->ed[j]?=some e->sW t.tk.length e=false)/\Cf wo wr) (λq _=>ed.length-(intOf q).toNat)
              case atStart=>exact⟨0,oM,rfl,λj d h=>absurd h (Ax _),Chg.refl _ _⟩
              case round =>
               obtain⟨x,hx,rfl,hfx,hcx⟩:=hrel;obtain⟨wx,rfl⟩:∃x:World,x=wr:=⟨_,rfl⟩;have HFX:=jh hfx;have HCX:=jh hcx;have n0:=HN.o wx (HC4.o.trans hcx) 0 _ rfl;have s1:=hcx.cellS HS1.o iD;clear hfx hcx;by_cases hxl:x<ed.length
               .have b10:decide ((x:Int)<(ed.length:Int))=true:=by simp;omega
                obtain⟨⟨kd,wh,tv⟩,d',gx,ox,hxe,hxd,rfl,-,hgx,⟨⟨z1,z2⟩,⟨z3,z4⟩,⟨z5,z6⟩⟩,hcx⟩:=(HYE.o wx HCX.o).get3 (f:=zLc) rfl hxl rfl;obtain rfl:(kd,wh,tv)=d':=hxd;obtain⟨cx,cy,cz⟩:=hcx _ _ _ rfl;simp only at cx cy cz z1 z2 z3 z4 z5 z6;have HXE:=jh hxe;obtain⟨be,hbe⟩:∃b,b=wx.heap.size:=⟨_,rfl⟩;obtain⟨w4,hw4⟩:∃W,W=wx.alloc (.cells #[.int .i64 kd,.int .i64 wh,.int .i64 tv] 123):=⟨_,rfl⟩;have HCE:Hd (Cf wo w4):=jh (HCX.o.trans (by rw[hw4];exact (Chg.refl _ _).alloc _));have r0:w4.cell? ⟨be,0,none⟩=some (.int .i64 kd):=(by rw[hw4];exact zE _ hbe rfl);have r1:w4.cell? ⟨be,1,none⟩=some (.int .i64 wh):=(by rw[hw4];exact zE _ hbe rfl);have v1:=HA.o w4 (HC5.o.trans HCE.o) 1 _ rfl;clear hxe hcx;go_upto_region 32 with (fail)
                rw[<-hw4,<-hbe];clear hw4 hbe cx cy cz n0 s1;obtain⟨b1,e1⟩:∃b,(kd == 1)=b:=⟨_,rfl⟩;obtain⟨b2,e2⟩:∃b,decide ((t.tk.length:Int)<=wh)=b:=⟨_,rfl⟩;have HB:Hd (sW t.tk.length (kd,wh,tv)=(b1 && b2)):=jh (by rw[<-e1,<-e2];rfl);have hb:b1=true/\b2=true\/b1=false\/b1=true/\b2=false:=(by cases b1 <;> cases b2 <;> simp);rcases hb with ⟨rfl,rfl⟩|hb
                .have HFL:Hd (R=false):=jh (HNO.o (λh=>by
                  have h1:=h.tb _ (Az2 HD.o);have h2:ed.any (sW t.tk.length)=true:=Au5.2 ⟨_,Az2 HXE.o,by rw[HB.o];rfl⟩;simp only at h1;rw[h2]at h1;cases h1))
                 go_wp2;go_ret
                 exact⟨by rw[HFL.o];rfl,HC0.o.trans (HC5.o.trans HCE.o)⟩
                .have HNN:Hd (∀(j:Nat) e,j<x+1->ed[j]?=some e->sW t.tk.length e=false):=jh (λj e hj he=>by
                  by_cases hjx:j=x
                  .subst hjx
                   rw[HXE.o]at he;rw[<-Az3 he,HB.o];rcases hb with rfl|⟨rfl,rfl⟩ <;> rfl
                  .exact HFX.o j e oM he)
                 rcases hb with rfl|⟨rfl,rfl⟩ <;>
                 ( go_wp2
                   go_roundw
                   case rel=>first|exact⟨x+1,oM,by go_num,HNN.o,HCE.o⟩|((repeat apply Ay7);exact⟨⟨x+1,oM,by go_num,HNN.o,HCE.o⟩,rfl⟩)
                   case measure=>simp[intOf];omega )
               .obtain rfl:x=ed.length:=oM
                have b10:decide ((ed.length:Int)<(ed.length:Int))=false:=sI;have HNN:Hd (∀(j:Nat) s,j<i+1->t.nt.st[j]?=some s->s.2.1.any (sW t.tk.length)=false):=jh (λj s hj hs=>by
                 by_cases hji:j=i
                 .subst hji
                  rw[HD.o]at hs;rw[<-Az3 hs];show ed.any _=false;rw[Aw1];intro e he;obtain⟨j,hj⟩:=Ax7 he;rw[HFX.o j e (Az1.1 hj).1 hj];exact Au1
                 .exact HFI.o j s oM hs)
                have HCE:=jh (HC4.o.trans HCX.o);go_wp2;go_roundw
                case rel=>first|exact⟨i+1,oM,by go_num,HNN.o,HCE.o⟩|((repeat apply Ay7);exact⟨⟨i+1,oM,by go_num,HNN.o,HCE.o⟩,rfl⟩)
                case measure=>simp[intOf];omega
             .obtain rfl:i=t.nt.st.length:=oM
              have b9:decide ((t.nt.st.length:Int)<(t.nt.st.length:Int))=false:=sI;have HTB:Hd (∀s∈t.nt.st,s.2.1.any (sW t.tk.length)=false):=jh (λs hs=>by
               obtain⟨j,hj⟩:=Ax7 hs;exact HFI.o j s (Az1.1 hj).1 hj)
              clear HFI;go_wp2_with fail
              obtain⟨wq,rfl⟩:∃x:World,x=wo:=⟨_,rfl⟩;have hml:t.lk.length=t.nt.d.length:=HQ2.o.2;have HML:=jh hml;have l_d2:t.nt.d.length<=1000000000:=l_d;clear hml
              go_loopw [12] (λq wr=>∃k:Nat,k<=t.lk.length/\q=.int .i64 k/\(∀(j:Nat),j<k->xN (t.lk.getD j []) ((t.nt.st.getD (t.nt.d.getD j 0).toNat (0,[],[])).2.2.length:Nat) t.tk.length=true)/\Cf w2 wr) (λq _=>t.lk.length-(intOf q).toNat)
              case atStart=>exact⟨0,oM,rfl,λj h=>absurd h (Ax _),HC4.o⟩
              case round =>
               clear n0 HC4 HC5;obtain⟨i,hi,rfl,hfi,hc⟩:=hrel;obtain⟨wo,rfl⟩:∃x:World,x=wr:=⟨_,rfl⟩;have HFI:=jh hfi;have HC4:=jh hc;have HC5:=jh (HC3.o.trans hc);have v12:=HA.o wo HC5.o 12 _ rfl;clear hfi hc;by_cases hil:i<t.lk.length
               .have b9:decide ((i:Int)<(t.lk.length:Int))=true:=by simp;omega
                have hid:i<t.nt.d.length:=(by rw[<-HML.o];exact hil);have hTI:=HTI.o wo HC5.o;obtain⟨⟨ua,un,uc⟩,A,gA,oA,hxA,hrA,hgA,-,-,cA⟩:=hTI.lk.get1 (f:=slV) rfl hil (λ_=>rfl);obtain⟨rfl,-⟩:=zJ.len hrA;simp only[slV]at cA;obtain⟨dv,gD,oD,hxD,hgD,cD,-,-,-,-⟩:=hTI.nt.d.getI hid;obtain⟨dj,hdj,hdl⟩:∃j:Nat,dv=(j:Int)/\j<t.nt.st.length:=by
                 have h1:=(bE t.nt).1 HNMT.o;obtain⟨j,h2,h3⟩:=mL t.nt.st 0 dv (by
                  have h4:=h1.2.2.2.2;unfold qE at h4;rw[h4];exact Az2 hxD)
                 exact⟨j,by rw[h2,Ax0],h3⟩
                subst hdj;obtain⟨⟨yr,⟨ea,en,ec⟩,⟨ta,tn,tc⟩⟩,⟨sr,ed,ts⟩,gS,oS,hxS,⟨hy1,-,hye,hyt⟩,hgS,-,-,-,hcells⟩:=hTI.nt.st.get3 (f:=jA) rfl hdl rfl;simp only at hy1 hye hyt;obtain⟨rfl,-⟩:=hyt.len;obtain⟨-,-,cS⟩:=hcells _ _ _ rfl;simp only[slV]at cS;have HCS:=jh (show _/\_/\_ from ⟨cA,cD,cS⟩);have HXA:=jh hxA;have HVS:=jh (show _/\_/\_ from ⟨hgA,hgD,hgS⟩);have hla:=HF.o.la A (Az2 hxA);have htl:ts.length<=1000000000:=(HF.o.nt.e _ (Az2 hxS)).2;have HAC:Hd (∀X,Cf wo X->Calls Tryz.prog 47 #[.agg #[.slice ua A.length uc],.int .i64 ts.length,.int .i64 t.tk.length] X λe w'=>e=.returned (.bool (xN A ts.length t.tk.length))/\Cf X w'):=jh (λX hx=>zBx A ua uc ts.length t.tk.length S X (sJ.good.chg hrA hx iF) hla.1 hla.2 htl oM);have HEQ:Hd (xN (t.lk.getD i []) ((t.nt.st.getD (t.nt.d.getD i 0).toNat (0,[],[])).2.2.length:Nat) t.tk.length=xN A ts.length t.tk.length):=jh (by
                 rw[Aw2,Aw2,Aw2,hxA,hxD];simp only[Option.getD_some,Ay6];rw[hxS]
                 rfl)
                have hel:A.length<=1000000000:=hla.1;clear hxA hrA hxD hxS hye hyt hcells cA cD cS hla hTI hy1;obtain⟨rfl,rfl,rfl⟩:=HVS.o;obtain⟨b1,hb1⟩:∃b,xN A ts.length t.tk.length=b:=⟨_,rfl⟩;rw[hb1]at HAC HEQ;clear hb1;go_upto_region 37 with (fail)
                clear v12
                go_cut [216] from 189 to 216 (λv wx=>v=.bool (!b1)/\Cf wo wx)
                case first =>
                 refine ws (λw'=>Cf wo w') ?_;(iterate 19 (first|(refine rq ?_ (by intro _ w' _ hC;have n0:=HN.o _ (HC4.o.trans hC) 0 _ rfl;have n4:=HN.o _ (HC4.o.trans hC) 4 _ rfl;have v12:=HA.o _ (HC5.o.trans hC) 12 _ rfl;have v1:=HA.o _ (HC5.o.trans hC) 1 _ rfl;have cA:=hC.cellS HCS.o.1 iD;have cD:=hC.cellS HCS.o.2.1 iD;have cS:=hC.cellS HCS.o.2.2 iD;go_simp;try with_reducible rfl))|(refine sq ?_)))
                 refine yS rfl (Value.bool b1 )  47  ( #[.agg #[.slice ua A.length uc],.int .i64 ts.length,.int .i64 t.tk.length]) (λw'=>by go_simp) (λ_ w' _ hC=>?_) (λK hK=>?_)
                 .refine (HAC.o w' hC).mono ?_
                  rintro e w4 ⟨rfl,hc⟩;exact⟨rfl,hC.trans hc⟩
                 ((try go_simp);refine hK _ ?_;clear hK K)
                 (iterate 1 (first|(refine rq ?_)|(refine sq ?_)))
                 refine zQ ?_;intro wy hCy;have HCY:=jh hCy;clear hCy;go_wp2_with fail
                 go_meet
                 exact⟨rfl,HCY.o⟩
                case rest =>
                 obtain⟨rfl,hc2⟩:=hcut;have HC6:=jh (HC4.o.trans hc2);clear hc2;cases b1 with
                 | false =>
                  have HFL:Hd (R=false):=jh (HNO.o (λh=>by
                   have h1:=h.lk;unfold jS at h1;have h2:=Ax5.1 h1 i (At2.2 hid);rw[HEQ.o]at h2;cases h2))
                  go_wp2;go_ret
                  exact⟨by rw[HFL.o];rfl,HC0.o.trans (HC3.o.trans HC6.o)⟩
                 | true =>
                  have HNN:Hd (∀(j:Nat),j<i+1->xN (t.lk.getD j []) ((t.nt.st.getD (t.nt.d.getD j 0).toNat (0,[],[])).2.2.length:Nat) t.tk.length=true):=jh (λj hj=>by
                   by_cases hji:j=i
                   .subst hji
                    exact HEQ.o
                   .exact HFI.o j oM)
                  go_wp2;go_roundw
                  case rel=>first|exact⟨i+1,oM,by go_num,HNN.o,HC6.o⟩|((repeat apply Ay7);exact⟨⟨i+1,oM,by go_num,HNN.o,HC6.o⟩,rfl⟩)
                  case measure=>simp[intOf];omega
               .obtain rfl:i=t.lk.length:=oM
                have b9:decide ((t.lk.length:Int)<(t.lk.length:Int))=false:=sI;have HFL:Hd (R=true):=jh (HYES.o ⟨HQ.o.2,q2,q3,HQ.o.1,λs hs=>HNM.o s (List.mem_append_left _ hs),λs hs=>HNM.o s (List.mem_append_right _ hs),HLXB.o,HNMT.o,HQ2.o.1,q5,HML.o,by
                 unfold jS;rw[Ax5];intro j hj;exact HFI.o j (by rw[HML.o];exact At2.1 hj),HTB.o⟩)
                go_wp2;go_ret
                exact⟨by rw[HFL.o];rfl,HC0.o.trans HC5.o⟩
theorem zLr (k:IntKind) (j:Nat) (hj:j<=k.bits) (hk:∀n:Int,0<=n->n<2 ^ j->k.wrap n=n) (a b:Nat) (ha:a<2 ^ j) (hb:b<2 ^ j):bits .xor k a b=((a ^^^ b:Nat):Int):=by
 have hp:2 ^ j<=2 ^ k.bits:=Nat.pow_le_pow_right dE hj;have ha':a % 2 ^ k.bits=a:=Nat.mod_eq_of_lt (Ay9 ha hp);have hb':b % 2 ^ k.bits=b:=Nat.mod_eq_of_lt (Ay9 hb hp);have cast:∀n:Nat,n<2 ^ j->((n:Nat):Int)<2 ^ j:=λn h=>by exact_mod_cast h
 simp only[bits,BitVec.ofInt_natCast,BitVec.toNat_xor,BitVec.toNat_ofNat,ha',hb'];exact hk _ (Int.natCast_nonneg _) (cast _ (Nat.xor_lt_two_pow ha hb))
theorem zPj (a b:Nat) (ha:a<4294967296) (hb:b<4294967296):bits .xor .u32 a b=((a ^^^ b:Nat):Int):=zLr .u32 32 dE wraps_u32 a b ha hb
theorem xor8 (a b:Nat) (ha:a<256) (hb:b<256):bits .xor .u8 a b=((a ^^^ b:Nat):Int):=zLr .u8 8 dE wraps_u8 a b ha hb
def invL:List Nat:=[0,65,195,130,134,199,69,4,77,12,142,207,203,138,8,73,154,219,89,24,28,93,223,158,215,150,20,85,81,16,146,211,117,52,182,247,243,178,48,113,56,121,251,186,190,255,125,60,239,174,44,109,105,40,170,235,162,227,97,32,36,101,231,166,234,171,41,104,108,45,175,238,167,230,100,37,33,96,226,163,112,49,179,242,246,183,53,116,61,124,254,191,187,250,120,57,159,222,92,29,25,88,218,155,210,147,17,80,84,21,151,214,5,68,198,135,131,194,64,1,72,9,139,202,206,143,13,76,149,212,86,23,19,82,208,145,216,153,27,90,94,31,157,220,15,78,204,141,137,200,74,11,66,3,129,192,196,133,7,70,224,161,35,98,102,39,165,228,173,236,110,47,43,106,232,169,122,59,185,248,252,189,63,126,55,118,244,181,177,240,114,51,127,62,188,253,249,184,58,123,50,115,241,176,180,245,119,54,229,164,38,103,99,34,160,225,168,233,107,42,46,111,237,172,10,75,201,136,140,205,79,14,71,6,132,197,193,128,2,67,144,209,83,18,22,87,213,148,221,156,30,95,91,26,152,217]
theorem zRj:∀i:Fin 256,0<=tabI i.val/\tabI i.val<4294967296/\invL[(tabI i.val).toNat / 16777216]?=some i.val:=by decide +kernel
theorem zRh {i:Nat}(hi:i<256):∃t:Nat,tabI i=t/\t<4294967296/\invL[t / 16777216]?=some i:=by
 obtain⟨h1,h2,h3⟩:=zRj ⟨i,hi⟩;exact⟨(tabI i).toNat,by simp only at h1;omega,by simp only at h2;omega,h3⟩
theorem zKs {y c:Nat}(hy:y<4294967296) (hc:c<256):∃t:Nat,tabI (y % 256 ^^^ c)=t/\zAp y c=((y / 256 ^^^ t:Nat):Int)/\t<4294967296/\invL[t / 16777216]?=some (y % 256 ^^^ c):=by
 have hx:y % 256 ^^^ c<256:=Nat.xor_lt_two_pow (n:=8) (Nat.mod_lt _ oM) hc;obtain⟨t,ht,ht2,ht3⟩:=zRh hx;refine⟨t,ht,?_,ht2,ht3⟩;unfold zAp;rw[show ((y:Int) % 256)=((y % 256:Nat):Int) by omega,show ((y:Int) / 256)=((y / 256:Nat):Int) by omega,xor8 _ _ (Nat.mod_lt _ oM) hc,Ay6,ht,zPj _ _ oM ht2]
def dJ (y:Nat):Nat:=(y / 2) ^^^ (if y % 2=1 then 3988292384 else 0)
def gJ:Nat->Nat->Nat
 | 0,y=>y
 | j+1,y=>dJ (gJ j y)
theorem zPn {y:Nat}(h:y<4294967296):dJ y<4294967296:=Nat.xor_lt_two_pow (n:=32) oM (by split <;> decide)
theorem zL6 {y:Nat}(h:y<4294967296):zPp y=(dJ y:Nat):=by
 have h1:bits BinOp.and IntKind.u32 (y:Int) 1=((y % 2:Nat):Int):=by
  have:=(bits_nat .u32 32 dE wraps_u32 y 1 oM dE).1;rw[Nat.and_one_is_mod]at this;exact this
 unfold zPp dJ;rw[h1,show ((y:Int) / 2)=((y / 2:Nat):Int) by omega];rcases Nat.mod_two_eq_zero_or_one y with h2|h2
 .rw[h2,if_neg oM]
  exact zPj _ 0 oM oM
 .rw[h2,if_pos rfl]
  exact zPj _ 3988292384 oM oM
theorem zCs (j:Nat) {y:Nat}(h:y<4294967296):zNf j y=(gJ j y:Nat)/\gJ j y<4294967296:=by
 induction j with
 | zero=>exact⟨rfl,h⟩
 | succ j ih =>
  refine⟨?_,zPn ih.2⟩;show zPp (zNf j y)=_;rw[ih.1,zL6 ih.2]
  rfl
theorem zL5 (a b:Nat):dJ (a ^^^ b)=dJ a ^^^ dJ b:=by
 unfold dJ;have hd:(a ^^^ b) / 2=a / 2 ^^^ b / 2:=Nat.xor_div_two_pow (n:=1);have hm:(a ^^^ b) % 2=a % 2 ^^^ b % 2:=Nat.xor_mod_two_pow (n:=1);rw[hd,hm];have e:∀p q r s:Nat,(p ^^^ r) ^^^ (q ^^^ s)=(p ^^^ q) ^^^ (r ^^^ s):=λp q r s=>by
  rw[Nat.xor_assoc,Nat.xor_assoc,<-Nat.xor_assoc r q s,Nat.xor_comm r q,Nat.xor_assoc q r s]
 rw[e]
 congr 1
 rcases Nat.mod_two_eq_zero_or_one a with h1|h1 <;> rcases Nat.mod_two_eq_zero_or_one b with h2|h2 <;> rw[h1,h2] <;> decide
theorem zNe (j a b:Nat):gJ j (a ^^^ b)=gJ j a ^^^ gJ j b:=by
 induction j with
 | zero=>rfl
 | succ j ih =>
  show dJ (gJ j (a ^^^ b))=_;rw[ih,zL5]
  rfl
theorem zHy (j m:Nat):gJ j (2 ^ j * m)=m:=by
 induction j generalizing m with
 | zero=>simp[gJ]
 | succ j ih =>
  show dJ (gJ j (2 ^ (j+1) * m))=m;rw[Nat.pow_succ,Nat.mul_assoc,ih];unfold dJ;rw[if_neg oM,Nat.xor_zero];omega
theorem zLq (x:Nat):x=256 * (x / 256) ^^^ x % 256:=by
 have hd:(256 * (x / 256) ^^^ x % 256) / 256=(256 * (x / 256)) / 256 ^^^ (x % 256) / 256:=Nat.xor_div_two_pow (n:=8);have hm:(256 * (x / 256) ^^^ x % 256) % 256=(256 * (x / 256)) % 256 ^^^ (x % 256) % 256:=Nat.xor_mod_two_pow (n:=8);rw[Nat.mul_div_cancel_left _ oM,show x % 256 / 256=0 by omega,Nat.xor_zero]at hd;rw[Nat.mul_mod_right,Nat.zero_xor,Nat.mod_mod]at hm;have:=Nat.div_add_mod (256 * (x / 256) ^^^ x % 256) 256;rw[hd,hm]at this;omega
theorem zHr {y c:Nat}(hy:y<4294967296) (hc:c<256):zAp y c=((gJ 8 (y ^^^ c):Nat):Int):=by
 obtain⟨t,h1,h2,_,_⟩:=zKs hy hc;have hx:y % 256 ^^^ c<256:=Nat.xor_lt_two_pow (n:=8) (Nat.mod_lt _ oM) hc;have ht:t=gJ 8 (y % 256 ^^^ c):=by
  have:=(zCs 8 (y:=y % 256 ^^^ c) oM).1;rw[tabI]at h1;rw[this]at h1;exact_mod_cast h1.symm
 rw[h2,ht]
 congr 1
 have hd:(y ^^^ c) / 256=y / 256 ^^^ c / 256:=Nat.xor_div_two_pow (n:=8);have hm:(y ^^^ c) % 256=y % 256 ^^^ c % 256:=Nat.xor_mod_two_pow (n:=8);rw[show c / 256=0 by omega,Nat.xor_zero]at hd;rw[show c % 256=c by omega]at hm
 conv=>rhs;rw[zLq (y ^^^ c),zNe,hd,hm]
 rw[show 256 * (y / 256)=2 ^ 8 * (y / 256) from rfl,zHy]
def eW (Z:List Int) (y:Nat):Nat:=Z.foldl (λy c=>gJ 8 (y ^^^ c.toNat)) y
theorem zFk (Z:List Int) (hZ:∀a∈Z,Byte a) (y:Nat) (hy:y<4294967296):eW Z y<4294967296/\Z.foldl zAp (y:Int)=(eW Z y:Nat):=by
 induction Z generalizing y with
 | nil=>exact⟨hy,rfl⟩
 | cons z Z ih =>
  have hz:=hZ z sI;obtain⟨c,rfl⟩:=Aw8 hz.1;have hc:c<256:=by have:=hz.2;omega
  have hx:y ^^^ c<4294967296:=Nat.xor_lt_two_pow (n:=32) hy oM;have:=ih (λa ha=>hZ a (by simp[ha])) (gJ 8 (y ^^^ c)) (zCs 8 hx).2;refine⟨this.1,?_⟩;rw[List.foldl_cons,zHr hy hc];exact this.2
theorem zP1 (Z:List Int) (hZ:∀a∈Z,Byte a):ofI Z=((4294967295 ^^^ eW Z 4294967295:Nat):Int):=by
 have h:=zFk Z hZ 4294967295 oM;unfold ofI zD5;have hm:(IntKind.u32.max:Int)=((4294967295:Nat):Int):=dE
 have h2:Z.foldl zAp 4294967295=(eW Z 4294967295:Nat):=h.2;rw[h2,hm];exact zPj _ _ oM h.1
structure BoolsAt (w:World) (b:Nat) (A:Nat->Bool):Prop where
 c:∀i,i<32->w.cell? ⟨b,i,none⟩=some (.bool (A i))
 z:∀j,w.frozen? ⟨b,j,none⟩=false
theorem BoolsAt.congr {w:World}{b:Nat}{A A':Nat->Bool}(h:BoolsAt w b A) (he:∀i,i<32->A' i=A i):BoolsAt w b A':=⟨λi hi=>by rw[he i hi];exact h.c i hi,h.z⟩
theorem BoolsAt.put {w:World}{b:Nat}{A:Nat->Bool}(h:BoolsAt w b A) {k:Nat}(hk:k<32) (v:Bool):BoolsAt (w.setCell ⟨b,k,none⟩ (.bool v)) b (λi=>if i=k then v else A i):=by
 refine⟨λi hi=>?_,λj=>(Az4 _ _ _ _).trans (h.z j)⟩;by_cases he:i=k
 .subst he
  rw[if_pos rfl];exact Az9 _ _ _ (h.c _ hi)
 .rw[if_neg he,Ay0 _ _ _ _ (by intro e;injection e with _ e;omega)]
  exact h.c i hi
def zEu:Array Value:=Array.replicate 32 (.bool false)
theorem zLp (w:World):(zeroValue 209).run Tryz.prog w=.ok (.agg zEu) w:=kR
theorem BoolsAt.made (w:World) (e:TypeId):BoolsAt (w.alloc (.cells zEu e)) w.heap.size (λ_=>false):=by
 refine⟨λi hi=>?_,λj=>Az8 _ _ _ _⟩;rw[Az7];simp[zEu,hi]
theorem zRd (n j:Nat):((((n:Int) / 2 ^ j).tmod 2 == 1):Bool)=n.testBit j:=by
 have h1:((n:Int) / 2 ^ j)=((n / 2 ^ j:Nat):Int):=sI
 have h0:∀m:Nat,((m:Nat):Int).tmod 2=((m % 2:Nat):Int):=λm=>by rw[Int.tmod_eq_emod_of_nonneg (Int.natCast_nonneg _)];omega
 have h2:=h0 (n / 2 ^ j);rw[h1,h2,Nat.testBit_eq_decide_div_mod_eq];rcases Nat.mod_two_eq_zero_or_one (n / 2 ^ j) with h|h <;> rw[h] <;> rfl
theorem zMg (Z:List Int) (a:Option Addr) (g o c:Nat) (w:World) (hz:BytesAt w g o Z) (ha:0<Z.length->a=some ⟨g,o,none⟩) (hl:Z.length<=10000000) :
  Calls Tryz.prog 77 #[.slice a Z.length c] w λe w'=>e=.returned (.int .u32 (ofI Z))/\Cf w w':=by
 have HZ:=jh hz;have HA:=jh ha;have HB0:=jh (BoolsAt.made w 209);have HC0:=jh ((Chg.refl (λk=>w.heap.size<=k) w).alloc (.cells zEu 209));have hzb:=zLp;clear hz ha;go_enter Tryz.func77,Tryz.ntmps77
 go_wp2
 go_loopw [4] (λi wr=>∃k:Nat,k<=32/\i=.int .i64 k/\BoolsAt wr w.heap.size (λi=>decide (i<k))/\Chg (λk=>w.heap.size<=k) w wr) (λi _=>32-(intOf i).toNat)
 case atStart=>exact⟨0,oM,rfl,HB0.o.congr (λi _=>sI),HC0.o⟩
 case round =>
  clear HB0 HC0;obtain⟨k,hk,rfl,hb,hc⟩:=hrel;have HB:=jh hb;have HC:=jh hc;clear hb hc;by_cases hk32:k<32
  .have c1:=HB.o.c k hk32
   have z1:=HB.o.z k;have HX:=jh ((HB.o.put hk32 true).congr (A':=λi=>decide (i<k+1)) (λi _=>by
    by_cases he:i=k
    .subst he;simp
    .rw[if_neg he,decide_eq_decide];omega))
   have HC2:=jh (HC.o.trans ((zA wr w.heap.size k (.bool true)).mono (T:=λk=>w.heap.size<=k) (λk _ e=>oM)));have b14:decide ((k:Int)<32)=true:=sO;clear HB HC;go_wp2;go_roundw
   case rel=>first|exact⟨k+1,oM,by go_num,HX.o,HC2.o⟩|((repeat apply Ay7);exact⟨⟨k+1,oM,rfl,HX.o,HC2.o⟩,rfl⟩)
   case measure=>simp[intOf];omega
  .obtain rfl:k=32:=oM
   have HBN:Hd (BoolsAt wr w.heap.size (λi=>(eW (Z.take 0) 4294967295).testBit i)):=jh (HB.o.congr (λi hi=>by
    show (4294967295:Nat).testBit i=decide (i<32);rw[show (4294967295:Nat)=2 ^ 32-1 from rfl,Nat.testBit_two_pow_sub_one]))
   have HC1:=HC;clear HB HC;go_wp2;obtain⟨wo,rfl⟩:∃wo:World,wo=wr:=⟨_,rfl⟩
   go_loopw [5] (λi wr=>∃k:Nat,k<=Z.length/\i=.int .i64 k/\BoolsAt wr w.heap.size (λi=>(eW (Z.take k) 4294967295).testBit i)/\Chg (λk=>w.heap.size<=k) w wr) (λi _=>Z.length-(intOf i).toNat)
   case atStart=>exact⟨0,oM,rfl,HBN.o,HC1.o⟩
   case round =>
    clear HBN HC1;obtain⟨k,hk,rfl,hb,hc⟩:=hrel;have HB:=jh hb;have HC:=jh hc;clear hb hc;by_cases hkl:k<Z.length
    .obtain⟨z,hz,c1,z0,z1⟩:=(HZ.o.chg HC.o.fresh iE).get hkl
     have e1:=HA.o oM;subst e1;have HZG:=jh hz;clear hz c1;have b22:decide ((k:Int)<(Z.length:Int))=true:=sO;go_wp2;obtain⟨wo2,rfl⟩:∃wo:World,wo=wr:=⟨_,rfl⟩
     go_loopw [6] (λi wr=>∃j:Nat,j<=8/\i=.int .i64 j/\BoolsAt wr w.heap.size (λi=>if i<j then (eW (Z.take k) 4294967295 ^^^ z.toNat).testBit i else (eW (Z.take k) 4294967295).testBit i)/\Chg (λk=>w.heap.size<=k) w wr) (λi _=>8-(intOf i).toNat)
     case atStart=>exact⟨0,oM,rfl,HB.o.congr (λi _=>by rw[if_neg oM]),HC.o⟩
     case round =>
      clear HB HC;obtain⟨j,hj,rfl,hb,hc⟩:=hrel;have HB:=jh hb;have HC:=jh hc;clear hb hc;by_cases hj8:j<8
      .obtain⟨c2,_⟩:=(HZ.o.chg HC.o.fresh iE).c k z HZG.o
       have c3:=HB.o.c j oM;have z3:=HB.o.z j;have b26:decide ((j:Int)<8)=true:=sO;obtain⟨zn,rfl⟩:=Aw8 z0;have hq:=zRd zn j;rw[if_neg oM]at c3;obtain⟨v,hv⟩:∃v,(eW (Z.take k) 4294967295).testBit j=v:=⟨_,rfl⟩;rw[hv]at c3;cases hbit:zn.testBit j with
       | false =>
        rw[hbit]at hq;have HX:=jh (HB.o.congr (A':=λi=>if i<j+1 then (eW (Z.take k) 4294967295 ^^^ (Int.ofNat zn).toNat).testBit i else (eW (Z.take k) 4294967295).testBit i) (λi _=>by
         by_cases he:i=j
         .subst he
          rw[if_pos oM,if_neg oM,Nat.testBit_xor,show (Int.ofNat zn).toNat=zn from rfl,hbit];simp
         .by_cases hi:i<j
          .rw[if_pos oM,if_pos hi];rfl
          .rw[if_neg oM,if_neg hi]))
        clear HB hv hbit;go_wp2;go_roundw
        case rel=>first|exact⟨j+1,oM,by go_num,HX.o,HC.o⟩|((repeat apply Ay7);exact⟨⟨j+1,oM,rfl,HX.o,HC.o⟩,rfl⟩)
        case measure=>simp[intOf];omega
       | true =>
        rw[hbit]at hq;have HX:=jh ((HB.o.put (k:=j) oM (!v)).congr (A':=λi=>if i<j+1 then (eW (Z.take k) 4294967295 ^^^ (Int.ofNat zn).toNat).testBit i else (eW (Z.take k) 4294967295).testBit i) (λi _=>by
         by_cases he:i=j
         .subst he
          rw[if_pos oM,if_pos rfl,Nat.testBit_xor,show (Int.ofNat zn).toNat=zn from rfl,hbit,hv];simp
         .rw[if_neg he]
          by_cases hi:i<j
          .rw[if_pos oM,if_pos hi];rfl
          .rw[if_neg oM,if_neg hi]))
        have HC2:=jh (HC.o.trans ((zA wr w.heap.size j (.bool (!v))).mono (T:=λk=>w.heap.size<=k) (λk _ e=>oM)));clear HB HC hv hbit;go_wp2;go_roundw
        case rel=>first|exact⟨j+1,oM,by go_num,HX.o,HC2.o⟩|((repeat apply Ay7);exact⟨⟨j+1,oM,rfl,HX.o,HC2.o⟩,rfl⟩)
        case measure=>simp[intOf];omega
      .obtain rfl:j=8:=oM
       have hyl:eW (Z.take k) 4294967295<4294967296:=(zFk _ (λa ha=>HZ.o.byte a (At1 ha)) _ oM).1;obtain⟨y,hy⟩:∃y,eW (Z.take k) 4294967295 ^^^ z.toNat=y:=⟨_,rfl⟩;have hylt:y<4294967296:=(by rw[<-hy];exact Nat.xor_lt_two_pow (n:=32) hyl oM);have HN:Hd (eW (Z.take (k+1)) 4294967295=gJ 8 y):=jh (by
        rw[Ay1,HZG.o];show List.foldl _ _ (Z.take k++[z])=_;rw[List.foldl_append,<-hy]
        rfl)
       have HBY:Hd (BoolsAt wr w.heap.size (λi=>(gJ 0 y).testBit i)):=jh (HB.o.congr (λi _=>by
        by_cases hi:i<8
        .rw[if_pos hi,hy];rfl
        .rw[if_neg hi]
         show y.testBit i=_;rw[<-hy,Nat.testBit_xor,Nat.testBit_lt_two_pow (x:=z.toNat) (Ay9 (show z.toNat<2 ^ 8 by omega) (Nat.pow_le_pow_right oM oM))];simp))
       have HC1:=HC;have HYL:=jh hylt;clear HB HC hyl hy hylt;go_wp2;obtain⟨wo3,rfl⟩:∃wo:World,wo=wr:=⟨_,rfl⟩
       go_loopw [7] (λi wr=>∃j:Nat,j<=8/\i=.int .i64 j/\BoolsAt wr w.heap.size (λi=>(gJ j y).testBit i)/\Chg (λk=>w.heap.size<=k) w wr) (λi _=>8-(intOf i).toNat)
       case atStart=>exact⟨0,oM,rfl,HBY.o,HC1.o⟩
       case round =>
        clear HBY HC1;obtain⟨j,hj,rfl,hb,hc⟩:=hrel;have HB:=jh hb;have HC:=jh hc;clear hb hc;by_cases hj8:j<8
        .obtain⟨Y,hY⟩:∃Y,gJ j y=Y:=⟨_,rfl⟩
         have HYT:Hd (Y<4294967296):=jh (by rw[<-hY];exact (zCs j HYL.o).2);have HNX:Hd (gJ (j+1) y=dJ Y):=jh (by rw[<-hY];rfl);have HBY:Hd (BoolsAt wr w.heap.size (λi=>Y.testBit i)):=jh (by rw[<-hY];exact HB.o);have c0:=HBY.o.c 0 oM;obtain⟨ob,hob⟩:∃ob,Y.testBit 0=ob:=⟨_,rfl⟩;rw[hob]at c0;have HOB:Hd (ob=decide (Y % 2=1)):=jh (by rw[<-hob,Nat.testBit_zero]);have b44:decide ((j:Int)<8)=true:=sO;clear HB hY hob;go_wp2;obtain⟨wo4,rfl⟩:∃wo:World,wo=wr:=⟨_,rfl⟩
         go_loopw [9] (λi wr=>∃m:Nat,m<=31/\i=.int .i64 m/\BoolsAt wr w.heap.size (λi=>if i<m then Y.testBit (i+1) else Y.testBit i)/\Chg (λk=>w.heap.size<=k) w wr) (λi _=>31-(intOf i).toNat)
         case atStart=>exact⟨0,oM,rfl,HBY.o.congr (λi _=>by rw[if_neg oM]),HC.o⟩
         case round =>
          clear HBY HC c0;obtain⟨m,hm,rfl,hb,hc⟩:=hrel;have HB:=jh hb;have HC:=jh hc;clear hb hc;by_cases hm31:m<31
          .have c5:=HB.o.c (m+1) oM
           have c6:=HB.o.c m oM;have z6:=HB.o.z m;rw[if_neg oM]at c5 c6;obtain⟨v,hv⟩:∃v,Y.testBit (m+1)=v:=⟨_,rfl⟩;obtain⟨v0,hv0⟩:∃v,Y.testBit m=v:=⟨_,rfl⟩;rw[hv]at c5;rw[hv0]at c6;have HX:=jh ((HB.o.put (k:=m) oM v).congr (A':=λi=>if i<m+1 then Y.testBit (i+1) else Y.testBit i) (λi _=>by
            by_cases he:i=m
            .subst he;rw[if_pos oM,if_pos rfl,hv]
            .rw[if_neg he]
             by_cases hi:i<m
             .rw[if_pos oM,if_pos hi]
             .rw[if_neg oM,if_neg hi]))
           have HC2:=jh (HC.o.trans ((zA wr w.heap.size m (.bool v)).mono (T:=λk=>w.heap.size<=k) (λk _ e=>oM)));have b50:decide ((m:Int)<31)=true:=sO;clear HB HC hv hv0;go_wp2;go_roundw
           case rel=>first|exact⟨m+1,oM,by go_num,HX.o,HC2.o⟩|((repeat apply Ay7);exact⟨⟨m+1,oM,rfl,HX.o,HC2.o⟩,rfl⟩)
           case measure=>simp[intOf];omega
          .obtain rfl:m=31:=oM
           have c6:=HB.o.c 31 oM;have z6:=HB.o.z 31;rw[if_neg oM]at c6;obtain⟨v0,hv0⟩:∃v,Y.testBit 31=v:=⟨_,rfl⟩;rw[hv0]at c6;have HX:=jh ((HB.o.put (k:=31) oM false).congr (A':=λi=>(Y / 2).testBit i) (λi hi=>by
            rw[Nat.testBit_div_two];by_cases he:i=31
            .subst he;rw[if_pos rfl,Nat.testBit_lt_two_pow (by have:=HYT.o;exact this)]
            .rw[if_neg he,if_pos oM]))
           have HC2:=jh (HC.o.trans ((zA wr w.heap.size 31 (.bool false)).mono (T:=λk=>w.heap.size<=k) (λk _ e=>oM)));clear HB HC hv0;go_wp2
           go_loopw [10] (λi wr=>∃m:Nat,m<=32/\i=.int .i64 m/\BoolsAt wr w.heap.size (λi=>if i<m then (dJ Y).testBit i else (Y / 2).testBit i)/\Chg (λk=>w.heap.size<=k) w wr) (λi _=>32-(intOf i).toNat)
           case atStart=>exact⟨0,oM,rfl,HX.o.congr (λi _=>by rw[if_neg oM]),HC2.o⟩
           case round =>
            clear HX HC2 c6 z6;obtain⟨m,hm,rfl,hb,hc⟩:=hrel;have HB:=jh hb;have HC:=jh hc;clear hb hc;by_cases hm32:m<32
            .have c7:=HB.o.c m hm32
             have z7:=HB.o.z m;rw[if_neg oM]at c7;obtain⟨v,hv⟩:∃v,(Y / 2).testBit m=v:=⟨_,rfl⟩;rw[hv]at c7;have hq:(((3988292384:Int) / 2 ^ m).tmod 2 == 1)=(3988292384:Nat).testBit m:=zRd 3988292384 m;have b61:decide ((m:Int)<32)=true:=sO;have HST:Hd ((dJ Y).testBit m=(v != (ob && (3988292384:Nat).testBit m))):=jh (by
              rw[dJ,Nat.testBit_xor,hv,HOB.o];by_cases ho:Y % 2=1
              .rw[if_pos ho];simp[ho]
              .rw[if_neg ho];simp[ho])
             cases hfl:(ob && (3988292384:Nat).testBit m) with
             | false =>
              have HX:=jh (HB.o.congr (A':=λi=>if i<m+1 then (dJ Y).testBit i else (Y / 2).testBit i) (λi _=>by
               by_cases he:i=m
               .subst he
                rw[if_pos oM,if_neg oM,HST.o,hfl,hv];simp
               .by_cases hi:i<m
                .rw[if_pos oM,if_pos hi]
                .rw[if_neg oM,if_neg hi]))
              clear HST hv HB;cases ob with
              | false =>
               clear hfl;go_wp2;go_roundw
               case rel=>first|exact⟨m+1,oM,by go_num,HX.o,HC.o⟩|((repeat apply Ay7);exact⟨⟨m+1,oM,rfl,HX.o,HC.o⟩,rfl⟩)
               case measure=>simp[intOf];omega
              | true =>
               have hbit:(3988292384:Nat).testBit m=false:=(by simpa using hfl);rw[hbit]at hq;clear hfl hbit;go_wp2;go_roundw
               case rel=>first|exact⟨m+1,oM,by go_num,HX.o,HC.o⟩|((repeat apply Ay7);exact⟨⟨m+1,oM,rfl,HX.o,HC.o⟩,rfl⟩)
               case measure=>simp[intOf];omega
             | true =>
              have HX:=jh ((HB.o.put hm32 (!v)).congr (A':=λi=>if i<m+1 then (dJ Y).testBit i else (Y / 2).testBit i) (λi _=>by
               by_cases he:i=m
               .subst he
                rw[if_pos oM,if_pos rfl,HST.o,hfl];simp
               .rw[if_neg he]
                by_cases hi:i<m
                .rw[if_pos oM,if_pos hi]
                .rw[if_neg oM,if_neg hi]))
              have HC2:=jh (HC.o.trans ((zA wr w.heap.size m (.bool (!v))).mono (T:=λk=>w.heap.size<=k) (λk _ e=>oM)));rw[Ay2]at hfl;obtain⟨ho,hbit⟩:=hfl;rw[hbit]at hq;subst ho;clear HST hv HB HC hbit;go_wp2;go_roundw
              case rel=>first|exact⟨m+1,oM,by go_num,HX.o,HC2.o⟩|((repeat apply Ay7);exact⟨⟨m+1,oM,rfl,HX.o,HC2.o⟩,rfl⟩)
              case measure=>simp[intOf];omega
            .obtain rfl:m=32:=oM
             have HX:Hd (BoolsAt wr w.heap.size (λi=>(gJ (j+1) y).testBit i)):=jh (by rw[HNX.o];exact HB.o.congr (λi hi=>by rw[if_pos hi]));clear HB HNX;go_wp2;go_roundw
             case rel=>first|exact⟨j+1,oM,by go_num,HX.o,HC.o⟩|((repeat apply Ay7);exact⟨⟨j+1,oM,rfl,HX.o,HC.o⟩,rfl⟩)
             case measure=>simp[intOf];omega
        .obtain rfl:j=8:=oM
         have HX:Hd (BoolsAt wr w.heap.size (λi=>(eW (Z.take (k+1)) 4294967295).testBit i)):=jh (by rw[HN.o];exact HB.o);clear HB HN;go_wp2;go_roundw
         case rel=>first|exact⟨k+1,oM,by go_num,HX.o,HC.o⟩|((repeat apply Ay7);exact⟨⟨k+1,oM,rfl,HX.o,HC.o⟩,rfl⟩)
         case measure=>simp[intOf];omega
    .obtain rfl:k=Z.length:=oM
     rw[Ay5]at HB;obtain⟨y,hy⟩:∃y,eW Z 4294967295=y:=⟨_,rfl⟩;rw[hy]at HB;have HF:Hd (ofI Z=((4294967295 ^^^ y:Nat):Int)):=jh (by rw[<-hy];exact zP1 Z HZ.o.byte);have hylt:y<4294967296:=(by rw[<-hy];exact (zFk Z HZ.o.byte _ oM).1);obtain⟨M,hM⟩:∃M,4294967295 ^^^ y=M:=⟨_,rfl⟩;have hMlt:M<4294967296:=(by rw[<-hM];exact Nat.xor_lt_two_pow (n:=32) oM hylt);have HMB:Hd (∀q,q<32->M.testBit q=!y.testBit q):=jh (λq hq=>by
      rw[<-hM,Nat.testBit_xor,show (4294967295:Nat)=2 ^ 32-1 from rfl,Nat.testBit_two_pow_sub_one];simp[hq])
     rw[hM]at HF;clear hy hM;go_wp2;obtain⟨wo2,rfl⟩:∃wo:World,wo=wr:=⟨_,rfl⟩
     go_loopw [11,12] (λn i wr=>∃r:Nat,r<=32/\i=.int .i64 ((r:Int)-1)/\n=.int .u32 ((M / 2 ^ r:Nat):Int)/\BoolsAt wr w.heap.size (λi=>y.testBit i)/\Chg (λk=>w.heap.size<=k) w wr) (λ_ i _=>(intOf i+1).toNat)
     case atStart=>exact⟨32,oM,rfl,by rw[Nat.div_eq_of_lt hMlt];rfl,HB.o,HC.o⟩
     case round =>
      clear HB HC;obtain⟨r,hr,rfl,rfl,hb,hc⟩:=hrel;have HB:=jh hb;have HC:=jh hc;clear hb hc;rcases r with _|q
      .go_wp2
       go_ret
       exact⟨by rw[HF.o];simp,HC.o.fresh⟩
      .have e1:(((q+1:Nat):Int))-1=(q:Int):=oM
       rw[e1];have c7:=HB.o.c q oM;obtain⟨v,hv⟩:∃v,y.testBit q=v:=⟨_,rfl⟩;rw[hv]at c7;obtain⟨N0,hN0⟩:∃N0,M / 2 ^ (q+1)=N0:=⟨_,rfl⟩;have hd:M / 2 ^ q / 2=N0:=(by rw[<-hN0,Nat.pow_succ,Nat.div_div_eq_div_mul]);have hle:M / 2 ^ q<=M:=Nat.div_le_self _ _;have hbit:decide (M / 2 ^ q % 2=1)=!v:=(by rw[<-Nat.testBit_eq_decide_div_mod_eq,HMB.o q oM,hv]);have HNQ:Hd (M / 2 ^ q=2 * N0+(if v then 0 else 1)):=jh (by
        cases v with
        | true=>simp at hbit;rw[if_pos rfl];omega
        | false=>simp at hbit;rw[if_neg dE];omega)
       have hN1:N0<=2147483647:=oM;have b78:decide ((0:Int)<=(q:Int))=true:=sI;rw[hN0];clear hN0 hd hle hbit hv;cases v with
       | true =>
        have e2:((2 * N0:Nat):Int)=2 * (N0:Int):=oM;go_wp2;go_roundw
        case rel=>first|exact⟨q,oM,by first|rfl|go_num,by rw[HNQ.o,if_pos rfl];first|rfl|simp,HB.o,HC.o⟩|((repeat apply Ay7);exact⟨⟨q,oM,rfl,by rw[HNQ.o,if_pos rfl];rfl,HB.o,HC.o⟩,rfl⟩)
        case measure=>simp[intOf]
       | false =>
        go_wp2;go_roundw
        case rel=>first|exact⟨q,oM,by first|rfl|go_num,by rw[HNQ.o,if_neg dE];first|rfl|simp,HB.o,HC.o⟩|((repeat apply Ay7);exact⟨⟨q,oM,rfl,by rw[HNQ.o,if_neg dE];rfl,HB.o,HC.o⟩,rfl⟩)
        case measure=>simp[intOf]
structure Fresh (w0 w:World) (v:Value) (X:List Int) (pg:Option Nat):Prop where
 val:v=.slice (pg.map λg=>⟨g,0,none⟩) X.length X.length
 own:∀g,pg=some g->w0.heap.size<=g/\Row w g X
 nil:pg=none->X=[]
theorem zQq (w0 w:World) (v:Value) (X:List Int) (h:Own w w0.heap.size v X) :
  Calls Tryz.prog 73 #[v] w λe w'=>∃v' pg,e=.returned v'/\w'=w/\Fresh w0 w v' X pg:=by
 rcases h with ⟨rfl,rfl⟩|⟨g,C,rfl,hg,hR,hp,hm⟩
 .go_enter Tryz.func73,Tryz.ntmps73
  go_wp2;go_ret
  exact⟨_,none,rfl,rfl,rfl,(λg hg=>by cases hg),λ_=>rfl⟩
 .refine (zB2 w g _ _ hp.length_le).mono λe w' ⟨he,hw⟩=>?_
  subst hw;exact⟨_,some g,he,rfl,rfl,λg' hg'=>by
   obtain rfl:=Az3 hg';exact⟨hg,λk x hk=>by have:=(hR.bytes hp).c k x hk;rw[Ax0]at this;exact this.1,hR.z,hR.lt,λx hx=>hR.byte x (hp.subset hx)⟩,λh=>by cases h⟩
theorem zKm (sv:Value) (Z:List Int) (a:Option Addr) (c:Nat) (w:World) (hl:Z.length<4) :
  Calls Tryz.prog 54 #[sv,.slice a Z.length c] w λe w'=>e=.returned (.tuple #[.slice none 0 0,.int .i64 4])/\w'=w:=by
 have h1:(Z.length:Int)-4<0:=oM
 go_enter Tryz.func54,Tryz.ntmps54
 go_wp2;go_ret2
 exact⟨rfl,rfl⟩
theorem zMq (b:Nat) (Z:List Int) (A:Nat) (g o c:Nat) (w:World) (hs:nQ w b) (hz:BytesAt w g o Z) (hgb:g≠b) (hl:Z.length<=20000000) (hA:Z.length=A+4) (hc:Z.length<=c) :
  Calls Tryz.prog 54 #[.pointer (some ⟨b,0,none⟩),.slice (some ⟨g,o,none⟩) Z.length c] w λe w'=>nQ w' b/\Chg (·=b) w w'/\((Z.drop A=kY (ofI (Z.take A))/\∃v pg,e=.returned (.tuple #[v,.int .i64 0])/\Fresh w w' v (Z.take A) pg)\/(Z.drop A≠kY (ofI (Z.take A))/\e=.returned (.tuple #[.slice none 0 0,.int .i64 5]))):=by
 have hTl:(Z.take A).length=A:=by rw[Ax1];omega
 have hDl:(Z.drop A).length=4:=by rw[Av6];omega
 have HZ:=jh hz;have HB1:Hd (∀w',Chg (·=b) w w'->BytesAt w' g o (Z.take A)):=jh (λw' hc=>⟨λj x hj=>(hz.chg hc (λ_=>hgb)).c j x (by rw[List.getElem?_take_of_lt (by have:=(Az1.1 hj).1;omega)]at hj;exact hj),λ_=>(hz.chg hc (λ_=>hgb)).lt (by intro e;rw[e]at hA;simp at hA)⟩);have HB2:Hd (∀w',Chg (·=b) w w'->BytesAt w' g (o+A) (Z.drop A)):=jh (λw' hc=>⟨λj x hj=>by
  have:=(hz.chg hc (λ_=>hgb)).c (A+j) x (by rw[List.getElem?_drop]at hj;exact hj);rw[Av8];exact this,λ_=>(hz.chg hc (λ_=>hgb)).lt (by intro e;rw[e]at hA;simp at hA)⟩)
 have HOF:=jh (λw' hs'=>zQ9 b (Z.take A) (some ⟨g,o,none⟩) g o c w' hs');have HS:=jh hs;obtain⟨r0,r1⟩:=zCh (Z.take A);obtain⟨N,hN⟩:∃N,ofI (Z.take A)=N:=⟨_,rfl⟩;rw[hN]at HOF r0 r1 ⊢;rw[hTl]at HOF;have hi:(Z.length:Int)-4=A:=oM
 have hi2:(A:Int)<=(Z.length:Int):=oM
 have hi3:(Z.length:Int)<=(c:Int):=oM
 have hi4:¬((A:Int)<0):=oM
 have hi5:Z.length-A=4:=oM
 have hi6:A<=Z.length:=oM
 have hi7:A<=c:=oM
 have hi8:(A:Int)<=(A:Int)+4:=oM
 have hi9:¬c=A:=oM
 have HSS:Hd True:=jh trivial;clear hz hs hN;go_enter Tryz.func54,Tryz.ntmps54
 go_upto_region 4 with (fail)
 refine wp_region_held (S:=λ_=>True) kR ?_;show wpAnyH _ _ _ _ _ 12 (Array.replicate 12 false) _ w.drew;(refine kG (i:=0) rfl kR kR kR (λ_ _ _ _ h=>h) rfl HSS.o λK hK=>?_;apply Ay7;refine⟨λw' hC=>?_,?_⟩;((skip);go_simp;try with_reducible rfl);(try go_simp);refine hK _ ?_;clear hK K);(refine kG (i:=1) rfl kR kR kR (λ_ _ _ _ h=>h) rfl HSS.o λK hK=>?_;apply Ay7;refine⟨λw' hC=>?_,?_⟩;((skip);go_simp;try with_reducible rfl);(try go_simp);refine hK _ ?_;clear hK K);(refine kG (i:=2) rfl kR kR kR (λ_ _ _ _ h=>h) rfl HSS.o λK hK=>?_;apply Ay7;refine⟨λw' hC=>?_,?_⟩;((skip);go_simp;try with_reducible rfl);(try go_simp);refine hK _ ?_;clear hK K);(refine kG (i:=3) rfl kR kR kR (λ_ _ _ _ h=>h) rfl HSS.o λK hK=>?_;apply Ay7;refine⟨λw' hC=>?_,?_⟩;((skip);go_simp;try with_reducible rfl);(try go_simp);refine hK _ ?_;clear hK K);(refine kG (i:=4) rfl kR kR kR (λ_ _ _ _ h=>h) rfl HSS.o λK hK=>?_;apply Ay7;refine⟨λw' hC=>?_,?_⟩;((skip);go_simp;try with_reducible rfl);(try go_simp);refine hK _ ?_;clear hK K);(refine kG (i:=5) rfl kR kR kR (λ_ _ _ _ h=>h) rfl HSS.o λK hK=>?_;apply Ay7;refine⟨λw' hC=>?_,?_⟩;((skip);go_simp;try with_reducible rfl);(try go_simp);refine hK _ ?_;clear hK K);(refine kG (i:=6) rfl kR kR kR (λ_ _ _ _ h=>h) rfl HSS.o λK hK=>?_;apply Ay7;refine⟨λw' hC=>?_,?_⟩;((skip);go_simp;try with_reducible rfl);(try go_simp);refine hK _ ?_;clear hK K);refine zCw (i:=7) kR rfl rfl 76 #[.pointer (some ⟨b,0,none⟩),.slice (some ⟨g,o,none⟩) A c] (λv w''=>v=.int .u32 N/\nQ w'' b/\Chg (·=b) w w'') (by go_simp) ?_ ?_
 .refine (HOF.o w.drew (HS.o.chg (Chg.refl (λ_=>False) w).drew iD) ((HB1.o w cR).chg (Chg.refl (λ_=>False) w).drew iE) (λ_=>hgb) (λ_=>rfl) oM).mono ?_
  rintro e w1 ⟨rfl,h1,h2⟩;exact⟨_,rfl,trivial,rfl,h1,(Chg.refl _ _).drew.trans h2⟩
 rintro v w1-⟨rfl,hs1,hc1⟩ K hK;have HS1:=jh hs1;have HC1:=jh hc1;clear hs1 hc1 HOF;(try go_simp)
 refine hK _ ?_;clear hK K;refine zCw (i:=8) kR rfl rfl 75 #[.int .u32 N] (λv w''=>∃h4,v=.slice (some ⟨h4,0,none⟩) 4 4/\Row w'' h4 (kY N)/\Cf w1 w'') (by go_simp) ?_ ?_
 .refine (zJq N w1 r0 r1).mono ?_
  rintro e w2 ⟨h4,rfl,_,h1,h2⟩;exact⟨_,rfl,trivial,h4,rfl,h1,h2⟩
 rintro v w2-⟨h4,rfl,hr4,hc2⟩ K hK;have HR4:=jh hr4;have HC2:=jh hc2;clear hr4 hc2;(try go_simp)
 refine hK _ ?_;clear hK K;have HEQ:=jh (zNs (Z.drop A) (kY N) (some ⟨g,o+A,none⟩) (some ⟨h4,0,none⟩) g (o+A) h4 0 (c-A) 4 w2 ((HB2.o w1 HC1.o).chg HC2.o iE) (λ_=>rfl) (HR4.o.bytes (Aw6 _)) (λ_=>rfl) oM);rw[hDl]at HEQ;obtain⟨B,hB⟩:∃B,decide (Z.drop A=kY N)=B:=⟨_,rfl⟩;have HBB:=jh hB;rw[hB]at HEQ;clear hB;refine zCw (i:=9) kR rfl rfl 100 #[.slice (some ⟨g,o+A,none⟩) 4 (c-A),.slice (some ⟨h4,0,none⟩) 4 4] (λv w''=>v=.bool B/\Cf w2 w'') (by go_simp) ?_ ?_
 .refine HEQ.o.mono ?_
  rintro e w3 ⟨rfl,h1⟩;exact⟨_,rfl,trivial,rfl,h1⟩
 rintro v w3-⟨rfl,hc3⟩ K hK;have HC3:=jh (HC1.o.trans (HC2.o.trans hc3).any);have HS3:=jh (HS1.o.chg (HC2.o.trans hc3) iD);clear hc3 HEQ HC2 HR4 HC1 HS1;(try go_simp)
 refine hK _ ?_;clear hK K;(refine zJp (i:=10) kR rfl rfl HSS.o λK hK=>?_;apply Ay7;refine⟨?_,?_⟩;((skip);go_simp;try with_reducible rfl);(try go_simp);refine hK _ ?_;clear hK K);(refine zJp (i:=11) kR rfl rfl HSS.o λK hK=>?_;apply Ay7;refine⟨?_,?_⟩;((skip);go_simp;try with_reducible rfl);(try go_simp);refine hK _ ?_;clear hK K);refine wpAnyH_done kR ?_ _;have HCL:=jh (zG3 (Z.take A) (some ⟨g,o,none⟩) g o c w3 (HB1.o w3 HC3.o) (λ_=>rfl) oM);rw[hTl]at HCL;cases B with
 | false =>
  go_wp2;go_ret2
  exact⟨HS3.o,HC3.o,.inr ⟨of_decide_eq_false HBB.o,rfl⟩⟩
 | true =>
  go_wp2_with fail
  refine HCL.o.mono ?_;rintro e w4 ⟨v4,rfl,ho4,hc4⟩;have HO4:=jh ho4;have HC4:=jh hc4;clear ho4 hc4 HCL;go_wp2_with fail
  refine (zQq w w4 v4 (Z.take A) (HO4.o.lower (by have:=HC3.o.size;omega))).mono ?_;rintro e w5 ⟨v5,pg,rfl,rfl,hf⟩;have HF:=jh hf;have HC5:=jh (HC3.o.trans HC4.o.any);have HS5:=jh (HS3.o.chg HC4.o iD);clear hf HC3 HC4 HS3 HO4;go_wp2;go_ret2
  exact⟨HS5.o,HC5.o,.inl ⟨of_decide_eq_true HBB.o,v5,pg,rfl,HF.o⟩⟩
def dN (N:Int):Nat->Int
 | 0=>N
 | j+1=>dN N j / 256
def digs (N:Int):Nat->List Int
 | 0=>[]
 | j+1=>digs N j++[dN N j % 256]
theorem zQp {N:Int}(h0:0<=N) (h1:N<=4294967295) (j:Nat):0<=dN N j/\dN N j<=4294967295:=by
 induction j with
 | zero=>exact⟨h0,h1⟩
 | succ j ih=>show 0<=dN N j / 256/\dN N j / 256<=4294967295;omega
theorem zNw {N:Int}(h0:0<=N) (h1:N<=4294967295):digs N 4=kY N:=by
 simp only[digs,dN,kY,Aw7,Au9,List.cons.injEq,and_true,true_and];omega
theorem zQm (N:Int) (j:Nat):(digs N j).length=j:=by
 induction j with
 | zero=>rfl
 | succ j ih=>simp[digs,ih]
theorem zHj (Z:List Int) (a:Option Addr) (g o c:Nat) (w:World) (hz:BytesAt w g o Z) (ha:0<Z.length->a=some ⟨g,o,none⟩) (hl:Z.length<=10000000) :
  Calls Tryz.prog 32 #[.slice a Z.length c] w λe w'=>∃v,e=.returned v/\Own w' w.heap.size v (pW Z)/\Cf w w':=by
 have HOF:=jh (zMg Z a g o c w hz ha hl);have HZ:=jh hz;have HA:=jh ha;have HBZ:=jh hz.byte;obtain⟨r0,r1⟩:=zCh Z;obtain⟨N,hN⟩:∃N,ofI Z=N:=⟨_,rfl⟩;have HS:Hd (pW Z=Z++kY N):=jh (by rw[pW,hN]);rw[hN]at HOF r0 r1;clear hz ha hN;go_enter Tryz.func32,Tryz.ntmps32
 go_wp2_with fail
 refine HOF.o.mono ?_;rintro e w1 ⟨rfl,hc1⟩;have HC1:=jh hc1;clear hc1 HOF;go_wp2_with (at_builtin;refine xL rfl _ _ 45 rfl w1.heap.size (.slice none 0 0) [] Z (.slice a Z.length c) rfl rfl (.inl ⟨rfl,rfl⟩) (Ay _) (tN (HZ.o.chg HC1.o iE) HA.o) HBZ.o sO ?_;intro v2 w2 H1 H2 H3)
 go_loopw [3,4,5] (λn v i wr=>∃j:Nat,j<=4/\i=.int .i64 j/\n=.int .u32 (dN N j)/\Own wr w1.heap.size v (([]++Z)++digs N j)/\Chg (λk=>w1.heap.size<=k) w1 wr) (λ_ _ i _=>4-(intOf i).toNat)
 case atStart=>exact⟨0,oM,rfl,rfl,by simpa [digs] using H1.o,H2.o⟩
 case round =>
  clear H1 H2 H3;obtain⟨j,hj,rfl,rfl,ho,hc⟩:=hrel;have HO:=jh ho;have HC:=jh hc;clear ho hc;obtain⟨d0,d1⟩:=zQp r0 r1 j;by_cases hj4:j<4
  .obtain⟨D,hD⟩:∃D,dN N j=D:=⟨_,rfl⟩
   have HDD:=jh hD;rw[hD]at d0 d1 ⊢;clear hD;have hm:D % 256 % 256=D % 256:=oM;have HY:Hd (∀a∈[D % 256],Byte a):=jh sO;have hdl:=zQm N j;have b11:decide ((j:Int)<4)=true:=sO;go_wp2_with (at_builtin;refine xL rfl _ _ 45 rfl w1.heap.size _ (([]++Z)++digs N j) [D % 256] (.slice (some ⟨wr.heap.size,0,none⟩) 1 1) rfl rfl (HO.o.chg ((Chg.refl (λ_=>False) wr).alloc _) (λ_ _ _ h=>h)) (Ay4 HC.o.size ((Chg.refl (λ_=>False) wr).alloc _).size) (srcLit 1 HY.o) HY.o sO ?_;intro v3 w3 K1 K2 K3)
   have HX:Hd (Own w3 w1.heap.size v3 (([]++Z)++digs N (j+1))/\Chg (λk=>w1.heap.size<=k) w1 w3/\dN N (j+1)=D / 256):=jh ⟨by rw[digs,<-Az5,HDD.o];exact K1.out,HC.o.trans (((Chg.refl _ _).alloc _).trans K2.out),by rw[dN,HDD.o]⟩;go_roundw
   case rel=>first|exact⟨j+1,oM,by go_num,by rw[HX.o.2.2],HX.o.1,HX.o.2.1⟩|((repeat apply Ay7);exact⟨⟨j+1,oM,rfl,by rw[HX.o.2.2],HX.o.1,HX.o.2.1⟩,rfl⟩)
   case measure=>simp[intOf];omega
  .obtain rfl:j=4:=oM
   have HX:Hd (∀v,Own wr w1.heap.size v (([]++Z)++digs N 4)->Own wr w.heap.size v (pW Z)):=jh (λv h=>by
    rw[HS.o,<-zNw r0 r1];exact h.lower HC1.o.size)
   have HO2:=jh (HX.o _ HO.o);clear HX HO;go_wp2;go_ret
   exact⟨_,rfl,HO2.o,HC1.o.trans HC.o.fresh⟩
theorem zHk (t:TabsD) (m:TabsS) (S:Nat->Prop) (w:World) (h:DocIn w S m t) (hf:FairTabs t) (hkd:∀s∈t.nt.st,∀e∈s.2.1,0<=e.1) (hb:yJ t=true->OkBd t/\(tA t).length<=10000000) :
  Calls Tryz.prog 11 #[gY m] w λe w'=>Cf w w'/\((yJ t=false/\e=.returned (.tuple #[.slice none 0 0,.int .i64 1])) \/
   (yJ t=true/\∃v,e=.returned (.tuple #[v,.int .i64 0])/\Own w' 0 v (pW (tA t)))):=by
 obtain⟨⟨a0,n0,c0⟩,⟨a1,n1,c1⟩,⟨a2,n2,c2⟩,⟨⟨a3,n3,c3⟩,⟨a4,n4,c4⟩,⟨a5,n5,c5⟩,⟨a6,n6,c6⟩⟩,⟨⟨a7,n7,c7⟩,⟨a8,n8,c8⟩,⟨a9,n9,c9⟩,⟨a10,n10,c10⟩,⟨a11,n11,c11⟩⟩,⟨a12,n12,c12⟩⟩:=m;have HT0:=jh h;have HF:=jh hf;have HKD:=jh hkd;obtain⟨h0,h1,h2,⟨h3,h4,h5,h6⟩,⟨h7,h8,h9,h10,h11⟩,h12⟩:=h;obtain⟨rfl,-⟩:=h0.len;obtain⟨rfl,-⟩:=h1.len;obtain⟨rfl,-⟩:=h2.len;obtain⟨rfl,-⟩:=h3.len;obtain⟨rfl,-⟩:=h4.len;obtain⟨rfl,-⟩:=h5.len;obtain⟨rfl,-⟩:=h6.len;obtain⟨rfl,-⟩:=h7.len;obtain⟨rfl,-⟩:=h8.len;obtain⟨rfl,-⟩:=h9.len;obtain⟨rfl,-⟩:=h10.len;obtain⟨rfl,-⟩:=h11.len;obtain⟨rfl,-⟩:=h12.len;clear h0 h1 h2 h3 h4 h5 h6 h7 h8 h9 h10 h11 h12 hf hkd;obtain⟨bv,hbv⟩:∃b,b=w.heap.size:=⟨_,rfl⟩;obtain⟨w0,hw0⟩:∃W,W=w.alloc (.cells #[.slice a0 t.rl.length c0,.slice a1 t.tk.length c1,.slice a2 t.dr.length c2,.slice a3 t.lx.r.length c3,.slice a4 t.lx.c.length c4,.slice a5 t.lx.n.length c5,.slice a6 t.lx.e.length c6,.slice a7 t.nt.st.length c7,.slice a8 t.nt.s.length c8,.slice a9 t.nt.p.length c9,.slice a10 t.nt.q.length c10,.slice a11 t.nt.d.length c11,.slice a12 t.lk.length c12] 43):=⟨_,rfl⟩;have HC0:Hd (Cf w w0):=jh (by rw[hw0];exact (Chg.refl _ w).alloc _);have HA:Hd (∀X,Cf w0 X->∀j v,([.slice a0 t.rl.length c0,.slice a1 t.tk.length c1,.slice a2 t.dr.length c2,.slice a3 t.lx.r.length c3,.slice a4 t.lx.c.length c4,.slice a5 t.lx.n.length c5,.slice a6 t.lx.e.length c6,.slice a7 t.nt.st.length c7,.slice a8 t.nt.s.length c8,.slice a9 t.nt.p.length c9,.slice a10 t.nt.q.length c10,.slice a11 t.nt.d.length c11,.slice a12 t.lk.length c12]:List Value)[j]?=some v->X.cell? ⟨bv,j,none⟩=some v):=jh (λX hx j v hv=>hx.cellS (by
  rw[hw0];exact zE _ hbv (by rw[<-Ax9];exact hv)) iD)
 have HTI:Hd (∀X,Cf w0 X->DocIn X S ⟨(a0,t.rl.length,c0),(a1,t.tk.length,c1),(a2,t.dr.length,c2),⟨(a3,t.lx.r.length,c3),(a4,t.lx.c.length,c4),(a5,t.lx.n.length,c5),(a6,t.lx.e.length,c6)⟩,⟨(a7,t.nt.st.length,c7),(a8,t.nt.s.length,c8),(a9,t.nt.p.length,c9),(a10,t.nt.q.length,c10),(a11,t.nt.d.length,c11)⟩,(a12,t.lk.length,c12)⟩ t):=jh (λX hx=>DocIn.good.chg HT0.o (HC0.o.trans hx) iF);show Calls Tryz.prog 11 #[.agg #[.slice a0 t.rl.length c0,.slice a1 t.tk.length c1,.slice a2 t.dr.length c2,.slice a3 t.lx.r.length c3,.slice a4 t.lx.c.length c4,.slice a5 t.lx.n.length c5,.slice a6 t.lx.e.length c6,.slice a7 t.nt.st.length c7,.slice a8 t.nt.s.length c8,.slice a9 t.nt.p.length c9,.slice a10 t.nt.q.length c10,.slice a11 t.nt.d.length c11,.slice a12 t.lk.length c12]] w _;have v0:=HA.o w0 cR 0 _ rfl;have v1:=HA.o w0 cR 1 _ rfl;have v2:=HA.o w0 cR 2 _ rfl;have v3:=HA.o w0 cR 3 _ rfl;have v4:=HA.o w0 cR 4 _ rfl;have v5:=HA.o w0 cR 5 _ rfl;have v6:=HA.o w0 cR 6 _ rfl;have v7:=HA.o w0 cR 7 _ rfl;have v8:=HA.o w0 cR 8 _ rfl;have v9:=HA.o w0 cR 9 _ rfl;have v10:=HA.o w0 cR 10 _ rfl;have v11:=HA.o w0 cR 11 _ rfl;have v12:=HA.o w0 cR 12 _ rfl;go_enter Tryz.func11,Tryz.ntmps11
 go_upto_region 1 with (fail)
 rw[<-hw0,<-hbv];clear hw0 hbv HT0;go_wp2_with fail
 refine (zCe t ⟨(a0,t.rl.length,c0),(a1,t.tk.length,c1),(a2,t.dr.length,c2),⟨(a3,t.lx.r.length,c3),(a4,t.lx.c.length,c4),(a5,t.lx.n.length,c5),(a6,t.lx.e.length,c6)⟩,⟨(a7,t.nt.st.length,c7),(a8,t.nt.s.length,c8),(a9,t.nt.p.length,c9),(a10,t.nt.q.length,c10),(a11,t.nt.d.length,c11)⟩,(a12,t.lk.length,c12)⟩ S w0 (HTI.o w0 cR) HF.o HKD.o).mono ?_;rintro e w1 ⟨rfl,hc1⟩;have HC1:=jh hc1;clear hc1 v0 v1 v2 v3 v4 v5 v6 v7 v8 v9 v10 v11 v12;cases hm:yJ t with
 | false =>
  have HM:=jh hm;clear hb hm;go_wp2;go_ret2
  exact⟨HC0.o.trans HC1.o,.inl ⟨HM.o,rfl⟩⟩
 | true =>
  obtain⟨hob,hln⟩:=hb hm;have HOB:=jh hob;have HM:=jh hm;clear hm hob hb;have v0:=HA.o w1 HC1.o 0 _ rfl;have v1:=HA.o w1 HC1.o 1 _ rfl;have v2:=HA.o w1 HC1.o 2 _ rfl;have v3:=HA.o w1 HC1.o 3 _ rfl;have v4:=HA.o w1 HC1.o 4 _ rfl;have v5:=HA.o w1 HC1.o 5 _ rfl;have v6:=HA.o w1 HC1.o 6 _ rfl;have v7:=HA.o w1 HC1.o 7 _ rfl;have v8:=HA.o w1 HC1.o 8 _ rfl;have v9:=HA.o w1 HC1.o 9 _ rfl;have v10:=HA.o w1 HC1.o 10 _ rfl;have v11:=HA.o w1 HC1.o 11 _ rfl;have v12:=HA.o w1 HC1.o 12 _ rfl;go_wp2_with fail
  refine (zHn t ⟨(a0,t.rl.length,c0),(a1,t.tk.length,c1),(a2,t.dr.length,c2),⟨(a3,t.lx.r.length,c3),(a4,t.lx.c.length,c4),(a5,t.lx.n.length,c5),(a6,t.lx.e.length,c6)⟩,⟨(a7,t.nt.st.length,c7),(a8,t.nt.s.length,c8),(a9,t.nt.p.length,c9),(a10,t.nt.q.length,c10),(a11,t.nt.d.length,c11)⟩,(a12,t.lk.length,c12)⟩ S w1 (HTI.o w1 HC1.o) HOB.o).mono ?_;rintro e w2 ⟨v,rfl,ho,hc2⟩;obtain⟨g,c,rfl,-,-,hby⟩:=ho.bytes (by unfold tA;simp[qA]);have HBY:=jh hby;have HC2:=jh (HC1.o.trans hc2);obtain⟨Z,hZ⟩:∃Z,tA t=Z:=⟨_,rfl⟩;rw[hZ]at HBY hln ⊢;have HZ:=jh hZ;clear hZ hby hc2 ho v0 v1 v2 v3 v4 v5 v6 v7 v8 v9 v10 v11 v12;go_wp2_with fail
  refine (zHj Z (some ⟨g,0,none⟩) g 0 c w2 HBY.o (λ_=>rfl) hln).mono ?_;rintro e w3 ⟨v,rfl,ho,hc3⟩;obtain⟨va,vl,vc,rfl⟩:=ho.shape3;have HO:=jh ho;have HC3:=jh (HC2.o.trans hc3);clear ho hc3;go_wp2;go_ret2
  exact⟨HC0.o.trans HC3.o,.inr ⟨HM.o,.slice va vl vc,rfl,by rw[HZ.o];exact HO.o.lower (Av _)⟩⟩
end Go.Proofs.YtgnpmceimpjheaaGreat
namespace Go.Proofs.YtgnpmceimpjheaaGreat
open Go.RowKit
section
variable {β δ:Type}{E:Elt β}{R:Rp β δ}
structure Mk (E:Elt β) (R:Rp β δ) (bx bo off:Nat) (w:World) (v:Value) (acc:List δ):Prop where
 c:w.cell? ⟨bo,off,none⟩=some v
 z:w.frozen? ⟨bo,off,none⟩=false
 ex:∃X,E.Own w (bo+1) v X/\X.length=acc.length/\∀(j:Nat) x d,X[j]?=some x->acc[j]?=some d->R w (λk=>(k≠bo/\k≠bx)/\v.ownBlock≠some k) x d
theorem Mk.lt {bx bo off:Nat}{w:World}{v:Value}{acc:List δ}(h:Mk E R bx bo off w v acc):bo<w.heap.size:=Az6 _ _ h.c
theorem Mk.chg (hR:Good R) {bx bo off:Nat}{S:Nat->Prop}{w w':World}{v:Value}{acc:List δ}(h:Mk E R bx bo off w v acc) (hc:Chg S w w') (hs:∀k,S k->w.heap.size<=k):Mk E R bx bo off w' v acc:=by
 have hc':Cf w w':=hc.mono (λk hk e=>by have:=hs k e;omega);obtain⟨X,h1,h2,h3⟩:=h.ex;exact⟨hc'.cellS h.c iD,(hc'.frozen (p:=⟨bo,off,none⟩) h.lt iD).trans h.z,X,h1.chg hc' (λ_ _ _ h=>h),h2,λj x d hx hd=>hR.chg (h3 j x d hx hd) hc' iF⟩
theorem Mk.step (hR:Good R) {bx bo off:Nat}{w wa wb:World}{v v':Value}{acc:List δ}{X:List β}{y:β}{d:δ}(h:Mk E R bx bo off w v acc) (hX:X.length=acc.length) (hrel:∀(j:Nat) x d,X[j]?=some x->acc[j]?=some d->R w (λk=>(k≠bo/\k≠bx)/\v.ownBlock≠some k) x d)
  (hob:∀k,v.ownBlock=some k->bo<k/\k<w.heap.size) (ha:Cf w wa) (hy:R wa (λk=>(k≠bo/\k≠bx)/\v.ownBlock≠some k) y d) (ho:E.Own wb (bo+1) v' (X++[y])) (hb:Chg (λk=>v.ownBlock=some k) wa wb) (hv:v'.ownBlock=v.ownBlock\/v'.ownBlock=some wa.heap.size) :
  (wb.cell? ⟨bo,off,none⟩=some v/\wb.frozen? ⟨bo,off,none⟩=false)/\Mk E R bx bo off (wb.setCell ⟨bo,off,none⟩ v') v' (acc++[d])/\Chg (λk=>k=bo\/v.ownBlock=some k) w (wb.setCell ⟨bo,off,none⟩ v') /\
   ∀j u,j≠off->w.cell? ⟨bo,j,none⟩=some u->(wb.setCell ⟨bo,off,none⟩ v').cell? ⟨bo,j,none⟩=some u:=by
 have hlt:=h.lt;have hsa:=ha.size;have nob:¬v.ownBlock=some bo:=λe=>by have:=(hob bo e).1;omega
 have hab:Chg (λk=>v.ownBlock=some k) w wb:=ha.any.trans (hb.mono (λ_ _ e=>e));have cb:=hab.cellS h.c nob;have zb:=(hab.frozen (p:=⟨bo,off,none⟩) hlt nob).trans h.z;obtain⟨w',hw'⟩:∃W,W=wb.setCell ⟨bo,off,none⟩ v':=⟨_,rfl⟩;have hs:Chg (·=bo) wb w':=by rw[hw'];exact zA wb bo off v'
 have nv:∀g,v'.ownBlock=some g->¬g=bo:=λg hg e=>by
  rcases hv with hv|hv
  .rw[hv]at hg;have:=(hob g hg).1;omega
  .rw[hv]at hg;have:=Az3 hg;omega
 have hab2:Chg (λk=>v.ownBlock=some k\/k=bo) wa w':=(hb.mono (λ_ _ e=>.inl e)).trans (hs.mono (λ_ _ e=>.inr e));have key:∀{x:β}{d:δ},R wa (λk=>(k≠bo/\k≠bx)/\v.ownBlock≠some k) x d->R w' (λk=>(k≠bo/\k≠bx)/\v'.ownBlock≠some k) x d:=λhx=>by
  have r1:=hR.mono hx (S':=λk=>((k≠bo/\k≠bx)/\v.ownBlock≠some k)/\k<wa.heap.size) (λg hg hs=>⟨hs,hg⟩);have r2:=hR.chg r1 hab2 (λg hg e=>e.elim hg.1.2 hg.1.1.1);refine hR.mono r2 (λg _ hg=>⟨hg.1.1,λe=>?_⟩);rcases hv with hv|hv
  .rw[hv]at e;exact hg.1.2 e
  .rw[hv]at e;have:=Az3 e;omega
 rw[<-hw'];refine⟨⟨cb,zb⟩,⟨by rw[hw'];exact Az9 _ _ _ cb,by rw[hw'];exact (Az4 _ _ _ _).trans zb,X++[y],ho.chgB hs (λg hg e=>nv g hg e),by simp[hX],λj x d' hx hd=>?_⟩,(hab.mono (λ_ _ e=>.inr e)).trans (hs.mono (λ_ _ e=>.inl e)),λj u hj hu=>by
  rw[hw',Ay0 _ _ _ _ (by intro e;injection e with _ e;exact hj e.symm)];exact hab.cellS hu nob⟩
 rw[List.getElem?_append]at hx hd;by_cases hj:j<X.length
 .rw[if_pos hj]at hx
  rw[if_pos oM]at hd;exact key (hR.chg (hrel j x d' hx hd) ha iF)
 .rw[if_neg hj]at hx
  rw[if_neg oM]at hd;have hj0:j-X.length=0:=by
   have:=(Az1.1 hx).1;simp at this;omega
  rw[hj0]at hx;rw[show j-acc.length=0 by omega]at hd;simp at hx hd
  subst hx hd;exact key hy
theorem Mk.own {bx bo off:Nat}{w:World}{v:Value}{acc:List δ}(h:Mk E R bx bo off w v acc):∃a n c,v=.slice a n c:=by
 obtain⟨X,h1,-⟩:=h.ex;exact h1.shape3
theorem Mk.list {bx bo off:Nat}{w:World}{a:Option Addr}{n c:Nat}{acc:List δ}(h:Mk E R bx bo off w (.slice a n c) acc) (hR:Good R) (hbx:bx<=bo):n=acc.length/\zJ E R w (λk=>k≠bo/\k≠bx) (a,n,c) acc:=by
 obtain⟨X,h1,h2,h3⟩:=h.ex;obtain⟨a',g,c',e1,e2,e3,e4⟩:=h1.at';injection e1 with e1 e5 e6;subst e1 e5 e6;refine⟨h2,X,⟨rfl,e2,g,0,e3,λhp=>⟨(e4 hp).1,by have:=(e4 hp).2;omega,by have:=(e4 hp).2;omega⟩⟩,h2,λj x d hx hd=>hR.mono (h3 j x d hx hd) (λk _ hk=>hk.1)⟩
end
section
variable {P:Program}{ops:Array Oper}{Q:Exit->Act->World->Prop}{md:Region.Mode}{S:World->Prop}{late:Nat->Bool}
theorem zBn {i j:Nat}{oi oj:Oper}{fuel:Nat}{listed:Array Bool}{a:Act}{w:World}(hr:Region.ready md ops listed=[i,j]) (hi:ops[i]?=some oi) (hj:ops[j]?=some oj)
  (hwi:Region.wanted oi (yielded ops a.tmps)=true) (hwj:Region.wanted oj (yielded ops a.tmps)=true) (f:FuncId) (args:Array Value) (R:Value->World->Prop) (hrun:(execOp a.eval oi).run P w=.ok (.enter f args) w)
  (hcall:Calls P f args w (λe w''=>∃v,e=.returned v/\(late i=false->S w'')/\R v w''))
  (h:∀v w'',(late i=false->S w'')->R v w''->∀K:Act->Prop,(∀a,yN P md ops Q S late fuel (listed.setIfInBounds i true) a w''->K a)->K (a.put oi.dst v))
  (hturn:∀K:Act->World->Prop,(∀a w,yN P md ops Q S late fuel (listed.setIfInBounds j true) a w->K a w)->∃v w'',(execOp a.eval oj).run P w=.ok (.value v) w''/\(late j=false->S w'')/\K (a.put oj.dst v) w'') :
  yN P md ops Q S late (fuel+1) listed a w:=by
 refine⟨λh0=>(by rw[hr]at h0;cases h0),λk hk=>?_⟩;rw[hr,Ax3,Ay3]at hk;rcases hk with rfl|rfl
 .unfold Go.wpOp
  simp only[hi,hwi,if_true,Oper.wp,hrun,Oper.upon];refine .inl (hcall.mono λe w'' ⟨v,he,hS,hR⟩=>?_);subst he;exact⟨hS,h v w'' hS hR _ iE⟩
 .obtain⟨v,w'',hx,hS,hK⟩:=hturn _ iF
  unfold Go.wpOp;simp only[hj,hwj,if_true,Oper.wp,hx,Oper.upon];exact .inl ⟨hS,hK⟩
theorem zDg {i j:Nat}{oi oj:Oper}{fuel:Nat}{listed:Array Bool}{a:Act}{w:World}(hr:Region.ready md ops listed=[i,j]) (hi:ops[i]?=some oi) (hj:ops[j]?=some oj)
  (hwi:Region.wanted oi (yielded ops a.tmps)=true) (hwj:Region.wanted oj (yielded ops a.tmps)=true) (s x:Operand) (tl tx:TypeId) (ho:oi.op=.call { callee:=.builtin .append,args:=#[s,x],argTypes:=#[tl,tx] }) (v u:Value) (hv:a.eval s=v) (hu:a.eval x=u)
  (R:Value->World->Prop) (hrun:∃v' w'',(Builtin.append_ #[tl,tx] oi.type #[v,u]).run P w=.ok v' w''/\(late i=false->S w'')/\R v' w'')
  (h:∀v' w'',(late i=false->S w'')->R v' w''->∀K:Act->Prop,(∀a,yN P md ops Q S late fuel (listed.setIfInBounds i true) a w''->K a)->K (a.put oi.dst v'))
  (hturn:∀K:Act->World->Prop,(∀a w,yN P md ops Q S late fuel (listed.setIfInBounds j true) a w->K a w)->∃v w'',(execOp a.eval oj).run P w=.ok (.value v) w''/\(late j=false->S w'')/\K (a.put oj.dst v) w'') :
  yN P md ops Q S late (fuel+1) listed a w:=by
 obtain⟨v',w'',hrun,hS,hR⟩:=hrun;have hx:(execOp a.eval oi).run P w=.ok (.value v') w'':=by
  simp[execOp,ho,resolve,invoke,builtin,hv,hu,hrun,Result.andThen]
 refine⟨λh0=>(by rw[hr]at h0;cases h0),λk hk=>?_⟩;rw[hr,Ax3,Ay3]at hk;rcases hk with rfl|rfl
 .unfold Go.wpOp
  simp only[hi,hwi,if_true,Oper.wp,hx,Oper.upon];exact .inl ⟨hS,h v' w'' hS hR _ iE⟩
 .obtain⟨v,w'',hx,hS,hK⟩:=hturn _ iF
  unfold Go.wpOp;simp only[hj,hwj,if_true,Oper.wp,hx,Oper.upon];exact .inl ⟨hS,hK⟩
end
theorem zGh (a0 a1 a2 a3:Option Addr) (n0 n1 n2 n3 c0 c1 c2 c3:Nat) (w:World):Calls Tryz.prog 22 #[.agg #[.slice a0 n0 c0,.slice a1 n1 c1,.slice a2 n2 c2,.slice a3 n3 c3]] w λe w'=>e=.returned (.agg #[.slice a0 n0 c0,.slice a1 n1 c1,.slice a2 n2 c2,.slice a3 n3 c3])/\Cf w w':=by
 obtain⟨w0,hw0⟩:∃W,W=(w.alloc (.cells #[.slice a0 n0 c0,.slice a1 n1 c1,.slice a2 n2 c2,.slice a3 n3 c3] 28)).alloc (.cells #[.slice none 0 0,.slice none 0 0,.slice none 0 0,.slice none 0 0] 37):=⟨_,rfl⟩;have HC0:Hd (Cf w w0):=jh (by rw[hw0];exact ((Chg.refl _ w).alloc _).alloc _);have d0:w0.cell? ⟨w.heap.size,0,none⟩=some (.slice a0 n0 c0):=by rw[hw0];exact yG _ (zE _ rfl rfl)
 have d1:w0.cell? ⟨w.heap.size,1,none⟩=some (.slice a1 n1 c1):=by rw[hw0];exact yG _ (zE _ rfl rfl)
 have d2:w0.cell? ⟨w.heap.size,2,none⟩=some (.slice a2 n2 c2):=by rw[hw0];exact yG _ (zE _ rfl rfl)
 have d3:w0.cell? ⟨w.heap.size,3,none⟩=some (.slice a3 n3 c3):=by rw[hw0];exact yG _ (zE _ rfl rfl)
 obtain⟨b,hb⟩:∃b,b=w.heap.size+1:=⟨_,rfl⟩;have e0:w0.cell? ⟨b,0,none⟩=some (.slice none 0 0):=by rw[hw0,hb];exact zE _ sI rfl
 have e1:w0.cell? ⟨b,1,none⟩=some (.slice none 0 0):=by rw[hw0,hb];exact zE _ sI rfl
 have e2:w0.cell? ⟨b,2,none⟩=some (.slice none 0 0):=by rw[hw0,hb];exact zE _ sI rfl
 have e3:w0.cell? ⟨b,3,none⟩=some (.slice none 0 0):=by rw[hw0,hb];exact zE _ sI rfl
 have hz:∀j,w0.frozen? ⟨b,j,none⟩=false:=λj=>by
  have e:b=(w.alloc (.cells #[.slice a0 n0 c0,.slice a1 n1 c1,.slice a2 n2 c2,.slice a3 n3 c3] 28)).heap.size:=by rw[hb];simp
  rw[hw0,e];exact Az8 _ _ _ _
 have z0:=hz 0;have z1:=hz 1;have z2:=hz 2;have z3:=hz 3;obtain⟨w1,hw1⟩:∃W,W=xQ b 0 [.slice a0 n0 c0,.slice a1 n1 c1,.slice a2 n2 c2,.slice a3 n3 c3] w0:=⟨_,rfl⟩;obtain⟨k1,-,k3,-⟩:=uC b [.slice a0 n0 c0,.slice a1 n1 c1,.slice a2 n2 c2,.slice a3 n3 c3] 0 w0 (λj hj=>by
  simp only[Ax2,Aw5]at hj;rcases (by omega:j=0\/j=1\/j=2\/j=3) with rfl|rfl|rfl|rfl
  .rw[e0];rfl
  .rw[e1];rfl
  .rw[e2];rfl
  .rw[e3];rfl)
 rw[<-hw1]at k1 k3;have HF:Hd (Cf w w1):=jh (HC0.o.trans2 k3 (λk hk e=>oM));have s0:=k1 0 _ rfl;have s1:=k1 1 _ rfl;have s2:=k1 2 _ rfl;have s3:=k1 3 _ rfl;simp only[Ax0]at s0 s1 s2 s3;simp only[xQ,Ax0,Nat.reduceAdd]at hw1;have HW1:=jh hw1;clear hz hw1 k1 k3;go_enter Tryz.func22,Tryz.ntmps22
 go_upto_region 1 with (fail)
 rw[<-hw0,<-hb];clear hw0 hb;go_wp2;rw[<-HW1.o];exact bodyPost_ret (v:=.agg #[.slice a0 n0 c0,.slice a1 n1 c1,.slice a2 n2 c2,.slice a3 n3 c3]) (by simp[results,Tryz.results22,go_sem,s0,s1,s2,s3]) rfl ⟨rfl,HF.o⟩
end Go.Proofs.YtgnpmceimpjheaaGreat
