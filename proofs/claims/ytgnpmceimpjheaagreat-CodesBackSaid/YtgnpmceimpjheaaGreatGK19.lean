/- 'CodesBack' for whatever tables are handed in: true, and all reads as it did. No condition. -/
import Derived.Test.YtgnpmceimpjheaaGreatGK18
import Derived.Test.YtgnpmceimpjheaaGreatGK3
import Derived.Test.YtgnpmceimpjheaaGreatGK13
import Derived.SizedLaws
import Derived.OpenShut
import Derived.ShutString
import Derived.ChangeOld
import Derived.ProofKit
namespace Go.Proofs.YtgnpmceimpjheaaGreat
open Go.RowKit
set_option maxRecDepth 100000 in
set_option maxHeartbeats 8000000 in
theorem codesBack_any (t:TabsD) (m:TabsS) (S:Nat→Prop) (w:World) (h:TabsIn w S m t) (hv:VastT t) :
  Calls Tryz.prog 5 #[tabsV m] w fun e w'=>e=.returned (.bool true)∧Chg (fun _=>False) w w':=by
 obtain ⟨⟨a0,n0,c0⟩,⟨a1,n1,c1⟩,⟨a2,n2,c2⟩,⟨⟨a3,n3,c3⟩,⟨a4,n4,c4⟩,⟨a5,n5,c5⟩,⟨a6,n6,c6⟩⟩,⟨⟨a7,n7,c7⟩,⟨a8,n8,c8⟩,⟨a9,n9,c9⟩,⟨a10,n10,c10⟩,⟨a11,n11,c11⟩⟩,⟨a12,n12,c12⟩⟩:=m
 have HT0:=jh h
 have HV:=jh hv
 obtain ⟨h0,h1,h2,⟨h3,h4,h5,h6⟩,⟨h7,h8,h9,h10,h11⟩,h12⟩:=h
 obtain ⟨rfl,-⟩:=h0.len
 obtain ⟨rfl,-⟩:=h1.len
 obtain ⟨rfl,-⟩:=h2.len
 obtain ⟨rfl,-⟩:=h3.len
 obtain ⟨rfl,-⟩:=h4.len
 obtain ⟨rfl,-⟩:=h5.len
 obtain ⟨rfl,-⟩:=h6.len
 obtain ⟨rfl,-⟩:=h7.len
 obtain ⟨rfl,-⟩:=h8.len
 obtain ⟨rfl,-⟩:=h9.len
 obtain ⟨rfl,-⟩:=h10.len
 obtain ⟨rfl,-⟩:=h11.len
 obtain ⟨rfl,-⟩:=h12.len
 clear h0 h1 h2 h3 h4 h5 h6 h7 h8 h9 h10 h11 h12 hv
 obtain ⟨wa,hwa⟩:∃ W,W=w.alloc (.cells #[.slice a0 t.rl.length c0,.slice a1 t.tk.length c1,.slice a2 t.dr.length c2,.slice a3 t.lx.r.length c3,.slice a4 t.lx.c.length c4,.slice a5 t.lx.n.length c5,.slice a6 t.lx.e.length c6,.slice a7 t.nt.st.length c7,.slice a8 t.nt.s.length c8,.slice a9 t.nt.p.length c9,.slice a10 t.nt.q.length c10,.slice a11 t.nt.d.length c11,.slice a12 t.lk.length c12] 34):=⟨_,rfl⟩
 have HCA:Hid (Chg (fun _=>False) w wa):=jh (by rw [hwa];exact (Chg.refl _ w).alloc _)
 have HC:Hid (∀ X,Chg (fun _=>False) wa X→∀ j v,([.slice a0 t.rl.length c0,.slice a1 t.tk.length c1,.slice a2 t.dr.length c2,.slice a3 t.lx.r.length c3,.slice a4 t.lx.c.length c4,.slice a5 t.lx.n.length c5,.slice a6 t.lx.e.length c6,.slice a7 t.nt.st.length c7,.slice a8 t.nt.s.length c8,.slice a9 t.nt.p.length c9,.slice a10 t.nt.q.length c10,.slice a11 t.nt.d.length c11,.slice a12 t.lk.length c12]:List Value)[j]?=some v→X.cell? ⟨w.heap.size,j,none⟩=some v):=jh (fun X hx j v hv=>hx.cellS (by
  rw [hwa];exact allocAt _ rfl (by rw [← Array.getElem?_toList];exact hv)) (fun h=>h))
 have HTV:Hid (∀ X,Chg (fun _=>False) wa X→TabsIn X S ⟨(a0,t.rl.length,c0),(a1,t.tk.length,c1),(a2,t.dr.length,c2),⟨(a3,t.lx.r.length,c3),(a4,t.lx.c.length,c4),(a5,t.lx.n.length,c5),(a6,t.lx.e.length,c6)⟩,⟨(a7,t.nt.st.length,c7),(a8,t.nt.s.length,c8),(a9,t.nt.p.length,c9),(a10,t.nt.q.length,c10),(a11,t.nt.d.length,c11)⟩,(a12,t.lk.length,c12)⟩ t):=jh (fun X hx=>TabsIn.good.chg HT0.out (HCA.out.trans hx) (fun _ _ h=>h))
 have HKI:Hid (∀ s∈t.nt.st,∀ e∈s.2.1,0≤e.1):=jh (fun s hs e he=>(HT0.out.nt.kinds s hs e he).1)
 clear HT0
 obtain ⟨bv,hbv⟩:∃ b,b=w.heap.size:=⟨_,rfl⟩
 rw [← hbv] at HC
 have v0:=HC.out wa (Chg.refl _ _) 0 _ rfl
 have v1:=HC.out wa (Chg.refl _ _) 1 _ rfl
 have v2:=HC.out wa (Chg.refl _ _) 2 _ rfl
 have v3:=HC.out wa (Chg.refl _ _) 3 _ rfl
 have v4:=HC.out wa (Chg.refl _ _) 4 _ rfl
 have v5:=HC.out wa (Chg.refl _ _) 5 _ rfl
 have v6:=HC.out wa (Chg.refl _ _) 6 _ rfl
 have v7:=HC.out wa (Chg.refl _ _) 7 _ rfl
 have v8:=HC.out wa (Chg.refl _ _) 8 _ rfl
 have v9:=HC.out wa (Chg.refl _ _) 9 _ rfl
 have v10:=HC.out wa (Chg.refl _ _) 10 _ rfl
 have v11:=HC.out wa (Chg.refl _ _) 11 _ rfl
 have v12:=HC.out wa (Chg.refl _ _) 12 _ rfl
 show Calls Tryz.prog 5 #[.agg #[.slice a0 t.rl.length c0,.slice a1 t.tk.length c1,.slice a2 t.dr.length c2,.slice a3 t.lx.r.length c3,.slice a4 t.lx.c.length c4,.slice a5 t.lx.n.length c5,.slice a6 t.lx.e.length c6,.slice a7 t.nt.st.length c7,.slice a8 t.nt.s.length c8,.slice a9 t.nt.p.length c9,.slice a10 t.nt.q.length c10,.slice a11 t.nt.d.length c11,.slice a12 t.lk.length c12]] w _
 go_enter Tryz.func5,Tryz.ntmps5
 go_upto_region 1 with (fail)
 rw [← hwa,← hbv]
 clear hwa hbv
 go_wp2_with fail
 refine (greatT_any t ⟨(a0,t.rl.length,c0),(a1,t.tk.length,c1),(a2,t.dr.length,c2),⟨(a3,t.lx.r.length,c3),(a4,t.lx.c.length,c4),(a5,t.lx.n.length,c5),(a6,t.lx.e.length,c6)⟩,⟨(a7,t.nt.st.length,c7),(a8,t.nt.s.length,c8),(a9,t.nt.p.length,c9),(a10,t.nt.q.length,c10),(a11,t.nt.d.length,c11)⟩,(a12,t.lk.length,c12)⟩ S wa (HTV.out wa (Chg.refl _ _)) HV.out).mono ?_
 rintro e w1 ⟨g,rfl,hg,hc1⟩
 have HX1:=jh hc1
 have HG:=jh hg
 clear hc1 hg v0 v1 v2 v3 v4 v5 v6 v7 v8 v9 v10 v11 v12
 cases g with
 | true =>
  go_wp2_with fail
  refine (lives_any w1).mono ?_
  rintro e w2 ⟨rfl,hc2⟩
  have HX2:=jh ((HCA.out.trans HX1.out).trans hc2)
  clear hc2
  go_wp2
  go_ret
  exact ⟨rfl,HX2.out⟩
 | false =>
  have HF:Hid (Fit t):=jh (by
   obtain ⟨h1,h2⟩:=HG.out rfl
   exact (NotGreat.mk h1 h2).fit HKI.out)
  have v0:=HC.out w1 HX1.out 0 _ rfl
  have v1:=HC.out w1 HX1.out 1 _ rfl
  have v2:=HC.out w1 HX1.out 2 _ rfl
  have v3:=HC.out w1 HX1.out 3 _ rfl
  have v4:=HC.out w1 HX1.out 4 _ rfl
  have v5:=HC.out w1 HX1.out 5 _ rfl
  have v6:=HC.out w1 HX1.out 6 _ rfl
  have v7:=HC.out w1 HX1.out 7 _ rfl
  have v8:=HC.out w1 HX1.out 8 _ rfl
  have v9:=HC.out w1 HX1.out 9 _ rfl
  have v10:=HC.out w1 HX1.out 10 _ rfl
  have v11:=HC.out w1 HX1.out 11 _ rfl
  have v12:=HC.out w1 HX1.out 12 _ rfl
  go_wp2_with fail
  refine (put_tabs t ⟨(a0,t.rl.length,c0),(a1,t.tk.length,c1),(a2,t.dr.length,c2),⟨(a3,t.lx.r.length,c3),(a4,t.lx.c.length,c4),(a5,t.lx.n.length,c5),(a6,t.lx.e.length,c6)⟩,⟨(a7,t.nt.st.length,c7),(a8,t.nt.s.length,c8),(a9,t.nt.p.length,c9),(a10,t.nt.q.length,c10),(a11,t.nt.d.length,c11)⟩,(a12,t.lk.length,c12)⟩ S w1 (HTV.out w1 HX1.out) HF.out.f HF.out.p).mono ?_
  rintro e w2 ⟨hc2,h2⟩
  have HX2:=jh (HX1.out.trans hc2)
  clear hc2 v0 v1 v2 v3 v4 v5 v6 v7 v8 v9 v10 v11 v12
  rcases h2 with ⟨hm,rfl⟩ | ⟨hm,h,rfl,hlo,hrow⟩
  ·have HM:=jh hm
   clear hm
   have v0:=HC.out w2 HX2.out 0 _ rfl
   have v1:=HC.out w2 HX2.out 1 _ rfl
   have v2:=HC.out w2 HX2.out 2 _ rfl
   have v3:=HC.out w2 HX2.out 3 _ rfl
   have v4:=HC.out w2 HX2.out 4 _ rfl
   have v5:=HC.out w2 HX2.out 5 _ rfl
   have v6:=HC.out w2 HX2.out 6 _ rfl
   have v7:=HC.out w2 HX2.out 7 _ rfl
   have v8:=HC.out w2 HX2.out 8 _ rfl
   have v9:=HC.out w2 HX2.out 9 _ rfl
   have v10:=HC.out w2 HX2.out 10 _ rfl
   have v11:=HC.out w2 HX2.out 11 _ rfl
   have v12:=HC.out w2 HX2.out 12 _ rfl
   go_wp2_with fail
   refine (may_tabs t ⟨(a0,t.rl.length,c0),(a1,t.tk.length,c1),(a2,t.dr.length,c2),⟨(a3,t.lx.r.length,c3),(a4,t.lx.c.length,c4),(a5,t.lx.n.length,c5),(a6,t.lx.e.length,c6)⟩,⟨(a7,t.nt.st.length,c7),(a8,t.nt.s.length,c8),(a9,t.nt.p.length,c9),(a10,t.nt.q.length,c10),(a11,t.nt.d.length,c11)⟩,(a12,t.lk.length,c12)⟩ S w2 (HTV.out w2 HX2.out) HF.out.f).mono ?_
   rintro e w3 ⟨rfl,hc3⟩
   rw [HM.out]
   have HX3:=jh (HX2.out.trans hc3)
   clear hc3 v0 v1 v2 v3 v4 v5 v6 v7 v8 v9 v10 v11 v12
   go_wp2_with fail
   refine (lives_any w3).mono ?_
   rintro e w4 ⟨rfl,hc4⟩
   have HX4:=jh ((HCA.out.trans HX3.out).trans hc4)
   clear hc4
   go_wp2
   go_ret
   exact ⟨rfl,HX4.out⟩
  ·have HM:=jh hm
   have hgr:=HF.out.back hm
   have hll:(sealL (ptTabs t)).length≤5000004:=by have:=HF.out.l hm;rw [sealL_length];omega
   obtain ⟨L,hL⟩:∃ L,sealL (ptTabs t)=L:=⟨_,rfl⟩
   have HL:=jh hL
   rw [hL] at hgr hrow hll ⊢
   clear hL hm
   have HGR:=jh hgr
   have HROW:Hid (∀ X,Chg (fun _=>False) w2 X→BytesAt X h 0 L):=jh (fun X hx=>(hrow.bytes (List.prefix_refl _)).chg hx (fun _ h=>h))
   have HLL:=jh hll
   clear hgr hrow hlo hll
   go_wp2_with fail
   refine (get_any L (some ⟨h,0,none⟩) h 0 L.length w2 (HROW.out w2 (Chg.refl _ _)) (fun _=>rfl) (Nat.le_refl _) (by have:=HLL.out;omega)).mono ?_
   rintro e w3 ⟨hc3,m1,rfl,h2⟩
   rw [HGR.out] at h2 ⊢
   rcases h2 with ⟨h2,-⟩ | ⟨t',ht,hin⟩
   ·cases h2
   obtain rfl:t=t':=Option.some.inj ht
   obtain ⟨⟨x0,y0,z0⟩,⟨x1,y1,z1⟩,⟨x2,y2,z2⟩,⟨⟨x3,y3,z3⟩,⟨x4,y4,z4⟩,⟨x5,y5,z5⟩,⟨x6,y6,z6⟩⟩,⟨⟨x7,y7,z7⟩,⟨x8,y8,z8⟩,⟨x9,y9,z9⟩,⟨x10,y10,z10⟩,⟨x11,y11,z11⟩⟩,⟨x12,y12,z12⟩⟩:=m1
   simp only [tabsV,slV]
   have HX3:=jh (HX2.out.trans hc3)
   have HC3:=jh hc3
   have HIN:=jh hin
   clear hc3 hin ht
   obtain ⟨w4,hw4⟩:∃ X,X=w3.alloc (.cells #[.slice x0 y0 z0,.slice x1 y1 z1,.slice x2 y2 z2,.slice x3 y3 z3,.slice x4 y4 z4,.slice x5 y5 z5,.slice x6 y6 z6,.slice x7 y7 z7,.slice x8 y8 z8,.slice x9 y9 z9,.slice x10 y10 z10,.slice x11 y11 z11,.slice x12 y12 z12] 34):=⟨_,rfl⟩
   have HX4:Hid (Chg (fun _=>False) wa w4∧Chg (fun _=>False) w3 w4):=jh (by rw [hw4];exact ⟨HX3.out.alloc _,(Chg.refl _ _).alloc _⟩)
   obtain ⟨bm,hbm⟩:∃ b,b=w3.heap.size:=⟨_,rfl⟩
   have HU:Hid (∀ X,Chg (fun _=>False) w4 X→∀ j v,([.slice x0 y0 z0,.slice x1 y1 z1,.slice x2 y2 z2,.slice x3 y3 z3,.slice x4 y4 z4,.slice x5 y5 z5,.slice x6 y6 z6,.slice x7 y7 z7,.slice x8 y8 z8,.slice x9 y9 z9,.slice x10 y10 z10,.slice x11 y11 z11,.slice x12 y12 z12]:List Value)[j]?=some v→X.cell? ⟨bm,j,none⟩=some v):=jh (fun X hx j v hv=>hx.cellS (by rw [hw4];exact allocAt _ hbm (by rw [← Array.getElem?_toList];exact hv)) (fun h=>h))
   have HTU:Hid (∀ X,Chg (fun _=>False) w4 X→TabsIn X (fun k=>w2.heap.size≤k) ⟨(x0,y0,z0),(x1,y1,z1),(x2,y2,z2),⟨(x3,y3,z3),(x4,y4,z4),(x5,y5,z5),(x6,y6,z6)⟩,⟨(x7,y7,z7),(x8,y8,z8),(x9,y9,z9),(x10,y10,z10),(x11,y11,z11)⟩,(x12,y12,z12)⟩ t):=jh (fun X hx=>TabsIn.good.chg HIN.out (HX4.out.2.trans hx) (fun _ _ h=>h))
   have u0:=HU.out w4 (Chg.refl _ _) 0 _ rfl
   have u1:=HU.out w4 (Chg.refl _ _) 1 _ rfl
   have u2:=HU.out w4 (Chg.refl _ _) 2 _ rfl
   have u3:=HU.out w4 (Chg.refl _ _) 3 _ rfl
   have u4:=HU.out w4 (Chg.refl _ _) 4 _ rfl
   have u5:=HU.out w4 (Chg.refl _ _) 5 _ rfl
   have u6:=HU.out w4 (Chg.refl _ _) 6 _ rfl
   have u7:=HU.out w4 (Chg.refl _ _) 7 _ rfl
   have u8:=HU.out w4 (Chg.refl _ _) 8 _ rfl
   have u9:=HU.out w4 (Chg.refl _ _) 9 _ rfl
   have u10:=HU.out w4 (Chg.refl _ _) 10 _ rfl
   have u11:=HU.out w4 (Chg.refl _ _) 11 _ rfl
   have u12:=HU.out w4 (Chg.refl _ _) 12 _ rfl
   have HW4:=jh hw4
   have HBM:=jh hbm
   clear hw4 hbm
   go_upto_region 7 with (fail)
   rw [← HW4.out,← HBM.out]
   go_wp2_with fail
   refine (put_tabs t ⟨(x0,y0,z0),(x1,y1,z1),(x2,y2,z2),⟨(x3,y3,z3),(x4,y4,z4),(x5,y5,z5),(x6,y6,z6)⟩,⟨(x7,y7,z7),(x8,y8,z8),(x9,y9,z9),(x10,y10,z10),(x11,y11,z11)⟩,(x12,y12,z12)⟩ _ w4 (HTU.out w4 (Chg.refl _ _)) HF.out.f HF.out.p).mono ?_
   rintro e w5 ⟨hc5,h5⟩
   have HX5:=jh (HX4.out.1.trans hc5)
   have HC5:=jh hc5
   clear hc5 u0 u1 u2 u3 u4 u5 u6 u7 u8 u9 u10 u11 u12
   rcases h5 with ⟨hm,-⟩ | ⟨-,h',rfl,hlo',hrow'⟩
   ·rw [HM.out] at hm;cases hm
   rw [HL.out] at hrow' ⊢
   have HROW2:Hid (∀ X,Chg (fun _=>False) w5 X→BytesAt X h' 0 L):=jh (fun X hx=>(hrow'.bytes (List.prefix_refl _)).chg hx (fun _ h=>h))
   clear hrow' hlo'
   go_upto_region 8 with (fail)
   obtain ⟨wd,hwd⟩:∃ X,w5.drew=X:=⟨_,rfl⟩
   have HWD:Hid (Chg (fun _=>False) w5 wd):=jh (by rw [← hwd];exact (Chg.refl _ _).drew)
   refine wp_region_late (fun x=>Chg (fun _=>False) wd x) (fun _=>false) (by kernel_rfl) ?_
   show wpAnyL _ _ _ _ _ _ 27 (Array.replicate 27 false) _ w5.drew
   rw [hwd]
   clear hwd
   have HSS:Hid (Chg (fun _=>False) wd wd):=jh (Chg.refl _ _)
   have HQV:Hid (∀ x,Chg (fun _=>False) wd x→∀ j v,([.slice a0 t.rl.length c0,.slice a1 t.tk.length c1,.slice a2 t.dr.length c2,.slice a3 t.lx.r.length c3,.slice a4 t.lx.c.length c4,.slice a5 t.lx.n.length c5,.slice a6 t.lx.e.length c6,.slice a7 t.nt.st.length c7,.slice a8 t.nt.s.length c8,.slice a9 t.nt.p.length c9,.slice a10 t.nt.q.length c10,.slice a11 t.nt.d.length c11,.slice a12 t.lk.length c12]:List Value)[j]?=some v→x.cell? ⟨bv,j,none⟩=some v):=jh (fun x hx=>HC.out x ((HX5.out.trans HWD.out).trans hx))
   have HQU:Hid (∀ x,Chg (fun _=>False) wd x→∀ j v,([.slice x0 y0 z0,.slice x1 y1 z1,.slice x2 y2 z2,.slice x3 y3 z3,.slice x4 y4 z4,.slice x5 y5 z5,.slice x6 y6 z6,.slice x7 y7 z7,.slice x8 y8 z8,.slice x9 y9 z9,.slice x10 y10 z10,.slice x11 y11 z11,.slice x12 y12 z12]:List Value)[j]?=some v→x.cell? ⟨bm,j,none⟩=some v):=jh (fun x hx=>HU.out x ((HC5.out.trans HWD.out).trans hx))
   have HTVX:Hid (∀ x,Chg (fun _=>False) wd x→TabsIn x S ⟨(a0,t.rl.length,c0),(a1,t.tk.length,c1),(a2,t.dr.length,c2),⟨(a3,t.lx.r.length,c3),(a4,t.lx.c.length,c4),(a5,t.lx.n.length,c5),(a6,t.lx.e.length,c6)⟩,⟨(a7,t.nt.st.length,c7),(a8,t.nt.s.length,c8),(a9,t.nt.p.length,c9),(a10,t.nt.q.length,c10),(a11,t.nt.d.length,c11)⟩,(a12,t.lk.length,c12)⟩ t):=jh (fun x hx=>HTV.out x ((HX5.out.trans HWD.out).trans hx))
   have HTUX:Hid (∀ x,Chg (fun _=>False) wd x→TabsIn x (fun k=>w2.heap.size≤k) ⟨(x0,y0,z0),(x1,y1,z1),(x2,y2,z2),⟨(x3,y3,z3),(x4,y4,z4),(x5,y5,z5),(x6,y6,z6)⟩,⟨(x7,y7,z7),(x8,y8,z8),(x9,y9,z9),(x10,y10,z10),(x11,y11,z11)⟩,(x12,y12,z12)⟩ t):=jh (fun x hx=>HTU.out x ((HC5.out.trans HWD.out).trans hx))
   obtain ⟨sz,hsz⟩:∃ s,strOfNums L=s:=⟨_,rfl⟩
   have HCV:Hid (∀ x,Chg (fun _=>False) wd x→(convert 45 9 (.slice (some ⟨h,0,none⟩) L.length L.length)).run Tryz.prog x=.ok (.string sz) x):=jh (fun x hx=>by
    rw [← hsz]
    exact conv8 L.length (HROW.out x ((((HC3.out.trans HX4.out.2).trans HC5.out).trans HWD.out).trans hx)) (fun _=>rfl))
   have HCV2:Hid (∀ x,Chg (fun _=>False) wd x→(convert 45 9 (.slice (some ⟨h',0,none⟩) L.length L.length)).run Tryz.prog x=.ok (.string sz) x):=jh (fun x hx=>by
    rw [← hsz]
    exact conv8 L.length (HROW2.out x (HWD.out.trans hx)) (fun _=>rfl))
   clear hsz
   have HOT:Hid (∀ x,Chg (fun _=>False) wd x→Calls Tryz.prog 9 #[.agg #[.slice a0 t.rl.length c0,.slice a1 t.tk.length c1,.slice a2 t.dr.length c2,.slice a3 t.lx.r.length c3,.slice a4 t.lx.c.length c4,.slice a5 t.lx.n.length c5,.slice a6 t.lx.e.length c6,.slice a7 t.nt.st.length c7,.slice a8 t.nt.s.length c8,.slice a9 t.nt.p.length c9,.slice a10 t.nt.q.length c10,.slice a11 t.nt.d.length c11,.slice a12 t.lk.length c12]] x fun e w'=>∃ (b0 b1 b2 b3 b4 b5 b6 b7 b8 b9 b10 b11 b12:Option Addr) (k0 k1 k2 k3 k4 k5 k6 k7 k8 k9 k10 k11 k12:Nat) (d0 d1 d2 d3 d4 d5 d6 d7 d8 d9 d10 d11 d12:Nat),e=.returned (.agg #[.slice b0 k0 d0,.slice b1 k1 d1,.slice b2 k2 d2,.slice b3 k3 d3,.slice b4 k4 d4,.slice b5 k5 d5,.slice b6 k6 d6,.slice b7 k7 d7,.slice b8 k8 d8,.slice b9 k9 d9,.slice b10 k10 d10,.slice b11 k11 d11,.slice b12 k12 d12])∧DocIn w' (fun _=>True) ⟨(b0,k0,d0),(b1,k1,d1),(b2,k2,d2),⟨(b3,k3,d3),(b4,k4,d4),(b5,k5,d5),(b6,k6,d6)⟩,⟨(b7,k7,d7),(b8,k8,d8),(b9,k9,d9),(b10,k10,d10),(b11,k11,d11)⟩,(b12,k12,d12)⟩ t∧Chg (fun _=>False) x w'):=jh (fun x hx=>(other_tabs t ⟨(a0,t.rl.length,c0),(a1,t.tk.length,c1),(a2,t.dr.length,c2),⟨(a3,t.lx.r.length,c3),(a4,t.lx.c.length,c4),(a5,t.lx.n.length,c5),(a6,t.lx.e.length,c6)⟩,⟨(a7,t.nt.st.length,c7),(a8,t.nt.s.length,c8),(a9,t.nt.p.length,c9),(a10,t.nt.q.length,c10),(a11,t.nt.d.length,c11)⟩,(a12,t.lk.length,c12)⟩ S x (HTVX.out x hx) HF.out.f).mono (by
    rintro e w' ⟨m',rfl,hd,hc⟩
    obtain ⟨⟨b0,k0,d0⟩,⟨b1,k1,d1⟩,⟨b2,k2,d2⟩,⟨⟨b3,k3,d3⟩,⟨b4,k4,d4⟩,⟨b5,k5,d5⟩,⟨b6,k6,d6⟩⟩,⟨⟨b7,k7,d7⟩,⟨b8,k8,d8⟩,⟨b9,k9,d9⟩,⟨b10,k10,d10⟩,⟨b11,k11,d11⟩⟩,⟨b12,k12,d12⟩⟩:=m'
    exact ⟨b0,b1,b2,b3,b4,b5,b6,b7,b8,b9,b10,b11,b12,k0,k1,k2,k3,k4,k5,k6,k7,k8,k9,k10,k11,k12,d0,d1,d2,d3,d4,d5,d6,d7,d8,d9,d10,d11,d12,rfl,hd,hc⟩))
   (refine lrd 0 HSS.out (fun K hK=>?_);apply Exists.intro;refine ⟨fun w' hC=>?_,?_⟩;((have v0:=HQV.out _ hC 0 _ rfl;have v1:=HQV.out _ hC 1 _ rfl;have v2:=HQV.out _ hC 2 _ rfl;have v3:=HQV.out _ hC 3 _ rfl;have v4:=HQV.out _ hC 4 _ rfl;have v5:=HQV.out _ hC 5 _ rfl;have v6:=HQV.out _ hC 6 _ rfl;have v7:=HQV.out _ hC 7 _ rfl;have v8:=HQV.out _ hC 8 _ rfl;have v9:=HQV.out _ hC 9 _ rfl;have v10:=HQV.out _ hC 10 _ rfl;have v11:=HQV.out _ hC 11 _ rfl;have v12:=HQV.out _ hC 12 _ rfl);go_simp;try with_reducible rfl);(try go_simp);refine hK _ ?_;clear hK K)
   refine late_call (i:=1) (by kernel_rfl) rfl rfl 12 #[.agg #[.slice a0 t.rl.length c0,.slice a1 t.tk.length c1,.slice a2 t.dr.length c2,.slice a3 t.lx.r.length c3,.slice a4 t.lx.c.length c4,.slice a5 t.lx.n.length c5,.slice a6 t.lx.e.length c6,.slice a7 t.nt.st.length c7,.slice a8 t.nt.s.length c8,.slice a9 t.nt.p.length c9,.slice a10 t.nt.q.length c10,.slice a11 t.nt.d.length c11,.slice a12 t.lk.length c12]] (fun v w'=>v=.bool true∧Chg (fun _=>False) wd w') (by go_simp) ?_ ?_
   ·refine (may_tabs t ⟨(a0,t.rl.length,c0),(a1,t.tk.length,c1),(a2,t.dr.length,c2),⟨(a3,t.lx.r.length,c3),(a4,t.lx.c.length,c4),(a5,t.lx.n.length,c5),(a6,t.lx.e.length,c6)⟩,⟨(a7,t.nt.st.length,c7),(a8,t.nt.s.length,c8),(a9,t.nt.p.length,c9),(a10,t.nt.q.length,c10),(a11,t.nt.d.length,c11)⟩,(a12,t.lk.length,c12)⟩ S wd (HTVX.out wd (Chg.refl _ _)) HF.out.f).mono ?_
    rintro e w' ⟨rfl,hc⟩
    exact ⟨_,rfl,fun _=>hc,by rw [HM.out],hc⟩
   rintro v wy1 hs ⟨rfl,hc⟩ K hK
   have HY1:=jh hc
   clear hc hs
   (try go_simp)
   refine hK _ ?_
   clear hK K
   have HSS:=HY1
   (refine lrd 2 HSS.out (fun K hK=>?_);apply Exists.intro;refine ⟨fun w' hC=>?_,?_⟩;(go_simp;try with_reducible rfl);(try go_simp);refine hK _ ?_;clear hK K)
   (refine lrd 3 HSS.out (fun K hK=>?_);apply Exists.intro;refine ⟨fun w' hC=>?_,?_⟩;(go_simp;try with_reducible rfl);(try go_simp);refine hK _ ?_;clear hK K)
   (refine lrd 4 HSS.out (fun K hK=>?_);apply Exists.intro;refine ⟨fun w' hC=>?_,?_⟩;(go_simp;try with_reducible rfl);(try go_simp);refine hK _ ?_;clear hK K)
   (refine lrd 5 HSS.out (fun K hK=>?_);apply Exists.intro;refine ⟨fun w' hC=>?_,?_⟩;(go_simp;try with_reducible rfl);(try go_simp);refine hK _ ?_;clear hK K)
   (refine lrd 6 HSS.out (fun K hK=>?_);apply Exists.intro;refine ⟨fun w' hC=>?_,?_⟩;(go_simp;try with_reducible rfl);(try go_simp);refine hK _ ?_;clear hK K)
   (refine lrd 7 HSS.out (fun K hK=>?_);apply Exists.intro;refine ⟨fun w' hC=>?_,?_⟩;(go_simp;try with_reducible rfl);(try go_simp);refine hK _ ?_;clear hK K)
   (refine lrd 8 HSS.out (fun K hK=>?_);apply Exists.intro;refine ⟨fun w' hC=>?_,?_⟩;(go_simp;try with_reducible rfl);(try go_simp);refine hK _ ?_;clear hK K)
   (refine lrd 9 HSS.out (fun K hK=>?_);apply Exists.intro;refine ⟨fun w' hC=>?_,?_⟩;(go_simp;try with_reducible rfl);(try go_simp);refine hK _ ?_;clear hK K)
   (refine lrd 10 HSS.out (fun K hK=>?_);apply Exists.intro;refine ⟨fun w' hC=>?_,?_⟩;(go_simp;try with_reducible rfl);(try go_simp);refine hK _ ?_;clear hK K)
   (refine lrd 11 HSS.out (fun K hK=>?_);apply Exists.intro;refine ⟨fun w' hC=>?_,?_⟩;(go_simp;try with_reducible rfl);(try go_simp);refine hK _ ?_;clear hK K)
   (refine lrd 12 HSS.out (fun K hK=>?_);apply Exists.intro;refine ⟨fun w' hC=>?_,?_⟩;((have q:=HCV.out w' hC);go_simp;try with_reducible rfl);(try go_simp);refine hK _ ?_;clear hK K)
   (refine lrd 13 HSS.out (fun K hK=>?_);apply Exists.intro;refine ⟨fun w' hC=>?_,?_⟩;(go_simp;try with_reducible rfl);(try go_simp);refine hK _ ?_;clear hK K)
   (refine lrd 14 HSS.out (fun K hK=>?_);apply Exists.intro;refine ⟨fun w' hC=>?_,?_⟩;((have q:=HCV2.out w' hC);go_simp;try with_reducible rfl);(try go_simp);refine hK _ ?_;clear hK K)
   (refine lrd 15 HSS.out (fun K hK=>?_);apply Exists.intro;refine ⟨fun w' hC=>?_,?_⟩;(go_simp;try with_reducible rfl);(try go_simp);refine hK _ ?_;clear hK K)
   (refine lrd 16 HSS.out (fun K hK=>?_);apply Exists.intro;refine ⟨fun w' hC=>?_,?_⟩;(go_simp;try with_reducible rfl);(try go_simp);refine hK _ ?_;clear hK K)
   (refine lrd 17 HSS.out (fun K hK=>?_);apply Exists.intro;refine ⟨fun w' hC=>?_,?_⟩;(go_simp;try with_reducible rfl);(try go_simp);refine hK _ ?_;clear hK K)
   (refine lrd 18 HSS.out (fun K hK=>?_);apply Exists.intro;refine ⟨fun w' hC=>?_,?_⟩;((have u0:=HQU.out _ hC 0 _ rfl;have u1:=HQU.out _ hC 1 _ rfl;have u2:=HQU.out _ hC 2 _ rfl;have u3:=HQU.out _ hC 3 _ rfl;have u4:=HQU.out _ hC 4 _ rfl;have u5:=HQU.out _ hC 5 _ rfl;have u6:=HQU.out _ hC 6 _ rfl;have u7:=HQU.out _ hC 7 _ rfl;have u8:=HQU.out _ hC 8 _ rfl;have u9:=HQU.out _ hC 9 _ rfl;have u10:=HQU.out _ hC 10 _ rfl;have u11:=HQU.out _ hC 11 _ rfl;have u12:=HQU.out _ hC 12 _ rfl);go_simp;try with_reducible rfl);(try go_simp);refine hK _ ?_;clear hK K)
   (refine lrd 19 HSS.out (fun K hK=>?_);apply Exists.intro;refine ⟨fun w' hC=>?_,?_⟩;((have v0:=HQV.out _ hC 0 _ rfl;have v1:=HQV.out _ hC 1 _ rfl;have v2:=HQV.out _ hC 2 _ rfl;have v3:=HQV.out _ hC 3 _ rfl;have v4:=HQV.out _ hC 4 _ rfl;have v5:=HQV.out _ hC 5 _ rfl;have v6:=HQV.out _ hC 6 _ rfl;have v7:=HQV.out _ hC 7 _ rfl;have v8:=HQV.out _ hC 8 _ rfl;have v9:=HQV.out _ hC 9 _ rfl;have v10:=HQV.out _ hC 10 _ rfl;have v11:=HQV.out _ hC 11 _ rfl;have v12:=HQV.out _ hC 12 _ rfl);go_simp;try with_reducible rfl);(try go_simp);refine hK _ ?_;clear hK K)
   refine late_call (i:=20) (by kernel_rfl) rfl rfl 9 #[.agg #[.slice a0 t.rl.length c0,.slice a1 t.tk.length c1,.slice a2 t.dr.length c2,.slice a3 t.lx.r.length c3,.slice a4 t.lx.c.length c4,.slice a5 t.lx.n.length c5,.slice a6 t.lx.e.length c6,.slice a7 t.nt.st.length c7,.slice a8 t.nt.s.length c8,.slice a9 t.nt.p.length c9,.slice a10 t.nt.q.length c10,.slice a11 t.nt.d.length c11,.slice a12 t.lk.length c12]] (fun v w'=>∃ (b0 b1 b2 b3 b4 b5 b6 b7 b8 b9 b10 b11 b12:Option Addr) (k0 k1 k2 k3 k4 k5 k6 k7 k8 k9 k10 k11 k12:Nat) (d0 d1 d2 d3 d4 d5 d6 d7 d8 d9 d10 d11 d12:Nat),v=.agg #[.slice b0 k0 d0,.slice b1 k1 d1,.slice b2 k2 d2,.slice b3 k3 d3,.slice b4 k4 d4,.slice b5 k5 d5,.slice b6 k6 d6,.slice b7 k7 d7,.slice b8 k8 d8,.slice b9 k9 d9,.slice b10 k10 d10,.slice b11 k11 d11,.slice b12 k12 d12]∧DocIn w' (fun _=>True) ⟨(b0,k0,d0),(b1,k1,d1),(b2,k2,d2),⟨(b3,k3,d3),(b4,k4,d4),(b5,k5,d5),(b6,k6,d6)⟩,⟨(b7,k7,d7),(b8,k8,d8),(b9,k9,d9),(b10,k10,d10),(b11,k11,d11)⟩,(b12,k12,d12)⟩ t∧Chg (fun _=>False) wd w') (by go_simp) ?_ ?_
   ·exact (HOT.out wy1 HY1.out).mono (by
     rintro e w' ⟨b0,b1,b2,b3,b4,b5,b6,b7,b8,b9,b10,b11,b12,k0,k1,k2,k3,k4,k5,k6,k7,k8,k9,k10,k11,k12,d0,d1,d2,d3,d4,d5,d6,d7,d8,d9,d10,d11,d12,rfl,hd,hc⟩
     exact ⟨_,rfl,fun _=>HY1.out.trans hc,b0,b1,b2,b3,b4,b5,b6,b7,b8,b9,b10,b11,b12,k0,k1,k2,k3,k4,k5,k6,k7,k8,k9,k10,k11,k12,d0,d1,d2,d3,d4,d5,d6,d7,d8,d9,d10,d11,d12,rfl,hd,HY1.out.trans hc⟩)
   rintro v wy2 hs ⟨b0,b1,b2,b3,b4,b5,b6,b7,b8,b9,b10,b11,b12,k0,k1,k2,k3,k4,k5,k6,k7,k8,k9,k10,k11,k12,d0,d1,d2,d3,d4,d5,d6,d7,d8,d9,d10,d11,d12,rfl,hd,hc⟩ K hK
   have HD:=jh hd
   have HY2:=jh hc
   clear hd hc hs
   (try go_simp)
   refine hK _ ?_
   clear hK K
   refine late_call (i:=21) (by kernel_rfl) rfl rfl 15 #[.agg #[.slice x0 y0 z0,.slice x1 y1 z1,.slice x2 y2 z2,.slice x3 y3 z3,.slice x4 y4 z4,.slice x5 y5 z5,.slice x6 y6 z6,.slice x7 y7 z7,.slice x8 y8 z8,.slice x9 y9 z9,.slice x10 y10 z10,.slice x11 y11 z11,.slice x12 y12 z12],.agg #[.slice b0 k0 d0,.slice b1 k1 d1,.slice b2 k2 d2,.slice b3 k3 d3,.slice b4 k4 d4,.slice b5 k5 d5,.slice b6 k6 d6,.slice b7 k7 d7,.slice b8 k8 d8,.slice b9 k9 d9,.slice b10 k10 d10,.slice b11 k11 d11,.slice b12 k12 d12]] (fun v w'=>v=.bool true∧Chg (fun _=>False) wd w') (by go_simp) ?_ ?_
   ·refine (same_yes t ⟨(x0,y0,z0),(x1,y1,z1),(x2,y2,z2),⟨(x3,y3,z3),(x4,y4,z4),(x5,y5,z5),(x6,y6,z6)⟩,⟨(x7,y7,z7),(x8,y8,z8),(x9,y9,z9),(x10,y10,z10),(x11,y11,z11)⟩,(x12,y12,z12)⟩ ⟨(b0,k0,d0),(b1,k1,d1),(b2,k2,d2),⟨(b3,k3,d3),(b4,k4,d4),(b5,k5,d5),(b6,k6,d6)⟩,⟨(b7,k7,d7),(b8,k8,d8),(b9,k9,d9),(b10,k10,d10),(b11,k11,d11)⟩,(b12,k12,d12)⟩ _ _ wy2 (HTUX.out wy2 HY2.out) HD.out HF.out.f).mono ?_
    rintro e w' ⟨rfl,hc⟩
    exact ⟨_,rfl,fun _=>HY2.out.trans hc,rfl,HY2.out.trans hc⟩
   rintro v wy3 hs ⟨rfl,hc⟩ K hK
   have HY3:=jh hc
   clear hc hs
   (try go_simp)
   refine hK _ ?_
   clear hK K
   have HSS:=HY3
   (refine lrd 22 HSS.out (fun K hK=>?_);apply Exists.intro;refine ⟨fun w' hC=>?_,?_⟩;(go_simp;try with_reducible rfl);(try go_simp);refine hK _ ?_;clear hK K)
   (refine lrd 23 HSS.out (fun K hK=>?_);apply Exists.intro;refine ⟨fun w' hC=>?_,?_⟩;(go_simp;try with_reducible rfl);(try go_simp);refine hK _ ?_;clear hK K)
   refine late_call (i:=24) (by kernel_rfl) rfl rfl 8 #[] (fun v w'=>v=.bool true∧Chg (fun _=>False) wd w') (by go_simp) ?_ ?_
   ·refine (lives_any wy3).mono ?_
    rintro e w' ⟨rfl,hc⟩
    exact ⟨_,rfl,fun _=>HY3.out.trans hc,rfl,HY3.out.trans hc⟩
   rintro v wy4 hs ⟨rfl,hc⟩ K hK
   have HY4:=jh hc
   clear hc hs
   (try go_simp)
   refine hK _ ?_
   clear hK K
   have HSS:=HY4
   (refine lrd 25 HSS.out (fun K hK=>?_);apply Exists.intro;refine ⟨fun w' hC=>?_,?_⟩;(go_simp;try with_reducible rfl);(try go_simp);refine hK _ ?_;clear hK K)
   (refine lrd 26 HSS.out (fun K hK=>?_);apply Exists.intro;refine ⟨fun w' hC=>?_,?_⟩;(go_simp;try with_reducible rfl);(try go_simp);refine hK _ ?_;clear hK K)
   refine late_done (by kernel_rfl) ?_ _
   have HEND:Hid (Chg (fun _=>False) w wy4):=jh (((HCA.out.trans HX5.out).trans HWD.out).trans HY4.out)
   go_wp2
   go_ret
   exact ⟨rfl,HEND.out⟩
end Go.Proofs.YtgnpmceimpjheaaGreat
namespace Go.Proofs.YtgnpmceimpjheaaGreat
open Go.ChangeShapes Go.WideShapes Go.ChangeAt Go.RowKit Go.Deep Go.WideMaps
section
variable {H:Type} {enc:TypeId × Value→H} {W:World} {β δ:Type} {E:Elt β} {R:Rp β δ}
theorem list_choose {S:Nat→Prop} {Q:δ→Prop}:∀ (L:List β),(∀ x∈L,∃ d,R W S x d∧Q d)→∃ D:List δ,L.length=D.length∧(∀ (j:Nat) x d,L[j]?=some x→D[j]?=some d→R W S x d)∧∀ d∈D,Q d
 | [],_=>⟨[],rfl,fun j x d hx=>by simp at hx,fun d hd=>by cases hd⟩
 | x :: L,h=>by
  obtain ⟨D,h1,h2,h3⟩:=list_choose L (fun y hy=>h y (by simp [hy]))
  obtain ⟨d,h4,h5⟩:=h x (by simp)
  refine ⟨d :: D,by simp [h1],fun j y e hy he=>?_,fun e he=>?_⟩
  ·cases j with
   | zero=>simp at hy he;subst hy he;exact h4
   | succ j=>simp at hy he;exact h2 j y e hy he
  ·rcases List.mem_cons.1 he with rfl | he
   ·exact h5
   ·exact h3 e he
end
section
variable {H:Type} {enc:TypeId × Value→H} {W:World}
theorem bounds_u8 {x:Int} (h:(Lit.int .u8 x).wf=true):U8 x:=by
 have e1:IntKind.u8.min=0:=rfl
 have e2:IntKind.u8.max=255:=rfl
 simp [Lit.wf,e1,e2] at h
 exact h
theorem c_int:Tryz.prog.cellsOf 3=1:=by kernel_rfl
theorem c_sint:Tryz.prog.cellsOf 25=1:=by kernel_rfl
theorem c_sstr:Tryz.prog.cellsOf 22=1:=by kernel_rfl
theorem c_sbool:Tryz.prog.cellsOf 23=1:=by kernel_rfl
theorem c_edge:Tryz.prog.cellsOf 72=1:=by kernel_rfl
theorem c_ledge:Tryz.prog.cellsOf 65=1:=by kernel_rfl
theorem c_lst:Tryz.prog.cellsOf 61=1:=by kernel_rfl
theorem c_st:Tryz.prog.cellsOf 29=1:=by kernel_rfl
theorem c_rng:Tryz.prog.cellsOf 24=1:=by kernel_rfl
theorem c_lint:Tryz.prog.cellsOf 26=1:=by kernel_rfl
theorem c_auto:Tryz.prog.cellsOf 32=1:=by kernel_rfl
theorem c_lex:Tryz.prog.cellsOf 28=4:=by kernel_rfl
theorem c_net:Tryz.prog.cellsOf 31=5:=by kernel_rfl
theorem c_kind:Tryz.prog.cellsOf 69=1:=by kernel_rfl
theorem c_lkind:Tryz.prog.cellsOf 64=1:=by kernel_rfl
set_option maxRecDepth 100000 in
theorem open_strs' {fuel:Nat} {cs:List Value} {d:DataW H} {p:List MemPlace} (h:DataW.trod enc Tryz.prog W 0 (fun _=>true) true fuel 22 cs=some (d,p)) (hz:∀ n∈d.weights Tryz.prog 22,n≤reachBytes) :
  ∃ (a:Option Addr) (c:Nat) (L:List Str),cs=[.slice a L.length c]∧strE.InS W (0≤·) (a,L.length,c) L∧L.length≤100000000000000∧∀ s∈L,s.size≤1000000000000000:=by
 obtain ⟨a,c,L,h1,h2,h3,h4⟩:=open_list strE (by kernel_rfl) (by kernel_rfl) (fun s=>s.size≤1000000000000000) h hz (fun fuel cs' d' pl ht hl hz'=>by
  obtain ⟨s,e,hx,_⟩:=DataW.trod_string Tryz.underlying9 ht
  simp only [Prod.mk.injEq] at hx
  obtain ⟨rfl,-⟩:=hx
  refine ⟨s,e,trivial,?_⟩
  have h5:=hz' s.data.toList.length (by rw [DataW.weights];exact List.mem_singleton.2 rfl)
  have h6:s.data.toList.length=s.size:=by rw [Array.length_toList];rfl
  have hrb:reachBytes=140737488351232:=rfl
  omega)
 exact ⟨a,c,L,h1,h2,by have hrb:reachBytes=140737488351232:=rfl;have:strE.bs=16:=rfl;rw [this] at h4;omega,h3⟩
set_option maxRecDepth 100000 in
theorem open_bools' {fuel:Nat} {cs:List Value} {d:DataW H} {p:List MemPlace} (h:DataW.trod enc Tryz.prog W 0 (fun _=>true) true fuel 23 cs=some (d,p)) (hz:∀ n∈d.weights Tryz.prog 23,n≤reachBytes) :
  ∃ (a:Option Addr) (c:Nat) (L:List Bool),cs=[.slice a L.length c]∧boolE.InS W (0≤·) (a,L.length,c) L∧L.length≤200000000000000:=by
 obtain ⟨a,c,L,h1,h2,-,h4⟩:=open_list boolE (by kernel_rfl) (by kernel_rfl) (fun _=>True) h hz (fun fuel cs' d' pl ht hl _=>by
  obtain ⟨b,e,_⟩:=DataW.trod_bool Tryz.underlying4 ht
  exact ⟨b,e,trivial,trivial⟩)
 exact ⟨a,c,L,h1,h2,by have hrb:reachBytes=140737488351232:=rfl;have:boolE.bs=1:=rfl;rw [this] at h4;omega⟩
set_option maxRecDepth 100000 in
theorem open_lints {fuel:Nat} {cs:List Value} {d:DataW H} {p:List MemPlace} (h:DataW.trod enc Tryz.prog W 0 (fun _=>true) true fuel 26 cs=some (d,p)) (hz:∀ n∈d.weights Tryz.prog 26,n≤reachBytes) :
  ∃ (a:Option Addr) (c:Nat) (L:List (List Int)),cs=[.slice a L.length c]∧ListR listE (inR intE) W (0≤·) (a,L.length,c) L∧L.length≤100000000000000∧∀ l∈L,l.length≤100000000000000:=by
 obtain ⟨a,c,X,h1,h2,h3,h4⟩:=open_list listE (by kernel_rfl) (by kernel_rfl) (fun x=>∃ d:List Int,inR intE W (0≤·) x d∧d.length≤100000000000000) h hz (fun fuel cs' d' pl ht hl hz'=>by
  obtain ⟨a,c,L,h1,h2,h3⟩:=open_intE ht hz'
  exact ⟨(a,L.length,c),h1,trivial,L,h2,h3⟩)
 obtain ⟨D,g1,g2,g3⟩:=list_choose X h3
 rw [g1] at h1 h4 h2
 exact ⟨a,c,D,h1,⟨X,h2,g1,g2⟩,by have hrb:reachBytes=140737488351232:=rfl;have:listE.bs=24:=rfl;rw [this] at h4;omega,g3⟩
set_option maxRecDepth 100000 in
theorem open_rngs' {fuel:Nat} {cs:List Value} {d:DataW H} {p:List MemPlace} (h:DataW.trod enc Tryz.prog W 0 (fun _=>true) true fuel 24 cs=some (d,p)) (hz:∀ n∈d.weights Tryz.prog 24,n≤reachBytes) :
  ∃ (a:Option Addr) (c:Nat) (L:List (Int × Int)),cs=[.slice a L.length c]∧rngE.InS W (0≤·) (a,L.length,c) L∧L.length≤100000000000000:=by
 obtain ⟨a,c,L,h1,h2,-,h4⟩:=open_list rngE (by kernel_rfl) (by kernel_rfl) (fun _=>True) h hz (fun fuel cs' d' pl ht hl _=>by
  obtain ⟨xs,n',_,_,_,hxl,hg⟩:=DataW.trod_struct Tryz.underlying117 ht
  match cs',hl with
  | [k0,k1],_ =>
   have hxs:xs.length=2:=hxl
   have g0:=hg 0 _ rfl
   have g1:=hg 1 _ rfl
   rw [List.getElem?_eq_getElem (by omega)] at g0 g1
   obtain ⟨x0,e0,_,w0⟩:=DataW.trod_int Tryz.underlying21 g0
   obtain ⟨x1,e1,_,w1⟩:=DataW.trod_int Tryz.underlying21 g1
   simp [i32Cells] at e0 e1
   subst e0 e1
   exact ⟨(x0,x1),rfl,⟨bounds_i32 w0,bounds_i32 w1⟩,trivial⟩)
 exact ⟨a,c,L,h1,h2,by have hrb:reachBytes=140737488351232:=rfl;have:rngE.bs=8:=rfl;rw [this] at h4;omega⟩
set_option maxRecDepth 100000 in
theorem open_edges {fuel:Nat} {cs:List Value} {d:DataW H} {p:List MemPlace} (h:DataW.trod enc Tryz.prog W 0 (fun _=>true) true fuel 72 cs=some (d,p)) (hz:∀ n∈d.weights Tryz.prog 72,n≤reachBytes) :
  ∃ (a:Option Addr) (c:Nat) (L:List EdgeD),cs=[.slice a L.length c]∧edgeE.InS W (0≤·) (a,L.length,c) L∧L.length≤100000000000000:=by
 obtain ⟨a,c,L,h1,h2,-,h4⟩:=open_list edgeE (by kernel_rfl) (by kernel_rfl) (fun _=>True) h hz (fun fuel cs' d' pl ht hl _=>by
  obtain ⟨xs,n',_,_,_,hxl,hg⟩:=DataW.trod_struct Tryz.underlying71 ht
  match cs',hl with
  | [k0,k1,k2],_ =>
   have hxs:xs.length=3:=hxl
   have g0:=hg 0 _ rfl
   have g1:=hg 1 _ rfl
   have g2:=hg 2 _ rfl
   rw [List.getElem?_eq_getElem (by omega)] at g0 g1 g2
   obtain ⟨x0,e0,_,w0⟩:=DataW.trod_int Tryz.underlying69 g0
   obtain ⟨x1,e1,_,w1⟩:=DataW.trod_int Tryz.underlying3 g1
   obtain ⟨x2,e2,_,w2⟩:=DataW.trod_int Tryz.underlying3 g2
   simp [c_kind,c_int] at e0 e1 e2
   subst e0 e1 e2
   exact ⟨(x0,x1,x2),rfl,⟨bounds_u8 w0,bounds_i64 w1,bounds_i64 w2⟩,trivial⟩)
 exact ⟨a,c,L,h1,h2,by have hrb:reachBytes=140737488351232:=rfl;have:edgeE.bs=24:=rfl;rw [this] at h4;omega⟩
set_option maxRecDepth 100000 in
theorem open_ledges {fuel:Nat} {cs:List Value} {d:DataW H} {p:List MemPlace} (h:DataW.trod enc Tryz.prog W 0 (fun _=>true) true fuel 65 cs=some (d,p)) (hz:∀ n∈d.weights Tryz.prog 65,n≤reachBytes) :
  ∃ (a:Option Addr) (c:Nat) (L:List (Int × Int)),cs=[.slice a L.length c]∧ledgeE.InS W (0≤·) (a,L.length,c) L∧L.length≤100000000000000:=by
 obtain ⟨a,c,L,h1,h2,-,h4⟩:=open_list ledgeE (by kernel_rfl) (by kernel_rfl) (fun _=>True) h hz (fun fuel cs' d' pl ht hl _=>by
  obtain ⟨xs,n',_,_,_,hxl,hg⟩:=DataW.trod_struct Tryz.underlying149 ht
  match cs',hl with
  | [k0,k1],_ =>
   have hxs:xs.length=2:=hxl
   have g0:=hg 0 _ rfl
   have g1:=hg 1 _ rfl
   rw [List.getElem?_eq_getElem (by omega)] at g0 g1
   obtain ⟨x0,e0,_,w0⟩:=DataW.trod_int Tryz.underlying3 g0
   obtain ⟨x1,e1,_,w1⟩:=DataW.trod_int Tryz.underlying3 g1
   simp [c_int] at e0 e1
   subst e0 e1
   exact ⟨(x0,x1),rfl,⟨bounds_i64 w0,bounds_i64 w1⟩,trivial⟩)
 exact ⟨a,c,L,h1,h2,by have hrb:reachBytes=140737488351232:=rfl;have:ledgeE.bs=16:=rfl;rw [this] at h4;omega⟩
set_option maxRecDepth 100000 in
theorem open_sts {fuel:Nat} {cs:List Value} {d:DataW H} {p:List MemPlace} (h:DataW.trod enc Tryz.prog W 0 (fun _=>true) true fuel 29 cs=some (d,p)) (hz:∀ n∈d.weights Tryz.prog 29,n≤reachBytes) :
  ∃ (a:Option Addr) (c:Nat) (L:List StD),cs=[.slice a L.length c]∧ListR stE stR W (0≤·) (a,L.length,c) L∧L.length≤100000000000000∧∀ s∈L,s.2.1.length≤100000000000000∧s.2.2.length≤100000000000000:=by
 obtain ⟨a,c,X,h1,h2,h3,h4⟩:=open_list stE (by kernel_rfl) (by kernel_rfl) (fun x=>∃ d:StD,stR W (0≤·) x d∧(d.2.1.length≤100000000000000∧d.2.2.length≤100000000000000)) h hz (fun fuel cs' d' pl ht hl hz'=>by
  obtain ⟨xs,n',_,hd,_,hxl,hg⟩:=DataW.trod_struct Tryz.underlying74 ht
  simp only [Prod.mk.injEq] at hd
  obtain ⟨rfl,-⟩:=hd
  match cs',hl with
  | [k0,k1,k2],_ =>
   have hxs:xs.length=3:=hxl
   have g0:=hg 0 _ rfl
   have g1:=hg 1 _ rfl
   have g2:=hg 2 _ rfl
   rw [List.getElem?_eq_getElem (by omega)] at g0 g1 g2
   obtain ⟨x0,e0,_,w0⟩:=DataW.trod_int Tryz.underlying3 g0
   obtain ⟨ea,ec,EE,e1,hE,hEl⟩:=open_edges (d:=xs[1].1) (p:=xs[1].2) g1 (fun n hn=>hz' n (weights_agg Tryz.underlying74 (i:=1) rfl (by rw [List.getElem?_map,List.getElem?_eq_getElem (by omega)];rfl) hn))
   obtain ⟨da,dc,DD,e2,hD,hDl⟩:=open_intE (d:=xs[2].1) (p:=xs[2].2) g2 (fun n hn=>hz' n (weights_agg Tryz.underlying74 (i:=2) rfl (by rw [List.getElem?_map,List.getElem?_eq_getElem (by omega)];rfl) hn))
   simp [c_int,c_edge,c_sint] at e0 e1 e2
   subst e0 e1 e2
   exact ⟨(x0,(ea,EE.length,ec),(da,DD.length,dc)),rfl,bounds_i64 w0,(x0,EE,DD),⟨rfl,bounds_i64 w0,hE,hD⟩,hEl,hDl⟩)
 obtain ⟨D,g1,g2,g3⟩:=list_choose X h3
 rw [g1] at h1 h4 h2
 exact ⟨a,c,D,h1,⟨X,h2,g1,g2⟩,by have hrb:reachBytes=140737488351232:=rfl;have:stE.bs=56:=rfl;rw [this] at h4;omega,g3⟩
set_option maxRecDepth 100000 in
theorem open_lsts {fuel:Nat} {cs:List Value} {d:DataW H} {p:List MemPlace} (h:DataW.trod enc Tryz.prog W 0 (fun _=>true) true fuel 61 cs=some (d,p)) (hz:∀ n∈d.weights Tryz.prog 61,n≤reachBytes) :
  ∃ (a:Option Addr) (c:Nat) (L:List LsD),cs=[.slice a L.length c]∧ListR lsE lsR W (0≤·) (a,L.length,c) L∧L.length≤100000000000000∧∀ s∈L,s.2.1.length≤100000000000000∧s.2.2.length≤100000000000000:=by
 obtain ⟨a,c,X,h1,h2,h3,h4⟩:=open_list lsE (by kernel_rfl) (by kernel_rfl) (fun x=>∃ d:LsD,lsR W (0≤·) x d∧(d.2.1.length≤100000000000000∧d.2.2.length≤100000000000000)) h hz (fun fuel cs' d' pl ht hl hz'=>by
  obtain ⟨xs,n',_,hd,_,hxl,hg⟩:=DataW.trod_struct Tryz.underlying67 ht
  simp only [Prod.mk.injEq] at hd
  obtain ⟨rfl,-⟩:=hd
  match cs',hl with
  | [k0,k1,k2],_ =>
   have hxs:xs.length=3:=hxl
   have g0:=hg 0 _ rfl
   have g1:=hg 1 _ rfl
   have g2:=hg 2 _ rfl
   rw [List.getElem?_eq_getElem (by omega)] at g0 g1 g2
   obtain ⟨x0,e0,_,w0⟩:=DataW.trod_int Tryz.underlying64 g0
   obtain ⟨ea,ec,EE,e1,hE,hEl⟩:=open_intE (d:=xs[1].1) (p:=xs[1].2) g1 (fun n hn=>hz' n (weights_agg Tryz.underlying67 (i:=1) rfl (by rw [List.getElem?_map,List.getElem?_eq_getElem (by omega)];rfl) hn))
   obtain ⟨da,dc,DD,e2,hD,hDl⟩:=open_ledges (d:=xs[2].1) (p:=xs[2].2) g2 (fun n hn=>hz' n (weights_agg Tryz.underlying67 (i:=2) rfl (by rw [List.getElem?_map,List.getElem?_eq_getElem (by omega)];rfl) hn))
   simp [c_lkind,c_sint,c_ledge] at e0 e1 e2
   subst e0 e1 e2
   exact ⟨(x0,(ea,EE.length,ec),(da,DD.length,dc)),rfl,bounds_u8 w0,(x0,EE,DD),⟨rfl,bounds_u8 w0,hE,hD⟩,hEl,hDl⟩)
 obtain ⟨D,g1,g2,g3⟩:=list_choose X h3
 rw [g1] at h1 h4 h2
 exact ⟨a,c,D,h1,⟨X,h2,g1,g2⟩,by have hrb:reachBytes=140737488351232:=rfl;have:lsE.bs=56:=rfl;rw [this] at h4;omega,g3⟩
set_option maxRecDepth 100000 in
theorem open_autos {fuel:Nat} {cs:List Value} {d:DataW H} {p:List MemPlace} (h:DataW.trod enc Tryz.prog W 0 (fun _=>true) true fuel 32 cs=some (d,p)) (hz:∀ n∈d.weights Tryz.prog 32,n≤reachBytes) :
  ∃ (a:Option Addr) (c:Nat) (L:List (List LsD)),cs=[.slice a L.length c]∧ListR autoE autoR W (0≤·) (a,L.length,c) L∧L.length≤100000000000000∧∀ A∈L,A.length≤100000000000000∧∀ s∈A,s.2.1.length≤100000000000000∧s.2.2.length≤100000000000000:=by
 obtain ⟨a,c,X,h1,h2,h3,h4⟩:=open_list autoE (by kernel_rfl) (by kernel_rfl) (fun x=>∃ d:List LsD,autoR W (0≤·) x d∧(d.length≤100000000000000∧∀ s∈d,s.2.1.length≤100000000000000∧s.2.2.length≤100000000000000)) h hz (fun fuel cs' d' pl ht hl hz'=>by
  obtain ⟨xs,n',_,hd,_,hxl,hg⟩:=DataW.trod_struct Tryz.underlying63 ht
  simp only [Prod.mk.injEq] at hd
  obtain ⟨rfl,-⟩:=hd
  match cs',hl with
  | [k0],_ =>
   have hxs:xs.length=1:=hxl
   have g0:=hg 0 _ rfl
   rw [List.getElem?_eq_getElem (by omega)] at g0
   obtain ⟨ea,ec,EE,e0,hE,hEl,hEs⟩:=open_lsts (d:=xs[0].1) (p:=xs[0].2) g0 (fun n hn=>hz' n (weights_agg Tryz.underlying63 (i:=0) rfl (by rw [List.getElem?_map,List.getElem?_eq_getElem (by omega)];rfl) hn))
   simp [c_lst] at e0
   subst e0
   exact ⟨(ea,EE.length,ec),rfl,trivial,EE,hE,hEl,hEs⟩)
 obtain ⟨D,g1,g2,g3⟩:=list_choose X h3
 rw [g1] at h1 h4 h2
 exact ⟨a,c,D,h1,⟨X,h2,g1,g2⟩,by have hrb:reachBytes=140737488351232:=rfl;have:autoE.bs=24:=rfl;rw [this] at h4;omega,g3⟩
set_option maxRecDepth 100000 in
theorem open_lex {fuel:Nat} {cs:List Value} {d:DataW H} {p:List MemPlace} (h:DataW.trod enc Tryz.prog W 0 (fun _=>true) true fuel 28 cs=some (d,p)) (hz':∀ n∈d.weights Tryz.prog 28,n≤reachBytes) (hl:cs.length=4) :
  ∃ (t:LexD) (m:LexS),cs=[slV m.r,slV m.c,slV m.n,slV m.e]∧LexIn W (0≤·) m t∧Vast t:=by
 obtain ⟨xs,n',_,hd,_,hxl,hg⟩:=DataW.trod_struct Tryz.underlying28 h
 simp only [Prod.mk.injEq] at hd
 obtain ⟨rfl,-⟩:=hd
 match cs,hl with
 | [k0,k1,k2,k3],_ =>
  have hxs:xs.length=4:=hxl
  have g0:=hg 0 _ rfl
  have g1:=hg 1 _ rfl
  have g2:=hg 2 _ rfl
  have g3:=hg 3 _ rfl
  rw [List.getElem?_eq_getElem (by omega)] at g0 g1 g2 g3
  obtain ⟨ra,rc,R,e0,hR,hRl⟩:=open_rngs' (d:=xs[0].1) (p:=xs[0].2) g0 (fun n hn=>hz' n (weights_agg Tryz.underlying28 (i:=0) rfl (by rw [List.getElem?_map,List.getElem?_eq_getElem (by omega)];rfl) hn))
  obtain ⟨ca,cc,C,e1,hC,hCl⟩:=open_intE (d:=xs[1].1) (p:=xs[1].2) g1 (fun n hn=>hz' n (weights_agg Tryz.underlying28 (i:=1) rfl (by rw [List.getElem?_map,List.getElem?_eq_getElem (by omega)];rfl) hn))
  obtain ⟨na,nc,N,e2,hN,hNl,hNr⟩:=open_lints (d:=xs[2].1) (p:=xs[2].2) g2 (fun n hn=>hz' n (weights_agg Tryz.underlying28 (i:=2) rfl (by rw [List.getElem?_map,List.getElem?_eq_getElem (by omega)];rfl) hn))
  obtain ⟨ea,ec,E,e3,hE,hEl⟩:=open_intE (d:=xs[3].1) (p:=xs[3].2) g3 (fun n hn=>hz' n (weights_agg Tryz.underlying28 (i:=3) rfl (by rw [List.getElem?_map,List.getElem?_eq_getElem (by omega)];rfl) hn))
  simp [c_rng,c_sint,c_lint] at e0 e1 e2 e3
  subst e0 e1 e2 e3
  exact ⟨⟨R,C,N,E⟩,⟨(ra,R.length,rc),(ca,C.length,cc),(na,N.length,nc),(ea,E.length,ec)⟩,rfl,⟨hR,hC,hN,hE⟩,⟨hRl,hCl,hNl,hEl,hNr⟩⟩
set_option maxRecDepth 100000 in
theorem open_net {fuel:Nat} {cs:List Value} {d:DataW H} {p:List MemPlace} (h:DataW.trod enc Tryz.prog W 0 (fun _=>true) true fuel 31 cs=some (d,p)) (hz':∀ n∈d.weights Tryz.prog 31,n≤reachBytes) (hl:cs.length=5) :
  ∃ (t:NetD) (m:NetS),cs=[slV m.st,slV m.s,slV m.p,slV m.q,slV m.d]∧NetIn W (0≤·) m t∧VastN t:=by
 obtain ⟨xs,n',_,hd,_,hxl,hg⟩:=DataW.trod_struct Tryz.underlying31 h
 simp only [Prod.mk.injEq] at hd
 obtain ⟨rfl,-⟩:=hd
 match cs,hl with
 | [k0,k1,k2,k3,k4],_ =>
  have hxs:xs.length=5:=hxl
  have g0:=hg 0 _ rfl
  have g1:=hg 1 _ rfl
  have g2:=hg 2 _ rfl
  have g3:=hg 3 _ rfl
  have g4:=hg 4 _ rfl
  rw [List.getElem?_eq_getElem (by omega)] at g0 g1 g2 g3 g4
  obtain ⟨sa,sc,ST,e0,hS,hSl,hSs⟩:=open_sts (d:=xs[0].1) (p:=xs[0].2) g0 (fun n hn=>hz' n (weights_agg Tryz.underlying31 (i:=0) rfl (by rw [List.getElem?_map,List.getElem?_eq_getElem (by omega)];rfl) hn))
  obtain ⟨a1,c1,L1,e1,h1,l1⟩:=open_intE (d:=xs[1].1) (p:=xs[1].2) g1 (fun n hn=>hz' n (weights_agg Tryz.underlying31 (i:=1) rfl (by rw [List.getElem?_map,List.getElem?_eq_getElem (by omega)];rfl) hn))
  obtain ⟨a2,c2,L2,e2,h2,l2⟩:=open_intE (d:=xs[2].1) (p:=xs[2].2) g2 (fun n hn=>hz' n (weights_agg Tryz.underlying31 (i:=2) rfl (by rw [List.getElem?_map,List.getElem?_eq_getElem (by omega)];rfl) hn))
  obtain ⟨a3,c3,L3,e3,h3,l3⟩:=open_intE (d:=xs[3].1) (p:=xs[3].2) g3 (fun n hn=>hz' n (weights_agg Tryz.underlying31 (i:=3) rfl (by rw [List.getElem?_map,List.getElem?_eq_getElem (by omega)];rfl) hn))
  obtain ⟨a4,c4,L4,e4,h4,l4⟩:=open_intE (d:=xs[4].1) (p:=xs[4].2) g4 (fun n hn=>hz' n (weights_agg Tryz.underlying31 (i:=4) rfl (by rw [List.getElem?_map,List.getElem?_eq_getElem (by omega)];rfl) hn))
  simp [c_st,c_sint] at e0 e1 e2 e3 e4
  subst e0 e1 e2 e3 e4
  exact ⟨⟨ST,L1,L2,L3,L4⟩,⟨(sa,ST.length,sc),(a1,L1.length,c1),(a2,L2.length,c2),(a3,L3.length,c3),(a4,L4.length,c4)⟩,rfl,⟨hS,h1,h2,h3,h4⟩,⟨hSl,l1,l2,l3,l4,hSs⟩⟩
theorem tabs13:Tryz.prog.cellsOf 34=13:=by kernel_rfl
set_option maxRecDepth 100000 in
theorem open_tabs {v:Value} {d:DataW H} {p:List MemPlace} {b0:Nat} (hv:Value.okWide Tryz.prog W .any b0 34 v) (h:DataW.Trod enc Tryz.prog W 0 (fun _=>true) true 34 v d p) (hz':∀ n∈d.weights Tryz.prog 34,n≤reachBytes) :
  ∃ (t:TabsD) (m:TabsS),v=tabsV m∧TabsIn W (0≤·) m t∧VastT t:=by
 obtain ⟨xs,rfl,hs⟩:=okWide_struct Tryz.underlying34 hv
 obtain ⟨fuel,hf⟩:=h
 obtain ⟨ys,m,_,hd,_,hyl,hg⟩:=DataW.trod_struct Tryz.underlying34 hf
 simp only [Prod.mk.injEq] at hd
 obtain ⟨rfl,-⟩:=hd
 obtain ⟨l⟩:=xs
 rw [tabs13] at hs
 match l,hs with
 | [k0,k1,k2,k3,k4,k5,k6,k7,k8,k9,k10,k11,k12],_ =>
  have hys:ys.length=6:=hyl
  have g0:=hg 0 _ rfl
  have g1:=hg 1 _ rfl
  have g2:=hg 2 _ rfl
  have g3:=hg 3 _ rfl
  have g4:=hg 4 _ rfl
  have g5:=hg 5 _ rfl
  rw [List.getElem?_eq_getElem (by omega)] at g0 g1 g2 g3 g4 g5
  obtain ⟨ra,rc,RL,e0,h0,l0,s0⟩:=open_strs' (d:=ys[0].1) (p:=ys[0].2) g0 (fun n hn=>hz' n (weights_agg Tryz.underlying34 (i:=0) rfl (by rw [List.getElem?_map,List.getElem?_eq_getElem (by omega)];rfl) hn))
  obtain ⟨ta,tc,TK,e1,h1,l1,s1⟩:=open_strs' (d:=ys[1].1) (p:=ys[1].2) g1 (fun n hn=>hz' n (weights_agg Tryz.underlying34 (i:=1) rfl (by rw [List.getElem?_map,List.getElem?_eq_getElem (by omega)];rfl) hn))
  obtain ⟨da,dc,DR,e2,h2,l2⟩:=open_bools' (d:=ys[2].1) (p:=ys[2].2) g2 (fun n hn=>hz' n (weights_agg Tryz.underlying34 (i:=2) rfl (by rw [List.getElem?_map,List.getElem?_eq_getElem (by omega)];rfl) hn))
  obtain ⟨LX,mx,e3,h3,l3⟩:=open_lex (d:=ys[3].1) (p:=ys[3].2) g3 (fun n hn=>hz' n (weights_agg Tryz.underlying34 (i:=3) rfl (by rw [List.getElem?_map,List.getElem?_eq_getElem (by omega)];rfl) hn)) (by simp [Value.cells,c_lex])
  obtain ⟨NT,mn,e4,h4,l4⟩:=open_net (d:=ys[4].1) (p:=ys[4].2) g4 (fun n hn=>hz' n (weights_agg Tryz.underlying34 (i:=4) rfl (by rw [List.getElem?_map,List.getElem?_eq_getElem (by omega)];rfl) hn)) (by simp [Value.cells,c_net])
  obtain ⟨la,lc,LK,e5,h5,l5,s5⟩:=open_autos (d:=ys[5].1) (p:=ys[5].2) g5 (fun n hn=>hz' n (weights_agg Tryz.underlying34 (i:=5) rfl (by rw [List.getElem?_map,List.getElem?_eq_getElem (by omega)];rfl) hn))
  simp [Value.cells,c_sstr,c_sbool,c_lex,c_net,c_auto] at e0 e1 e2 e3 e4 e5
  obtain ⟨x0,x1,x2,x3⟩:=e3
  obtain ⟨y0,y1,y2,y3,y4⟩:=e4
  subst e0 e1 e2 e5 x0 x1 x2 x3 y0 y1 y2 y3 y4
  exact ⟨⟨RL,TK,DR,LX,NT,LK⟩,⟨(ra,RL.length,rc),(ta,TK.length,tc),(da,DR.length,dc),mx,mn,(la,LK.length,lc)⟩,rfl,⟨h0,h1,h2,h3,h4,h5⟩,⟨l0,l1,l2,s0,s1,l3,l4,l5,s5⟩⟩
end
end Go.Proofs.YtgnpmceimpjheaaGreat
namespace Go.Proofs.YtgnpmceimpjheaaGreat.codesBack
open Go.ChangeShapes Go.WideShapes Go.ChangeAt Go.RowKit Go.Deep Go.WideMaps
set_option maxRecDepth 100000 in
theorem lifted (os:Os) (started:os.Started) (H:Type) (enc:TypeId × Value→H) :
  ReturnsInHanded {} Tryz.checked os 5 .any (Rows.codesBackSpec.pre6 enc Tryz.prog Tryz.f5 Rows.codesBackRow.domain false) (Rows.codesBackSpec.post enc Tryz.prog Tryz.f5 false true false false):=by
 refine returnsInHanded_of_change_sized (C:=Tryz.checked) own started (by kernel_rfl) Tryz.func5
  (ChangeSpec.witness6 (enc:=enc) (C:=Tryz.checked) false ⟨#[],#[.agg #[.slice none 0 0,.slice none 0 0,.slice none 0 0,.slice none 0 0,.slice none 0 0,.slice none 0 0,.slice none 0 0,.slice none 0 0,.slice none 0 0,.slice none 0 0,.slice none 0 0,.slice none 0 0,.slice none 0 0]],[]⟩ 8 (by kernel_rfl) (by kernel_rfl) (by kernel_rfl) (by kernel_rfl)) ?_
 intro W base args ds gs before hval0 hW hcnd hsz0 _
 have hval:∀ (j:Nat) t v,Tryz.f5.params[j]?=some t→args[j]?=some v→Value.okWide Tryz.prog W .any base t v:=hval0
 have hW':=hW
 obtain ⟨p,q,hA0,hV,rfl,hfz,hnd⟩:=hW
 have hA:DataW.TrodAll enc Tryz.prog W 0 (fun _=>true) true Tryz.f5.params.toList args.toList ds p:=hA0
 rw [Tryz.params5] at hA hval hsz0
 obtain ⟨v0,vs0,d0,ds0,p0,q0,hargs,rfl,rfl,h0,r0⟩:=trodAll_cons hA
 obtain ⟨rfl,rfl,rfl⟩:=trodAll_nil r0
 obtain rfl:args=#[v0]:=by cases args;simp_all
 obtain ⟨rfl,rfl⟩:=trodVars_none hV
 have k0:=h0
 have lt0:∀ x∈p0,x.block < W.heap.size:=by obtain ⟨m,hm⟩:=k0;exact DataW.trod_lt m _ _ _ hm
 have hszA:∀ n∈d0.weights Tryz.prog 34,n≤reachBytes:=fun n hn=>by
  have:=List.all_eq_true.1 hsz0 n (DataW.weights_mem_each (j:=0) rfl rfl n hn)
  simpa using this
 obtain ⟨t,m,rfl,hT,hV9⟩:=open_tabs (hval 0 34 v0 rfl rfl) h0 hszA
 clear hA0 hval0
 refine (codesBack_any t m (0≤·) W hT hV9).mono fun e W' ⟨he,hc⟩=>?_
 subst he
 have bel:=hc.to_below
 exact ⟨_,rfl,_,_,_,[],_,[],hW',trodAll_mk1 (shut_bool Tryz.underlying4 _),(trodAll_cons_mk (Below.trod laidOut (by kernel_rfl) (of_decide_eq_true (by kernel_rfl)) k0 bel lt0) trodAll_mk0),rfl,bel.frame _,fun h=>by cases h⟩
theorem proved:Rows.CodesBackSaid :=
 OpenClaim.holds_of_wide 5 Tryz.f5 rfl rfl rfl rfl rfl rfl rfl ⟨rfl,rfl,rfl,rfl,rfl⟩ rfl rfl rfl rfl rfl (by kernel_rfl) Tryz.func5 (by kernel_rfl)
  (of_decide_eq_true (by kernel_rfl)) (by unfold Func.isWrapper;first | (rw [if_pos (by decide +kernel)];kernel_rfl) | (rw [if_neg (by decide +kernel)];exact ⟨rfl,rfl⟩))
  (fun os started H enc _=>lifted os started H enc)
#print axioms proved
end Go.Proofs.YtgnpmceimpjheaaGreat.codesBack
