/- A part of the proof: LivB CBack OfLaw RefOf RefSeal CTurn OpenTb. -/
import Derived.Test.YtgnpmceimpjheaaGreatGT18
import Derived.Test.YtgnpmceimpjheaaGreatGT3
import Derived.Test.YtgnpmceimpjheaaGreatGT17
import Derived.Test.YtgnpmceimpjheaaGreatGT13
set_option maxRecDepth 100000
set_option maxHeartbeats 16000000
namespace Go.Proofs.YtgnpmceimpjheaaGreat
open Go.RowKit
theorem lives_any (w:World):Calls Tryz.prog 8 #[] w fun e w'=>e=.returned (.bool true)∧Chg (fun _=>False) w w':=by
 have hlv:=liv_mem w
 obtain⟨wv,hwv⟩:∃ W,W=((((((((w.alloc (.cells #[.string ⟨#[97]⟩] 9)).alloc (.cells #[] 3)).alloc (.cells #[.slice (some ⟨w.heap.size+1,0,none⟩) 0 0] 25)).alloc (.cells #[.int .i64 (-1)] 3)).alloc (.cells #[.int .i64 0] 3)).alloc (.cells #[.int .i64 1] 3)).alloc (.cells #[.int .u8 0,.int .i64 0,.int .i64 1] 71)).alloc (.cells #[.int .i64 0,.slice (some ⟨w.heap.size+1+1+1+1+1+1,0,none⟩) 1 1,.slice none 0 0,.int .i64 0,.slice none 0 0,.slice none 0 0] 74)).alloc (.cells #[.slice (some ⟨w.heap.size,0,none⟩) 1 1,.slice none 0 0,.slice none 0 0,.slice none 0 0,.slice none 0 0,.slice (some ⟨w.heap.size+1+1,0,none⟩) 1 1,.slice (some ⟨w.heap.size+1+1+1,0,none⟩) 1 1,.slice (some ⟨w.heap.size+1+1+1+1+1+1+1,0,none⟩) 2 2,.slice (some ⟨w.heap.size+1+1+1+1,0,none⟩) 1 1,.slice (some ⟨w.heap.size+1+1+1+1+1,0,none⟩) 1 1,.slice none 0 0,.slice none 0 0,.slice none 0 0] 34):=⟨_,rfl⟩
 rw [← hwv] at hlv
 have HLV:=jh hlv
 have HWV:=jh hwv
 clear hlv hwv
 go_enter Tryz.func8,Tryz.ntmps8
 go_upto_region 2 with (fail)
 rw [← HWV.out]
 obtain⟨bv,hbv⟩:∃ b,b=w.heap.size+1+1+1+1+1+1+1+1:=⟨_,rfl⟩
 have HBV:=jh hbv
 rw [← hbv]
 have HC:Hid (∀ X,Chg (fun _=>False) wv X→∀ j v,([.slice (some ⟨w.heap.size,0,none⟩) 1 1,.slice none 0 0,.slice none 0 0,.slice none 0 0,.slice none 0 0,.slice (some ⟨w.heap.size+1+1,0,none⟩) 1 1,.slice (some ⟨w.heap.size+1+1+1,0,none⟩) 1 1,.slice (some ⟨w.heap.size+1+1+1+1+1+1+1,0,none⟩) 2 2,.slice (some ⟨w.heap.size+1+1+1+1,0,none⟩) 1 1,.slice (some ⟨w.heap.size+1+1+1+1+1,0,none⟩) 1 1,.slice none 0 0,.slice none 0 0,.slice none 0 0]:List Value)[j]?=some v→X.cell? ⟨bv,j,none⟩=some v):=jh (fun X hx j v hv=>hx.cellS (by rw [hbv];exact HLV.out.c j v hv) (fun h=>h))
 have HZV:Hid (∀ X,Chg (fun _=>False) wv X→∀ j,X.frozen? ⟨bv,j,none⟩=false):=jh (fun X hx j=>(hx.frozen (p:=⟨bv,j,none⟩) (by have:=World.block_lt_of_cell? _ _ (HC.out wv (Chg.refl _ _) 0 _ rfl);exact this) (fun h=>h)).trans (by rw [hbv];exact HLV.out.z j))
 clear hbv
 have v0:=HC.out wv (Chg.refl _ _) 0 _ rfl
 have v1:=HC.out wv (Chg.refl _ _) 1 _ rfl
 have v2:=HC.out wv (Chg.refl _ _) 2 _ rfl
 have v3:=HC.out wv (Chg.refl _ _) 3 _ rfl
 have v4:=HC.out wv (Chg.refl _ _) 4 _ rfl
 have v5:=HC.out wv (Chg.refl _ _) 5 _ rfl
 have v6:=HC.out wv (Chg.refl _ _) 6 _ rfl
 have v7:=HC.out wv (Chg.refl _ _) 7 _ rfl
 have v8:=HC.out wv (Chg.refl _ _) 8 _ rfl
 have v9:=HC.out wv (Chg.refl _ _) 9 _ rfl
 have v10:=HC.out wv (Chg.refl _ _) 10 _ rfl
 have v11:=HC.out wv (Chg.refl _ _) 11 _ rfl
 have v12:=HC.out wv (Chg.refl _ _) 12 _ rfl
 go_wp2_with fail
 refine (put_tabs livT ⟨(some ⟨w.heap.size,0,none⟩,1,1),(none,0,0),(none,0,0),⟨(none,0,0),(none,0,0),(some ⟨w.heap.size+1+1,0,none⟩,1,1),(some ⟨w.heap.size+1+1+1,0,none⟩,1,1)⟩,⟨(some ⟨w.heap.size+1+1+1+1+1+1+1,0,none⟩,2,2),(some ⟨w.heap.size+1+1+1+1,0,none⟩,1,1),(some ⟨w.heap.size+1+1+1+1+1,0,none⟩,1,1),(none,0,0),(none,0,0)⟩,(none,0,0)⟩ _ wv HLV.out.t livT_fit.f livT_fit.p).mono ?_
 rintro e x1 ⟨hc1,h1⟩
 rcases h1 with ⟨hm,-⟩|⟨-,h,rfl,hlo,hrow⟩
 ·rw [livT_may] at hm;cases hm
 have hgr:=livT_fit.back livT_may
 have hll:(sealL (ptTabs livT)).length≤5000004:=by have:=livT_fit.l livT_may;rw [sealL_length];omega
 obtain⟨L,hL⟩:∃ L,sealL (ptTabs livT)=L:=⟨_,rfl⟩
 rw [hL] at hgr hrow hll ⊢
 clear hL
 have HX1:=jh hc1
 have HGR:=jh hgr
 have HROW:=jh hrow
 have HLL:=jh hll
 clear hc1 hgr hrow hlo hll v0 v1 v2 v3 v4 v5 v6 v7 v8 v9 v10 v11 v12
 go_wp2_with fail
 refine (get_any L (some ⟨h,0,none⟩) h 0 L.length x1 (HROW.out.bytes (List.prefix_refl _)) (fun _=>rfl) (Nat.le_refl _) (by have:=HLL.out;omega)).mono ?_
 rintro e x2 ⟨hc2,m1,rfl,h2⟩
 rw [HGR.out] at h2 ⊢
 rcases h2 with ⟨h2,-⟩|⟨t,ht,hin⟩
 ·cases h2
 obtain rfl:livT=t:=Option.some.inj ht
 obtain⟨⟨a0,n0,c0⟩,⟨a1,n1,c1⟩,⟨a2,n2,c2⟩,⟨⟨a3,n3,c3⟩,⟨a4,n4,c4⟩,⟨a5,n5,c5⟩,⟨a6,n6,c6⟩⟩,⟨⟨a7,n7,c7⟩,⟨a8,n8,c8⟩,⟨a9,n9,c9⟩,⟨a10,n10,c10⟩,⟨a11,n11,c11⟩⟩,⟨a12,n12,c12⟩⟩:=m1
 simp only [tabsV,slV]
 have HX2:=jh (HX1.out.trans hc2)
 have HIN:=jh hin
 clear hc2 hin ht
 obtain⟨x3,hx3⟩:∃ X,X=x2.alloc (.cells #[.slice a0 n0 c0,.slice a1 n1 c1,.slice a2 n2 c2,.slice a3 n3 c3,.slice a4 n4 c4,.slice a5 n5 c5,.slice a6 n6 c6,.slice a7 n7 c7,.slice a8 n8 c8,.slice a9 n9 c9,.slice a10 n10 c10,.slice a11 n11 c11,.slice a12 n12 c12] 34):=⟨_,rfl⟩
 have HX3:Hid (Chg (fun _=>False) wv x3∧Chg (fun _=>False) x2 x3):=jh (by rw [hx3];exact⟨HX2.out.alloc _,(Chg.refl _ _).alloc _⟩)
 obtain⟨bm,hbm⟩:∃ b,b=x2.heap.size:=⟨_,rfl⟩
 have HU:Hid (∀ X,Chg (fun _=>False) x3 X→∀ j v,([.slice a0 n0 c0,.slice a1 n1 c1,.slice a2 n2 c2,.slice a3 n3 c3,.slice a4 n4 c4,.slice a5 n5 c5,.slice a6 n6 c6,.slice a7 n7 c7,.slice a8 n8 c8,.slice a9 n9 c9,.slice a10 n10 c10,.slice a11 n11 c11,.slice a12 n12 c12]:List Value)[j]?=some v→X.cell? ⟨bm,j,none⟩=some v):=jh (fun X hx j v hv=>hx.cellS (by rw [hx3];exact allocAt _ hbm (by rw [← Array.getElem?_toList];exact hv)) (fun h=>h))
 have HW3:=jh hx3
 have HBM:=jh hbm
 clear hx3 hbm
 go_upto_region 4 with (fail)
 rw [← HW3.out,← HBM.out]
 obtain⟨wd,hwd⟩:∃ X,x3.drew=X:=⟨_,rfl⟩
 have HWD:Hid (Chg (fun _=>False) x3 wd):=jh (by rw [← hwd];exact (Chg.refl _ _).drew)
 refine wp_region_late (fun x=>Chg (fun _=>False) wd x) (fun _=>false) (by kernel_rfl) ?_
 show wpAnyL _ _ _ _ _ _ 18 (Array.replicate 18 false) _ x3.drew
 rw [hwd]
 clear hwd
 have HSS:Hid (Chg (fun _=>False) wd wd):=jh (Chg.refl _ _)
 have HQV:Hid (∀ x,Chg (fun _=>False) wd x→∀ j v,([.slice (some ⟨w.heap.size,0,none⟩) 1 1,.slice none 0 0,.slice none 0 0,.slice none 0 0,.slice none 0 0,.slice (some ⟨w.heap.size+1+1,0,none⟩) 1 1,.slice (some ⟨w.heap.size+1+1+1,0,none⟩) 1 1,.slice (some ⟨w.heap.size+1+1+1+1+1+1+1,0,none⟩) 2 2,.slice (some ⟨w.heap.size+1+1+1+1,0,none⟩) 1 1,.slice (some ⟨w.heap.size+1+1+1+1+1,0,none⟩) 1 1,.slice none 0 0,.slice none 0 0,.slice none 0 0]:List Value)[j]?=some v→x.cell? ⟨bv,j,none⟩=some v):=jh (fun x hx=>HC.out x ((HX3.out.1.trans HWD.out).trans hx))
 have HQU:Hid (∀ x,Chg (fun _=>False) wd x→∀ j v,([.slice a0 n0 c0,.slice a1 n1 c1,.slice a2 n2 c2,.slice a3 n3 c3,.slice a4 n4 c4,.slice a5 n5 c5,.slice a6 n6 c6,.slice a7 n7 c7,.slice a8 n8 c8,.slice a9 n9 c9,.slice a10 n10 c10,.slice a11 n11 c11,.slice a12 n12 c12]:List Value)[j]?=some v→x.cell? ⟨bm,j,none⟩=some v):=jh (fun x hx=>HU.out x (HWD.out.trans hx))
 have HTV:Hid (∀ x,Chg (fun _=>False) wd x→TabsIn x (fun k=>w.heap.size≤k∧k<w.heap.size+8) ⟨(some ⟨w.heap.size,0,none⟩,1,1),(none,0,0),(none,0,0),⟨(none,0,0),(none,0,0),(some ⟨w.heap.size+1+1,0,none⟩,1,1),(some ⟨w.heap.size+1+1+1,0,none⟩,1,1)⟩,⟨(some ⟨w.heap.size+1+1+1+1+1+1+1,0,none⟩,2,2),(some ⟨w.heap.size+1+1+1+1,0,none⟩,1,1),(some ⟨w.heap.size+1+1+1+1+1,0,none⟩,1,1),(none,0,0),(none,0,0)⟩,(none,0,0)⟩ livT):=jh (fun x hx=>TabsIn.good.chg HLV.out.t ((HX3.out.1.trans HWD.out).trans hx) (fun _ _ h=>h))
 have HTU:Hid (∀ x,Chg (fun _=>False) wd x→TabsIn x (fun k=>x1.heap.size≤k) ⟨(a0,n0,c0),(a1,n1,c1),(a2,n2,c2),⟨(a3,n3,c3),(a4,n4,c4),(a5,n5,c5),(a6,n6,c6)⟩,⟨(a7,n7,c7),(a8,n8,c8),(a9,n9,c9),(a10,n10,c10),(a11,n11,c11)⟩,(a12,n12,c12)⟩ livT):=jh (fun x hx=>TabsIn.good.chg HIN.out ((HX3.out.2.trans HWD.out).trans hx) (fun _ _ h=>h))
 have HOT:Hid (∀ x,Chg (fun _=>False) wd x→Calls Tryz.prog 9 #[.agg #[.slice (some ⟨w.heap.size,0,none⟩) 1 1,.slice none 0 0,.slice none 0 0,.slice none 0 0,.slice none 0 0,.slice (some ⟨w.heap.size+1+1,0,none⟩) 1 1,.slice (some ⟨w.heap.size+1+1+1,0,none⟩) 1 1,.slice (some ⟨w.heap.size+1+1+1+1+1+1+1,0,none⟩) 2 2,.slice (some ⟨w.heap.size+1+1+1+1,0,none⟩) 1 1,.slice (some ⟨w.heap.size+1+1+1+1+1,0,none⟩) 1 1,.slice none 0 0,.slice none 0 0,.slice none 0 0]] x fun e w'=>∃ (b0 b1 b2 b3 b4 b5 b6 b7 b8 b9 b10 b11 b12:Option Addr) (k0 k1 k2 k3 k4 k5 k6 k7 k8 k9 k10 k11 k12:Nat) (d0 d1 d2 d3 d4 d5 d6 d7 d8 d9 d10 d11 d12:Nat),e=.returned (.agg #[.slice b0 k0 d0,.slice b1 k1 d1,.slice b2 k2 d2,.slice b3 k3 d3,.slice b4 k4 d4,.slice b5 k5 d5,.slice b6 k6 d6,.slice b7 k7 d7,.slice b8 k8 d8,.slice b9 k9 d9,.slice b10 k10 d10,.slice b11 k11 d11,.slice b12 k12 d12])∧DocIn w' (fun _=>True) ⟨(b0,k0,d0),(b1,k1,d1),(b2,k2,d2),⟨(b3,k3,d3),(b4,k4,d4),(b5,k5,d5),(b6,k6,d6)⟩,⟨(b7,k7,d7),(b8,k8,d8),(b9,k9,d9),(b10,k10,d10),(b11,k11,d11)⟩,(b12,k12,d12)⟩ livT∧Chg (fun _=>False) x w'):=jh (fun x hx=>(other_tabs livT ⟨(some ⟨w.heap.size,0,none⟩,1,1),(none,0,0),(none,0,0),⟨(none,0,0),(none,0,0),(some ⟨w.heap.size+1+1,0,none⟩,1,1),(some ⟨w.heap.size+1+1+1,0,none⟩,1,1)⟩,⟨(some ⟨w.heap.size+1+1+1+1+1+1+1,0,none⟩,2,2),(some ⟨w.heap.size+1+1+1+1,0,none⟩,1,1),(some ⟨w.heap.size+1+1+1+1+1,0,none⟩,1,1),(none,0,0),(none,0,0)⟩,(none,0,0)⟩ _ x (HTV.out x hx) livT_fit.f).mono (by
  rintro e w' ⟨m',rfl,hd,hc⟩
  obtain⟨⟨b0,k0,d0⟩,⟨b1,k1,d1⟩,⟨b2,k2,d2⟩,⟨⟨b3,k3,d3⟩,⟨b4,k4,d4⟩,⟨b5,k5,d5⟩,⟨b6,k6,d6⟩⟩,⟨⟨b7,k7,d7⟩,⟨b8,k8,d8⟩,⟨b9,k9,d9⟩,⟨b10,k10,d10⟩,⟨b11,k11,d11⟩⟩,⟨b12,k12,d12⟩⟩:=m'
  exact⟨b0,b1,b2,b3,b4,b5,b6,b7,b8,b9,b10,b11,b12,k0,k1,k2,k3,k4,k5,k6,k7,k8,k9,k10,k11,k12,d0,d1,d2,d3,d4,d5,d6,d7,d8,d9,d10,d11,d12,rfl,hd,hc⟩))
 (refine lrd 0 HSS.out fun K hK=>?_;apply ei;intro w' hC;(go_simp;try with_reducible rfl);(try go_simp);refine hK _ ?_;clear hK K)
 (refine lrd 1 HSS.out fun K hK=>?_;apply ei;intro w' hC;(go_simp;try with_reducible rfl);(try go_simp);refine hK _ ?_;clear hK K)
 (refine lrd 2 HSS.out fun K hK=>?_;apply ei;intro w' hC;(go_simp;try with_reducible rfl);(try go_simp);refine hK _ ?_;clear hK K)
 (refine lrd 3 HSS.out fun K hK=>?_;apply ei;intro w' hC;(go_simp;try with_reducible rfl);(try go_simp);refine hK _ ?_;clear hK K)
 (refine lrd 4 HSS.out fun K hK=>?_;apply ei;intro w' hC;(go_simp;try with_reducible rfl);(try go_simp);refine hK _ ?_;clear hK K)
 (refine lrd 5 HSS.out fun K hK=>?_;apply ei;intro w' hC;(go_simp;try with_reducible rfl);(try go_simp);refine hK _ ?_;clear hK K)
 (refine lrd 6 HSS.out fun K hK=>?_;apply ei;intro w' hC;(go_simp;try with_reducible rfl);(try go_simp);refine hK _ ?_;clear hK K)
 (refine lrd 7 HSS.out fun K hK=>?_;apply ei;intro w' hC;((have u0:=HQU.out _ hC 0 _ rfl;have u1:=HQU.out _ hC 1 _ rfl;have u2:=HQU.out _ hC 2 _ rfl;have u3:=HQU.out _ hC 3 _ rfl;have u4:=HQU.out _ hC 4 _ rfl;have u5:=HQU.out _ hC 5 _ rfl;have u6:=HQU.out _ hC 6 _ rfl;have u7:=HQU.out _ hC 7 _ rfl;have u8:=HQU.out _ hC 8 _ rfl;have u9:=HQU.out _ hC 9 _ rfl;have u10:=HQU.out _ hC 10 _ rfl;have u11:=HQU.out _ hC 11 _ rfl;have u12:=HQU.out _ hC 12 _ rfl);go_simp;try with_reducible rfl);(try go_simp);refine hK _ ?_;clear hK K)
 (refine lrd 8 HSS.out fun K hK=>?_;apply ei;intro w' hC;((have v0:=HQV.out _ hC 0 _ rfl;have v1:=HQV.out _ hC 1 _ rfl;have v2:=HQV.out _ hC 2 _ rfl;have v3:=HQV.out _ hC 3 _ rfl;have v4:=HQV.out _ hC 4 _ rfl;have v5:=HQV.out _ hC 5 _ rfl;have v6:=HQV.out _ hC 6 _ rfl;have v7:=HQV.out _ hC 7 _ rfl;have v8:=HQV.out _ hC 8 _ rfl;have v9:=HQV.out _ hC 9 _ rfl;have v10:=HQV.out _ hC 10 _ rfl;have v11:=HQV.out _ hC 11 _ rfl;have v12:=HQV.out _ hC 12 _ rfl);go_simp;try with_reducible rfl);(try go_simp);refine hK _ ?_;clear hK K)
 refine late_call (i:=9) (by kernel_rfl) rfl rfl 9 #[.agg #[.slice (some ⟨w.heap.size,0,none⟩) 1 1,.slice none 0 0,.slice none 0 0,.slice none 0 0,.slice none 0 0,.slice (some ⟨w.heap.size+1+1,0,none⟩) 1 1,.slice (some ⟨w.heap.size+1+1+1,0,none⟩) 1 1,.slice (some ⟨w.heap.size+1+1+1+1+1+1+1,0,none⟩) 2 2,.slice (some ⟨w.heap.size+1+1+1+1,0,none⟩) 1 1,.slice (some ⟨w.heap.size+1+1+1+1+1,0,none⟩) 1 1,.slice none 0 0,.slice none 0 0,.slice none 0 0]] (fun v w'=>∃ (b0 b1 b2 b3 b4 b5 b6 b7 b8 b9 b10 b11 b12:Option Addr) (k0 k1 k2 k3 k4 k5 k6 k7 k8 k9 k10 k11 k12:Nat) (d0 d1 d2 d3 d4 d5 d6 d7 d8 d9 d10 d11 d12:Nat),v=.agg #[.slice b0 k0 d0,.slice b1 k1 d1,.slice b2 k2 d2,.slice b3 k3 d3,.slice b4 k4 d4,.slice b5 k5 d5,.slice b6 k6 d6,.slice b7 k7 d7,.slice b8 k8 d8,.slice b9 k9 d9,.slice b10 k10 d10,.slice b11 k11 d11,.slice b12 k12 d12]∧DocIn w' (fun _=>True) ⟨(b0,k0,d0),(b1,k1,d1),(b2,k2,d2),⟨(b3,k3,d3),(b4,k4,d4),(b5,k5,d5),(b6,k6,d6)⟩,⟨(b7,k7,d7),(b8,k8,d8),(b9,k9,d9),(b10,k10,d10),(b11,k11,d11)⟩,(b12,k12,d12)⟩ livT∧Chg (fun _=>False) wd w') (by go_simp) ?_ ?_
 ·exact (HOT.out wd (Chg.refl _ _)).mono (by
   rintro e w' ⟨b0,b1,b2,b3,b4,b5,b6,b7,b8,b9,b10,b11,b12,k0,k1,k2,k3,k4,k5,k6,k7,k8,k9,k10,k11,k12,d0,d1,d2,d3,d4,d5,d6,d7,d8,d9,d10,d11,d12,rfl,hd,hc⟩
   exact⟨_,rfl,fun _=>hc,b0,b1,b2,b3,b4,b5,b6,b7,b8,b9,b10,b11,b12,k0,k1,k2,k3,k4,k5,k6,k7,k8,k9,k10,k11,k12,d0,d1,d2,d3,d4,d5,d6,d7,d8,d9,d10,d11,d12,rfl,hd,hc⟩)
 rintro v y1 hs ⟨b0,b1,b2,b3,b4,b5,b6,b7,b8,b9,b10,b11,b12,k0,k1,k2,k3,k4,k5,k6,k7,k8,k9,k10,k11,k12,d0,d1,d2,d3,d4,d5,d6,d7,d8,d9,d10,d11,d12,rfl,hd,hc⟩ K hK
 have HD:=jh hd
 have HY1:=jh hc
 clear hd hc hs
 (try go_simp)
 refine hK _ ?_
 clear hK K
 refine late_call (i:=10) (by kernel_rfl) rfl rfl 15 #[.agg #[.slice a0 n0 c0,.slice a1 n1 c1,.slice a2 n2 c2,.slice a3 n3 c3,.slice a4 n4 c4,.slice a5 n5 c5,.slice a6 n6 c6,.slice a7 n7 c7,.slice a8 n8 c8,.slice a9 n9 c9,.slice a10 n10 c10,.slice a11 n11 c11,.slice a12 n12 c12],.agg #[.slice b0 k0 d0,.slice b1 k1 d1,.slice b2 k2 d2,.slice b3 k3 d3,.slice b4 k4 d4,.slice b5 k5 d5,.slice b6 k6 d6,.slice b7 k7 d7,.slice b8 k8 d8,.slice b9 k9 d9,.slice b10 k10 d10,.slice b11 k11 d11,.slice b12 k12 d12]] (fun v w'=>v=.bool true∧Chg (fun _=>False) wd w') (by go_simp) ?_ ?_
 ·refine (same_yes livT ⟨(a0,n0,c0),(a1,n1,c1),(a2,n2,c2),⟨(a3,n3,c3),(a4,n4,c4),(a5,n5,c5),(a6,n6,c6)⟩,⟨(a7,n7,c7),(a8,n8,c8),(a9,n9,c9),(a10,n10,c10),(a11,n11,c11)⟩,(a12,n12,c12)⟩ ⟨(b0,k0,d0),(b1,k1,d1),(b2,k2,d2),⟨(b3,k3,d3),(b4,k4,d4),(b5,k5,d5),(b6,k6,d6)⟩,⟨(b7,k7,d7),(b8,k8,d8),(b9,k9,d9),(b10,k10,d10),(b11,k11,d11)⟩,(b12,k12,d12)⟩ _ _ y1 (HTU.out y1 HY1.out) HD.out livT_fit.f).mono ?_
  rintro e w' ⟨rfl,hc⟩
  exact⟨_,rfl,fun _=>HY1.out.trans hc,rfl,HY1.out.trans hc⟩
 rintro v y2 hs ⟨rfl,hc⟩ K hK
 have HY2:=jh hc
 clear hc hs
 (try go_simp)
 refine hK _ ?_
 clear hK K
 have HSS:=HY2
 (refine lrd 11 HSS.out fun K hK=>?_;apply ei;intro w' hC;(go_simp;try with_reducible rfl);(try go_simp);refine hK _ ?_;clear hK K)
 (refine lrd 12 HSS.out fun K hK=>?_;apply ei;intro w' hC;(go_simp;try with_reducible rfl);(try go_simp);refine hK _ ?_;clear hK K)
 (refine lrd 13 HSS.out fun K hK=>?_;apply ei;intro w' hC;(go_simp;try with_reducible rfl);(try go_simp);refine hK _ ?_;clear hK K)
 (refine lrd 14 HSS.out fun K hK=>?_;apply ei;intro w' hC;((have v0:=HQV.out _ hC 0 _ rfl;have v1:=HQV.out _ hC 1 _ rfl;have v2:=HQV.out _ hC 2 _ rfl;have v3:=HQV.out _ hC 3 _ rfl;have v4:=HQV.out _ hC 4 _ rfl;have v5:=HQV.out _ hC 5 _ rfl;have v6:=HQV.out _ hC 6 _ rfl;have v7:=HQV.out _ hC 7 _ rfl;have v8:=HQV.out _ hC 8 _ rfl;have v9:=HQV.out _ hC 9 _ rfl;have v10:=HQV.out _ hC 10 _ rfl;have v11:=HQV.out _ hC 11 _ rfl;have v12:=HQV.out _ hC 12 _ rfl);go_simp;try with_reducible rfl);(try go_simp);refine hK _ ?_;clear hK K)
 refine late_call (i:=15) (by kernel_rfl) rfl rfl 12 #[.agg #[.slice (some ⟨w.heap.size,0,none⟩) 1 1,.slice none 0 0,.slice none 0 0,.slice none 0 0,.slice none 0 0,.slice (some ⟨w.heap.size+1+1,0,none⟩) 1 1,.slice (some ⟨w.heap.size+1+1+1,0,none⟩) 1 1,.slice (some ⟨w.heap.size+1+1+1+1+1+1+1,0,none⟩) 2 2,.slice (some ⟨w.heap.size+1+1+1+1,0,none⟩) 1 1,.slice (some ⟨w.heap.size+1+1+1+1+1,0,none⟩) 1 1,.slice none 0 0,.slice none 0 0,.slice none 0 0]] (fun v w'=>v=.bool true∧Chg (fun _=>False) wd w') (by go_simp) ?_ ?_
 ·refine (may_tabs livT ⟨(some ⟨w.heap.size,0,none⟩,1,1),(none,0,0),(none,0,0),⟨(none,0,0),(none,0,0),(some ⟨w.heap.size+1+1,0,none⟩,1,1),(some ⟨w.heap.size+1+1+1,0,none⟩,1,1)⟩,⟨(some ⟨w.heap.size+1+1+1+1+1+1+1,0,none⟩,2,2),(some ⟨w.heap.size+1+1+1+1,0,none⟩,1,1),(some ⟨w.heap.size+1+1+1+1+1,0,none⟩,1,1),(none,0,0),(none,0,0)⟩,(none,0,0)⟩ _ y2 (HTV.out y2 HY2.out) livT_fit.f).mono ?_
  rintro e w' ⟨rfl,hc⟩
  exact⟨_,rfl,fun _=>HY2.out.trans hc,by rw [livT_may],HY2.out.trans hc⟩
 rintro v y3 hs ⟨rfl,hc⟩ K hK
 have HY3:=jh hc
 clear hc hs
 (try go_simp)
 refine hK _ ?_
 clear hK K
 have HSS:=HY3
 (refine lrd 16 HSS.out fun K hK=>?_;apply ei;intro w' hC;(go_simp;try with_reducible rfl);(try go_simp);refine hK _ ?_;clear hK K)
 (refine lrd 17 HSS.out fun K hK=>?_;apply ei;intro w' hC;(go_simp;try with_reducible rfl);(try go_simp);refine hK _ ?_;clear hK K)
 refine late_done (by kernel_rfl) ?_ _
 have HCY:Hid (Chg (fun _=>False) wv y3):=jh ((HX3.out.1.trans HWD.out).trans HY3.out)
 have v0:=HQV.out y3 HY3.out 0 _ rfl
 have v1:=HQV.out y3 HY3.out 1 _ rfl
 have v2:=HQV.out y3 HY3.out 2 _ rfl
 have v3:=HQV.out y3 HY3.out 3 _ rfl
 have v4:=HQV.out y3 HY3.out 4 _ rfl
 have v5:=HQV.out y3 HY3.out 5 _ rfl
 have v6:=HQV.out y3 HY3.out 6 _ rfl
 have v7:=HQV.out y3 HY3.out 7 _ rfl
 have v8:=HQV.out y3 HY3.out 8 _ rfl
 have v9:=HQV.out y3 HY3.out 9 _ rfl
 have v10:=HQV.out y3 HY3.out 10 _ rfl
 have v11:=HQV.out y3 HY3.out 11 _ rfl
 have v12:=HQV.out y3 HY3.out 12 _ rfl
 have zz:=HZV.out y3 HCY.out 7
 obtain⟨y4,hy4⟩:∃ X,X=y3.setCell ⟨bv,7,none⟩ (.slice none 0 0):=⟨_,rfl⟩
 have HY4:Hid (Chg (·=bv) y3 y4):=jh (by rw [hy4];exact setCellChg _ _ _ _)
 have HCN:Hid (∀ X,Chg (fun _=>False) y4 X→∀ j v,([.slice (some ⟨w.heap.size,0,none⟩) 1 1,.slice none 0 0,.slice none 0 0,.slice none 0 0,.slice none 0 0,.slice (some ⟨w.heap.size+1+1,0,none⟩) 1 1,.slice (some ⟨w.heap.size+1+1+1,0,none⟩) 1 1,.slice none 0 0,.slice (some ⟨w.heap.size+1+1+1+1,0,none⟩) 1 1,.slice (some ⟨w.heap.size+1+1+1+1+1,0,none⟩) 1 1,.slice none 0 0,.slice none 0 0,.slice none 0 0]:List Value)[j]?=some v→X.cell? ⟨bv,j,none⟩=some v):=jh (fun X hx j v hv=>hx.cellS (by
  rw [hy4]
  by_cases h7:j=7
  ·subst h7
   obtain rfl:=Option.some.inj hv
   exact World.cell?_setCell_same _ _ _ v7
  ·rw [World.cell?_setCell_other _ _ _ _ (by intro e;injection e with _ e;exact h7 e.symm)]
   refine HQV.out y3 HY3.out j v ?_
   have hj:=(List.getElem?_eq_some_iff.1 hv).1
   simp only [List.length_cons,List.length_nil] at hj
   rcases (by omega:j=0∨j=1∨j=2∨j=3∨j=4∨j=5∨j=6∨j=8∨j=9∨j=10∨j=11∨j=12) with rfl|rfl|rfl|rfl|rfl|rfl|rfl|rfl|rfl|rfl|rfl|rfl <;> exact hv) (fun h=>h))
 have HTN:Hid (∀ X,Chg (fun _=>False) y4 X→TabsIn X (fun k=>w.heap.size≤k∧k<w.heap.size+8) ⟨(some ⟨w.heap.size,0,none⟩,1,1),(none,0,0),(none,0,0),⟨(none,0,0),(none,0,0),(some ⟨w.heap.size+1+1,0,none⟩,1,1),(some ⟨w.heap.size+1+1+1,0,none⟩,1,1)⟩,⟨(none,0,0),(some ⟨w.heap.size+1+1+1+1,0,none⟩,1,1),(some ⟨w.heap.size+1+1+1+1+1,0,none⟩,1,1),(none,0,0),(none,0,0)⟩,(none,0,0)⟩ livN):=jh (fun X hx=>by
  have h1:=TabsIn.good.chg (TabsIn.good.chg (HTV.out y3 HY3.out) HY4.out (fun g hg e=>by have:=HBV.out;omega)) hx (fun _ _ h=>h)
  exact⟨h1.rl,h1.tk,h1.dr,h1.lx,⟨⟨[],Elt.InS.nil' _,rfl,fun j x d hx=>by simp at hx⟩,h1.nt.s,h1.nt.p,h1.nt.q,h1.nt.d⟩,h1.lk⟩)
 have HWF:Hid (Chg (fun _=>False) w y4):=jh ((HLV.out.h.trans HCY.out).trans2 HY4.out (fun k hk e=>by have:=HBV.out;omega))
 have HW4:=jh hy4
 clear hy4
 go_upto_region 7 with (fail)
 rw [← HW4.out]
 clear zz v0 v1 v2 v3 v4 v5 v6 v7 v8 v9 v10 v11 v12
 have v0:=HCN.out y4 (Chg.refl _ _) 0 _ rfl
 have v1:=HCN.out y4 (Chg.refl _ _) 1 _ rfl
 have v2:=HCN.out y4 (Chg.refl _ _) 2 _ rfl
 have v3:=HCN.out y4 (Chg.refl _ _) 3 _ rfl
 have v4:=HCN.out y4 (Chg.refl _ _) 4 _ rfl
 have v5:=HCN.out y4 (Chg.refl _ _) 5 _ rfl
 have v6:=HCN.out y4 (Chg.refl _ _) 6 _ rfl
 have v7:=HCN.out y4 (Chg.refl _ _) 7 _ rfl
 have v8:=HCN.out y4 (Chg.refl _ _) 8 _ rfl
 have v9:=HCN.out y4 (Chg.refl _ _) 9 _ rfl
 have v10:=HCN.out y4 (Chg.refl _ _) 10 _ rfl
 have v11:=HCN.out y4 (Chg.refl _ _) 11 _ rfl
 have v12:=HCN.out y4 (Chg.refl _ _) 12 _ rfl
 go_wp2_with fail
 refine (put_tabs livN ⟨(some ⟨w.heap.size,0,none⟩,1,1),(none,0,0),(none,0,0),⟨(none,0,0),(none,0,0),(some ⟨w.heap.size+1+1,0,none⟩,1,1),(some ⟨w.heap.size+1+1+1,0,none⟩,1,1)⟩,⟨(none,0,0),(some ⟨w.heap.size+1+1+1+1,0,none⟩,1,1),(some ⟨w.heap.size+1+1+1+1+1,0,none⟩,1,1),(none,0,0),(none,0,0)⟩,(none,0,0)⟩ _ y4 (HTN.out y4 (Chg.refl _ _)) livN_fair (fun h=>by rw [livN_may] at h;cases h)).mono ?_
 rintro e y5 ⟨hc5,h5⟩
 have h6:e=.returned (.tuple #[.slice none 0 0,.int .i64 1]):=by
  rcases h5 with ⟨-,h⟩|⟨hm,-⟩
  ·exact h
  ·rw [livN_may] at hm;cases hm
 subst h6
 clear h5
 have HY5:=jh hc5
 clear hc5 v0 v1 v2 v3 v4 v5 v6 v7 v8 v9 v10 v11 v12
 have v0:=HCN.out y5 HY5.out 0 _ rfl
 have v1:=HCN.out y5 HY5.out 1 _ rfl
 have v2:=HCN.out y5 HY5.out 2 _ rfl
 have v3:=HCN.out y5 HY5.out 3 _ rfl
 have v4:=HCN.out y5 HY5.out 4 _ rfl
 have v5:=HCN.out y5 HY5.out 5 _ rfl
 have v6:=HCN.out y5 HY5.out 6 _ rfl
 have v7:=HCN.out y5 HY5.out 7 _ rfl
 have v8:=HCN.out y5 HY5.out 8 _ rfl
 have v9:=HCN.out y5 HY5.out 9 _ rfl
 have v10:=HCN.out y5 HY5.out 10 _ rfl
 have v11:=HCN.out y5 HY5.out 11 _ rfl
 have v12:=HCN.out y5 HY5.out 12 _ rfl
 go_wp2_with fail
 refine (may_tabs livN ⟨(some ⟨w.heap.size,0,none⟩,1,1),(none,0,0),(none,0,0),⟨(none,0,0),(none,0,0),(some ⟨w.heap.size+1+1,0,none⟩,1,1),(some ⟨w.heap.size+1+1+1,0,none⟩,1,1)⟩,⟨(none,0,0),(some ⟨w.heap.size+1+1+1+1,0,none⟩,1,1),(some ⟨w.heap.size+1+1+1+1+1,0,none⟩,1,1),(none,0,0),(none,0,0)⟩,(none,0,0)⟩ _ y5 (HTN.out y5 HY5.out) livN_fair).mono ?_
 rintro e y6 ⟨rfl,hc6⟩
 rw [livN_may]
 have HY6:=jh ((HWF.out.trans HY5.out).trans hc6)
 clear hc6 v0 v1 v2 v3 v4 v5 v6 v7 v8 v9 v10 v11 v12
 go_wp2
 go_ret
 exact⟨rfl,HY6.out⟩
end Go.Proofs.YtgnpmceimpjheaaGreat
namespace Go.Proofs.YtgnpmceimpjheaaGreat
open Go.RowKit
end Go.Proofs.YtgnpmceimpjheaaGreat
namespace Go.Proofs.YtgnpmceimpjheaaGreat
open Go.RowKit
def stepN (y:Nat):Nat:=(y / 2) ^^^ (if y % 2=1 then 3988292384 else 0)
def iterN:Nat→Nat→Nat
 | 0,y=>y
 | j+1,y=>stepN (iterN j y)
theorem stepN_lt {y:Nat} (h:y<4294967296):stepN y<4294967296:=Nat.xor_lt_two_pow (n:=32) (by omega) (by split <;> decide)
theorem stepI_nat {y:Nat} (h:y<4294967296):stepI y=(stepN y:Nat):=by
 have h1:bits BinOp.and IntKind.u32 (y:Int) 1=((y % 2:Nat):Int):=by
  have:=(bits_nat .u32 32 (by decide) wraps_u32 y 1 (by omega) (by decide)).1
  rw [Nat.and_one_is_mod] at this
  exact this
 unfold stepI stepN
 rw [h1,show ((y:Int) / 2)=((y / 2:Nat):Int) by omega]
 rcases Nat.mod_two_eq_zero_or_one y with h2|h2
 ·rw [h2,if_neg (by omega)]
  exact xor32 _ 0 (by omega) (by omega)
 ·rw [h2,if_pos rfl]
  exact xor32 _ 3988292384 (by omega) (by omega)
theorem iterI_nat (j:Nat) {y:Nat} (h:y<4294967296):iterI j y=(iterN j y:Nat)∧iterN j y<4294967296:=by
 induction j with
 | zero=>exact⟨rfl,h⟩
 | succ j ih =>
  refine⟨?_,stepN_lt ih.2⟩
  show stepI (iterI j y)=_
  rw [ih.1,stepI_nat ih.2]
  rfl
theorem stepN_xor (a b:Nat):stepN (a ^^^ b)=stepN a ^^^ stepN b:=by
 unfold stepN
 have hd:(a ^^^ b) / 2=a / 2 ^^^ b / 2:=Nat.xor_div_two_pow (n:=1)
 have hm:(a ^^^ b) % 2=a % 2 ^^^ b % 2:=Nat.xor_mod_two_pow (n:=1)
 rw [hd,hm]
 have e:∀ p q r s:Nat,(p ^^^ r) ^^^ (q ^^^ s)=(p ^^^ q) ^^^ (r ^^^ s):=fun p q r s=>by
  rw [Nat.xor_assoc,Nat.xor_assoc,← Nat.xor_assoc r q s,Nat.xor_comm r q,Nat.xor_assoc q r s]
 rw [e]
 congr 1
 rcases Nat.mod_two_eq_zero_or_one a with h1|h1 <;> rcases Nat.mod_two_eq_zero_or_one b with h2|h2 <;> rw [h1,h2] <;> decide
theorem iterN_xor (j a b:Nat):iterN j (a ^^^ b)=iterN j a ^^^ iterN j b:=by
 induction j with
 | zero=>rfl
 | succ j ih =>
  show stepN (iterN j (a ^^^ b))=_
  rw [ih,stepN_xor]
  rfl
theorem iterN_shift (j m:Nat):iterN j (2 ^ j * m)=m:=by
 induction j generalizing m with
 | zero=>simp [iterN]
 | succ j ih =>
  show stepN (iterN j (2 ^ (j+1) * m))=m
  rw [Nat.pow_succ,Nat.mul_assoc,ih]
  unfold stepN
  rw [if_neg (by omega),Nat.xor_zero]
  omega
theorem xor_parts (x:Nat):x=256 * (x / 256) ^^^ x % 256:=by
 have hd:(256 * (x / 256) ^^^ x % 256) / 256=(256 * (x / 256)) / 256 ^^^ (x % 256) / 256:=Nat.xor_div_two_pow (n:=8)
 have hm:(256 * (x / 256) ^^^ x % 256) % 256=(256 * (x / 256)) % 256 ^^^ (x % 256) % 256:=Nat.xor_mod_two_pow (n:=8)
 rw [Nat.mul_div_cancel_left _ (by omega),show x % 256 / 256=0 by omega,Nat.xor_zero] at hd
 rw [Nat.mul_mod_right,Nat.zero_xor,Nat.mod_mod] at hm
 have:=Nat.div_add_mod (256 * (x / 256) ^^^ x % 256) 256
 rw [hd,hm] at this
 omega
theorem ofStep_bits {y c:Nat} (hy:y<4294967296) (hc:c<256):ofStep y c=((iterN 8 (y ^^^ c):Nat):Int):=by
 obtain⟨t,h1,h2,_,_⟩:=ofStep_nat hy hc
 have hx:y % 256 ^^^ c<256:=Nat.xor_lt_two_pow (n:=8) (Nat.mod_lt _ (by omega)) hc
 have ht:t=iterN 8 (y % 256 ^^^ c):=by
  have:=(iterI_nat 8 (y:=y % 256 ^^^ c) (by omega)).1
  rw [tabI] at h1
  rw [this] at h1
  exact_mod_cast h1.symm
 rw [h2,ht]
 congr 1
 have hd:(y ^^^ c) / 256=y / 256 ^^^ c / 256:=Nat.xor_div_two_pow (n:=8)
 have hm:(y ^^^ c) % 256=y % 256 ^^^ c % 256:=Nat.xor_mod_two_pow (n:=8)
 rw [show c / 256=0 by omega,Nat.xor_zero] at hd
 rw [show c % 256=c by omega] at hm
 conv=>rhs;rw [xor_parts (y ^^^ c),iterN_xor,hd,hm]
 rw [show 256 * (y / 256)=2 ^ 8 * (y / 256) from rfl,iterN_shift]
def foldN (Z:List Int) (y:Nat):Nat:=Z.foldl (fun y c=>iterN 8 (y ^^^ c.toNat)) y
theorem foldN_lt (Z:List Int) (hZ:∀ a∈Z,Byte a) (y:Nat) (hy:y<4294967296):foldN Z y<4294967296∧Z.foldl ofStep (y:Int)=(foldN Z y:Nat):=by
 induction Z generalizing y with
 | nil=>exact⟨hy,rfl⟩
 | cons z Z ih =>
  have hz:=hZ z (by simp)
  obtain⟨c,rfl⟩:=Int.eq_ofNat_of_zero_le hz.1
  have hc:c<256:=by have:=hz.2;omega
  have hx:y ^^^ c<4294967296:=Nat.xor_lt_two_pow (n:=32) hy (by omega)
  have:=ih (fun a ha=>hZ a (by simp [ha])) (iterN 8 (y ^^^ c)) (iterI_nat 8 hx).2
  refine⟨this.1,?_⟩
  rw [List.foldl_cons,ofStep_bits hy hc]
  exact this.2
theorem ofI_bits (Z:List Int) (hZ:∀ a∈Z,Byte a):ofI Z=((4294967295 ^^^ foldN Z 4294967295:Nat):Int):=by
 have h:=foldN_lt Z hZ 4294967295 (by omega)
 unfold ofI ofFold
 have hm:(IntKind.u32.max:Int)=((4294967295:Nat):Int):=by decide
 have h2:Z.foldl ofStep 4294967295=(foldN Z 4294967295:Nat):=h.2
 rw [h2,hm]
 exact xor32 _ _ (by omega) h.1
end Go.Proofs.YtgnpmceimpjheaaGreat
namespace Go.Proofs.YtgnpmceimpjheaaGreat
open Go.RowKit
structure BoolsAt (w:World) (b:Nat) (A:Nat→Bool):Prop where
 c:∀ i,i<32→w.cell? ⟨b,i,none⟩=some (.bool (A i))
 z:∀ j,w.frozen? ⟨b,j,none⟩=false
theorem BoolsAt.congr {w:World} {b:Nat} {A A':Nat→Bool} (h:BoolsAt w b A) (he:∀ i,i<32→A' i=A i):BoolsAt w b A':=⟨fun i hi=>by rw [he i hi];exact h.c i hi,h.z⟩
theorem BoolsAt.put {w:World} {b:Nat} {A:Nat→Bool} (h:BoolsAt w b A) {k:Nat} (hk:k<32) (v:Bool):BoolsAt (w.setCell ⟨b,k,none⟩ (.bool v)) b (fun i=>if i=k then v else A i):=by
 refine⟨fun i hi=>?_,fun j=>(World.frozen?_setCell _ _ _ _).trans (h.z j)⟩
 by_cases he:i=k
 ·subst he
  rw [if_pos rfl]
  exact World.cell?_setCell_same _ _ _ (h.c _ hi)
 ·rw [if_neg he,World.cell?_setCell_other _ _ _ _ (by intro e;injection e with _ e;omega)]
  exact h.c i hi
def zeros32:Array Value:=Array.replicate 32 (.bool false)
theorem zeroBools (w:World):(zeroValue 209).run Tryz.prog w=.ok (.agg zeros32) w:=by kernel_rfl
theorem BoolsAt.made (w:World) (e:TypeId):BoolsAt (w.alloc (.cells zeros32 e)) w.heap.size (fun _=>false):=by
 refine⟨fun i hi=>?_,fun j=>World.frozen?_alloc_new _ _ _ _⟩
 rw [World.cell?_alloc_new]
 simp [zeros32,hi]
theorem bit_of (n j:Nat):((((n:Int) / 2 ^ j).tmod 2 == 1):Bool)=n.testBit j:=by
 have h1:((n:Int) / 2 ^ j)=((n / 2 ^ j:Nat):Int):=by simp
 have h0:∀ m:Nat,((m:Nat):Int).tmod 2=((m % 2:Nat):Int):=fun m=>by rw [Int.tmod_eq_emod_of_nonneg (Int.natCast_nonneg _)];omega
 have h2:=h0 (n / 2 ^ j)
 rw [h1,h2,Nat.testBit_eq_decide_div_mod_eq]
 rcases Nat.mod_two_eq_zero_or_one (n / 2 ^ j) with h|h <;> rw [h] <;> rfl
theorem refOf_any (Z:List Int) (a:Option Addr) (g o c:Nat) (w:World) (hz:BytesAt w g o Z) (ha:0<Z.length→a=some ⟨g,o,none⟩) (hl:Z.length≤10000000) :
  Calls Tryz.prog 77 #[.slice a Z.length c] w fun e w'=>e=.returned (.int .u32 (ofI Z))∧Chg (fun _=>False) w w':=by
 have HZ:=jh hz
 have HA:=jh ha
 have HB0:=jh (BoolsAt.made w 209)
 have HC0:=jh ((Chg.refl (fun k=>w.heap.size≤k) w).alloc (.cells zeros32 209))
 have hzb:=zeroBools
 clear hz ha
 go_enter Tryz.func77,Tryz.ntmps77
 go_wp2
 go_loopw [4] (fun i wr=>∃ k:Nat,k≤32∧i=.int .i64 k∧BoolsAt wr w.heap.size (fun i=>decide (i<k))∧Chg (fun k=>w.heap.size≤k) w wr) (fun i _=>32-(intOf i).toNat)
 case atStart=>exact⟨0,by omega,rfl,HB0.out.congr (fun i _=>by simp),HC0.out⟩
 case round =>
  clear HB0 HC0
  obtain⟨k,hk,rfl,hb,hc⟩:=hrel
  have HB:=jh hb
  have HC:=jh hc
  clear hb hc
  by_cases hk32:k<32
  ·have c1:=HB.out.c k hk32
   have z1:=HB.out.z k
   have HX:=jh ((HB.out.put hk32 true).congr (A':=fun i=>decide (i<k+1)) (fun i _=>by
    by_cases he:i=k
    ·subst he;simp
    ·rw [if_neg he,decide_eq_decide];omega))
   have HC2:=jh (HC.out.trans ((setCellChg wr w.heap.size k (.bool true)).mono (T:=fun k=>w.heap.size≤k) (fun k _ e=>by omega)))
   have b14:decide ((k:Int)<32)=true:=by simp;omega
   clear HB HC
   go_wp2
   go_roundw
   case rel=>first|exact⟨k+1,by omega,by go_num,HX.out,HC2.out⟩|((repeat apply Exists.intro);exact⟨⟨k+1,by omega,rfl,HX.out,HC2.out⟩,rfl⟩)
   case measure=>simp [intOf];omega
  ·obtain rfl:k=32:=by omega
   have HBN:Hid (BoolsAt wr w.heap.size (fun i=>(foldN (Z.take 0) 4294967295).testBit i)):=jh (HB.out.congr (fun i hi=>by
    show (4294967295:Nat).testBit i=decide (i<32)
    rw [show (4294967295:Nat)=2 ^ 32-1 from rfl,Nat.testBit_two_pow_sub_one]))
   have HC1:=HC
   clear HB HC
   go_wp2
   obtain⟨wo,rfl⟩:∃ wo:World,wo=wr:=⟨_,rfl⟩
   go_loopw [5] (fun i wr=>∃ k:Nat,k≤Z.length∧i=.int .i64 k∧BoolsAt wr w.heap.size (fun i=>(foldN (Z.take k) 4294967295).testBit i)∧Chg (fun k=>w.heap.size≤k) w wr) (fun i _=>Z.length-(intOf i).toNat)
   case atStart=>exact⟨0,by omega,rfl,HBN.out,HC1.out⟩
   case round =>
    clear HBN HC1
    obtain⟨k,hk,rfl,hb,hc⟩:=hrel
    have HB:=jh hb
    have HC:=jh hc
    clear hb hc
    by_cases hkl:k<Z.length
    ·obtain⟨z,hz,c1,z0,z1⟩:=(HZ.out.chg HC.out.fresh (fun _ h=>h)).get hkl
     have e1:=HA.out (by omega)
     subst e1
     have HZG:=jh hz
     clear hz c1
     have b22:decide ((k:Int)<(Z.length:Int))=true:=by simp;omega
     go_wp2
     obtain⟨wo2,rfl⟩:∃ wo:World,wo=wr:=⟨_,rfl⟩
     go_loopw [6] (fun i wr=>∃ j:Nat,j≤8∧i=.int .i64 j∧BoolsAt wr w.heap.size (fun i=>if i<j then (foldN (Z.take k) 4294967295 ^^^ z.toNat).testBit i else (foldN (Z.take k) 4294967295).testBit i)∧Chg (fun k=>w.heap.size≤k) w wr) (fun i _=>8-(intOf i).toNat)
     case atStart=>exact⟨0,by omega,rfl,HB.out.congr (fun i _=>by rw [if_neg (by omega)]),HC.out⟩
     case round =>
      clear HB HC
      obtain⟨j,hj,rfl,hb,hc⟩:=hrel
      have HB:=jh hb
      have HC:=jh hc
      clear hb hc
      by_cases hj8:j<8
      ·obtain⟨c2,_⟩:=(HZ.out.chg HC.out.fresh (fun _ h=>h)).c k z HZG.out
       have c3:=HB.out.c j (by omega)
       have z3:=HB.out.z j
       have b26:decide ((j:Int)<8)=true:=by simp;omega
       obtain⟨zn,rfl⟩:=Int.eq_ofNat_of_zero_le z0
       have hq:=bit_of zn j
       rw [if_neg (by omega)] at c3
       obtain⟨v,hv⟩:∃ v,(foldN (Z.take k) 4294967295).testBit j=v:=⟨_,rfl⟩
       rw [hv] at c3
       cases hbit:zn.testBit j with
       | false =>
        rw [hbit] at hq
        have HX:=jh (HB.out.congr (A':=fun i=>if i<j+1 then (foldN (Z.take k) 4294967295 ^^^ (Int.ofNat zn).toNat).testBit i else (foldN (Z.take k) 4294967295).testBit i) (fun i _=>by
         by_cases he:i=j
         ·subst he
          rw [if_pos (by omega),if_neg (by omega),Nat.testBit_xor,show (Int.ofNat zn).toNat=zn from rfl,hbit]
          simp
         ·by_cases hi:i<j
          ·rw [if_pos (by omega),if_pos hi];rfl
          ·rw [if_neg (by omega),if_neg hi]))
        clear HB hv hbit
        go_wp2
        go_roundw
        case rel=>first|exact⟨j+1,by omega,by go_num,HX.out,HC.out⟩|((repeat apply Exists.intro);exact⟨⟨j+1,by omega,rfl,HX.out,HC.out⟩,rfl⟩)
        case measure=>simp [intOf];omega
       | true =>
        rw [hbit] at hq
        have HX:=jh ((HB.out.put (k:=j) (by omega) (!v)).congr (A':=fun i=>if i<j+1 then (foldN (Z.take k) 4294967295 ^^^ (Int.ofNat zn).toNat).testBit i else (foldN (Z.take k) 4294967295).testBit i) (fun i _=>by
         by_cases he:i=j
         ·subst he
          rw [if_pos (by omega),if_pos rfl,Nat.testBit_xor,show (Int.ofNat zn).toNat=zn from rfl,hbit,hv]
          simp
         ·rw [if_neg he]
          by_cases hi:i<j
          ·rw [if_pos (by omega),if_pos hi];rfl
          ·rw [if_neg (by omega),if_neg hi]))
        have HC2:=jh (HC.out.trans ((setCellChg wr w.heap.size j (.bool (!v))).mono (T:=fun k=>w.heap.size≤k) (fun k _ e=>by omega)))
        clear HB HC hv hbit
        go_wp2
        go_roundw
        case rel=>first|exact⟨j+1,by omega,by go_num,HX.out,HC2.out⟩|((repeat apply Exists.intro);exact⟨⟨j+1,by omega,rfl,HX.out,HC2.out⟩,rfl⟩)
        case measure=>simp [intOf];omega
      ·obtain rfl:j=8:=by omega
       have hyl:foldN (Z.take k) 4294967295<4294967296:=(foldN_lt _ (fun a ha=>HZ.out.byte a (List.mem_of_mem_take ha)) _ (by omega)).1
       obtain⟨y,hy⟩:∃ y,foldN (Z.take k) 4294967295 ^^^ z.toNat=y:=⟨_,rfl⟩
       have hylt:y<4294967296:=by rw [← hy];exact Nat.xor_lt_two_pow (n:=32) hyl (by omega)
       have HN:Hid (foldN (Z.take (k+1)) 4294967295=iterN 8 y):=jh (by
        rw [List.take_add_one,HZG.out]
        show List.foldl _ _ (Z.take k++[z])=_
        rw [List.foldl_append,← hy]
        rfl)
       have HBY:Hid (BoolsAt wr w.heap.size (fun i=>(iterN 0 y).testBit i)):=jh (HB.out.congr (fun i _=>by
        by_cases hi:i<8
        ·rw [if_pos hi,hy];rfl
        ·rw [if_neg hi]
         show y.testBit i=_
         rw [← hy,Nat.testBit_xor,Nat.testBit_lt_two_pow (x:=z.toNat) (Nat.lt_of_lt_of_le (show z.toNat<2 ^ 8 by omega) (Nat.pow_le_pow_right (by omega) (by omega)))]
         simp))
       have HC1:=HC
       have HYL:=jh hylt
       clear HB HC hyl hy hylt
       go_wp2
       obtain⟨wo3,rfl⟩:∃ wo:World,wo=wr:=⟨_,rfl⟩
       go_loopw [7] (fun i wr=>∃ j:Nat,j≤8∧i=.int .i64 j∧BoolsAt wr w.heap.size (fun i=>(iterN j y).testBit i)∧Chg (fun k=>w.heap.size≤k) w wr) (fun i _=>8-(intOf i).toNat)
       case atStart=>exact⟨0,by omega,rfl,HBY.out,HC1.out⟩
       case round =>
        clear HBY HC1
        obtain⟨j,hj,rfl,hb,hc⟩:=hrel
        have HB:=jh hb
        have HC:=jh hc
        clear hb hc
        by_cases hj8:j<8
        ·obtain⟨Y,hY⟩:∃ Y,iterN j y=Y:=⟨_,rfl⟩
         have HYT:Hid (Y<4294967296):=jh (by rw [← hY];exact (iterI_nat j HYL.out).2)
         have HNX:Hid (iterN (j+1) y=stepN Y):=jh (by rw [← hY];rfl)
         have HBY:Hid (BoolsAt wr w.heap.size (fun i=>Y.testBit i)):=jh (by rw [← hY];exact HB.out)
         have c0:=HBY.out.c 0 (by omega)
         obtain⟨ob,hob⟩:∃ ob,Y.testBit 0=ob:=⟨_,rfl⟩
         rw [hob] at c0
         have HOB:Hid (ob=decide (Y % 2=1)):=jh (by rw [← hob,Nat.testBit_zero])
         have b44:decide ((j:Int)<8)=true:=by simp;omega
         clear HB hY hob
         go_wp2
         obtain⟨wo4,rfl⟩:∃ wo:World,wo=wr:=⟨_,rfl⟩
         go_loopw [9] (fun i wr=>∃ m:Nat,m≤31∧i=.int .i64 m∧BoolsAt wr w.heap.size (fun i=>if i<m then Y.testBit (i+1) else Y.testBit i)∧Chg (fun k=>w.heap.size≤k) w wr) (fun i _=>31-(intOf i).toNat)
         case atStart=>exact⟨0,by omega,rfl,HBY.out.congr (fun i _=>by rw [if_neg (by omega)]),HC.out⟩
         case round =>
          clear HBY HC c0
          obtain⟨m,hm,rfl,hb,hc⟩:=hrel
          have HB:=jh hb
          have HC:=jh hc
          clear hb hc
          by_cases hm31:m<31
          ·have c5:=HB.out.c (m+1) (by omega)
           have c6:=HB.out.c m (by omega)
           have z6:=HB.out.z m
           rw [if_neg (by omega)] at c5 c6
           obtain⟨v,hv⟩:∃ v,Y.testBit (m+1)=v:=⟨_,rfl⟩
           obtain⟨v0,hv0⟩:∃ v,Y.testBit m=v:=⟨_,rfl⟩
           rw [hv] at c5
           rw [hv0] at c6
           have HX:=jh ((HB.out.put (k:=m) (by omega) v).congr (A':=fun i=>if i<m+1 then Y.testBit (i+1) else Y.testBit i) (fun i _=>by
            by_cases he:i=m
            ·subst he;rw [if_pos (by omega),if_pos rfl,hv]
            ·rw [if_neg he]
             by_cases hi:i<m
             ·rw [if_pos (by omega),if_pos hi]
             ·rw [if_neg (by omega),if_neg hi]))
           have HC2:=jh (HC.out.trans ((setCellChg wr w.heap.size m (.bool v)).mono (T:=fun k=>w.heap.size≤k) (fun k _ e=>by omega)))
           have b50:decide ((m:Int)<31)=true:=by simp;omega
           clear HB HC hv hv0
           go_wp2
           go_roundw
           case rel=>first|exact⟨m+1,by omega,by go_num,HX.out,HC2.out⟩|((repeat apply Exists.intro);exact⟨⟨m+1,by omega,rfl,HX.out,HC2.out⟩,rfl⟩)
           case measure=>simp [intOf];omega
          ·obtain rfl:m=31:=by omega
           have c6:=HB.out.c 31 (by omega)
           have z6:=HB.out.z 31
           rw [if_neg (by omega)] at c6
           obtain⟨v0,hv0⟩:∃ v,Y.testBit 31=v:=⟨_,rfl⟩
           rw [hv0] at c6
           have HX:=jh ((HB.out.put (k:=31) (by omega) false).congr (A':=fun i=>(Y / 2).testBit i) (fun i hi=>by
            rw [Nat.testBit_div_two]
            by_cases he:i=31
            ·subst he;rw [if_pos rfl,Nat.testBit_lt_two_pow (by have:=HYT.out;exact this)]
            ·rw [if_neg he,if_pos (by omega)]))
           have HC2:=jh (HC.out.trans ((setCellChg wr w.heap.size 31 (.bool false)).mono (T:=fun k=>w.heap.size≤k) (fun k _ e=>by omega)))
           clear HB HC hv0
           go_wp2
           go_loopw [10] (fun i wr=>∃ m:Nat,m≤32∧i=.int .i64 m∧BoolsAt wr w.heap.size (fun i=>if i<m then (stepN Y).testBit i else (Y / 2).testBit i)∧Chg (fun k=>w.heap.size≤k) w wr) (fun i _=>32-(intOf i).toNat)
           case atStart=>exact⟨0,by omega,rfl,HX.out.congr (fun i _=>by rw [if_neg (by omega)]),HC2.out⟩
           case round =>
            clear HX HC2 c6 z6
            obtain⟨m,hm,rfl,hb,hc⟩:=hrel
            have HB:=jh hb
            have HC:=jh hc
            clear hb hc
            by_cases hm32:m<32
            ·have c7:=HB.out.c m hm32
             have z7:=HB.out.z m
             rw [if_neg (by omega)] at c7
             obtain⟨v,hv⟩:∃ v,(Y / 2).testBit m=v:=⟨_,rfl⟩
             rw [hv] at c7
             have hq:(((3988292384:Int) / 2 ^ m).tmod 2 == 1)=(3988292384:Nat).testBit m:=bit_of 3988292384 m
             have b61:decide ((m:Int)<32)=true:=by simp;omega
             have HST:Hid ((stepN Y).testBit m=(v != (ob && (3988292384:Nat).testBit m))):=jh (by
              rw [stepN,Nat.testBit_xor,hv,HOB.out]
              by_cases ho:Y % 2=1
              ·rw [if_pos ho];simp [ho]
              ·rw [if_neg ho];simp [ho])
             cases hfl:(ob && (3988292384:Nat).testBit m) with
             | false =>
              have HX:=jh (HB.out.congr (A':=fun i=>if i<m+1 then (stepN Y).testBit i else (Y / 2).testBit i) (fun i _=>by
               by_cases he:i=m
               ·subst he
                rw [if_pos (by omega),if_neg (by omega),HST.out,hfl,hv]
                simp
               ·by_cases hi:i<m
                ·rw [if_pos (by omega),if_pos hi]
                ·rw [if_neg (by omega),if_neg hi]))
              clear HST hv HB
              cases ob with
              | false =>
               clear hfl
               go_wp2
               go_roundw
               case rel=>first|exact⟨m+1,by omega,by go_num,HX.out,HC.out⟩|((repeat apply Exists.intro);exact⟨⟨m+1,by omega,rfl,HX.out,HC.out⟩,rfl⟩)
               case measure=>simp [intOf];omega
              | true =>
               have hbit:(3988292384:Nat).testBit m=false:=by simpa using hfl
               rw [hbit] at hq
               clear hfl hbit
               go_wp2
               go_roundw
               case rel=>first|exact⟨m+1,by omega,by go_num,HX.out,HC.out⟩|((repeat apply Exists.intro);exact⟨⟨m+1,by omega,rfl,HX.out,HC.out⟩,rfl⟩)
               case measure=>simp [intOf];omega
             | true =>
              have HX:=jh ((HB.out.put hm32 (!v)).congr (A':=fun i=>if i<m+1 then (stepN Y).testBit i else (Y / 2).testBit i) (fun i _=>by
               by_cases he:i=m
               ·subst he
                rw [if_pos (by omega),if_pos rfl,HST.out,hfl]
                simp
               ·rw [if_neg he]
                by_cases hi:i<m
                ·rw [if_pos (by omega),if_pos hi]
                ·rw [if_neg (by omega),if_neg hi]))
              have HC2:=jh (HC.out.trans ((setCellChg wr w.heap.size m (.bool (!v))).mono (T:=fun k=>w.heap.size≤k) (fun k _ e=>by omega)))
              rw [Bool.and_eq_true] at hfl
              obtain⟨ho,hbit⟩:=hfl
              rw [hbit] at hq
              subst ho
              clear HST hv HB HC hbit
              go_wp2
              go_roundw
              case rel=>first|exact⟨m+1,by omega,by go_num,HX.out,HC2.out⟩|((repeat apply Exists.intro);exact⟨⟨m+1,by omega,rfl,HX.out,HC2.out⟩,rfl⟩)
              case measure=>simp [intOf];omega
            ·obtain rfl:m=32:=by omega
             have HX:Hid (BoolsAt wr w.heap.size (fun i=>(iterN (j+1) y).testBit i)):=jh (by rw [HNX.out];exact HB.out.congr (fun i hi=>by rw [if_pos hi]))
             clear HB HNX
             go_wp2
             go_roundw
             case rel=>first|exact⟨j+1,by omega,by go_num,HX.out,HC.out⟩|((repeat apply Exists.intro);exact⟨⟨j+1,by omega,rfl,HX.out,HC.out⟩,rfl⟩)
             case measure=>simp [intOf];omega
        ·obtain rfl:j=8:=by omega
         have HX:Hid (BoolsAt wr w.heap.size (fun i=>(foldN (Z.take (k+1)) 4294967295).testBit i)):=jh (by rw [HN.out];exact HB.out)
         clear HB HN
         go_wp2
         go_roundw
         case rel=>first|exact⟨k+1,by omega,by go_num,HX.out,HC.out⟩|((repeat apply Exists.intro);exact⟨⟨k+1,by omega,rfl,HX.out,HC.out⟩,rfl⟩)
         case measure=>simp [intOf];omega
    ·obtain rfl:k=Z.length:=by omega
     rw [List.take_length] at HB
     obtain⟨y,hy⟩:∃ y,foldN Z 4294967295=y:=⟨_,rfl⟩
     rw [hy] at HB
     have HF:Hid (ofI Z=((4294967295 ^^^ y:Nat):Int)):=jh (by rw [← hy];exact ofI_bits Z HZ.out.byte)
     have hylt:y<4294967296:=by rw [← hy];exact (foldN_lt Z HZ.out.byte _ (by omega)).1
     obtain⟨M,hM⟩:∃ M,4294967295 ^^^ y=M:=⟨_,rfl⟩
     have hMlt:M<4294967296:=by rw [← hM];exact Nat.xor_lt_two_pow (n:=32) (by omega) hylt
     have HMB:Hid (∀ q,q<32→M.testBit q=!y.testBit q):=jh (fun q hq=>by
      rw [← hM,Nat.testBit_xor,show (4294967295:Nat)=2 ^ 32-1 from rfl,Nat.testBit_two_pow_sub_one]
      simp [hq])
     rw [hM] at HF
     clear hy hM
     go_wp2
     obtain⟨wo2,rfl⟩:∃ wo:World,wo=wr:=⟨_,rfl⟩
     go_loopw [11,12] (fun n i wr=>∃ r:Nat,r≤32∧i=.int .i64 ((r:Int)-1)∧n=.int .u32 ((M / 2 ^ r:Nat):Int)∧BoolsAt wr w.heap.size (fun i=>y.testBit i)∧Chg (fun k=>w.heap.size≤k) w wr) (fun _ i _=>(intOf i+1).toNat)
     case atStart=>exact⟨32,by omega,rfl,by rw [Nat.div_eq_of_lt hMlt];rfl,HB.out,HC.out⟩
     case round =>
      clear HB HC
      obtain⟨r,hr,rfl,rfl,hb,hc⟩:=hrel
      have HB:=jh hb
      have HC:=jh hc
      clear hb hc
      rcases r with _|q
      ·go_wp2
       go_ret
       exact⟨by rw [HF.out];simp,HC.out.fresh⟩
      ·have e1:(((q+1:Nat):Int))-1=(q:Int):=by omega
       rw [e1]
       have c7:=HB.out.c q (by omega)
       obtain⟨v,hv⟩:∃ v,y.testBit q=v:=⟨_,rfl⟩
       rw [hv] at c7
       obtain⟨N0,hN0⟩:∃ N0,M / 2 ^ (q+1)=N0:=⟨_,rfl⟩
       have hd:M / 2 ^ q / 2=N0:=by rw [← hN0,Nat.pow_succ,Nat.div_div_eq_div_mul]
       have hle:M / 2 ^ q≤M:=Nat.div_le_self _ _
       have hbit:decide (M / 2 ^ q % 2=1)=!v:=by rw [← Nat.testBit_eq_decide_div_mod_eq,HMB.out q (by omega),hv]
       have HNQ:Hid (M / 2 ^ q=2 * N0+(if v then 0 else 1)):=jh (by
        cases v with
        | true=>simp at hbit;rw [if_pos rfl];omega
        | false=>simp at hbit;rw [if_neg (by decide)];omega)
       have hN1:N0≤2147483647:=by omega
       have b78:decide ((0:Int)≤(q:Int))=true:=by simp
       rw [hN0]
       clear hN0 hd hle hbit hv
       cases v with
       | true =>
        have e2:((2 * N0:Nat):Int)=2 * (N0:Int):=by omega
        go_wp2
        go_roundw
        case rel=>first|exact⟨q,by omega,by first|rfl|go_num,by rw [HNQ.out,if_pos rfl];first|rfl|simp,HB.out,HC.out⟩|((repeat apply Exists.intro);exact⟨⟨q,by omega,rfl,by rw [HNQ.out,if_pos rfl];rfl,HB.out,HC.out⟩,rfl⟩)
        case measure=>simp [intOf]
       | false =>
        go_wp2
        go_roundw
        case rel=>first|exact⟨q,by omega,by first|rfl|go_num,by rw [HNQ.out,if_neg (by decide)];first|rfl|simp,HB.out,HC.out⟩|((repeat apply Exists.intro);exact⟨⟨q,by omega,rfl,by rw [HNQ.out,if_neg (by decide)];rfl,HB.out,HC.out⟩,rfl⟩)
        case measure=>simp [intOf]
end Go.Proofs.YtgnpmceimpjheaaGreat
namespace Go.Proofs.YtgnpmceimpjheaaGreat
open Go.RowKit
def dN (N:Int):Nat→Int
 | 0=>N
 | j+1=>dN N j / 256
def digs (N:Int):Nat→List Int
 | 0=>[]
 | j+1=>digs N j++[dN N j % 256]
theorem dN_range {N:Int} (h0:0≤N) (h1:N≤4294967295) (j:Nat):0≤dN N j∧dN N j≤4294967295:=by
 induction j with
 | zero=>exact⟨h0,h1⟩
 | succ j ih=>show 0≤dN N j / 256∧dN N j / 256≤4294967295;omega
theorem digs_four {N:Int} (h0:0≤N) (h1:N≤4294967295):digs N 4=fourL N:=by
 simp only [digs,dN,fourL,List.nil_append,List.cons_append,List.cons.injEq,and_true,true_and]
 omega
theorem digs_len (N:Int) (j:Nat):(digs N j).length=j:=by
 induction j with
 | zero=>rfl
 | succ j ih=>simp [digs,ih]
theorem refSeal_any (Z:List Int) (a:Option Addr) (g o c:Nat) (w:World) (hz:BytesAt w g o Z) (ha:0<Z.length→a=some ⟨g,o,none⟩) (hl:Z.length≤10000000) :
  Calls Tryz.prog 32 #[.slice a Z.length c] w fun e w'=>∃ v,e=.returned v∧Own w' w.heap.size v (sealL Z)∧Chg (fun _=>False) w w':=by
 have HOF:=jh (refOf_any Z a g o c w hz ha hl)
 have HZ:=jh hz
 have HA:=jh ha
 have HBZ:=jh hz.byte
 obtain⟨r0,r1⟩:=ofI_range Z
 obtain⟨N,hN⟩:∃ N,ofI Z=N:=⟨_,rfl⟩
 have HS:Hid (sealL Z=Z++fourL N):=jh (by rw [sealL,hN])
 rw [hN] at HOF r0 r1
 clear hz ha hN
 go_enter Tryz.func32,Tryz.ntmps32
 go_wp2_with fail
 refine HOF.out.mono ?_
 rintro e w1 ⟨rfl,hc1⟩
 have HC1:=jh hc1
 clear hc1 HOF
 go_wp2_with (at_builtin;refine wpList_append8 rfl _ _ 45 rfl w1.heap.size (.slice none 0 0) [] Z (.slice a Z.length c) rfl rfl (.inl ⟨rfl,rfl⟩) (Nat.le_refl _) (srcBytes (HZ.out.chg HC1.out (fun _ h=>h)) HA.out) HBZ.out (by simp;omega) ?_;intro v2 w2 H1 H2 H3)
 go_loopw [3,4,5] (fun n v i wr=>∃ j:Nat,j≤4∧i=.int .i64 j∧n=.int .u32 (dN N j)∧Own wr w1.heap.size v (([]++Z)++digs N j)∧Chg (fun k=>w1.heap.size≤k) w1 wr) (fun _ _ i _=>4-(intOf i).toNat)
 case atStart=>exact⟨0,by omega,rfl,rfl,by simpa [digs] using H1.out,H2.out⟩
 case round =>
  clear H1 H2 H3
  obtain⟨j,hj,rfl,rfl,ho,hc⟩:=hrel
  have HO:=jh ho
  have HC:=jh hc
  clear ho hc
  obtain⟨d0,d1⟩:=dN_range r0 r1 j
  by_cases hj4:j<4
  ·obtain⟨D,hD⟩:∃ D,dN N j=D:=⟨_,rfl⟩
   have HDD:=jh hD
   rw [hD] at d0 d1 ⊢
   clear hD
   have hm:D % 256 % 256=D % 256:=by omega
   have HY:Hid (∀ a∈[D % 256],Byte a):=jh (by simp;omega)
   have hdl:=digs_len N j
   have b11:decide ((j:Int)<4)=true:=by simp;omega
   go_wp2_with (at_builtin;refine wpList_append8 rfl _ _ 45 rfl w1.heap.size _ (([]++Z)++digs N j) [D % 256] (.slice (some ⟨wr.heap.size,0,none⟩) 1 1) rfl rfl (HO.out.chg ((Chg.refl (fun _=>False) wr).alloc _) (fun _ _ _ h=>h)) (Nat.le_trans HC.out.size ((Chg.refl (fun _=>False) wr).alloc _).size) (srcLit 1 HY.out) HY.out (by simp;omega) ?_;intro v3 w3 K1 K2 K3)
   have HX:Hid (Own w3 w1.heap.size v3 (([]++Z)++digs N (j+1))∧Chg (fun k=>w1.heap.size≤k) w1 w3∧dN N (j+1)=D / 256):=jh ⟨by rw [digs,← List.append_assoc,HDD.out];exact K1.out,HC.out.trans (((Chg.refl _ _).alloc _).trans K2.out),by rw [dN,HDD.out]⟩
   go_roundw
   case rel=>first|exact⟨j+1,by omega,by go_num,by rw [HX.out.2.2],HX.out.1,HX.out.2.1⟩|((repeat apply Exists.intro);exact⟨⟨j+1,by omega,rfl,by rw [HX.out.2.2],HX.out.1,HX.out.2.1⟩,rfl⟩)
   case measure=>simp [intOf];omega
  ·obtain rfl:j=4:=by omega
   have HX:Hid (∀ v,Own wr w1.heap.size v (([]++Z)++digs N 4)→Own wr w.heap.size v (sealL Z)):=jh (fun v h=>by
    rw [HS.out,← digs_four r0 r1]
    exact h.lower HC1.out.size)
   have HO2:=jh (HX.out _ HO.out)
   clear HX HO
   go_wp2
   go_ret
   exact⟨_,rfl,HO2.out,HC1.out.trans HC.out.fresh⟩
end Go.Proofs.YtgnpmceimpjheaaGreat
namespace Go.Proofs.YtgnpmceimpjheaaGreat
open Go.RowKit
theorem Row.set1 {w:World} {g:Nat} {C:List Int} (h:Row w g C) {k:Nat} (hk:k<C.length) {v:Int} (hv:Byte v):Row (w.setCell ⟨g,k,none⟩ (.int .u8 v)) g (C.set k v):=by
 refine⟨fun j a hj=>?_,fun j=>(World.frozen?_setCell _ _ _ _).trans (h.z j),Nat.lt_of_lt_of_le h.lt (setCellChg _ _ _ _).size,fun a ha=>?_⟩
 ·by_cases he:j=k
  ·subst he
   rw [List.getElem?_set_self hk] at hj
   obtain rfl:=Option.some.inj hj
   exact World.cell?_setCell_same _ _ _ (h.c j _ (List.getElem?_eq_getElem hk))
  ·rw [List.getElem?_set_ne (Ne.symm he)] at hj
   rw [World.cell?_setCell_other _ _ _ _ (by intro e;injection e with _ e;exact he e.symm)]
   exact h.c j a hj
 ·rcases List.mem_or_eq_of_mem_set ha with h1|rfl
  ·exact h.byte a h1
  ·exact hv
theorem or1F:∀ k:Fin 256,bits BinOp.or IntKind.u8 (k.val:Int) 1=((k.val ||| 1:Nat):Int)∧(k.val ||| 1)<256∧(k.val ||| 1)≠0:=by decide +kernel
theorem law19seal_any (Z:List Int) (a:Option Addr) (g o c:Nat) (w:World) (hz:BytesAt w g o Z) (ha:0<Z.length→a=some ⟨g,o,none⟩) (hl:Z.length≤10000000) :
  Calls Tryz.prog 16 #[.slice a Z.length c] w fun e w'=>∃ (g:Nat) (C:List Int),e=.returned (.slice (some ⟨g,0,none⟩) (sealL Z).length C.length)∧BytesAt w' g 0 (sealL Z)∧(sealL Z).length≤C.length∧Chg (fun _=>False) w w':=by
 have H:=jh (refSeal_any Z a g o c w hz ha hl)
 clear hz ha
 go_enter Tryz.func16,Tryz.ntmps16
 go_wp2_with fail
 refine H.out.mono ?_
 rintro e w1 ⟨v,rfl,ho,hc⟩
 rcases ho with ⟨-,h0⟩|⟨g',C,rfl,-,hr,hp,-⟩
 ·have:=sealL_length Z
  rw [h0] at this
  simp at this
 have HB:Hid (BytesAt w1 g' 0 (sealL Z)∧(sealL Z).length≤C.length∧Chg (fun _=>False) w w1):=jh ⟨hr.bytes hp,hp.length_le,hc⟩
 clear hr hp hc
 go_wp2
 go_ret
 exact⟨g',C,rfl,HB.out.1,HB.out.2.1,HB.out.2.2⟩
theorem codesTurned_any (t:TabsD) (m:TabsS) (at' by':Nat) (S:Nat→Prop) (w:World) (h:TabsIn w S m t) (hv:VastT t) (hat:at'≤65535) (hby:by'≤255) :
  Calls Tryz.prog 6 #[tabsV m,.int .u16 at',.int .u8 by'] w fun e w'=>e=.returned (.bool true)∧Chg (fun _=>False) w w':=by
 obtain⟨⟨a0,n0,c0⟩,⟨a1,n1,c1⟩,⟨a2,n2,c2⟩,⟨⟨a3,n3,c3⟩,⟨a4,n4,c4⟩,⟨a5,n5,c5⟩,⟨a6,n6,c6⟩⟩,⟨⟨a7,n7,c7⟩,⟨a8,n8,c8⟩,⟨a9,n9,c9⟩,⟨a10,n10,c10⟩,⟨a11,n11,c11⟩⟩,⟨a12,n12,c12⟩⟩:=m
 have HT0:=jh h
 have HV:=jh hv
 obtain⟨h0,h1,h2,⟨h3,h4,h5,h6⟩,⟨h7,h8,h9,h10,h11⟩,h12⟩:=h
 obtain⟨rfl,-⟩:=h0.len
 obtain⟨rfl,-⟩:=h1.len
 obtain⟨rfl,-⟩:=h2.len
 obtain⟨rfl,-⟩:=h3.len
 obtain⟨rfl,-⟩:=h4.len
 obtain⟨rfl,-⟩:=h5.len
 obtain⟨rfl,-⟩:=h6.len
 obtain⟨rfl,-⟩:=h7.len
 obtain⟨rfl,-⟩:=h8.len
 obtain⟨rfl,-⟩:=h9.len
 obtain⟨rfl,-⟩:=h10.len
 obtain⟨rfl,-⟩:=h11.len
 obtain⟨rfl,-⟩:=h12.len
 clear h0 h1 h2 h3 h4 h5 h6 h7 h8 h9 h10 h11 h12 hv
 obtain⟨wa,hwa⟩:∃ W,W=w.alloc (.cells #[.slice a0 t.rl.length c0,.slice a1 t.tk.length c1,.slice a2 t.dr.length c2,.slice a3 t.lx.r.length c3,.slice a4 t.lx.c.length c4,.slice a5 t.lx.n.length c5,.slice a6 t.lx.e.length c6,.slice a7 t.nt.st.length c7,.slice a8 t.nt.s.length c8,.slice a9 t.nt.p.length c9,.slice a10 t.nt.q.length c10,.slice a11 t.nt.d.length c11,.slice a12 t.lk.length c12] 34):=⟨_,rfl⟩
 have HCA:Hid (Chg (fun _=>False) w wa):=jh (by rw [hwa];exact (Chg.refl _ w).alloc _)
 have HC:Hid (∀ X,Chg (fun _=>False) wa X→∀ j v,([.slice a0 t.rl.length c0,.slice a1 t.tk.length c1,.slice a2 t.dr.length c2,.slice a3 t.lx.r.length c3,.slice a4 t.lx.c.length c4,.slice a5 t.lx.n.length c5,.slice a6 t.lx.e.length c6,.slice a7 t.nt.st.length c7,.slice a8 t.nt.s.length c8,.slice a9 t.nt.p.length c9,.slice a10 t.nt.q.length c10,.slice a11 t.nt.d.length c11,.slice a12 t.lk.length c12]:List Value)[j]?=some v→X.cell? ⟨w.heap.size,j,none⟩=some v):=jh (fun X hx j v hv=>hx.cellS (by
  rw [hwa];exact allocAt _ rfl (by rw [← Array.getElem?_toList];exact hv)) (fun h=>h))
 have HTV:Hid (∀ X,Chg (fun _=>False) wa X→TabsIn X S ⟨(a0,t.rl.length,c0),(a1,t.tk.length,c1),(a2,t.dr.length,c2),⟨(a3,t.lx.r.length,c3),(a4,t.lx.c.length,c4),(a5,t.lx.n.length,c5),(a6,t.lx.e.length,c6)⟩,⟨(a7,t.nt.st.length,c7),(a8,t.nt.s.length,c8),(a9,t.nt.p.length,c9),(a10,t.nt.q.length,c10),(a11,t.nt.d.length,c11)⟩,(a12,t.lk.length,c12)⟩ t):=jh (fun X hx=>TabsIn.good.chg HT0.out (HCA.out.trans hx) (fun _ _ h=>h))
 have HKI:Hid (∀ s∈t.nt.st,∀ e∈s.2.1,0≤e.1):=jh (fun s hs e he=>(HT0.out.nt.kinds s hs e he).1)
 clear HT0
 obtain⟨bv,hbv⟩:∃ b,b=w.heap.size:=⟨_,rfl⟩
 rw [← hbv] at HC
 have v0:=HC.out wa (Chg.refl _ _) 0 _ rfl
 have v1:=HC.out wa (Chg.refl _ _) 1 _ rfl
 have v2:=HC.out wa (Chg.refl _ _) 2 _ rfl
 have v3:=HC.out wa (Chg.refl _ _) 3 _ rfl
 have v4:=HC.out wa (Chg.refl _ _) 4 _ rfl
 have v5:=HC.out wa (Chg.refl _ _) 5 _ rfl
 have v6:=HC.out wa (Chg.refl _ _) 6 _ rfl
 have v7:=HC.out wa (Chg.refl _ _) 7 _ rfl
 have v8:=HC.out wa (Chg.refl _ _) 8 _ rfl
 have v9:=HC.out wa (Chg.refl _ _) 9 _ rfl
 have v10:=HC.out wa (Chg.refl _ _) 10 _ rfl
 have v11:=HC.out wa (Chg.refl _ _) 11 _ rfl
 have v12:=HC.out wa (Chg.refl _ _) 12 _ rfl
 show Calls Tryz.prog 6 #[.agg #[.slice a0 t.rl.length c0,.slice a1 t.tk.length c1,.slice a2 t.dr.length c2,.slice a3 t.lx.r.length c3,.slice a4 t.lx.c.length c4,.slice a5 t.lx.n.length c5,.slice a6 t.lx.e.length c6,.slice a7 t.nt.st.length c7,.slice a8 t.nt.s.length c8,.slice a9 t.nt.p.length c9,.slice a10 t.nt.q.length c10,.slice a11 t.nt.d.length c11,.slice a12 t.lk.length c12],.int .u16 at',.int .u8 by'] w _
 go_enter Tryz.func6,Tryz.ntmps6
 go_upto_region 1 with (fail)
 rw [← hwa,← hbv]
 clear hwa hbv
 go_wp2_with fail
 refine (greatT_any t ⟨(a0,t.rl.length,c0),(a1,t.tk.length,c1),(a2,t.dr.length,c2),⟨(a3,t.lx.r.length,c3),(a4,t.lx.c.length,c4),(a5,t.lx.n.length,c5),(a6,t.lx.e.length,c6)⟩,⟨(a7,t.nt.st.length,c7),(a8,t.nt.s.length,c8),(a9,t.nt.p.length,c9),(a10,t.nt.q.length,c10),(a11,t.nt.d.length,c11)⟩,(a12,t.lk.length,c12)⟩ S wa (HTV.out wa (Chg.refl _ _)) HV.out).mono ?_
 rintro e w1 ⟨g,rfl,hg,hc1⟩
 have HX1:=jh hc1
 have HG:=jh hg
 clear hc1 hg v0 v1 v2 v3 v4 v5 v6 v7 v8 v9 v10 v11 v12
 cases g with
 | true =>
  go_wp2_with fail
  refine (lives_any w1).mono ?_
  rintro e w2 ⟨rfl,hc2⟩
  have HX2:=jh ((HCA.out.trans HX1.out).trans hc2)
  clear hc2
  go_wp2
  go_ret
  exact⟨rfl,HX2.out⟩
 | false =>
  have HF:Hid (Fit t):=jh (by
   obtain⟨h1,h2⟩:=HG.out rfl
   exact (NotGreat.mk h1 h2).fit HKI.out)
  have v0:=HC.out w1 HX1.out 0 _ rfl
  have v1:=HC.out w1 HX1.out 1 _ rfl
  have v2:=HC.out w1 HX1.out 2 _ rfl
  have v3:=HC.out w1 HX1.out 3 _ rfl
  have v4:=HC.out w1 HX1.out 4 _ rfl
  have v5:=HC.out w1 HX1.out 5 _ rfl
  have v6:=HC.out w1 HX1.out 6 _ rfl
  have v7:=HC.out w1 HX1.out 7 _ rfl
  have v8:=HC.out w1 HX1.out 8 _ rfl
  have v9:=HC.out w1 HX1.out 9 _ rfl
  have v10:=HC.out w1 HX1.out 10 _ rfl
  have v11:=HC.out w1 HX1.out 11 _ rfl
  have v12:=HC.out w1 HX1.out 12 _ rfl
  go_wp2_with fail
  refine (put_tabs t ⟨(a0,t.rl.length,c0),(a1,t.tk.length,c1),(a2,t.dr.length,c2),⟨(a3,t.lx.r.length,c3),(a4,t.lx.c.length,c4),(a5,t.lx.n.length,c5),(a6,t.lx.e.length,c6)⟩,⟨(a7,t.nt.st.length,c7),(a8,t.nt.s.length,c8),(a9,t.nt.p.length,c9),(a10,t.nt.q.length,c10),(a11,t.nt.d.length,c11)⟩,(a12,t.lk.length,c12)⟩ S w1 (HTV.out w1 HX1.out) HF.out.f HF.out.p).mono ?_
  rintro e w2 ⟨hc2,h2⟩
  have HX2:=jh (HX1.out.trans hc2)
  have HS2:Hid (w1.heap.size≤w2.heap.size):=jh hc2.size
  clear hc2 v0 v1 v2 v3 v4 v5 v6 v7 v8 v9 v10 v11 v12
  rcases h2 with ⟨hm,rfl⟩|⟨hm,h,rfl,hlo,hrow⟩
  ·clear hm
   go_wp2_with fail
   refine (lives_any w2).mono ?_
   rintro e w4 ⟨rfl,hc4⟩
   have HX4:=jh ((HCA.out.trans HX2.out).trans hc4)
   clear hc4
   go_wp2
   go_ret
   exact⟨rfl,HX4.out⟩
  ·have HZL:Hid ((ptTabs t).length≤5000000∧4≤(ptTabs t).length):=jh ⟨HF.out.l hm,by unfold ptTabs;rw [List.length_append];have:headL.length=4:=rfl;omega⟩
   obtain⟨Z,hZ⟩:∃ Z,ptTabs t=Z:=⟨_,rfl⟩
   rw [hZ] at hrow HZL ⊢
   have HZB:Hid (∀ a∈Z,Byte a):=jh (fun a ha=>hrow.byte a (by unfold sealL;exact List.mem_append_left _ ha))
   clear hZ hm
   have hsl:=sealL_length Z
   obtain⟨L,hL⟩:∃ L,sealL Z=L:=⟨_,rfl⟩
   rw [hL] at hrow hsl ⊢
   have HL:=jh hL
   have HSL:=jh hsl
   clear hL hsl
   have hz1:=HZL.out.1
   have hz2:=HZL.out.2
   have hi1:(L.length:Int)=(Z.length:Int)+4:=by have:=HSL.out;omega
   have hi2:Z.length≤L.length:=by have:=HSL.out;omega
   have hi3:IntKind.i64.wrap ((Z.length:Int)+4)=(Z.length:Int)+4:=by rw [IntKind.wrap_i64];omega
   have hi4:(Z.length:Int)≤(Z.length:Int)+4:=by omega
   have hi5:decide ((Z.length:Int)+4<5)=false:=by simp;omega
   obtain⟨K,hKd⟩:∃ K:Nat,at' % (Z.length+4)=K:=⟨_,rfl⟩
   have hK1:(at':Int) % ((Z.length:Int)+4)=(K:Int):=by rw [← hKd];simp
   have hK2:K<L.length:=by have:=HSL.out;rw [this,← hKd];exact Nat.mod_lt _ (by omega)
   have hK3:(K:Int)<(Z.length:Int)+4:=by have:=HSL.out;omega
   have HK2:=jh hK2
   obtain⟨x,hx⟩:∃ x,L[K]?=some x:=⟨_,List.getElem?_eq_getElem hK2⟩
   have c9:=hrow.c K x hx
   have z9:=hrow.z K
   have hxb:=hrow.byte x (List.mem_of_getElem? hx)
   obtain⟨hb1,hb2,hb3⟩:=or1F ⟨by',by omega⟩
   simp only at hb1 hb2 hb3
   obtain⟨bb,hbb⟩:∃ b,by' ||| 1=b:=⟨_,rfl⟩
   rw [hbb] at hb1 hb2 hb3
   obtain⟨V,hV⟩:∃ V:Int,bits BinOp.xor IntKind.u8 x bb=V:=⟨_,rfl⟩
   have hVb:Byte V:=by rw [← hV];exact bounds_u8 (wf_bits BinOp.xor IntKind.u8 _ _)
   have hVx:V≠x:=fun e=>by
    obtain⟨xn,rfl⟩:=Int.eq_ofNat_of_zero_le hxb.1
    have hx2:=hxb.2
    rw [← hV,xor8 xn bb (by omega) (by omega)] at e
    have e2:xn ^^^ bb=xn ^^^ 0:=by rw [Nat.xor_zero];exact_mod_cast e
    exact hb3 (xor_left e2)
   obtain⟨L',hL'⟩:∃ L',L.set K V=L':=⟨_,rfl⟩
   have HGR:Hid (getR L'=(5,none)):=jh (by rw [← hL',← HL.out];exact getR_turned HZB.out (by rw [HL.out];exact hx) hVb hVx)
   obtain⟨w3,hw3⟩:∃ X,X=w2.setCell ⟨h,K,none⟩ (.int .u8 V):=⟨_,rfl⟩
   have HLL:Hid (L'.length=L.length):=jh (by rw [← hL',List.length_set])
   have HR3:Hid (Row w3 h L'):=jh (by rw [hw3,← hL'];exact hrow.set1 hK2 hVb)
   have hsc:Chg (·=h) w2 w3:=by rw [hw3];exact setCellChg _ _ _ _
   have HX3:Hid (Chg (fun _=>False) wa w3):=jh (HX2.out.trans2 hsc (fun k hk e=>by have:=HX1.out.size;omega))
   clear hsc
   have HGET:Hid (Calls Tryz.prog 18 #[.slice (some ⟨h,0,none⟩) L.length L.length] w3 (GetPost w3 L')):=jh (by
    have:=get_any L' (some ⟨h,0,none⟩) h 0 L'.length w3 (HR3.out.bytes (List.prefix_refl _)) (fun _=>rfl) (Nat.le_refl _) (by have:=HLL.out;have:=HSL.out;omega)
    rwa [HLL.out] at this)
   have HW3:=jh hw3
   clear hw3 hL' hx hxb hVb hVx hKd hbb hb2 hb3 hrow hlo
   go_wp2_with fail
   rw [← HW3.out]
   refine HGET.out.mono ?_
   rintro e w4 ⟨hc4,m1,rfl,h4⟩
   rw [HGR.out] at h4 ⊢
   obtain rfl:m1=nilT:=by
    rcases h4 with ⟨-,h⟩|⟨t',ht,-⟩
    ·exact h
    ·cases ht
   clear h4
   simp only [tabsV,slV,nilT]
   have HX4:=jh (HX3.out.trans hc4)
   have HR4:=jh (HR3.out.chg hc4 (fun h=>h))
   clear hc4 c9 z9 hb1 hV
   by_cases hkn:K<Z.length
   ·have hd:decide ((K:Int)<(Z.length:Int))=true:=by simp;omega
    obtain⟨w5,hw5⟩:∃ X,X=w4.alloc (.cells #[.slice none 0 0,.slice none 0 0,.slice none 0 0,.slice none 0 0,.slice none 0 0,.slice none 0 0,.slice none 0 0,.slice none 0 0,.slice none 0 0,.slice none 0 0,.slice none 0 0,.slice none 0 0,.slice none 0 0] 34):=⟨_,rfl⟩
    have HX5:=jh (show Chg (fun _=>False) wa w5∧Chg (fun _=>False) w4 w5 from by rw [hw5];exact⟨HX4.out.alloc _,(Chg.refl _ _).alloc _⟩)
    obtain⟨Z',hZ'⟩:∃ X,L'.take Z.length=X:=⟨_,rfl⟩
    have HZL':Hid (Z'.length=Z.length):=jh (by rw [← hZ',List.length_take,HLL.out,HSL.out];omega)
    have HR5:=jh (HR4.out.chg HX5.out.2 (fun h=>h))
    have HZB':Hid (∀ a∈Z',Byte a):=jh (fun a ha=>HR5.out.byte a (by rw [← hZ'] at ha;exact List.mem_of_mem_take ha))
    have HSEAL:Hid (Calls Tryz.prog 16 #[.slice (some ⟨h,0,none⟩) Z.length L.length] w5 fun e w'=>∃ (g:Nat) (C:List Int),e=.returned (.slice (some ⟨g,0,none⟩) (sealL Z').length C.length)∧BytesAt w' g 0 (sealL Z')∧(sealL Z').length≤C.length∧Chg (fun _=>False) w5 w'):=jh (by
     have:=law19seal_any Z' (some ⟨h,0,none⟩) h 0 L.length w5 (HR5.out.bytes (by rw [← hZ'];exact List.take_prefix _ _)) (fun _=>rfl) (by rw [HZL'.out];omega)
     rwa [HZL'.out] at this)
    have hsl':=sealL_length Z'
    obtain⟨D,hD⟩:∃ D,sealL Z'=D:=⟨_,rfl⟩
    have HGD:Hid (getR D=getB (tabsG Z')):=jh (by rw [← hD];exact getR_seal Z')
    rw [hD] at HSEAL hsl'
    have HD:=jh hD
    have HDL:Hid (D.length≤5000004):=jh (by have:=HZL'.out;omega)
    have HW5:=jh hw5
    clear hw5 hZ' hD hsl'
    have hi6:(Z.length:Int)≤(L.length:Int):=by omega
    go_wp2_with fail
    rw [← HW5.out]
    refine HSEAL.out.mono ?_
    rintro e w6 ⟨g,C,rfl,hbd,hcl,hc6⟩
    have HX6:=jh (HX5.out.1.trans hc6)
    have HBD:Hid (∀ X,Chg (fun _=>False) w6 X→BytesAt X g 0 D):=jh (fun X hx=>hbd.chg hx (fun _ h=>h))
    have HCL:=jh hcl
    clear hbd hcl hc6
    go_wp2_with fail
    refine (get_any D (some ⟨g,0,none⟩) g 0 C.length w6 (HBD.out w6 (Chg.refl _ _)) (fun _=>rfl) HCL.out (by have:=HDL.out;omega)).mono ?_
    rintro e w7 ⟨hc7,m2,rfl,h7⟩
    rw [HGD.out] at h7 ⊢
    have HX7:=jh (HX6.out.trans hc7)
    have HC67:=jh hc7
    clear hc7
    cases htb:tabsG Z' with
    | none =>
     rw [htb] at h7
     obtain rfl:m2=nilT:=by
      rcases h7 with ⟨-,h⟩|⟨t',ht,-⟩
      ·exact h
      ·cases ht
     clear h7
     simp only [tabsV,slV,nilT,getB]
     clear htb
     go_wp2_with fail
     refine (lives_any _).mono ?_
     rintro e w8 ⟨rfl,hc8⟩
     have HX8:=jh ((HCA.out.trans (HX7.out.alloc _)).trans hc8)
     clear hc8
     go_wp2
     go_ret
     exact⟨rfl,HX8.out⟩
    | some t' =>
     rw [htb] at h7
     rcases h7 with ⟨ht,-⟩|⟨t2,ht,hin⟩
     ·cases ht
     obtain rfl:t'=t2:=Option.some.inj ht
     obtain⟨f1,f2,f3,f4⟩:=read_fit HZB'.out (by have:=HZL'.out;omega) htb
     have HFF:=jh (show _∧_∧_∧_ from ⟨f1,f2,f3,f4⟩)
     obtain⟨⟨x0,y0,z0⟩,⟨x1,y1,z1⟩,⟨x2,y2,z2⟩,⟨⟨x3,y3,z3⟩,⟨x4,y4,z4⟩,⟨x5,y5,z5⟩,⟨x6,y6,z6⟩⟩,⟨⟨x7,y7,z7⟩,⟨x8,y8,z8⟩,⟨x9,y9,z9⟩,⟨x10,y10,z10⟩,⟨x11,y11,z11⟩⟩,⟨x12,y12,z12⟩⟩:=m2
     simp only [tabsV,slV,getB]
     obtain⟨w8,hw8⟩:∃ X,X=w7.alloc (.cells #[.slice x0 y0 z0,.slice x1 y1 z1,.slice x2 y2 z2,.slice x3 y3 z3,.slice x4 y4 z4,.slice x5 y5 z5,.slice x6 y6 z6,.slice x7 y7 z7,.slice x8 y8 z8,.slice x9 y9 z9,.slice x10 y10 z10,.slice x11 y11 z11,.slice x12 y12 z12] 34):=⟨_,rfl⟩
     have HX8:Hid (Chg (fun _=>False) wa w8∧Chg (fun _=>False) w7 w8):=jh (by rw [hw8];exact⟨HX7.out.alloc _,(Chg.refl _ _).alloc _⟩)
     obtain⟨bm,hbm⟩:∃ b,b=w7.heap.size:=⟨_,rfl⟩
     have HU:Hid (∀ X,Chg (fun _=>False) w8 X→∀ j v,([.slice x0 y0 z0,.slice x1 y1 z1,.slice x2 y2 z2,.slice x3 y3 z3,.slice x4 y4 z4,.slice x5 y5 z5,.slice x6 y6 z6,.slice x7 y7 z7,.slice x8 y8 z8,.slice x9 y9 z9,.slice x10 y10 z10,.slice x11 y11 z11,.slice x12 y12 z12]:List Value)[j]?=some v→X.cell? ⟨bm,j,none⟩=some v):=jh (fun X hx j v hv=>hx.cellS (by rw [hw8];exact allocAt _ hbm (by rw [← Array.getElem?_toList];exact hv)) (fun h=>h))
     have HTU:Hid (∀ X,Chg (fun _=>False) w8 X→TabsIn X (fun k=>w6.heap.size≤k) ⟨(x0,y0,z0),(x1,y1,z1),(x2,y2,z2),⟨(x3,y3,z3),(x4,y4,z4),(x5,y5,z5),(x6,y6,z6)⟩,⟨(x7,y7,z7),(x8,y8,z8),(x9,y9,z9),(x10,y10,z10),(x11,y11,z11)⟩,(x12,y12,z12)⟩ t'):=jh (fun X hx=>TabsIn.good.chg hin (HX8.out.2.trans hx) (fun _ _ h=>h))
     have HW8:=jh hw8
     have HBM:=jh hbm
     clear hw8 hbm hin ht htb f1 f2 f3 f4
     go_upto_region 15 with (fail)
     rw [← HW8.out,← HBM.out]
     have u0:=HU.out w8 (Chg.refl _ _) 0 _ rfl
     have u1:=HU.out w8 (Chg.refl _ _) 1 _ rfl
     have u2:=HU.out w8 (Chg.refl _ _) 2 _ rfl
     have u3:=HU.out w8 (Chg.refl _ _) 3 _ rfl
     have u4:=HU.out w8 (Chg.refl _ _) 4 _ rfl
     have u5:=HU.out w8 (Chg.refl _ _) 5 _ rfl
     have u6:=HU.out w8 (Chg.refl _ _) 6 _ rfl
     have u7:=HU.out w8 (Chg.refl _ _) 7 _ rfl
     have u8:=HU.out w8 (Chg.refl _ _) 8 _ rfl
     have u9:=HU.out w8 (Chg.refl _ _) 9 _ rfl
     have u10:=HU.out w8 (Chg.refl _ _) 10 _ rfl
     have u11:=HU.out w8 (Chg.refl _ _) 11 _ rfl
     have u12:=HU.out w8 (Chg.refl _ _) 12 _ rfl
     go_wp2_with fail
     refine (put_tabs t' ⟨(x0,y0,z0),(x1,y1,z1),(x2,y2,z2),⟨(x3,y3,z3),(x4,y4,z4),(x5,y5,z5),(x6,y6,z6)⟩,⟨(x7,y7,z7),(x8,y8,z8),(x9,y9,z9),(x10,y10,z10),(x11,y11,z11)⟩,(x12,y12,z12)⟩ _ w8 (HTU.out w8 (Chg.refl _ _)) HFF.out.2.2.1 (fun _=>HFF.out.2.2.2)).mono ?_
     rintro e w9 ⟨hc9,h9⟩
     rcases h9 with ⟨hm,-⟩|⟨-,h',rfl,-,hrow'⟩
     ·rw [HFF.out.2.1] at hm;cases hm
     rw [← HFF.out.1,HD.out] at hrow' ⊢
     have HX9:=jh (HX8.out.1.trans hc9)
     have HC89:=jh hc9
     clear hc9 u0 u1 u2 u3 u4 u5 u6 u7 u8 u9 u10 u11 u12
     obtain⟨sz,hsz⟩:∃ s,strOfNums D=s:=⟨_,rfl⟩
     have q1:(convert 45 9 (.slice (some ⟨h',0,none⟩) D.length D.length)).run Tryz.prog w9=.ok (.string sz) w9:=by
      rw [← hsz]
      exact conv8 D.length (hrow'.bytes (List.prefix_refl _)) (fun _=>rfl)
     have q2:(convert 45 9 (.slice (some ⟨g,0,none⟩) D.length C.length)).run Tryz.prog w9=.ok (.string sz) w9:=by
      rw [← hsz]
      exact conv8 C.length (HBD.out w9 ((HC67.out.trans HX8.out.2).trans HC89.out)) (fun _=>rfl)
     clear hsz hrow'
     have u0:=HU.out w9 HC89.out 0 _ rfl
     have u1:=HU.out w9 HC89.out 1 _ rfl
     have u2:=HU.out w9 HC89.out 2 _ rfl
     have u3:=HU.out w9 HC89.out 3 _ rfl
     have u4:=HU.out w9 HC89.out 4 _ rfl
     have u5:=HU.out w9 HC89.out 5 _ rfl
     have u6:=HU.out w9 HC89.out 6 _ rfl
     have u7:=HU.out w9 HC89.out 7 _ rfl
     have u8:=HU.out w9 HC89.out 8 _ rfl
     have u9:=HU.out w9 HC89.out 9 _ rfl
     have u10:=HU.out w9 HC89.out 10 _ rfl
     have u11:=HU.out w9 HC89.out 11 _ rfl
     have u12:=HU.out w9 HC89.out 12 _ rfl
     go_wp2_with fail
     refine (may_tabs t' ⟨(x0,y0,z0),(x1,y1,z1),(x2,y2,z2),⟨(x3,y3,z3),(x4,y4,z4),(x5,y5,z5),(x6,y6,z6)⟩,⟨(x7,y7,z7),(x8,y8,z8),(x9,y9,z9),(x10,y10,z10),(x11,y11,z11)⟩,(x12,y12,z12)⟩ _ w9 (HTU.out w9 HC89.out) HFF.out.2.2.1).mono ?_
     rintro e w10 ⟨rfl,hc10⟩
     rw [HFF.out.2.1]
     have HX10:=jh (HX9.out.trans hc10)
     clear hc10 q1 q2 u0 u1 u2 u3 u4 u5 u6 u7 u8 u9 u10 u11 u12
     go_wp2_with fail
     refine (lives_any w10).mono ?_
     rintro e w11 ⟨rfl,hc11⟩
     have HX11:=jh ((HCA.out.trans HX10.out).trans hc11)
     clear hc11
     go_wp2
     go_ret
     exact⟨rfl,HX11.out⟩
   ·have hd:decide ((K:Int)<(Z.length:Int))=false:=by simp;omega
    go_wp2_with fail
    refine (lives_any _).mono ?_
    rintro e w5 ⟨rfl,hc5⟩
    have HX5:=jh ((HCA.out.trans (HX4.out.alloc _)).trans hc5)
    clear hc5
    go_wp2
    go_ret
    exact⟨rfl,HX5.out⟩
end Go.Proofs.YtgnpmceimpjheaaGreat
namespace Go.Proofs.YtgnpmceimpjheaaGreat
open Go.ChangeShapes Go.WideShapes Go.ChangeAt Go.RowKit Go.Deep Go.WideMaps
section
variable {H:Type} {enc:TypeId × Value→H} {W:World} {β δ:Type} {E:Elt β} {R:Rp β δ}
theorem list_choose {S:Nat→Prop} {Q:δ→Prop}:∀ (L:List β),(∀ x∈L,∃ d,R W S x d∧Q d)→∃ D:List δ,L.length=D.length∧(∀ (j:Nat) x d,L[j]?=some x→D[j]?=some d→R W S x d)∧∀ d∈D,Q d
 | [],_=>⟨[],rfl,fun j x d hx=>by simp at hx,fun d hd=>by cases hd⟩
 | x :: L,h=>by
  obtain⟨D,h1,h2,h3⟩:=list_choose L (fun y hy=>h y (by simp [hy]))
  obtain⟨d,h4,h5⟩:=h x (by simp)
  refine⟨d :: D,by simp [h1],fun j y e hy he=>?_,fun e he=>?_⟩
  ·cases j with
   | zero=>simp at hy he;subst hy he;exact h4
   | succ j=>simp at hy he;exact h2 j y e hy he
  ·rcases List.mem_cons.1 he with rfl|he
   ·exact h5
   ·exact h3 e he
end
section
variable {H:Type} {enc:TypeId × Value→H} {W:World}
theorem bounds_u8 {x:Int} (h:(Lit.int .u8 x).wf=true):U8 x:=by
 have e1:IntKind.u8.min=0:=rfl
 have e2:IntKind.u8.max=255:=rfl
 simp [Lit.wf,e1,e2] at h
 exact h
theorem c_int:Tryz.prog.cellsOf 3=1:=by kernel_rfl
theorem c_sint:Tryz.prog.cellsOf 25=1:=by kernel_rfl
theorem c_sstr:Tryz.prog.cellsOf 22=1:=by kernel_rfl
theorem c_sbool:Tryz.prog.cellsOf 23=1:=by kernel_rfl
theorem c_edge:Tryz.prog.cellsOf 72=1:=by kernel_rfl
theorem c_ledge:Tryz.prog.cellsOf 65=1:=by kernel_rfl
theorem c_lst:Tryz.prog.cellsOf 61=1:=by kernel_rfl
theorem c_st:Tryz.prog.cellsOf 29=1:=by kernel_rfl
theorem c_rng:Tryz.prog.cellsOf 24=1:=by kernel_rfl
theorem c_lint:Tryz.prog.cellsOf 26=1:=by kernel_rfl
theorem c_auto:Tryz.prog.cellsOf 32=1:=by kernel_rfl
theorem c_lex:Tryz.prog.cellsOf 28=4:=by kernel_rfl
theorem c_net:Tryz.prog.cellsOf 31=5:=by kernel_rfl
theorem c_kind:Tryz.prog.cellsOf 69=1:=by kernel_rfl
theorem c_lkind:Tryz.prog.cellsOf 64=1:=by kernel_rfl
theorem open_strs' {fuel:Nat} {cs:List Value} {d:DataW H} {p:List MemPlace} (h:DataW.trod enc Tryz.prog W 0 (fun _=>true) true fuel 22 cs=some (d,p)) (hz:∀ n∈d.weights Tryz.prog 22,n≤reachBytes) :
  ∃ (a:Option Addr) (c:Nat) (L:List Str),cs=[.slice a L.length c]∧strE.InS W (0≤·) (a,L.length,c) L∧L.length≤100000000000000∧∀ s∈L,s.size≤1000000000000000:=by
 obtain⟨a,c,L,h1,h2,h3,h4⟩:=open_list strE (by kernel_rfl) (by kernel_rfl) (fun s=>s.size≤1000000000000000) h hz (fun fuel cs' d' pl ht hl hz'=>by
  obtain⟨s,e,hx,_⟩:=DataW.trod_string Tryz.underlying9 ht
  simp only [Prod.mk.injEq] at hx
  obtain⟨rfl,-⟩:=hx
  refine⟨s,e,trivial,?_⟩
  have h5:=hz' s.data.toList.length (by rw [DataW.weights];exact List.mem_singleton.2 rfl)
  have h6:s.data.toList.length=s.size:=by rw [Array.length_toList];rfl
  have hrb:reachBytes=140737488351232:=rfl
  omega)
 exact⟨a,c,L,h1,h2,by have hrb:reachBytes=140737488351232:=rfl;have:strE.bs=16:=rfl;rw [this] at h4;omega,h3⟩
theorem open_bools' {fuel:Nat} {cs:List Value} {d:DataW H} {p:List MemPlace} (h:DataW.trod enc Tryz.prog W 0 (fun _=>true) true fuel 23 cs=some (d,p)) (hz:∀ n∈d.weights Tryz.prog 23,n≤reachBytes) :
  ∃ (a:Option Addr) (c:Nat) (L:List Bool),cs=[.slice a L.length c]∧boolE.InS W (0≤·) (a,L.length,c) L∧L.length≤200000000000000:=by
 obtain⟨a,c,L,h1,h2,-,h4⟩:=open_list boolE (by kernel_rfl) (by kernel_rfl) (fun _=>True) h hz (fun fuel cs' d' pl ht hl _=>by
  obtain⟨b,e,_⟩:=DataW.trod_bool Tryz.underlying4 ht
  exact⟨b,e,trivial,trivial⟩)
 exact⟨a,c,L,h1,h2,by have hrb:reachBytes=140737488351232:=rfl;have:boolE.bs=1:=rfl;rw [this] at h4;omega⟩
theorem open_lints {fuel:Nat} {cs:List Value} {d:DataW H} {p:List MemPlace} (h:DataW.trod enc Tryz.prog W 0 (fun _=>true) true fuel 26 cs=some (d,p)) (hz:∀ n∈d.weights Tryz.prog 26,n≤reachBytes) :
  ∃ (a:Option Addr) (c:Nat) (L:List (List Int)),cs=[.slice a L.length c]∧ListR listE (inR intE) W (0≤·) (a,L.length,c) L∧L.length≤100000000000000∧∀ l∈L,l.length≤100000000000000:=by
 obtain⟨a,c,X,h1,h2,h3,h4⟩:=open_list listE (by kernel_rfl) (by kernel_rfl) (fun x=>∃ d:List Int,inR intE W (0≤·) x d∧d.length≤100000000000000) h hz (fun fuel cs' d' pl ht hl hz'=>by
  obtain⟨a,c,L,h1,h2,h3⟩:=open_intE ht hz'
  exact⟨(a,L.length,c),h1,trivial,L,h2,h3⟩)
 obtain⟨D,g1,g2,g3⟩:=list_choose X h3
 rw [g1] at h1 h4 h2
 exact⟨a,c,D,h1,⟨X,h2,g1,g2⟩,by have hrb:reachBytes=140737488351232:=rfl;have:listE.bs=24:=rfl;rw [this] at h4;omega,g3⟩
theorem open_rngs' {fuel:Nat} {cs:List Value} {d:DataW H} {p:List MemPlace} (h:DataW.trod enc Tryz.prog W 0 (fun _=>true) true fuel 24 cs=some (d,p)) (hz:∀ n∈d.weights Tryz.prog 24,n≤reachBytes) :
  ∃ (a:Option Addr) (c:Nat) (L:List (Int × Int)),cs=[.slice a L.length c]∧rngE.InS W (0≤·) (a,L.length,c) L∧L.length≤100000000000000:=by
 obtain⟨a,c,L,h1,h2,-,h4⟩:=open_list rngE (by kernel_rfl) (by kernel_rfl) (fun _=>True) h hz (fun fuel cs' d' pl ht hl _=>by
  obtain⟨xs,n',_,_,_,hxl,hg⟩:=DataW.trod_struct Tryz.underlying117 ht
  match cs',hl with
  | [k0,k1],_ =>
   have hxs:xs.length=2:=hxl
   have g0:=hg 0 _ rfl
   have g1:=hg 1 _ rfl
   rw [List.getElem?_eq_getElem (by omega)] at g0 g1
   obtain⟨x0,e0,_,w0⟩:=DataW.trod_int Tryz.underlying21 g0
   obtain⟨x1,e1,_,w1⟩:=DataW.trod_int Tryz.underlying21 g1
   simp [i32Cells] at e0 e1
   subst e0 e1
   exact⟨(x0,x1),rfl,⟨bounds_i32 w0,bounds_i32 w1⟩,trivial⟩)
 exact⟨a,c,L,h1,h2,by have hrb:reachBytes=140737488351232:=rfl;have:rngE.bs=8:=rfl;rw [this] at h4;omega⟩
theorem open_edges {fuel:Nat} {cs:List Value} {d:DataW H} {p:List MemPlace} (h:DataW.trod enc Tryz.prog W 0 (fun _=>true) true fuel 72 cs=some (d,p)) (hz:∀ n∈d.weights Tryz.prog 72,n≤reachBytes) :
  ∃ (a:Option Addr) (c:Nat) (L:List EdgeD),cs=[.slice a L.length c]∧edgeE.InS W (0≤·) (a,L.length,c) L∧L.length≤100000000000000:=by
 obtain⟨a,c,L,h1,h2,-,h4⟩:=open_list edgeE (by kernel_rfl) (by kernel_rfl) (fun _=>True) h hz (fun fuel cs' d' pl ht hl _=>by
  obtain⟨xs,n',_,_,_,hxl,hg⟩:=DataW.trod_struct Tryz.underlying71 ht
  match cs',hl with
  | [k0,k1,k2],_ =>
   have hxs:xs.length=3:=hxl
   have g0:=hg 0 _ rfl
   have g1:=hg 1 _ rfl
   have g2:=hg 2 _ rfl
   rw [List.getElem?_eq_getElem (by omega)] at g0 g1 g2
   obtain⟨x0,e0,_,w0⟩:=DataW.trod_int Tryz.underlying69 g0
   obtain⟨x1,e1,_,w1⟩:=DataW.trod_int Tryz.underlying3 g1
   obtain⟨x2,e2,_,w2⟩:=DataW.trod_int Tryz.underlying3 g2
   simp [c_kind,c_int] at e0 e1 e2
   subst e0 e1 e2
   exact⟨(x0,x1,x2),rfl,⟨bounds_u8 w0,bounds_i64 w1,bounds_i64 w2⟩,trivial⟩)
 exact⟨a,c,L,h1,h2,by have hrb:reachBytes=140737488351232:=rfl;have:edgeE.bs=24:=rfl;rw [this] at h4;omega⟩
theorem open_ledges {fuel:Nat} {cs:List Value} {d:DataW H} {p:List MemPlace} (h:DataW.trod enc Tryz.prog W 0 (fun _=>true) true fuel 65 cs=some (d,p)) (hz:∀ n∈d.weights Tryz.prog 65,n≤reachBytes) :
  ∃ (a:Option Addr) (c:Nat) (L:List (Int × Int)),cs=[.slice a L.length c]∧ledgeE.InS W (0≤·) (a,L.length,c) L∧L.length≤100000000000000:=by
 obtain⟨a,c,L,h1,h2,-,h4⟩:=open_list ledgeE (by kernel_rfl) (by kernel_rfl) (fun _=>True) h hz (fun fuel cs' d' pl ht hl _=>by
  obtain⟨xs,n',_,_,_,hxl,hg⟩:=DataW.trod_struct Tryz.underlying149 ht
  match cs',hl with
  | [k0,k1],_ =>
   have hxs:xs.length=2:=hxl
   have g0:=hg 0 _ rfl
   have g1:=hg 1 _ rfl
   rw [List.getElem?_eq_getElem (by omega)] at g0 g1
   obtain⟨x0,e0,_,w0⟩:=DataW.trod_int Tryz.underlying3 g0
   obtain⟨x1,e1,_,w1⟩:=DataW.trod_int Tryz.underlying3 g1
   simp [c_int] at e0 e1
   subst e0 e1
   exact⟨(x0,x1),rfl,⟨bounds_i64 w0,bounds_i64 w1⟩,trivial⟩)
 exact⟨a,c,L,h1,h2,by have hrb:reachBytes=140737488351232:=rfl;have:ledgeE.bs=16:=rfl;rw [this] at h4;omega⟩
theorem open_sts {fuel:Nat} {cs:List Value} {d:DataW H} {p:List MemPlace} (h:DataW.trod enc Tryz.prog W 0 (fun _=>true) true fuel 29 cs=some (d,p)) (hz:∀ n∈d.weights Tryz.prog 29,n≤reachBytes) :
  ∃ (a:Option Addr) (c:Nat) (L:List StD),cs=[.slice a L.length c]∧ListR stE stR W (0≤·) (a,L.length,c) L∧L.length≤100000000000000∧∀ s∈L,s.2.1.length≤100000000000000∧s.2.2.length≤100000000000000:=by
 obtain⟨a,c,X,h1,h2,h3,h4⟩:=open_list stE (by kernel_rfl) (by kernel_rfl) (fun x=>∃ d:StD,stR W (0≤·) x d∧(d.2.1.length≤100000000000000∧d.2.2.length≤100000000000000)) h hz (fun fuel cs' d' pl ht hl hz'=>by
  obtain⟨xs,n',_,hd,_,hxl,hg⟩:=DataW.trod_struct Tryz.underlying74 ht
  simp only [Prod.mk.injEq] at hd
  obtain⟨rfl,-⟩:=hd
  match cs',hl with
  | [k0,k1,k2],_ =>
   have hxs:xs.length=3:=hxl
   have g0:=hg 0 _ rfl
   have g1:=hg 1 _ rfl
   have g2:=hg 2 _ rfl
   rw [List.getElem?_eq_getElem (by omega)] at g0 g1 g2
   obtain⟨x0,e0,_,w0⟩:=DataW.trod_int Tryz.underlying3 g0
   obtain⟨ea,ec,EE,e1,hE,hEl⟩:=open_edges (d:=xs[1].1) (p:=xs[1].2) g1 (fun n hn=>hz' n (weights_agg Tryz.underlying74 (i:=1) rfl (by rw [List.getElem?_map,List.getElem?_eq_getElem (by omega)];rfl) hn))
   obtain⟨da,dc,DD,e2,hD,hDl⟩:=open_intE (d:=xs[2].1) (p:=xs[2].2) g2 (fun n hn=>hz' n (weights_agg Tryz.underlying74 (i:=2) rfl (by rw [List.getElem?_map,List.getElem?_eq_getElem (by omega)];rfl) hn))
   simp [c_int,c_edge,c_sint] at e0 e1 e2
   subst e0 e1 e2
   exact⟨(x0,(ea,EE.length,ec),(da,DD.length,dc)),rfl,bounds_i64 w0,(x0,EE,DD),⟨rfl,bounds_i64 w0,hE,hD⟩,hEl,hDl⟩)
 obtain⟨D,g1,g2,g3⟩:=list_choose X h3
 rw [g1] at h1 h4 h2
 exact⟨a,c,D,h1,⟨X,h2,g1,g2⟩,by have hrb:reachBytes=140737488351232:=rfl;have:stE.bs=56:=rfl;rw [this] at h4;omega,g3⟩
theorem open_lsts {fuel:Nat} {cs:List Value} {d:DataW H} {p:List MemPlace} (h:DataW.trod enc Tryz.prog W 0 (fun _=>true) true fuel 61 cs=some (d,p)) (hz:∀ n∈d.weights Tryz.prog 61,n≤reachBytes) :
  ∃ (a:Option Addr) (c:Nat) (L:List LsD),cs=[.slice a L.length c]∧ListR lsE lsR W (0≤·) (a,L.length,c) L∧L.length≤100000000000000∧∀ s∈L,s.2.1.length≤100000000000000∧s.2.2.length≤100000000000000:=by
 obtain⟨a,c,X,h1,h2,h3,h4⟩:=open_list lsE (by kernel_rfl) (by kernel_rfl) (fun x=>∃ d:LsD,lsR W (0≤·) x d∧(d.2.1.length≤100000000000000∧d.2.2.length≤100000000000000)) h hz (fun fuel cs' d' pl ht hl hz'=>by
  obtain⟨xs,n',_,hd,_,hxl,hg⟩:=DataW.trod_struct Tryz.underlying67 ht
  simp only [Prod.mk.injEq] at hd
  obtain⟨rfl,-⟩:=hd
  match cs',hl with
  | [k0,k1,k2],_ =>
   have hxs:xs.length=3:=hxl
   have g0:=hg 0 _ rfl
   have g1:=hg 1 _ rfl
   have g2:=hg 2 _ rfl
   rw [List.getElem?_eq_getElem (by omega)] at g0 g1 g2
   obtain⟨x0,e0,_,w0⟩:=DataW.trod_int Tryz.underlying64 g0
   obtain⟨ea,ec,EE,e1,hE,hEl⟩:=open_intE (d:=xs[1].1) (p:=xs[1].2) g1 (fun n hn=>hz' n (weights_agg Tryz.underlying67 (i:=1) rfl (by rw [List.getElem?_map,List.getElem?_eq_getElem (by omega)];rfl) hn))
   obtain⟨da,dc,DD,e2,hD,hDl⟩:=open_ledges (d:=xs[2].1) (p:=xs[2].2) g2 (fun n hn=>hz' n (weights_agg Tryz.underlying67 (i:=2) rfl (by rw [List.getElem?_map,List.getElem?_eq_getElem (by omega)];rfl) hn))
   simp [c_lkind,c_sint,c_ledge] at e0 e1 e2
   subst e0 e1 e2
   exact⟨(x0,(ea,EE.length,ec),(da,DD.length,dc)),rfl,bounds_u8 w0,(x0,EE,DD),⟨rfl,bounds_u8 w0,hE,hD⟩,hEl,hDl⟩)
 obtain⟨D,g1,g2,g3⟩:=list_choose X h3
 rw [g1] at h1 h4 h2
 exact⟨a,c,D,h1,⟨X,h2,g1,g2⟩,by have hrb:reachBytes=140737488351232:=rfl;have:lsE.bs=56:=rfl;rw [this] at h4;omega,g3⟩
theorem open_autos {fuel:Nat} {cs:List Value} {d:DataW H} {p:List MemPlace} (h:DataW.trod enc Tryz.prog W 0 (fun _=>true) true fuel 32 cs=some (d,p)) (hz:∀ n∈d.weights Tryz.prog 32,n≤reachBytes) :
  ∃ (a:Option Addr) (c:Nat) (L:List (List LsD)),cs=[.slice a L.length c]∧ListR autoE autoR W (0≤·) (a,L.length,c) L∧L.length≤100000000000000∧∀ A∈L,A.length≤100000000000000∧∀ s∈A,s.2.1.length≤100000000000000∧s.2.2.length≤100000000000000:=by
 obtain⟨a,c,X,h1,h2,h3,h4⟩:=open_list autoE (by kernel_rfl) (by kernel_rfl) (fun x=>∃ d:List LsD,autoR W (0≤·) x d∧(d.length≤100000000000000∧∀ s∈d,s.2.1.length≤100000000000000∧s.2.2.length≤100000000000000)) h hz (fun fuel cs' d' pl ht hl hz'=>by
  obtain⟨xs,n',_,hd,_,hxl,hg⟩:=DataW.trod_struct Tryz.underlying63 ht
  simp only [Prod.mk.injEq] at hd
  obtain⟨rfl,-⟩:=hd
  match cs',hl with
  | [k0],_ =>
   have hxs:xs.length=1:=hxl
   have g0:=hg 0 _ rfl
   rw [List.getElem?_eq_getElem (by omega)] at g0
   obtain⟨ea,ec,EE,e0,hE,hEl,hEs⟩:=open_lsts (d:=xs[0].1) (p:=xs[0].2) g0 (fun n hn=>hz' n (weights_agg Tryz.underlying63 (i:=0) rfl (by rw [List.getElem?_map,List.getElem?_eq_getElem (by omega)];rfl) hn))
   simp [c_lst] at e0
   subst e0
   exact⟨(ea,EE.length,ec),rfl,trivial,EE,hE,hEl,hEs⟩)
 obtain⟨D,g1,g2,g3⟩:=list_choose X h3
 rw [g1] at h1 h4 h2
 exact⟨a,c,D,h1,⟨X,h2,g1,g2⟩,by have hrb:reachBytes=140737488351232:=rfl;have:autoE.bs=24:=rfl;rw [this] at h4;omega,g3⟩
theorem open_lex {fuel:Nat} {cs:List Value} {d:DataW H} {p:List MemPlace} (h:DataW.trod enc Tryz.prog W 0 (fun _=>true) true fuel 28 cs=some (d,p)) (hz':∀ n∈d.weights Tryz.prog 28,n≤reachBytes) (hl:cs.length=4) :
  ∃ (t:LexD) (m:LexS),cs=[slV m.r,slV m.c,slV m.n,slV m.e]∧LexIn W (0≤·) m t∧Vast t:=by
 obtain⟨xs,n',_,hd,_,hxl,hg⟩:=DataW.trod_struct Tryz.underlying28 h
 simp only [Prod.mk.injEq] at hd
 obtain⟨rfl,-⟩:=hd
 match cs,hl with
 | [k0,k1,k2,k3],_ =>
  have hxs:xs.length=4:=hxl
  have g0:=hg 0 _ rfl
  have g1:=hg 1 _ rfl
  have g2:=hg 2 _ rfl
  have g3:=hg 3 _ rfl
  rw [List.getElem?_eq_getElem (by omega)] at g0 g1 g2 g3
  obtain⟨ra,rc,R,e0,hR,hRl⟩:=open_rngs' (d:=xs[0].1) (p:=xs[0].2) g0 (fun n hn=>hz' n (weights_agg Tryz.underlying28 (i:=0) rfl (by rw [List.getElem?_map,List.getElem?_eq_getElem (by omega)];rfl) hn))
  obtain⟨ca,cc,C,e1,hC,hCl⟩:=open_intE (d:=xs[1].1) (p:=xs[1].2) g1 (fun n hn=>hz' n (weights_agg Tryz.underlying28 (i:=1) rfl (by rw [List.getElem?_map,List.getElem?_eq_getElem (by omega)];rfl) hn))
  obtain⟨na,nc,N,e2,hN,hNl,hNr⟩:=open_lints (d:=xs[2].1) (p:=xs[2].2) g2 (fun n hn=>hz' n (weights_agg Tryz.underlying28 (i:=2) rfl (by rw [List.getElem?_map,List.getElem?_eq_getElem (by omega)];rfl) hn))
  obtain⟨ea,ec,E,e3,hE,hEl⟩:=open_intE (d:=xs[3].1) (p:=xs[3].2) g3 (fun n hn=>hz' n (weights_agg Tryz.underlying28 (i:=3) rfl (by rw [List.getElem?_map,List.getElem?_eq_getElem (by omega)];rfl) hn))
  simp [c_rng,c_sint,c_lint] at e0 e1 e2 e3
  subst e0 e1 e2 e3
  exact⟨⟨R,C,N,E⟩,⟨(ra,R.length,rc),(ca,C.length,cc),(na,N.length,nc),(ea,E.length,ec)⟩,rfl,⟨hR,hC,hN,hE⟩,⟨hRl,hCl,hNl,hEl,hNr⟩⟩
theorem open_net {fuel:Nat} {cs:List Value} {d:DataW H} {p:List MemPlace} (h:DataW.trod enc Tryz.prog W 0 (fun _=>true) true fuel 31 cs=some (d,p)) (hz':∀ n∈d.weights Tryz.prog 31,n≤reachBytes) (hl:cs.length=5) :
  ∃ (t:NetD) (m:NetS),cs=[slV m.st,slV m.s,slV m.p,slV m.q,slV m.d]∧NetIn W (0≤·) m t∧VastN t:=by
 obtain⟨xs,n',_,hd,_,hxl,hg⟩:=DataW.trod_struct Tryz.underlying31 h
 simp only [Prod.mk.injEq] at hd
 obtain⟨rfl,-⟩:=hd
 match cs,hl with
 | [k0,k1,k2,k3,k4],_ =>
  have hxs:xs.length=5:=hxl
  have g0:=hg 0 _ rfl
  have g1:=hg 1 _ rfl
  have g2:=hg 2 _ rfl
  have g3:=hg 3 _ rfl
  have g4:=hg 4 _ rfl
  rw [List.getElem?_eq_getElem (by omega)] at g0 g1 g2 g3 g4
  obtain⟨sa,sc,ST,e0,hS,hSl,hSs⟩:=open_sts (d:=xs[0].1) (p:=xs[0].2) g0 (fun n hn=>hz' n (weights_agg Tryz.underlying31 (i:=0) rfl (by rw [List.getElem?_map,List.getElem?_eq_getElem (by omega)];rfl) hn))
  obtain⟨a1,c1,L1,e1,h1,l1⟩:=open_intE (d:=xs[1].1) (p:=xs[1].2) g1 (fun n hn=>hz' n (weights_agg Tryz.underlying31 (i:=1) rfl (by rw [List.getElem?_map,List.getElem?_eq_getElem (by omega)];rfl) hn))
  obtain⟨a2,c2,L2,e2,h2,l2⟩:=open_intE (d:=xs[2].1) (p:=xs[2].2) g2 (fun n hn=>hz' n (weights_agg Tryz.underlying31 (i:=2) rfl (by rw [List.getElem?_map,List.getElem?_eq_getElem (by omega)];rfl) hn))
  obtain⟨a3,c3,L3,e3,h3,l3⟩:=open_intE (d:=xs[3].1) (p:=xs[3].2) g3 (fun n hn=>hz' n (weights_agg Tryz.underlying31 (i:=3) rfl (by rw [List.getElem?_map,List.getElem?_eq_getElem (by omega)];rfl) hn))
  obtain⟨a4,c4,L4,e4,h4,l4⟩:=open_intE (d:=xs[4].1) (p:=xs[4].2) g4 (fun n hn=>hz' n (weights_agg Tryz.underlying31 (i:=4) rfl (by rw [List.getElem?_map,List.getElem?_eq_getElem (by omega)];rfl) hn))
  simp [c_st,c_sint] at e0 e1 e2 e3 e4
  subst e0 e1 e2 e3 e4
  exact⟨⟨ST,L1,L2,L3,L4⟩,⟨(sa,ST.length,sc),(a1,L1.length,c1),(a2,L2.length,c2),(a3,L3.length,c3),(a4,L4.length,c4)⟩,rfl,⟨hS,h1,h2,h3,h4⟩,⟨hSl,l1,l2,l3,l4,hSs⟩⟩
theorem tabs13:Tryz.prog.cellsOf 34=13:=by kernel_rfl
theorem open_tabs {v:Value} {d:DataW H} {p:List MemPlace} {b0:Nat} (hv:Value.okWide Tryz.prog W .any b0 34 v) (h:DataW.Trod enc Tryz.prog W 0 (fun _=>true) true 34 v d p) (hz':∀ n∈d.weights Tryz.prog 34,n≤reachBytes) :
  ∃ (t:TabsD) (m:TabsS),v=tabsV m∧TabsIn W (0≤·) m t∧VastT t:=by
 obtain⟨xs,rfl,hs⟩:=okWide_struct Tryz.underlying34 hv
 obtain⟨fuel,hf⟩:=h
 obtain⟨ys,m,_,hd,_,hyl,hg⟩:=DataW.trod_struct Tryz.underlying34 hf
 simp only [Prod.mk.injEq] at hd
 obtain⟨rfl,-⟩:=hd
 obtain⟨l⟩:=xs
 rw [tabs13] at hs
 match l,hs with
 | [k0,k1,k2,k3,k4,k5,k6,k7,k8,k9,k10,k11,k12],_ =>
  have hys:ys.length=6:=hyl
  have g0:=hg 0 _ rfl
  have g1:=hg 1 _ rfl
  have g2:=hg 2 _ rfl
  have g3:=hg 3 _ rfl
  have g4:=hg 4 _ rfl
  have g5:=hg 5 _ rfl
  rw [List.getElem?_eq_getElem (by omega)] at g0 g1 g2 g3 g4 g5
  obtain⟨ra,rc,RL,e0,h0,l0,s0⟩:=open_strs' (d:=ys[0].1) (p:=ys[0].2) g0 (fun n hn=>hz' n (weights_agg Tryz.underlying34 (i:=0) rfl (by rw [List.getElem?_map,List.getElem?_eq_getElem (by omega)];rfl) hn))
  obtain⟨ta,tc,TK,e1,h1,l1,s1⟩:=open_strs' (d:=ys[1].1) (p:=ys[1].2) g1 (fun n hn=>hz' n (weights_agg Tryz.underlying34 (i:=1) rfl (by rw [List.getElem?_map,List.getElem?_eq_getElem (by omega)];rfl) hn))
  obtain⟨da,dc,DR,e2,h2,l2⟩:=open_bools' (d:=ys[2].1) (p:=ys[2].2) g2 (fun n hn=>hz' n (weights_agg Tryz.underlying34 (i:=2) rfl (by rw [List.getElem?_map,List.getElem?_eq_getElem (by omega)];rfl) hn))
  obtain⟨LX,mx,e3,h3,l3⟩:=open_lex (d:=ys[3].1) (p:=ys[3].2) g3 (fun n hn=>hz' n (weights_agg Tryz.underlying34 (i:=3) rfl (by rw [List.getElem?_map,List.getElem?_eq_getElem (by omega)];rfl) hn)) (by simp [Value.cells,c_lex])
  obtain⟨NT,mn,e4,h4,l4⟩:=open_net (d:=ys[4].1) (p:=ys[4].2) g4 (fun n hn=>hz' n (weights_agg Tryz.underlying34 (i:=4) rfl (by rw [List.getElem?_map,List.getElem?_eq_getElem (by omega)];rfl) hn)) (by simp [Value.cells,c_net])
  obtain⟨la,lc,LK,e5,h5,l5,s5⟩:=open_autos (d:=ys[5].1) (p:=ys[5].2) g5 (fun n hn=>hz' n (weights_agg Tryz.underlying34 (i:=5) rfl (by rw [List.getElem?_map,List.getElem?_eq_getElem (by omega)];rfl) hn))
  simp [Value.cells,c_sstr,c_sbool,c_lex,c_net,c_auto] at e0 e1 e2 e3 e4 e5
  obtain⟨x0,x1,x2,x3⟩:=e3
  obtain⟨y0,y1,y2,y3,y4⟩:=e4
  subst e0 e1 e2 e5 x0 x1 x2 x3 y0 y1 y2 y3 y4
  exact⟨⟨RL,TK,DR,LX,NT,LK⟩,⟨(ra,RL.length,rc),(ta,TK.length,tc),(da,DR.length,dc),mx,mn,(la,LK.length,lc)⟩,rfl,⟨h0,h1,h2,h3,h4,h5⟩,⟨l0,l1,l2,s0,s1,l3,l4,l5,s5⟩⟩
end
end Go.Proofs.YtgnpmceimpjheaaGreat
