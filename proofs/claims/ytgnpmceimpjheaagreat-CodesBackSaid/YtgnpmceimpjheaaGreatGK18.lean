/- A part of the proof: SameC Crc BLaw LivA LivB. -/
import Derived.Test.YtgnpmceimpjheaaGreatGK17
import Derived.Test.YtgnpmceimpjheaaGreatGK11
import Derived.Test.YtgnpmceimpjheaaGreatGK16
import Derived.Lib.EndianBits
namespace Go.Proofs.YtgnpmceimpjheaaGreat
open Go.RowKit
set_option maxRecDepth 100000 in
set_option maxHeartbeats 16000000 in
theorem same_yes (t:TabsD) (m m':TabsS) (S S':Nat→Prop) (w:World) (h:TabsIn w S m t) (k:DocIn w S' m' t) (hf:FairTabs t) :
  Calls Tryz.prog 15 #[tabsV m,tabsV m'] w fun e w'=>e=.returned (.bool true)∧Chg (fun _=>False) w w':=by
 obtain ⟨⟨a0,n0,c0⟩,⟨a1,n1,c1⟩,⟨a2,n2,c2⟩,⟨⟨a3,n3,c3⟩,⟨a4,n4,c4⟩,⟨a5,n5,c5⟩,⟨a6,n6,c6⟩⟩,⟨⟨a7,n7,c7⟩,⟨a8,n8,c8⟩,⟨a9,n9,c9⟩,⟨a10,n10,c10⟩,⟨a11,n11,c11⟩⟩,⟨a12,n12,c12⟩⟩:=m
 obtain ⟨⟨b0,k0,d0⟩,⟨b1,k1,d1⟩,⟨b2,k2,d2⟩,⟨⟨b3,k3,d3⟩,⟨b4,k4,d4⟩,⟨b5,k5,d5⟩,⟨b6,k6,d6⟩⟩,⟨⟨b7,k7,d7⟩,⟨b8,k8,d8⟩,⟨b9,k9,d9⟩,⟨b10,k10,d10⟩,⟨b11,k11,d11⟩⟩,⟨b12,k12,d12⟩⟩:=m'
 have HA0:=jh h
 have HB0:=jh k
 have HF:=jh hf
 obtain ⟨h0,h1,h2,⟨h3,h4,h5,h6⟩,⟨h7,h8,h9,h10,h11⟩,h12⟩:=h
 obtain ⟨rfl,-⟩:=h0.len
 obtain ⟨rfl,-⟩:=h1.len
 obtain ⟨rfl,-⟩:=h2.len
 obtain ⟨rfl,-⟩:=h3.len
 obtain ⟨rfl,-⟩:=h4.len
 obtain ⟨rfl,-⟩:=h5.len
 obtain ⟨rfl,-⟩:=h6.len
 obtain ⟨rfl,-⟩:=h7.len
 obtain ⟨rfl,-⟩:=h8.len
 obtain ⟨rfl,-⟩:=h9.len
 obtain ⟨rfl,-⟩:=h10.len
 obtain ⟨rfl,-⟩:=h11.len
 obtain ⟨rfl,-⟩:=h12.len
 clear h0 h1 h2 h3 h4 h5 h6 h7 h8 h9 h10 h11 h12
 obtain ⟨h0,h1,h2,⟨h3,h4,h5,h6⟩,⟨h7,h8,h9,h10,h11⟩,h12⟩:=k
 obtain ⟨rfl,-⟩:=h0.len
 obtain ⟨rfl,-⟩:=h1.len
 obtain ⟨rfl,-⟩:=h2.len
 obtain ⟨rfl,-⟩:=h3.len
 obtain ⟨rfl,-⟩:=h4.len
 obtain ⟨rfl,-⟩:=h5.len
 obtain ⟨rfl,-⟩:=h6.len
 obtain ⟨rfl,-⟩:=h7.len
 obtain ⟨rfl,-⟩:=h8.len
 obtain ⟨rfl,-⟩:=h9.len
 obtain ⟨rfl,-⟩:=h10.len
 obtain ⟨rfl,-⟩:=h11.len
 obtain ⟨rfl,-⟩:=h12.len
 clear h0 h1 h2 h3 h4 h5 h6 h7 h8 h9 h10 h11 h12 hf
 have p_rl:=HF.out.rl
 have p_tk:=HF.out.tk
 have p_dr:=HF.out.dr
 have p_lr:=HF.out.lx.r
 have p_ln:=HF.out.lx.n
 have p_lk:=HF.out.lk
 have p_st:=HF.out.nt.st
 obtain ⟨w0,hw0⟩:∃ W,W=(w.alloc (.cells #[.slice a0 t.rl.length c0,.slice a1 t.tk.length c1,.slice a2 t.dr.length c2,.slice a3 t.lx.r.length c3,.slice a4 t.lx.c.length c4,.slice a5 t.lx.n.length c5,.slice a6 t.lx.e.length c6,.slice a7 t.nt.st.length c7,.slice a8 t.nt.s.length c8,.slice a9 t.nt.p.length c9,.slice a10 t.nt.q.length c10,.slice a11 t.nt.d.length c11,.slice a12 t.lk.length c12] 34)).alloc (.cells #[.slice b0 t.rl.length d0,.slice b1 t.tk.length d1,.slice b2 t.dr.length d2,.slice b3 t.lx.r.length d3,.slice b4 t.lx.c.length d4,.slice b5 t.lx.n.length d5,.slice b6 t.lx.e.length d6,.slice b7 t.nt.st.length d7,.slice b8 t.nt.s.length d8,.slice b9 t.nt.p.length d9,.slice b10 t.nt.q.length d10,.slice b11 t.nt.d.length d11,.slice b12 t.lk.length d12] 43):=⟨_,rfl⟩
 have HC0:Hid (Chg (fun _=>False) w w0):=jh (by rw [hw0];exact ((Chg.refl _ w).alloc _).alloc _)
 have HD:Hid (∀ X,Chg (fun _=>False) w0 X→(∀ j v,([.slice a0 t.rl.length c0,.slice a1 t.tk.length c1,.slice a2 t.dr.length c2,.slice a3 t.lx.r.length c3,.slice a4 t.lx.c.length c4,.slice a5 t.lx.n.length c5,.slice a6 t.lx.e.length c6,.slice a7 t.nt.st.length c7,.slice a8 t.nt.s.length c8,.slice a9 t.nt.p.length c9,.slice a10 t.nt.q.length c10,.slice a11 t.nt.d.length c11,.slice a12 t.lk.length c12]:List Value)[j]?=some v→X.cell? ⟨w.heap.size,j,none⟩=some v)∧∀ j v,([.slice b0 t.rl.length d0,.slice b1 t.tk.length d1,.slice b2 t.dr.length d2,.slice b3 t.lx.r.length d3,.slice b4 t.lx.c.length d4,.slice b5 t.lx.n.length d5,.slice b6 t.lx.e.length d6,.slice b7 t.nt.st.length d7,.slice b8 t.nt.s.length d8,.slice b9 t.nt.p.length d9,.slice b10 t.nt.q.length d10,.slice b11 t.nt.d.length d11,.slice b12 t.lk.length d12]:List Value)[j]?=some v→X.cell? ⟨w.heap.size+1,j,none⟩=some v):=jh (fun X hx =>
  ⟨fun j v hv=>hx.cellS (by rw [hw0];exact allocOld _ (allocAt _ rfl (by rw [← Array.getElem?_toList];exact hv))) (fun h=>h),fun j v hv=>hx.cellS (by rw [hw0];exact allocAt _ (by simp) (by rw [← Array.getElem?_toList];exact hv)) (fun h=>h)⟩)
 have HA:Hid (∀ X,Chg (fun _=>False) w0 X→TabsIn X S ⟨(a0,t.rl.length,c0),(a1,t.tk.length,c1),(a2,t.dr.length,c2),⟨(a3,t.lx.r.length,c3),(a4,t.lx.c.length,c4),(a5,t.lx.n.length,c5),(a6,t.lx.e.length,c6)⟩,⟨(a7,t.nt.st.length,c7),(a8,t.nt.s.length,c8),(a9,t.nt.p.length,c9),(a10,t.nt.q.length,c10),(a11,t.nt.d.length,c11)⟩,(a12,t.lk.length,c12)⟩ t):=jh (fun X hx=>TabsIn.good.chg HA0.out (HC0.out.trans hx) (fun _ _ h=>h))
 have HB:Hid (∀ X,Chg (fun _=>False) w0 X→DocIn X S' ⟨(b0,t.rl.length,d0),(b1,t.tk.length,d1),(b2,t.dr.length,d2),⟨(b3,t.lx.r.length,d3),(b4,t.lx.c.length,d4),(b5,t.lx.n.length,d5),(b6,t.lx.e.length,d6)⟩,⟨(b7,t.nt.st.length,d7),(b8,t.nt.s.length,d8),(b9,t.nt.p.length,d9),(b10,t.nt.q.length,d10),(b11,t.nt.d.length,d11)⟩,(b12,t.lk.length,d12)⟩ t):=jh (fun X hx=>DocIn.good.chg HB0.out (HC0.out.trans hx) (fun _ _ h=>h))
 show Calls Tryz.prog 15 #[.agg #[.slice a0 t.rl.length c0,.slice a1 t.tk.length c1,.slice a2 t.dr.length c2,.slice a3 t.lx.r.length c3,.slice a4 t.lx.c.length c4,.slice a5 t.lx.n.length c5,.slice a6 t.lx.e.length c6,.slice a7 t.nt.st.length c7,.slice a8 t.nt.s.length c8,.slice a9 t.nt.p.length c9,.slice a10 t.nt.q.length c10,.slice a11 t.nt.d.length c11,.slice a12 t.lk.length c12],.agg #[.slice b0 t.rl.length d0,.slice b1 t.tk.length d1,.slice b2 t.dr.length d2,.slice b3 t.lx.r.length d3,.slice b4 t.lx.c.length d4,.slice b5 t.lx.n.length d5,.slice b6 t.lx.e.length d6,.slice b7 t.nt.st.length d7,.slice b8 t.nt.s.length d8,.slice b9 t.nt.p.length d9,.slice b10 t.nt.q.length d10,.slice b11 t.nt.d.length d11,.slice b12 t.lk.length d12]] w _
 go_enter Tryz.func15,Tryz.ntmps15
 go_upto_region 1 with (fail)
 rw [← hw0]
 clear hw0
 have f0:=(HD.out w0 (Chg.refl _ _)).1 0 _ rfl
 have g0:=(HD.out w0 (Chg.refl _ _)).2 0 _ rfl
 have f1:=(HD.out w0 (Chg.refl _ _)).1 1 _ rfl
 have g1:=(HD.out w0 (Chg.refl _ _)).2 1 _ rfl
 have f2:=(HD.out w0 (Chg.refl _ _)).1 2 _ rfl
 have g2:=(HD.out w0 (Chg.refl _ _)).2 2 _ rfl
 have f12:=(HD.out w0 (Chg.refl _ _)).1 12 _ rfl
 have g12:=(HD.out w0 (Chg.refl _ _)).2 12 _ rfl
 have f3:=(HD.out w0 (Chg.refl _ _)).1 3 _ rfl
 have g3:=(HD.out w0 (Chg.refl _ _)).2 3 _ rfl
 have f5:=(HD.out w0 (Chg.refl _ _)).1 5 _ rfl
 have g5:=(HD.out w0 (Chg.refl _ _)).2 5 _ rfl
 go_wp2_with fail
 refine (texts_yes t.rl a0 b0 c0 d0 S S' w0 (HA.out _ (Chg.refl _ _)).rl (HB.out _ (Chg.refl _ _)).rl (by omega)).mono ?_
 rintro e w1 ⟨rfl,hc1⟩
 have HC1:=jh hc1
 clear hc1
 clear f0 g0 f1 g1 f2 g2 f12 g12 f3 g3 f5 g5
 have f0:=(HD.out w1 HC1.out).1 0 _ rfl
 have g0:=(HD.out w1 HC1.out).2 0 _ rfl
 have f1:=(HD.out w1 HC1.out).1 1 _ rfl
 have g1:=(HD.out w1 HC1.out).2 1 _ rfl
 have f2:=(HD.out w1 HC1.out).1 2 _ rfl
 have g2:=(HD.out w1 HC1.out).2 2 _ rfl
 have f12:=(HD.out w1 HC1.out).1 12 _ rfl
 have g12:=(HD.out w1 HC1.out).2 12 _ rfl
 have f3:=(HD.out w1 HC1.out).1 3 _ rfl
 have g3:=(HD.out w1 HC1.out).2 3 _ rfl
 have f5:=(HD.out w1 HC1.out).1 5 _ rfl
 have g5:=(HD.out w1 HC1.out).2 5 _ rfl
 go_wp2_with fail
 refine (texts_yes t.tk a1 b1 c1 d1 S S' w1 (HA.out _ HC1.out).tk (HB.out _ HC1.out).tk (by omega)).mono ?_
 rintro e w2 ⟨rfl,hc2⟩
 have HC2:=jh (HC1.out.trans hc2)
 clear hc2
 clear f0 g0 f1 g1 f2 g2 f12 g12 f3 g3 f5 g5
 have f0:=(HD.out w2 HC2.out).1 0 _ rfl
 have g0:=(HD.out w2 HC2.out).2 0 _ rfl
 have f1:=(HD.out w2 HC2.out).1 1 _ rfl
 have g1:=(HD.out w2 HC2.out).2 1 _ rfl
 have f2:=(HD.out w2 HC2.out).1 2 _ rfl
 have g2:=(HD.out w2 HC2.out).2 2 _ rfl
 have f12:=(HD.out w2 HC2.out).1 12 _ rfl
 have g12:=(HD.out w2 HC2.out).2 12 _ rfl
 have f3:=(HD.out w2 HC2.out).1 3 _ rfl
 have g3:=(HD.out w2 HC2.out).2 3 _ rfl
 have f5:=(HD.out w2 HC2.out).1 5 _ rfl
 have g5:=(HD.out w2 HC2.out).2 5 _ rfl
 go_upto_region 4 with (fail)
 clear f0 g0 f1 g1 f2 g2 f12 g12 f3 g3 f5 g5
 go_loopw [5] (fun q wr=>∃ k:Nat,k≤t.dr.length∧q=.int .i64 k∧Chg (fun _=>False) w0 wr) (fun q _=>t.dr.length - (intOf q).toNat)
 case atStart=>exact ⟨0,by omega,rfl,HC2.out⟩
 case round =>
  obtain ⟨k,hk,rfl,hc⟩:=hrel
  have HC:=jh hc
  clear hc
  have f2:=(HD.out wr HC.out).1 2 _ rfl
  have g2:=(HD.out wr HC.out).2 2 _ rfl
  by_cases hkl:k < t.dr.length
  ·have hb9:decide ((k:Int) < (t.dr.length:Int))=true:=by simp;omega
   obtain ⟨x,x1,gx,ox,hx,r1,rfl,-,-,-,e4⟩:=(ListR.of (HA.out _ HC.out).dr).get1' (f:=fun b=>[.bool b]) rfl hkl rfl
   obtain ⟨y,y1,gy,oy,hy,r2,rfl,-,-,-,f4⟩:=(ListR.of (HB.out _ HC.out).dr).get1' (f:=fun b=>[.bool b]) rfl hkl rfl
   obtain rfl:x=x1:=r1
   obtain rfl:y=y1:=r2
   rw [hx] at hy
   obtain rfl:=Option.some.inj hy
   have q0:=e4 _ rfl
   have q1:=f4 _ rfl
   have HCF:Hid (∀ X,Chg (fun _=>False) wr X→(X.cell? ⟨w.heap.size,2,none⟩=some (.slice (some ⟨gx,ox,none⟩) t.dr.length c2)∧X.cell? ⟨w.heap.size+1,2,none⟩=some (.slice (some ⟨gy,oy,none⟩) t.dr.length d2))∧X.cell? ⟨gx,ox+k,none⟩=some (.bool x)∧X.cell? ⟨gy,oy+k,none⟩=some (.bool x)):=jh (fun X hx=>⟨⟨hx.cellS f2 (fun h=>h),hx.cellS g2 (fun h=>h)⟩,hx.cellS q0 (fun h=>h),hx.cellS q1 (fun h=>h)⟩)
   have bnx:(x != x)=false:=by simp
   clear hx hy e4 f4 q0 q1
   go_upto_region 6 with (fail)
   refine wp_region_same (fun x=>Chg (fun _=>False) wr x) (by kernel_rfl) (by kernel_rfl) ?_ ?_
   ·exact (Chg.refl _ _).drew
   (refine rdC (fun K hK=>?_);apply Exists.intro;refine ⟨fun _ w' _ hC=>?_,?_⟩;(go_simp;try with_reducible rfl);(try go_simp);refine hK _ ?_;clear hK K);(refine rdC (fun K hK=>?_);apply Exists.intro;refine ⟨fun _ w' _ hC=>?_,?_⟩;((obtain ⟨⟨q0,q1⟩,q2,q3⟩:=HCF.out w' hC);go_simp;try with_reducible rfl);(try go_simp);refine hK _ ?_;clear hK K);(refine rdC (fun K hK=>?_);apply Exists.intro;refine ⟨fun _ w' _ hC=>?_,?_⟩;(go_simp;try with_reducible rfl);(try go_simp);refine hK _ ?_;clear hK K);(refine rdC (fun K hK=>?_);apply Exists.intro;refine ⟨fun _ w' _ hC=>?_,?_⟩;(go_simp;try with_reducible rfl);(try go_simp);refine hK _ ?_;clear hK K);(refine rdC (fun K hK=>?_);apply Exists.intro;refine ⟨fun _ w' _ hC=>?_,?_⟩;((obtain ⟨⟨q0,q1⟩,q2,q3⟩:=HCF.out w' hC);go_simp;try with_reducible rfl);(try go_simp);refine hK _ ?_;clear hK K);(refine rdC (fun K hK=>?_);apply Exists.intro;refine ⟨fun _ w' _ hC=>?_,?_⟩;(go_simp;try with_reducible rfl);(try go_simp);refine hK _ ?_;clear hK K);(refine rdC (fun K hK=>?_);apply Exists.intro;refine ⟨fun _ w' _ hC=>?_,?_⟩;((obtain ⟨⟨q0,q1⟩,q2,q3⟩:=HCF.out w' hC);go_simp;try with_reducible rfl);(try go_simp);refine hK _ ?_;clear hK K);(refine rdC (fun K hK=>?_);apply Exists.intro;refine ⟨fun _ w' _ hC=>?_,?_⟩;(go_simp;try with_reducible rfl);(try go_simp);refine hK _ ?_;clear hK K);(refine rdC (fun K hK=>?_);apply Exists.intro;refine ⟨fun _ w' _ hC=>?_,?_⟩;(go_simp;try with_reducible rfl);(try go_simp);refine hK _ ?_;clear hK K);(refine rdC (fun K hK=>?_);apply Exists.intro;refine ⟨fun _ w' _ hC=>?_,?_⟩;((obtain ⟨⟨q0,q1⟩,q2,q3⟩:=HCF.out w' hC);go_simp;try with_reducible rfl);(try go_simp);refine hK _ ?_;clear hK K);(refine rdC (fun K hK=>?_);apply Exists.intro;refine ⟨fun _ w' _ hC=>?_,?_⟩;(go_simp;try with_reducible rfl);(try go_simp);refine hK _ ?_;clear hK K)
   refine wpC_nil ?_
   intro w2 hc2
   have HC2:=jh (HC.out.trans hc2)
   clear hc2
   clear f2 g2
   go_wp2
   go_roundw
   case rel=>exact ⟨k+1,by omega,by go_num,HC2.out⟩
   case measure=>simp [intOf];omega
  ·obtain rfl:k=t.dr.length:=by omega
   have hb9:decide ((t.dr.length:Int) < (t.dr.length:Int))=false:=by simp
   have HCE:=jh HC.out
   go_upto_region 9 with (fail)
   clear HC f2 g2
   go_loopw [6] (fun q wr=>∃ k:Nat,k≤t.lx.r.length∧q=.int .i64 k∧Chg (fun _=>False) w0 wr) (fun q _=>t.lx.r.length - (intOf q).toNat)
   case atStart=>exact ⟨0,by omega,rfl,HCE.out⟩
   case round =>
    obtain ⟨k,hk,rfl,hc⟩:=hrel
    have HC:=jh hc
    clear hc
    have f3:=(HD.out wr HC.out).1 3 _ rfl
    have g3:=(HD.out wr HC.out).2 3 _ rfl
    by_cases hkl:k < t.lx.r.length
    ·have hb9:decide ((k:Int) < (t.lx.r.length:Int))=true:=by simp;omega
     obtain ⟨⟨x,x'⟩,x1,gx,ox,hx,r1,rfl,-,-,-,e4⟩:=(ListR.of (HA.out _ HC.out).lx.r).get2 (f:=encRng) rfl hkl rfl
     obtain ⟨⟨y,y'⟩,y1,gy,oy,hy,r2,rfl,-,-,-,f4⟩:=(ListR.of (HB.out _ HC.out).lx.r).get2 (f:=encRng) rfl hkl rfl
     obtain rfl:(x,x')=x1:=r1
     obtain rfl:(y,y')=y1:=r2
     rw [hx] at hy
     injection hy with hy
     injection hy with hy1 hy2
     subst hy1 hy2
     obtain ⟨q0,q1⟩:=e4 _ _ rfl
     obtain ⟨q2,q3⟩:=f4 _ _ rfl
     have HCF:Hid (∀ X,Chg (fun _=>False) wr X→(X.cell? ⟨w.heap.size,3,none⟩=some (.slice (some ⟨gx,ox,none⟩) t.lx.r.length c3)∧X.cell? ⟨w.heap.size+1,3,none⟩=some (.slice (some ⟨gy,oy,none⟩) t.lx.r.length d3))∧X.cell? ⟨gx,ox+k * 2,none⟩=some (.int .i32 x)∧X.cell? ⟨gx,ox+k * 2+1,none⟩=some (.int .i32 x')∧X.cell? ⟨gy,oy+k * 2,none⟩=some (.int .i32 x)∧X.cell? ⟨gy,oy+k * 2+1,none⟩=some (.int .i32 x')):=jh (fun X hx=>⟨⟨hx.cellS f3 (fun h=>h),hx.cellS g3 (fun h=>h)⟩,hx.cellS q0 (fun h=>h),hx.cellS q1 (fun h=>h),hx.cellS q2 (fun h=>h),hx.cellS q3 (fun h=>h)⟩)
     clear hx e4 f4 q0 q1 q2 q3
     go_upto_region 11 with (fail)
     refine wp_region_same (fun x=>Chg (fun _=>False) wr x) (by kernel_rfl) (by kernel_rfl) ?_ ?_
     ·exact (Chg.refl _ _).drew
     (refine rdC (fun K hK=>?_);apply Exists.intro;refine ⟨fun _ w' _ hC=>?_,?_⟩;(go_simp;try with_reducible rfl);(try go_simp);refine hK _ ?_;clear hK K);(refine rdC (fun K hK=>?_);apply Exists.intro;refine ⟨fun _ w' _ hC=>?_,?_⟩;(go_simp;try with_reducible rfl);(try go_simp);refine hK _ ?_;clear hK K);(refine rdC (fun K hK=>?_);apply Exists.intro;refine ⟨fun _ w' _ hC=>?_,?_⟩;((obtain ⟨⟨q0,q1⟩,q2,q3,q4,q5⟩:=HCF.out w' hC);go_simp;try with_reducible rfl);(try go_simp);refine hK _ ?_;clear hK K);(refine rdC (fun K hK=>?_);apply Exists.intro;refine ⟨fun _ w' _ hC=>?_,?_⟩;(go_simp;try with_reducible rfl);(try go_simp);refine hK _ ?_;clear hK K);(refine rdC (fun K hK=>?_);apply Exists.intro;refine ⟨fun _ w' _ hC=>?_,?_⟩;(go_simp;try with_reducible rfl);(try go_simp);refine hK _ ?_;clear hK K);(refine rdC (fun K hK=>?_);apply Exists.intro;refine ⟨fun _ w' _ hC=>?_,?_⟩;((obtain ⟨⟨q0,q1⟩,q2,q3,q4,q5⟩:=HCF.out w' hC);go_simp;try with_reducible rfl);(try go_simp);refine hK _ ?_;clear hK K);(refine rdC (fun K hK=>?_);apply Exists.intro;refine ⟨fun _ w' _ hC=>?_,?_⟩;(go_simp;try with_reducible rfl);(try go_simp);refine hK _ ?_;clear hK K);(refine rdC (fun K hK=>?_);apply Exists.intro;refine ⟨fun _ w' _ hC=>?_,?_⟩;(go_simp;try with_reducible rfl);(try go_simp);refine hK _ ?_;clear hK K);(refine rdC (fun K hK=>?_);apply Exists.intro;refine ⟨fun _ w' _ hC=>?_,?_⟩;((obtain ⟨⟨q0,q1⟩,q2,q3,q4,q5⟩:=HCF.out w' hC);go_simp;try with_reducible rfl);(try go_simp);refine hK _ ?_;clear hK K);(refine rdC (fun K hK=>?_);apply Exists.intro;refine ⟨fun _ w' _ hC=>?_,?_⟩;(go_simp;try with_reducible rfl);(try go_simp);refine hK _ ?_;clear hK K);(refine rdC (fun K hK=>?_);apply Exists.intro;refine ⟨fun _ w' _ hC=>?_,?_⟩;(go_simp;try with_reducible rfl);(try go_simp);refine hK _ ?_;clear hK K);(refine rdC (fun K hK=>?_);apply Exists.intro;refine ⟨fun _ w' _ hC=>?_,?_⟩;((obtain ⟨⟨q0,q1⟩,q2,q3,q4,q5⟩:=HCF.out w' hC);go_simp;try with_reducible rfl);(try go_simp);refine hK _ ?_;clear hK K);(refine rdC (fun K hK=>?_);apply Exists.intro;refine ⟨fun _ w' _ hC=>?_,?_⟩;(go_simp;try with_reducible rfl);(try go_simp);refine hK _ ?_;clear hK K)
     refine wpC_nil ?_
     intro w2 hc2
     have HC2:=jh (HC.out.trans hc2)
     clear hc2
     clear f3 g3
     go_wp2
     go_roundw
     case rel=>exact ⟨k+1,by omega,by go_num,HC2.out⟩
     case measure=>simp [intOf];omega
    ·obtain rfl:k=t.lx.r.length:=by omega
     have hb9:decide ((t.lx.r.length:Int) < (t.lx.r.length:Int))=false:=by simp
     have HCE:=jh HC.out
     go_upto_region 14 with (fail)
     clear HC f3 g3
     go_loopw [7] (fun q wr=>∃ k:Nat,k≤t.lx.n.length∧q=.int .i64 k∧Chg (fun _=>False) w0 wr) (fun q _=>t.lx.n.length - (intOf q).toNat)
     case atStart=>exact ⟨0,by omega,rfl,HCE.out⟩
     case round =>
      obtain ⟨k,hk,rfl,hc⟩:=hrel
      have HC:=jh hc
      clear hc
      have f5:=(HD.out wr HC.out).1 5 _ rfl
      have g5:=(HD.out wr HC.out).2 5 _ rfl
      by_cases hkl:k < t.lx.n.length
      ·have hb9:decide ((k:Int) < (t.lx.n.length:Int))=true:=by simp;omega
       obtain ⟨⟨xa,xn,xc⟩,x1,gx,ox,hx,r1,rfl,-,-,e4⟩:=(HA.out _ HC.out).lx.n.get1 (f:=slV) rfl hkl (fun _=>rfl)
       obtain ⟨⟨ya,yn,yc⟩,y1,gy,oy,hy,r2,rfl,-,-,f4⟩:=(HB.out _ HC.out).lx.n.get1 (f:=slV) rfl hkl (fun _=>rfl)
       rw [hx] at hy
       obtain rfl:=Option.some.inj hy
       have r1:intE.InS wr S (xa,xn,xc) x1:=r1
       have r2:intE.InS wr S' (ya,yn,yc) x1:=r2
       obtain ⟨rfl,-⟩:=r1.len
       obtain ⟨rfl,-⟩:=r2.len
       simp only [slV] at e4 f4
       have HXL:Hid (x1.length≤1000000000):=jh (HF.out.lx.l _ (List.mem_of_getElem? hx))
       have HCF:Hid (∀ X,Chg (fun _=>False) wr X→(X.cell? ⟨w.heap.size,5,none⟩=some (.slice (some ⟨gx,ox,none⟩) t.lx.n.length c5)∧X.cell? ⟨w.heap.size+1,5,none⟩=some (.slice (some ⟨gy,oy,none⟩) t.lx.n.length d5))∧X.cell? ⟨gx,ox+k,none⟩=some (.slice xa x1.length xc)∧X.cell? ⟨gy,oy+k,none⟩=some (.slice ya x1.length yc)):=jh (fun X hx=>⟨⟨hx.cellS f5 (fun h=>h),hx.cellS g5 (fun h=>h)⟩,hx.cellS e4 (fun h=>h),hx.cellS f4 (fun h=>h)⟩)
       have HSN:=jh (fun (X:World) (hx:Chg (fun _=>False) wr X)=>sameNums_yes x1 xa ya xc yc S S' X (r1.chg hx (fun _ _ h=>h)) (r2.chg hx (fun _ _ h=>h)) HXL.out)
       clear hx hy e4 f4 r1 r2
       go_upto_region 16 with (fail)
       refine wp_region_same (fun x=>Chg (fun _=>False) wr x) (by kernel_rfl) (by kernel_rfl) ?_ ?_
       ·exact (Chg.refl _ _).drew
       (refine rdC (fun K hK=>?_);apply Exists.intro;refine ⟨fun _ w' _ hC=>?_,?_⟩;(go_simp;try with_reducible rfl);(try go_simp);refine hK _ ?_;clear hK K);(refine rdC (fun K hK=>?_);apply Exists.intro;refine ⟨fun _ w' _ hC=>?_,?_⟩;(go_simp;try with_reducible rfl);(try go_simp);refine hK _ ?_;clear hK K);(refine rdC (fun K hK=>?_);apply Exists.intro;refine ⟨fun _ w' _ hC=>?_,?_⟩;((obtain ⟨⟨q0,q1⟩,q2,q3⟩:=HCF.out w' hC);go_simp;try with_reducible rfl);(try go_simp);refine hK _ ?_;clear hK K);(refine rdC (fun K hK=>?_);apply Exists.intro;refine ⟨fun _ w' _ hC=>?_,?_⟩;(go_simp;try with_reducible rfl);(try go_simp);refine hK _ ?_;clear hK K);(refine rdC (fun K hK=>?_);apply Exists.intro;refine ⟨fun _ w' _ hC=>?_,?_⟩;(go_simp;try with_reducible rfl);(try go_simp);refine hK _ ?_;clear hK K);(refine rdC (fun K hK=>?_);apply Exists.intro;refine ⟨fun _ w' _ hC=>?_,?_⟩;((obtain ⟨⟨q0,q1⟩,q2,q3⟩:=HCF.out w' hC);go_simp;try with_reducible rfl);(try go_simp);refine hK _ ?_;clear hK K);(refine rdC (fun K hK=>?_);apply Exists.intro;refine ⟨fun _ w' _ hC=>?_,?_⟩;(go_simp;try with_reducible rfl);(try go_simp);refine hK _ ?_;clear hK K);(refine rdC (fun K hK=>?_);apply Exists.intro;refine ⟨fun _ w' _ hC=>?_,?_⟩;(go_simp;try with_reducible rfl);(try go_simp);refine hK _ ?_;clear hK K);(refine rdC (fun K hK=>?_);apply Exists.intro;refine ⟨fun _ w' _ hC=>?_,?_⟩;((obtain ⟨⟨q0,q1⟩,q2,q3⟩:=HCF.out w' hC);go_simp;try with_reducible rfl);(try go_simp);refine hK _ ?_;clear hK K);(refine rdC (fun K hK=>?_);apply Exists.intro;refine ⟨fun _ w' _ hC=>?_,?_⟩;(go_simp;try with_reducible rfl);(try go_simp);refine hK _ ?_;clear hK K);(refine rdC (fun K hK=>?_);apply Exists.intro;refine ⟨fun _ w' _ hC=>?_,?_⟩;(go_simp;try with_reducible rfl);(try go_simp);refine hK _ ?_;clear hK K);(refine rdC (fun K hK=>?_);apply Exists.intro;refine ⟨fun _ w' _ hC=>?_,?_⟩;((obtain ⟨⟨q0,q1⟩,q2,q3⟩:=HCF.out w' hC);go_simp;try with_reducible rfl);(try go_simp);refine hK _ ?_;clear hK K)
       refine wpC_call rfl (.bool true )  50  ( #[.slice xa x1.length xc,.slice ya x1.length yc]) (fun w'=>by go_simp) (fun _ w' _ hC=>?_) (fun K hK=>?_)
       ·refine (HSN.out w' hC).mono ?_
        rintro e w'' ⟨rfl,h⟩
        exact ⟨rfl,hC.trans h⟩
       ((try go_simp);refine hK _ ?_;clear hK K)
       (refine rdC (fun K hK=>?_);apply Exists.intro;refine ⟨fun _ w' _ hC=>?_,?_⟩;(go_simp;try with_reducible rfl);(try go_simp);refine hK _ ?_;clear hK K)
       refine wpC_nil ?_
       intro w2 hc2
       have HC2:=jh (HC.out.trans hc2)
       clear hc2
       clear f5 g5
       go_wp2
       go_roundw
       case rel=>exact ⟨k+1,by omega,by go_num,HC2.out⟩
       case measure=>simp [intOf];omega
      ·obtain rfl:k=t.lx.n.length:=by omega
       have hb9:decide ((t.lx.n.length:Int) < (t.lx.n.length:Int))=false:=by simp
       have HCE:=jh HC.out
       go_upto_region 19 with (fail)
       clear HC f5 g5
       go_loopw [8] (fun q wr=>∃ k:Nat,k≤t.lk.length∧q=.int .i64 k∧Chg (fun _=>False) w0 wr) (fun q _=>t.lk.length - (intOf q).toNat)
       case atStart=>exact ⟨0,by omega,rfl,HCE.out⟩
       case round =>
        obtain ⟨k,hk,rfl,hc⟩:=hrel
        have HC:=jh hc
        clear hc
        have f12:=(HD.out wr HC.out).1 12 _ rfl
        have g12:=(HD.out wr HC.out).2 12 _ rfl
        by_cases hkl:k < t.lk.length
        ·have hb9:decide ((k:Int) < (t.lk.length:Int))=true:=by simp;omega
         obtain ⟨⟨xa,xn,xc⟩,x1,gx,ox,hx,r1,rfl,-,-,e4⟩:=(HA.out _ HC.out).lk.get1 (f:=slV) rfl hkl (fun _=>rfl)
         obtain ⟨⟨ya,yn,yc⟩,y1,gy,oy,hy,r2,rfl,-,-,f4⟩:=(HB.out _ HC.out).lk.get1 (f:=slV) rfl hkl (fun _=>rfl)
         rw [hx] at hy
         obtain rfl:=Option.some.inj hy
         have r1:ListR lsE lsR wr S (xa,xn,xc) x1:=r1
         have r2:ListR dLsE dLsR wr S' (ya,yn,yc) x1:=r2
         obtain ⟨rfl,-⟩:=r1.len
         obtain ⟨rfl,-⟩:=r2.len
         simp only [slV] at e4 f4
         have HXL:=jh (HF.out.la _ (List.mem_of_getElem? hx))
         have HCF:Hid (∀ X,Chg (fun _=>False) wr X→(X.cell? ⟨w.heap.size,12,none⟩=some (.slice (some ⟨gx,ox,none⟩) t.lk.length c12)∧X.cell? ⟨w.heap.size+1,12,none⟩=some (.slice (some ⟨gy,oy,none⟩) t.lk.length d12))∧X.cell? ⟨gx,ox+k,none⟩=some (.slice xa x1.length xc)∧X.cell? ⟨gy,oy+k,none⟩=some (.slice ya x1.length yc)):=jh (fun X hx=>⟨⟨hx.cellS f12 (fun h=>h),hx.cellS g12 (fun h=>h)⟩,hx.cellS e4 (fun h=>h),hx.cellS f4 (fun h=>h)⟩)
         have HSN:=jh (fun (X:World) (hx:Chg (fun _=>False) wr X)=>sameAuto_yes x1 xa ya xc yc S S' X ((ListR.good lsR.good).chg r1 hx (fun _ _ h=>h)) ((ListR.good dLsR.good).chg r2 hx (fun _ _ h=>h)) HXL.out.1 HXL.out.2)
         clear hx hy e4 f4 r1 r2
         go_upto_region 21 with (fail)
         refine wp_region_same (fun x=>Chg (fun _=>False) wr x) (by kernel_rfl) (by kernel_rfl) ?_ ?_
         ·exact (Chg.refl _ _).drew
         (refine rdC (fun K hK=>?_);apply Exists.intro;refine ⟨fun _ w' _ hC=>?_,?_⟩;(go_simp;try with_reducible rfl);(try go_simp);refine hK _ ?_;clear hK K);(refine rdC (fun K hK=>?_);apply Exists.intro;refine ⟨fun _ w' _ hC=>?_,?_⟩;((obtain ⟨⟨q0,q1⟩,q2,q3⟩:=HCF.out w' hC);go_simp;try with_reducible rfl);(try go_simp);refine hK _ ?_;clear hK K);(refine rdC (fun K hK=>?_);apply Exists.intro;refine ⟨fun _ w' _ hC=>?_,?_⟩;(go_simp;try with_reducible rfl);(try go_simp);refine hK _ ?_;clear hK K);(refine rdC (fun K hK=>?_);apply Exists.intro;refine ⟨fun _ w' _ hC=>?_,?_⟩;(go_simp;try with_reducible rfl);(try go_simp);refine hK _ ?_;clear hK K);(refine rdC (fun K hK=>?_);apply Exists.intro;refine ⟨fun _ w' _ hC=>?_,?_⟩;((obtain ⟨⟨q0,q1⟩,q2,q3⟩:=HCF.out w' hC);go_simp;try with_reducible rfl);(try go_simp);refine hK _ ?_;clear hK K);(refine rdC (fun K hK=>?_);apply Exists.intro;refine ⟨fun _ w' _ hC=>?_,?_⟩;(go_simp;try with_reducible rfl);(try go_simp);refine hK _ ?_;clear hK K);(refine rdC (fun K hK=>?_);apply Exists.intro;refine ⟨fun _ w' _ hC=>?_,?_⟩;((obtain ⟨⟨q0,q1⟩,q2,q3⟩:=HCF.out w' hC);go_simp;try with_reducible rfl);(try go_simp);refine hK _ ?_;clear hK K);(refine rdC (fun K hK=>?_);apply Exists.intro;refine ⟨fun _ w' _ hC=>?_,?_⟩;(go_simp;try with_reducible rfl);(try go_simp);refine hK _ ?_;clear hK K);(refine rdC (fun K hK=>?_);apply Exists.intro;refine ⟨fun _ w' _ hC=>?_,?_⟩;(go_simp;try with_reducible rfl);(try go_simp);refine hK _ ?_;clear hK K);(refine rdC (fun K hK=>?_);apply Exists.intro;refine ⟨fun _ w' _ hC=>?_,?_⟩;((obtain ⟨⟨q0,q1⟩,q2,q3⟩:=HCF.out w' hC);go_simp;try with_reducible rfl);(try go_simp);refine hK _ ?_;clear hK K)
         refine wpC_call rfl (.bool true )  51  ( #[.agg #[.slice xa x1.length xc],.agg #[.slice ya x1.length yc]]) (fun w'=>by go_simp) (fun _ w' _ hC=>?_) (fun K hK=>?_)
         ·refine (HSN.out w' hC).mono ?_
          rintro e w'' ⟨rfl,h⟩
          exact ⟨rfl,hC.trans h⟩
         ((try go_simp);refine hK _ ?_;clear hK K)
         (refine rdC (fun K hK=>?_);apply Exists.intro;refine ⟨fun _ w' _ hC=>?_,?_⟩;(go_simp;try with_reducible rfl);(try go_simp);refine hK _ ?_;clear hK K)
         refine wpC_nil ?_
         intro w2 hc2
         have HC2:=jh (HC.out.trans hc2)
         clear hc2
         clear f12 g12
         go_wp2
         go_roundw
         case rel=>exact ⟨k+1,by omega,by go_num,HC2.out⟩
         case measure=>simp [intOf];omega
        ·obtain rfl:k=t.lk.length:=by omega
         have hb9:decide ((t.lk.length:Int) < (t.lk.length:Int))=false:=by simp
         have HCE:=jh HC.out
         clear HC
         have f7:=(HD.out wr HCE.out).1 7 _ rfl
         have g7:=(HD.out wr HCE.out).2 7 _ rfl
         have f8:=(HD.out wr HCE.out).1 8 _ rfl
         have g8:=(HD.out wr HCE.out).2 8 _ rfl
         have f9:=(HD.out wr HCE.out).1 9 _ rfl
         have g9:=(HD.out wr HCE.out).2 9 _ rfl
         have f10:=(HD.out wr HCE.out).1 10 _ rfl
         have g10:=(HD.out wr HCE.out).2 10 _ rfl
         have f11:=(HD.out wr HCE.out).1 11 _ rfl
         have g11:=(HD.out wr HCE.out).2 11 _ rfl
         obtain ⟨w5,hw5⟩:∃ X,X=wr.alloc (.cells #[.slice a7 t.nt.st.length c7,.slice a8 t.nt.s.length c8,.slice a9 t.nt.p.length c9,.slice a10 t.nt.q.length c10,.slice a11 t.nt.d.length c11] 31):=⟨_,rfl⟩
         have HC5:Hid (Chg (fun _=>False) wr w5):=jh (by rw [hw5];exact (Chg.refl _ _).alloc _)
         have hs5:w5.heap.size=wr.heap.size+1:=by rw [hw5];simp
         obtain ⟨wn,hwn⟩:∃ X,X=w5.alloc (.cells #[.slice b7 t.nt.st.length d7,.slice b8 t.nt.s.length d8,.slice b9 t.nt.p.length d9,.slice b10 t.nt.q.length d10,.slice b11 t.nt.d.length d11] 40):=⟨_,rfl⟩
         have HCN:Hid (Chg (fun _=>False) w5 wn):=jh (by rw [hwn];exact (Chg.refl _ _).alloc _)
         have HCW:=jh (HCE.out.trans (HC5.out.trans HCN.out))
         have HN:Hid (∀ X,Chg (fun _=>False) wn X→(∀ j v,([.slice a7 t.nt.st.length c7,.slice a8 t.nt.s.length c8,.slice a9 t.nt.p.length c9,.slice a10 t.nt.q.length c10,.slice a11 t.nt.d.length c11]:List Value)[j]?=some v→X.cell? ⟨wr.heap.size,j,none⟩=some v)∧∀ j v,([.slice b7 t.nt.st.length d7,.slice b8 t.nt.s.length d8,.slice b9 t.nt.p.length d9,.slice b10 t.nt.q.length d10,.slice b11 t.nt.d.length d11]:List Value)[j]?=some v→X.cell? ⟨wr.heap.size+1,j,none⟩=some v):=jh (fun X hx =>
          ⟨fun j v hv=>hx.cellS (by rw [hwn,hw5];exact allocOld _ (allocAt _ rfl (by rw [← Array.getElem?_toList];exact hv))) (fun h=>h),fun j v hv=>hx.cellS (by rw [hwn];exact allocAt _ hs5.symm (by rw [← Array.getElem?_toList];exact hv)) (fun h=>h)⟩)
         go_upto_region 24 with (fail)
         rw [← hw5]
         clear f12 g12 hw5 f7 g7 f8 g8 f9 g9 f10 g10 f11 g11
         have f7:=(HD.out w5 (HCE.out.trans HC5.out)).1 7 _ rfl
         have g7:=(HD.out w5 (HCE.out.trans HC5.out)).2 7 _ rfl
         have f8:=(HD.out w5 (HCE.out.trans HC5.out)).1 8 _ rfl
         have g8:=(HD.out w5 (HCE.out.trans HC5.out)).2 8 _ rfl
         have f9:=(HD.out w5 (HCE.out.trans HC5.out)).1 9 _ rfl
         have g9:=(HD.out w5 (HCE.out.trans HC5.out)).2 9 _ rfl
         have f10:=(HD.out w5 (HCE.out.trans HC5.out)).1 10 _ rfl
         have g10:=(HD.out w5 (HCE.out.trans HC5.out)).2 10 _ rfl
         have f11:=(HD.out w5 (HCE.out.trans HC5.out)).1 11 _ rfl
         have g11:=(HD.out w5 (HCE.out.trans HC5.out)).2 11 _ rfl
         go_upto_region 25 with (fail)
         rw [← hwn]
         clear hwn hs5 f7 g7 f8 g8 f9 g9 f10 g10 f11 g11
         have HX0:Hid (Chg (fun _=>False) wn wn):=jh (Chg.refl _ _)
         have f4:=(HD.out wn (HCW.out.trans HX0.out)).1 4 _ rfl
         have g4:=(HD.out wn (HCW.out.trans HX0.out)).2 4 _ rfl
         have f6:=(HD.out wn (HCW.out.trans HX0.out)).1 6 _ rfl
         have g6:=(HD.out wn (HCW.out.trans HX0.out)).2 6 _ rfl
         have m0:=(HN.out wn HX0.out).1 0 _ rfl
         have l0:=(HN.out wn HX0.out).2 0 _ rfl
         have m1:=(HN.out wn HX0.out).1 1 _ rfl
         have l1:=(HN.out wn HX0.out).2 1 _ rfl
         have m2:=(HN.out wn HX0.out).1 2 _ rfl
         have l2:=(HN.out wn HX0.out).2 2 _ rfl
         have m3:=(HN.out wn HX0.out).1 3 _ rfl
         have l3:=(HN.out wn HX0.out).2 3 _ rfl
         have m4:=(HN.out wn HX0.out).1 4 _ rfl
         have l4:=(HN.out wn HX0.out).2 4 _ rfl
         go_wp2_with fail
         refine (sameNums_yes t.lx.c a4 b4 c4 d4 S S' wn (HA.out _ (HCW.out.trans HX0.out)).lx.c (HB.out _ (HCW.out.trans HX0.out)).lx.c (HF.out.lx.c)).mono ?_
         rintro e x1 ⟨rfl,hc⟩
         have HX1:=jh (HX0.out.trans hc)
         clear hc f4 g4 f6 g6 m0 m1 m2 m3 m4 l0 l1 l2 l3 l4
         have f4:=(HD.out x1 (HCW.out.trans HX1.out)).1 4 _ rfl
         have g4:=(HD.out x1 (HCW.out.trans HX1.out)).2 4 _ rfl
         have f6:=(HD.out x1 (HCW.out.trans HX1.out)).1 6 _ rfl
         have g6:=(HD.out x1 (HCW.out.trans HX1.out)).2 6 _ rfl
         have m0:=(HN.out x1 HX1.out).1 0 _ rfl
         have l0:=(HN.out x1 HX1.out).2 0 _ rfl
         have m1:=(HN.out x1 HX1.out).1 1 _ rfl
         have l1:=(HN.out x1 HX1.out).2 1 _ rfl
         have m2:=(HN.out x1 HX1.out).1 2 _ rfl
         have l2:=(HN.out x1 HX1.out).2 2 _ rfl
         have m3:=(HN.out x1 HX1.out).1 3 _ rfl
         have l3:=(HN.out x1 HX1.out).2 3 _ rfl
         have m4:=(HN.out x1 HX1.out).1 4 _ rfl
         have l4:=(HN.out x1 HX1.out).2 4 _ rfl
         go_wp2_with fail
         refine (sameNums_yes t.lx.e a6 b6 c6 d6 S S' x1 (HA.out _ (HCW.out.trans HX1.out)).lx.e (HB.out _ (HCW.out.trans HX1.out)).lx.e (HF.out.lx.e)).mono ?_
         rintro e x2 ⟨rfl,hc⟩
         have HX2:=jh (HX1.out.trans hc)
         clear hc f4 g4 f6 g6 m0 m1 m2 m3 m4 l0 l1 l2 l3 l4
         have f4:=(HD.out x2 (HCW.out.trans HX2.out)).1 4 _ rfl
         have g4:=(HD.out x2 (HCW.out.trans HX2.out)).2 4 _ rfl
         have f6:=(HD.out x2 (HCW.out.trans HX2.out)).1 6 _ rfl
         have g6:=(HD.out x2 (HCW.out.trans HX2.out)).2 6 _ rfl
         have m0:=(HN.out x2 HX2.out).1 0 _ rfl
         have l0:=(HN.out x2 HX2.out).2 0 _ rfl
         have m1:=(HN.out x2 HX2.out).1 1 _ rfl
         have l1:=(HN.out x2 HX2.out).2 1 _ rfl
         have m2:=(HN.out x2 HX2.out).1 2 _ rfl
         have l2:=(HN.out x2 HX2.out).2 2 _ rfl
         have m3:=(HN.out x2 HX2.out).1 3 _ rfl
         have l3:=(HN.out x2 HX2.out).2 3 _ rfl
         have m4:=(HN.out x2 HX2.out).1 4 _ rfl
         have l4:=(HN.out x2 HX2.out).2 4 _ rfl
         go_wp2_with fail
         refine (sameNums_yes t.nt.s a8 b8 c8 d8 S S' x2 (HA.out _ (HCW.out.trans HX2.out)).nt.s (HB.out _ (HCW.out.trans HX2.out)).nt.s (Nat.le_trans HF.out.nt.s (by decide))).mono ?_
         rintro e x3 ⟨rfl,hc⟩
         have HX3:=jh (HX2.out.trans hc)
         clear hc f4 g4 f6 g6 m0 m1 m2 m3 m4 l0 l1 l2 l3 l4
         have f4:=(HD.out x3 (HCW.out.trans HX3.out)).1 4 _ rfl
         have g4:=(HD.out x3 (HCW.out.trans HX3.out)).2 4 _ rfl
         have f6:=(HD.out x3 (HCW.out.trans HX3.out)).1 6 _ rfl
         have g6:=(HD.out x3 (HCW.out.trans HX3.out)).2 6 _ rfl
         have m0:=(HN.out x3 HX3.out).1 0 _ rfl
         have l0:=(HN.out x3 HX3.out).2 0 _ rfl
         have m1:=(HN.out x3 HX3.out).1 1 _ rfl
         have l1:=(HN.out x3 HX3.out).2 1 _ rfl
         have m2:=(HN.out x3 HX3.out).1 2 _ rfl
         have l2:=(HN.out x3 HX3.out).2 2 _ rfl
         have m3:=(HN.out x3 HX3.out).1 3 _ rfl
         have l3:=(HN.out x3 HX3.out).2 3 _ rfl
         have m4:=(HN.out x3 HX3.out).1 4 _ rfl
         have l4:=(HN.out x3 HX3.out).2 4 _ rfl
         go_wp2_with fail
         refine (sameNums_yes t.nt.p a9 b9 c9 d9 S S' x3 (HA.out _ (HCW.out.trans HX3.out)).nt.p (HB.out _ (HCW.out.trans HX3.out)).nt.p (Nat.le_trans HF.out.nt.p (by decide))).mono ?_
         rintro e x4 ⟨rfl,hc⟩
         have HX4:=jh (HX3.out.trans hc)
         clear hc f4 g4 f6 g6 m0 m1 m2 m3 m4 l0 l1 l2 l3 l4
         have f4:=(HD.out x4 (HCW.out.trans HX4.out)).1 4 _ rfl
         have g4:=(HD.out x4 (HCW.out.trans HX4.out)).2 4 _ rfl
         have f6:=(HD.out x4 (HCW.out.trans HX4.out)).1 6 _ rfl
         have g6:=(HD.out x4 (HCW.out.trans HX4.out)).2 6 _ rfl
         have m0:=(HN.out x4 HX4.out).1 0 _ rfl
         have l0:=(HN.out x4 HX4.out).2 0 _ rfl
         have m1:=(HN.out x4 HX4.out).1 1 _ rfl
         have l1:=(HN.out x4 HX4.out).2 1 _ rfl
         have m2:=(HN.out x4 HX4.out).1 2 _ rfl
         have l2:=(HN.out x4 HX4.out).2 2 _ rfl
         have m3:=(HN.out x4 HX4.out).1 3 _ rfl
         have l3:=(HN.out x4 HX4.out).2 3 _ rfl
         have m4:=(HN.out x4 HX4.out).1 4 _ rfl
         have l4:=(HN.out x4 HX4.out).2 4 _ rfl
         go_wp2_with fail
         refine (sameNums_yes t.nt.q a10 b10 c10 d10 S S' x4 (HA.out _ (HCW.out.trans HX4.out)).nt.q (HB.out _ (HCW.out.trans HX4.out)).nt.q (HF.out.nt.q)).mono ?_
         rintro e x5 ⟨rfl,hc⟩
         have HX5:=jh (HX4.out.trans hc)
         clear hc f4 g4 f6 g6 m0 m1 m2 m3 m4 l0 l1 l2 l3 l4
         have f4:=(HD.out x5 (HCW.out.trans HX5.out)).1 4 _ rfl
         have g4:=(HD.out x5 (HCW.out.trans HX5.out)).2 4 _ rfl
         have f6:=(HD.out x5 (HCW.out.trans HX5.out)).1 6 _ rfl
         have g6:=(HD.out x5 (HCW.out.trans HX5.out)).2 6 _ rfl
         have m0:=(HN.out x5 HX5.out).1 0 _ rfl
         have l0:=(HN.out x5 HX5.out).2 0 _ rfl
         have m1:=(HN.out x5 HX5.out).1 1 _ rfl
         have l1:=(HN.out x5 HX5.out).2 1 _ rfl
         have m2:=(HN.out x5 HX5.out).1 2 _ rfl
         have l2:=(HN.out x5 HX5.out).2 2 _ rfl
         have m3:=(HN.out x5 HX5.out).1 3 _ rfl
         have l3:=(HN.out x5 HX5.out).2 3 _ rfl
         have m4:=(HN.out x5 HX5.out).1 4 _ rfl
         have l4:=(HN.out x5 HX5.out).2 4 _ rfl
         go_wp2_with fail
         refine (sameNums_yes t.nt.d a11 b11 c11 d11 S S' x5 (HA.out _ (HCW.out.trans HX5.out)).nt.d (HB.out _ (HCW.out.trans HX5.out)).nt.d (HF.out.nt.d)).mono ?_
         rintro e x6 ⟨rfl,hc⟩
         have HX6:=jh (HX5.out.trans hc)
         clear hc f4 g4 f6 g6 m0 m1 m2 m3 m4 l0 l1 l2 l3 l4
         have m0:=(HN.out x6 HX6.out).1 0 _ rfl
         have l0:=(HN.out x6 HX6.out).2 0 _ rfl
         go_upto_region 28 with (fail)
         clear m0 l0
         obtain ⟨wb,rfl⟩:∃ wb:World,wb=wr:=⟨_,rfl⟩
         go_loopw [11] (fun q wr=>∃ k:Nat,k≤t.nt.st.length∧q=.int .i64 k∧Chg (fun _=>False) wn wr) (fun q _=>t.nt.st.length - (intOf q).toNat)
         case atStart=>exact ⟨0,by omega,rfl,HX6.out⟩
         case round =>
          clear HX1 HX2 HX3 HX4 HX5 HX6
          obtain ⟨k,hk,rfl,hc⟩:=hrel
          obtain ⟨wo,rfl⟩:∃ wo:World,wo=wr:=⟨_,rfl⟩
          have HC:=jh hc
          clear hc
          have m0:=(HN.out wo HC.out).1 0 _ rfl
          have l0:=(HN.out wo HC.out).2 0 _ rfl
          by_cases hkl:k < t.nt.st.length
          ·have hb9:decide ((k:Int) < (t.nt.st.length:Int))=true:=by simp;omega
           obtain ⟨⟨k1,⟨xa,n1,xc⟩,⟨ya,m1,yc⟩⟩,⟨kd,es,ds⟩,gx,ox,hx,⟨r1,r2,r3,r4⟩,rfl,-,-,-,hcells⟩:=(HA.out _ (HCW.out.trans HC.out)).nt.st.get3 (f:=encSt) rfl hkl rfl
           obtain ⟨⟨k2,⟨za,n2,zc⟩,⟨ua,m2,uc⟩⟩,d',gy,oy,hy,⟨s1,s2,s3,s4⟩,rfl,-,-,-,hcells'⟩:=(HB.out _ (HCW.out.trans HC.out)).nt.st.get3 (f:=encSt) rfl hkl rfl
           rw [hx] at hy
           obtain rfl:=Option.some.inj hy
           simp only at r1 r2 r3 r4 s1 s2 s3 s4
           subst r1 s1
           obtain ⟨rfl,-⟩:=r3.len
           obtain ⟨rfl,-⟩:=r4.len
           obtain ⟨rfl,-⟩:=s3.len
           obtain ⟨rfl,-⟩:=s4.len
           obtain ⟨lb1,lb2⟩:=HF.out.nt.e _ (List.mem_of_getElem? hx)
           simp only at lb1 lb2
           obtain ⟨x0,x1,x2⟩:=hcells _ _ _ rfl
           obtain ⟨y0,y1,y2⟩:=hcells' _ _ _ rfl
           simp only [slV] at x1 x2 y1 y2
           obtain ⟨w6,hw6⟩:∃ X,X=wo.alloc (.cells #[.int .i64 k2,.slice xa es.length xc,.slice ya ds.length yc] 74):=⟨_,rfl⟩
           have HC6:Hid (Chg (fun _=>False) wo w6):=jh (by rw [hw6];exact (Chg.refl _ _).alloc _)
           have hs6:w6.heap.size=wo.heap.size+1:=by rw [hw6];simp
           obtain ⟨w7,hw7⟩:∃ X,X=w6.alloc (.cells #[.int .i64 k2,.slice za es.length zc,.slice ua ds.length uc] 121):=⟨_,rfl⟩
           have HC7:Hid (Chg (fun _=>False) wo w7):=jh (HC6.out.trans (by rw [hw7];exact (Chg.refl _ _).alloc _))
           have HZ0:Hid (∀ X,Chg (fun _=>False) w7 X→(∀ j v,([.int .i64 k2,.slice xa es.length xc,.slice ya ds.length yc]:List Value)[j]?=some v→X.cell? ⟨wo.heap.size,j,none⟩=some v)∧∀ j v,([.int .i64 k2,.slice za es.length zc,.slice ua ds.length uc]:List Value)[j]?=some v→X.cell? ⟨wo.heap.size+1,j,none⟩=some v):=jh (fun X hx =>
            ⟨fun j v hv=>hx.cellS (by rw [hw7,hw6];exact allocOld _ (allocAt _ rfl (by rw [← Array.getElem?_toList];exact hv))) (fun h=>h),fun j v hv=>hx.cellS (by rw [hw7];exact allocAt _ hs6.symm (by rw [← Array.getElem?_toList];exact hv)) (fun h=>h)⟩)
           have HZ:Hid (∀ X,Chg (fun _=>False) w7 X→edgeE.InS X S (xa,es.length,xc) es∧dEdgeE.InS X S' (za,es.length,zc) es):=jh (fun X hx=>⟨r3.chg (HC7.out.trans hx) (fun _ _ h=>h),s3.chg (HC7.out.trans hx) (fun _ _ h=>h)⟩)
           have HSN:=jh (sameNums_yes ds ya ua yc uc S S' w7 (r4.chg HC7.out (fun _ _ h=>h)) (s4.chg HC7.out (fun _ _ h=>h)) lb2)
           have l0':=HC6.out.cellS l0 (fun h=>h)
           have y0':=HC6.out.cellS y0 (fun h=>h)
           have y1':=HC6.out.cellS y1 (fun h=>h)
           have y2':=HC6.out.cellS y2 (fun h=>h)
           clear hx hy hcells hcells' r2 r3 r4 s2 s3 s4
           go_upto_region 31 with (fail)
           rw [← hw6]
           clear hw6 x0 x1 x2 y0 y1 y2 m0 l0
           go_upto_region 32 with (fail)
           rw [← hw7]
           clear hw7 hs6 l0' y0' y1' y2'
           have z0:=(HZ0.out w7 (Chg.refl _ _)).1 0 _ rfl
           have z1:=(HZ0.out w7 (Chg.refl _ _)).1 1 _ rfl
           have z2:=(HZ0.out w7 (Chg.refl _ _)).1 2 _ rfl
           have v0:=(HZ0.out w7 (Chg.refl _ _)).2 0 _ rfl
           have v1:=(HZ0.out w7 (Chg.refl _ _)).2 1 _ rfl
           have v2:=(HZ0.out w7 (Chg.refl _ _)).2 2 _ rfl
           go_wp2_with fail
           refine HSN.out.mono ?_
           rintro e w8 ⟨rfl,hc8⟩
           have HC8:=jh hc8
           clear hc8 HSN z0 z1 z2 v0 v1 v2
           have z1:=(HZ0.out w8 HC8.out).1 1 _ rfl
           go_upto_region 35 with (fail)
           clear z1
           go_loopw [14] (fun q wr=>∃ j:Nat,j≤es.length∧q=.int .i64 j∧Chg (fun _=>False) w7 wr) (fun q _=>es.length - (intOf q).toNat)
           case atStart=>exact ⟨0,by omega,rfl,HC8.out⟩
           case round =>
            clear HC8
            obtain ⟨j,hj,rfl,hc⟩:=hrel
            have HCJ:=jh hc
            clear hc
            have z1:=(HZ0.out wr HCJ.out).1 1 _ rfl
            have v1:=(HZ0.out wr HCJ.out).2 1 _ rfl
            obtain ⟨hle,hld⟩:=HZ.out _ HCJ.out
            by_cases hjl:j < es.length
            ·have hb10:decide ((j:Int) < (es.length:Int))=true:=by simp;omega
             obtain ⟨⟨t1,t2,t3⟩,f1,gl,ol,hx,hr1,rfl,-,-,hek,hcells⟩:=(ListR.of hle).get3 (f:=encEdge) rfl hjl rfl
             obtain ⟨⟨t4,t5,t6⟩,f2,gm,om,hy,hr2,rfl,-,-,-,hcells'⟩:=(ListR.of hld).get3 (f:=encDe) rfl hjl rfl
             obtain rfl:(t1,t2,t3)=f1:=hr1
             obtain rfl:(t4,t5,t6)=f2:=hr2
             rw [hx] at hy
             injection hy with hy
             injection hy with hy1 hy2
             injection hy2 with hy2 hy3
             subst hy1 hy2 hy3
             obtain ⟨⟨hk1,hk2⟩,-⟩:=hek
             simp only at hk1 hk2
             have hwk:IntKind.i64.wrap t1=t1:=by rw [IntKind.wrap_i64];omega
             obtain ⟨x0,x1,x2⟩:=hcells _ _ _ rfl
             obtain ⟨y0,y1,y2⟩:=hcells' _ _ _ rfl
             have HCF:Hid (∀ X,Chg (fun _=>False) wr X→(X.cell? ⟨wo.heap.size,1,none⟩=some (.slice (some ⟨gl,ol,none⟩) es.length xc)∧X.cell? ⟨wo.heap.size+1,1,none⟩=some (.slice (some ⟨gm,om,none⟩) es.length zc))∧(X.cell? ⟨gl,ol+j * 3,none⟩=some (.int .u8 t1)∧X.cell? ⟨gl,ol+j * 3+1,none⟩=some (.int .i64 t2)∧X.cell? ⟨gl,ol+j * 3+2,none⟩=some (.int .i64 t3))∧X.cell? ⟨gm,om+j * 3,none⟩=some (.int .i64 t1)∧X.cell? ⟨gm,om+j * 3+1,none⟩=some (.int .i64 t2)∧X.cell? ⟨gm,om+j * 3+2,none⟩=some (.int .i64 t3)):=jh (fun X hx =>
              ⟨⟨hx.cellS z1 (fun h=>h),hx.cellS v1 (fun h=>h)⟩,⟨hx.cellS x0 (fun h=>h),hx.cellS x1 (fun h=>h),hx.cellS x2 (fun h=>h)⟩,hx.cellS y0 (fun h=>h),hx.cellS y1 (fun h=>h),hx.cellS y2 (fun h=>h)⟩)
             clear hx hcells hcells' hle hld x0 x1 x2 y0 y1 y2
             go_upto_region 37 with (fail)
             refine wp_region_same (fun x=>Chg (fun _=>False) wr x) (by kernel_rfl) (by kernel_rfl) ?_ ?_
             ·exact (Chg.refl _ _).drew
             (refine rdC (fun K hK=>?_);apply Exists.intro;refine ⟨fun _ w' _ hC=>?_,?_⟩;(go_simp;try with_reducible rfl);(try go_simp);refine hK _ ?_;clear hK K);(refine rdC (fun K hK=>?_);apply Exists.intro;refine ⟨fun _ w' _ hC=>?_,?_⟩;((obtain ⟨⟨q0,q1⟩,⟨q2,q3,q4⟩,q5,q6,q7⟩:=HCF.out w' hC);go_simp;try with_reducible rfl);(try go_simp);refine hK _ ?_;clear hK K);(refine rdC (fun K hK=>?_);apply Exists.intro;refine ⟨fun _ w' _ hC=>?_,?_⟩;(go_simp;try with_reducible rfl);(try go_simp);refine hK _ ?_;clear hK K);(refine rdC (fun K hK=>?_);apply Exists.intro;refine ⟨fun _ w' _ hC=>?_,?_⟩;(go_simp;try with_reducible rfl);(try go_simp);refine hK _ ?_;clear hK K);(refine rdC (fun K hK=>?_);apply Exists.intro;refine ⟨fun _ w' _ hC=>?_,?_⟩;(go_simp;try with_reducible rfl);(try go_simp);refine hK _ ?_;clear hK K);(refine rdC (fun K hK=>?_);apply Exists.intro;refine ⟨fun _ w' _ hC=>?_,?_⟩;((obtain ⟨⟨q0,q1⟩,⟨q2,q3,q4⟩,q5,q6,q7⟩:=HCF.out w' hC);go_simp;try with_reducible rfl);(try go_simp);refine hK _ ?_;clear hK K);(refine rdC (fun K hK=>?_);apply Exists.intro;refine ⟨fun _ w' _ hC=>?_,?_⟩;(go_simp;try with_reducible rfl);(try go_simp);refine hK _ ?_;clear hK K);(refine rdC (fun K hK=>?_);apply Exists.intro;refine ⟨fun _ w' _ hC=>?_,?_⟩;(go_simp;try with_reducible rfl);(try go_simp);refine hK _ ?_;clear hK K);(refine rdC (fun K hK=>?_);apply Exists.intro;refine ⟨fun _ w' _ hC=>?_,?_⟩;((obtain ⟨⟨q0,q1⟩,⟨q2,q3,q4⟩,q5,q6,q7⟩:=HCF.out w' hC);go_simp;try with_reducible rfl);(try go_simp);refine hK _ ?_;clear hK K);(refine rdC (fun K hK=>?_);apply Exists.intro;refine ⟨fun _ w' _ hC=>?_,?_⟩;(go_simp;try with_reducible rfl);(try go_simp);refine hK _ ?_;clear hK K);(refine rdC (fun K hK=>?_);apply Exists.intro;refine ⟨fun _ w' _ hC=>?_,?_⟩;(go_simp;try with_reducible rfl);(try go_simp);refine hK _ ?_;clear hK K);(refine rdC (fun K hK=>?_);apply Exists.intro;refine ⟨fun _ w' _ hC=>?_,?_⟩;(go_simp;try with_reducible rfl);(try go_simp);refine hK _ ?_;clear hK K);(refine rdC (fun K hK=>?_);apply Exists.intro;refine ⟨fun _ w' _ hC=>?_,?_⟩;((obtain ⟨⟨q0,q1⟩,⟨q2,q3,q4⟩,q5,q6,q7⟩:=HCF.out w' hC);go_simp;try with_reducible rfl);(try go_simp);refine hK _ ?_;clear hK K);(refine rdC (fun K hK=>?_);apply Exists.intro;refine ⟨fun _ w' _ hC=>?_,?_⟩;(go_simp;try with_reducible rfl);(try go_simp);refine hK _ ?_;clear hK K);(refine rdC (fun K hK=>?_);apply Exists.intro;refine ⟨fun _ w' _ hC=>?_,?_⟩;(go_simp;try with_reducible rfl);(try go_simp);refine hK _ ?_;clear hK K);(refine rdC (fun K hK=>?_);apply Exists.intro;refine ⟨fun _ w' _ hC=>?_,?_⟩;(go_simp;try with_reducible rfl);(try go_simp);refine hK _ ?_;clear hK K);(refine rdC (fun K hK=>?_);apply Exists.intro;refine ⟨fun _ w' _ hC=>?_,?_⟩;((obtain ⟨⟨q0,q1⟩,⟨q2,q3,q4⟩,q5,q6,q7⟩:=HCF.out w' hC);go_simp;try with_reducible rfl);(try go_simp);refine hK _ ?_;clear hK K);(refine rdC (fun K hK=>?_);apply Exists.intro;refine ⟨fun _ w' _ hC=>?_,?_⟩;(go_simp;try with_reducible rfl);(try go_simp);refine hK _ ?_;clear hK K);(refine rdC (fun K hK=>?_);apply Exists.intro;refine ⟨fun _ w' _ hC=>?_,?_⟩;(go_simp;try with_reducible rfl);(try go_simp);refine hK _ ?_;clear hK K);(refine rdC (fun K hK=>?_);apply Exists.intro;refine ⟨fun _ w' _ hC=>?_,?_⟩;(go_simp;try with_reducible rfl);(try go_simp);refine hK _ ?_;clear hK K);(refine rdC (fun K hK=>?_);apply Exists.intro;refine ⟨fun _ w' _ hC=>?_,?_⟩;((obtain ⟨⟨q0,q1⟩,⟨q2,q3,q4⟩,q5,q6,q7⟩:=HCF.out w' hC);go_simp;try with_reducible rfl);(try go_simp);refine hK _ ?_;clear hK K);(refine rdC (fun K hK=>?_);apply Exists.intro;refine ⟨fun _ w' _ hC=>?_,?_⟩;(go_simp;try with_reducible rfl);(try go_simp);refine hK _ ?_;clear hK K);(refine rdC (fun K hK=>?_);apply Exists.intro;refine ⟨fun _ w' _ hC=>?_,?_⟩;((obtain ⟨⟨q0,q1⟩,⟨q2,q3,q4⟩,q5,q6,q7⟩:=HCF.out w' hC);go_simp;try with_reducible rfl);(try go_simp);refine hK _ ?_;clear hK K);(refine rdC (fun K hK=>?_);apply Exists.intro;refine ⟨fun _ w' _ hC=>?_,?_⟩;(go_simp;try with_reducible rfl);(try go_simp);refine hK _ ?_;clear hK K);(refine rdC (fun K hK=>?_);apply Exists.intro;refine ⟨fun _ w' _ hC=>?_,?_⟩;(go_simp;try with_reducible rfl);(try go_simp);refine hK _ ?_;clear hK K);(refine rdC (fun K hK=>?_);apply Exists.intro;refine ⟨fun _ w' _ hC=>?_,?_⟩;(go_simp;try with_reducible rfl);(try go_simp);refine hK _ ?_;clear hK K);(refine rdC (fun K hK=>?_);apply Exists.intro;refine ⟨fun _ w' _ hC=>?_,?_⟩;((obtain ⟨⟨q0,q1⟩,⟨q2,q3,q4⟩,q5,q6,q7⟩:=HCF.out w' hC);go_simp;try with_reducible rfl);(try go_simp);refine hK _ ?_;clear hK K);(refine rdC (fun K hK=>?_);apply Exists.intro;refine ⟨fun _ w' _ hC=>?_,?_⟩;(go_simp;try with_reducible rfl);(try go_simp);refine hK _ ?_;clear hK K);(refine rdC (fun K hK=>?_);apply Exists.intro;refine ⟨fun _ w' _ hC=>?_,?_⟩;(go_simp;try with_reducible rfl);(try go_simp);refine hK _ ?_;clear hK K);(refine rdC (fun K hK=>?_);apply Exists.intro;refine ⟨fun _ w' _ hC=>?_,?_⟩;(go_simp;try with_reducible rfl);(try go_simp);refine hK _ ?_;clear hK K);(refine rdC (fun K hK=>?_);apply Exists.intro;refine ⟨fun _ w' _ hC=>?_,?_⟩;(go_simp;try with_reducible rfl);(try go_simp);refine hK _ ?_;clear hK K);(refine rdC (fun K hK=>?_);apply Exists.intro;refine ⟨fun _ w' _ hC=>?_,?_⟩;((obtain ⟨⟨q0,q1⟩,⟨q2,q3,q4⟩,q5,q6,q7⟩:=HCF.out w' hC);go_simp;try with_reducible rfl);(try go_simp);refine hK _ ?_;clear hK K);(refine rdC (fun K hK=>?_);apply Exists.intro;refine ⟨fun _ w' _ hC=>?_,?_⟩;(go_simp;try with_reducible rfl);(try go_simp);refine hK _ ?_;clear hK K);(refine rdC (fun K hK=>?_);apply Exists.intro;refine ⟨fun _ w' _ hC=>?_,?_⟩;(go_simp;try with_reducible rfl);(try go_simp);refine hK _ ?_;clear hK K);(refine rdC (fun K hK=>?_);apply Exists.intro;refine ⟨fun _ w' _ hC=>?_,?_⟩;(go_simp;try with_reducible rfl);(try go_simp);refine hK _ ?_;clear hK K);(refine rdC (fun K hK=>?_);apply Exists.intro;refine ⟨fun _ w' _ hC=>?_,?_⟩;((obtain ⟨⟨q0,q1⟩,⟨q2,q3,q4⟩,q5,q6,q7⟩:=HCF.out w' hC);go_simp;try with_reducible rfl);(try go_simp);refine hK _ ?_;clear hK K);(refine rdC (fun K hK=>?_);apply Exists.intro;refine ⟨fun _ w' _ hC=>?_,?_⟩;(go_simp;try with_reducible rfl);(try go_simp);refine hK _ ?_;clear hK K);(refine rdC (fun K hK=>?_);apply Exists.intro;refine ⟨fun _ w' _ hC=>?_,?_⟩;((obtain ⟨⟨q0,q1⟩,⟨q2,q3,q4⟩,q5,q6,q7⟩:=HCF.out w' hC);go_simp;try with_reducible rfl);(try go_simp);refine hK _ ?_;clear hK K);(refine rdC (fun K hK=>?_);apply Exists.intro;refine ⟨fun _ w' _ hC=>?_,?_⟩;(go_simp;try with_reducible rfl);(try go_simp);refine hK _ ?_;clear hK K);(refine rdC (fun K hK=>?_);apply Exists.intro;refine ⟨fun _ w' _ hC=>?_,?_⟩;(go_simp;try with_reducible rfl);(try go_simp);refine hK _ ?_;clear hK K);(refine rdC (fun K hK=>?_);apply Exists.intro;refine ⟨fun _ w' _ hC=>?_,?_⟩;(go_simp;try with_reducible rfl);(try go_simp);refine hK _ ?_;clear hK K);(refine rdC (fun K hK=>?_);apply Exists.intro;refine ⟨fun _ w' _ hC=>?_,?_⟩;((obtain ⟨⟨q0,q1⟩,⟨q2,q3,q4⟩,q5,q6,q7⟩:=HCF.out w' hC);go_simp;try with_reducible rfl);(try go_simp);refine hK _ ?_;clear hK K);(refine rdC (fun K hK=>?_);apply Exists.intro;refine ⟨fun _ w' _ hC=>?_,?_⟩;(go_simp;try with_reducible rfl);(try go_simp);refine hK _ ?_;clear hK K);(refine rdC (fun K hK=>?_);apply Exists.intro;refine ⟨fun _ w' _ hC=>?_,?_⟩;(go_simp;try with_reducible rfl);(try go_simp);refine hK _ ?_;clear hK K)
             refine wpC_nil ?_
             intro w2 hc2
             have HC2:=jh (HCJ.out.trans hc2)
             clear hc2 z1 v1
             go_wp2
             go_roundw
             case rel=>exact ⟨j+1,by omega,by go_num,HC2.out⟩
             case measure=>simp [intOf];omega
            ·obtain rfl:j=es.length:=by omega
             have hb10:decide ((es.length:Int) < (es.length:Int))=false:=by simp
             have HC2:=jh (HC.out.trans (HC7.out.trans HCJ.out))
             go_wp2
             go_roundw
             case rel=>exact ⟨k+1,by omega,by go_num,HC2.out⟩
             case measure=>simp [intOf];omega
          ·obtain rfl:k=t.nt.st.length:=by omega
           have hb9:decide ((t.nt.st.length:Int) < (t.nt.st.length:Int))=false:=by simp
           have HFIN:=jh (HC0.out.trans (HCW.out.trans HC.out))
           go_wp2
           go_ret
           exact ⟨rfl,HFIN.out⟩
end Go.Proofs.YtgnpmceimpjheaaGreat
namespace Go.Proofs.YtgnpmceimpjheaaGreat
open Go.RowKit
end Go.Proofs.YtgnpmceimpjheaaGreat
namespace Go.Proofs.YtgnpmceimpjheaaGreat
open Go.RowKit
theorem sealL_take (Z:List Int):(sealL Z).take Z.length=Z:=by rw [sealL];exact List.take_left
theorem sealL_drop (Z:List Int):(sealL Z).drop Z.length=fourL (ofI Z):=by rw [sealL];exact List.drop_left
theorem getR_seal (Z:List Int):getR (sealL Z)=getB (tabsG Z):=by
 unfold getR
 rw [sealL_length,if_neg (by omega),show Z.length+4 - 4=Z.length by omega,sealL_take,sealL_drop,if_pos rfl]
structure Fit (t:TabsD):Prop where
 f:FairTabs t
 p:mayTabs t=true→PutB t
 o:mayTabs t=true→OkTabs t
 l:mayTabs t=true→(ptTabs t).length≤5000000
theorem NotGreat.fit {t:TabsD} (h:NotGreat t) (hk:∀ s∈t.nt.st,∀ e∈s.2.1,0≤e.1):Fit t:=by
 have hl:=h.light
 have ho:mayTabs t=true→OkTabs t:=fun hm=>ok_tabs hm (hl.small hk)
 exact ⟨hl.fair,fun hm=>by
  obtain ⟨h1,h2⟩:=hl.put (ho hm) hm
  exact ⟨h1,by omega⟩,ho,fun hm=>(hl.put (ho hm) hm).2⟩
theorem Fit.back {t:TabsD} (h:Fit t) (hm:mayTabs t=true):getR (sealL (ptTabs t))=(0,some t):=by
 rw [getR_seal,tabs_back (h.o hm) hm]
 rfl
def livT:TabsD:=⟨[⟨#[97]⟩],[],[],⟨[],[],[[]],[-1]⟩,⟨[(0,[(0,0,1)],[]),(0,[],[])],[0],[1],[],[]⟩,[]⟩
def livN:TabsD:=⟨[⟨#[97]⟩],[],[],⟨[],[],[[]],[-1]⟩,⟨[],[0],[1],[],[]⟩,[]⟩
theorem livT_may:mayTabs livT=true:=by decide +kernel
theorem livN_may:mayTabs livN=false:=by decide +kernel
theorem livT_light:Light livT:=by constructor <;> decide +kernel
theorem livN_light:Light livN:=by constructor <;> decide +kernel
theorem livT_kinds:∀ s∈livT.nt.st,∀ e∈s.2.1,0≤e.1:=by decide +kernel
theorem livN_fair:FairTabs livN:=livN_light.fair
theorem livT_fit:Fit livT:=by
 have ho:mayTabs livT=true→OkTabs livT:=fun hm=>ok_tabs hm (livT_light.small livT_kinds)
 exact ⟨livT_light.fair,fun hm=>by
  obtain ⟨h1,h2⟩:=livT_light.put (ho hm) hm
  exact ⟨h1,by omega⟩,ho,fun hm=>(livT_light.put (ho hm) hm).2⟩
end Go.Proofs.YtgnpmceimpjheaaGreat
namespace Go.Proofs.YtgnpmceimpjheaaGreat
open Go.RowKit
theorem Elt.InS.lit {α:Type} {E:Elt α} {W W':World} {Y:List α} {e:TypeId} {b:Nat} {S:Nat→Prop} (hY:∀ a∈Y,E.ok a) (hb:b=W.heap.size) (hS:S b) (hW:Chg (fun _=>False) (W.alloc (.cells (E.encs Y).toArray e)) W'):E.InS W' S (some ⟨b,0,none⟩,Y.length,Y.length) Y:=by
 subst hb
 exact ⟨rfl,Nat.le_refl _,_,0,(E.lit W Y e hY).chg hW (fun _ h=>h),fun _=>⟨rfl,hS⟩⟩
theorem Elt.InS.nil' {α:Type} {E:Elt α} {W:World} {S:Nat→Prop} (a:Option Addr):E.InS W S (a,0,0) []:=⟨rfl,Nat.le_refl _,0,0,.nil _ _ _ _,fun h=>absurd h (by simp)⟩
structure LivAt (w W:World):Prop where
 t:TabsIn W (fun k=>w.heap.size≤k∧k < w.heap.size+8) ⟨(some ⟨w.heap.size,0,none⟩,1,1),(none,0,0),(none,0,0),⟨(none,0,0),(none,0,0),(some ⟨w.heap.size+1+1,0,none⟩,1,1),(some ⟨w.heap.size+1+1+1,0,none⟩,1,1)⟩,⟨(some ⟨w.heap.size+1+1+1+1+1+1+1,0,none⟩,2,2),(some ⟨w.heap.size+1+1+1+1,0,none⟩,1,1),(some ⟨w.heap.size+1+1+1+1+1,0,none⟩,1,1),(none,0,0),(none,0,0)⟩,(none,0,0)⟩ livT
 c:∀ j v,([.slice (some ⟨w.heap.size,0,none⟩) 1 1,.slice none 0 0,.slice none 0 0,.slice none 0 0,.slice none 0 0,.slice (some ⟨w.heap.size+1+1,0,none⟩) 1 1,.slice (some ⟨w.heap.size+1+1+1,0,none⟩) 1 1,.slice (some ⟨w.heap.size+1+1+1+1+1+1+1,0,none⟩) 2 2,.slice (some ⟨w.heap.size+1+1+1+1,0,none⟩) 1 1,.slice (some ⟨w.heap.size+1+1+1+1+1,0,none⟩) 1 1,.slice none 0 0,.slice none 0 0,.slice none 0 0]:List Value)[j]?=some v→W.cell? ⟨w.heap.size+1+1+1+1+1+1+1+1,j,none⟩=some v
 z:∀ j,W.frozen? ⟨w.heap.size+1+1+1+1+1+1+1+1,j,none⟩=false
 h:Chg (fun _=>False) w W
set_option maxRecDepth 100000 in
theorem liv_mem (w:World):LivAt w (((((((((w.alloc (.cells #[.string ⟨#[97]⟩] 9)).alloc (.cells #[] 3)).alloc (.cells #[.slice (some ⟨w.heap.size+1,0,none⟩) 0 0] 25)).alloc (.cells #[.int .i64 (-1)] 3)).alloc (.cells #[.int .i64 0] 3)).alloc (.cells #[.int .i64 1] 3)).alloc (.cells #[.int .u8 0,.int .i64 0,.int .i64 1] 71)).alloc (.cells #[.int .i64 0,.slice (some ⟨w.heap.size+1+1+1+1+1+1,0,none⟩) 1 1,.slice none 0 0,.int .i64 0,.slice none 0 0,.slice none 0 0] 74)).alloc (.cells #[.slice (some ⟨w.heap.size,0,none⟩) 1 1,.slice none 0 0,.slice none 0 0,.slice none 0 0,.slice none 0 0,.slice (some ⟨w.heap.size+1+1,0,none⟩) 1 1,.slice (some ⟨w.heap.size+1+1+1,0,none⟩) 1 1,.slice (some ⟨w.heap.size+1+1+1+1+1+1+1,0,none⟩) 2 2,.slice (some ⟨w.heap.size+1+1+1+1,0,none⟩) 1 1,.slice (some ⟨w.heap.size+1+1+1+1+1,0,none⟩) 1 1,.slice none 0 0,.slice none 0 0,.slice none 0 0] 34)):=by
 obtain ⟨w9,hw9⟩:∃ W,W=((((((((w.alloc (.cells #[.string ⟨#[97]⟩] 9)).alloc (.cells #[] 3)).alloc (.cells #[.slice (some ⟨w.heap.size+1,0,none⟩) 0 0] 25)).alloc (.cells #[.int .i64 (-1)] 3)).alloc (.cells #[.int .i64 0] 3)).alloc (.cells #[.int .i64 1] 3)).alloc (.cells #[.int .u8 0,.int .i64 0,.int .i64 1] 71)).alloc (.cells #[.int .i64 0,.slice (some ⟨w.heap.size+1+1+1+1+1+1,0,none⟩) 1 1,.slice none 0 0,.int .i64 0,.slice none 0 0,.slice none 0 0] 74)).alloc (.cells #[.slice (some ⟨w.heap.size,0,none⟩) 1 1,.slice none 0 0,.slice none 0 0,.slice none 0 0,.slice none 0 0,.slice (some ⟨w.heap.size+1+1,0,none⟩) 1 1,.slice (some ⟨w.heap.size+1+1+1,0,none⟩) 1 1,.slice (some ⟨w.heap.size+1+1+1+1+1+1+1,0,none⟩) 2 2,.slice (some ⟨w.heap.size+1+1+1+1,0,none⟩) 1 1,.slice (some ⟨w.heap.size+1+1+1+1+1,0,none⟩) 1 1,.slice none 0 0,.slice none 0 0,.slice none 0 0] 34):=⟨_,rfl⟩
 rw [← hw9]
 obtain ⟨w1,hw1⟩:∃ W,W=w.alloc (.cells #[.string ⟨#[97]⟩] 9):=⟨_,rfl⟩
 obtain ⟨w2,hw2⟩:∃ W,W=w1.alloc (.cells #[] 3):=⟨_,rfl⟩
 obtain ⟨w3,hw3⟩:∃ W,W=w2.alloc (.cells #[.slice (some ⟨w.heap.size+1,0,none⟩) 0 0] 25):=⟨_,rfl⟩
 obtain ⟨w4,hw4⟩:∃ W,W=w3.alloc (.cells #[.int .i64 (-1)] 3):=⟨_,rfl⟩
 obtain ⟨w5,hw5⟩:∃ W,W=w4.alloc (.cells #[.int .i64 0] 3):=⟨_,rfl⟩
 obtain ⟨w6,hw6⟩:∃ W,W=w5.alloc (.cells #[.int .i64 1] 3):=⟨_,rfl⟩
 obtain ⟨w7,hw7⟩:∃ W,W=w6.alloc (.cells #[.int .u8 0,.int .i64 0,.int .i64 1] 71):=⟨_,rfl⟩
 obtain ⟨w8,hw8⟩:∃ W,W=w7.alloc (.cells #[.int .i64 0,.slice (some ⟨w.heap.size+1+1+1+1+1+1,0,none⟩) 1 1,.slice none 0 0,.int .i64 0,.slice none 0 0,.slice none 0 0] 74):=⟨_,rfl⟩
 rw [← hw1,← hw2,← hw3,← hw4,← hw5,← hw6,← hw7,← hw8] at hw9
 have s1:w1.heap.size=w.heap.size+1:=by rw [hw1];simp
 have s2:w2.heap.size=w.heap.size+1+1:=by rw [hw2];simp [s1]
 have s3:w3.heap.size=w.heap.size+1+1+1:=by rw [hw3];simp [s2]
 have s4:w4.heap.size=w.heap.size+1+1+1+1:=by rw [hw4];simp [s3]
 have s5:w5.heap.size=w.heap.size+1+1+1+1+1:=by rw [hw5];simp [s4]
 have s6:w6.heap.size=w.heap.size+1+1+1+1+1+1:=by rw [hw6];simp [s5]
 have s7:w7.heap.size=w.heap.size+1+1+1+1+1+1+1:=by rw [hw7];simp [s6]
 have s8:w8.heap.size=w.heap.size+1+1+1+1+1+1+1+1:=by rw [hw8];simp [s7]
 have g1:Chg (fun _=>False) w w1:=by rw [hw1];exact (Chg.refl _ _).alloc _
 have g2:Chg (fun _=>False) w1 w2:=by rw [hw2];exact (Chg.refl _ _).alloc _
 have g3:Chg (fun _=>False) w2 w3:=by rw [hw3];exact (Chg.refl _ _).alloc _
 have g4:Chg (fun _=>False) w3 w4:=by rw [hw4];exact (Chg.refl _ _).alloc _
 have g5:Chg (fun _=>False) w4 w5:=by rw [hw5];exact (Chg.refl _ _).alloc _
 have g6:Chg (fun _=>False) w5 w6:=by rw [hw6];exact (Chg.refl _ _).alloc _
 have g7:Chg (fun _=>False) w6 w7:=by rw [hw7];exact (Chg.refl _ _).alloc _
 have g8:Chg (fun _=>False) w7 w8:=by rw [hw8];exact (Chg.refl _ _).alloc _
 have g9:Chg (fun _=>False) w8 w9:=by rw [hw9];exact (Chg.refl _ _).alloc _
 have k9:Chg (fun _=>False) w9 w9:=Chg.refl _ _
 have k8:=g9.trans k9
 have k7:=g8.trans k8
 have k6:=g7.trans k7
 have k5:=g6.trans k6
 have k4:=g5.trans k5
 have k3:=g4.trans k4
 have k2:=g3.trans k3
 have k1:=g2.trans k2
 refine ⟨⟨Elt.InS.lit (E:=strE) (W:=w) (e:=9) (Y:=[(⟨#[97]⟩:Str)]) (fun a ha=>by rw [List.mem_singleton.1 ha];exact trivial) rfl ⟨by omega,by omega⟩ (by rw [hw1] at k1;exact k1),Elt.InS.nil' _,Elt.InS.nil' _,⟨Elt.InS.nil' _,Elt.InS.nil' _,⟨[(some ⟨w.heap.size+1,0,none⟩,0,0)],Elt.InS.lit (E:=listE) (W:=w2) (e:=25) (Y:=[((some ⟨w.heap.size+1,0,none⟩,0,0):Sl)]) (fun _ _=>trivial) s2.symm ⟨by omega,by omega⟩ (by rw [hw3] at k3;exact k3),rfl,?_⟩,Elt.InS.lit (E:=intE) (W:=w3) (e:=3) (Y:=[(-1:Int)]) (fun a ha=>by rw [List.mem_singleton.1 ha];exact (show I.Byte _ from by decide)) s3.symm ⟨by omega,by omega⟩ (by rw [hw4] at k4;exact k4)⟩,⟨⟨[(0,(some ⟨w.heap.size+1+1+1+1+1+1,0,none⟩,1,1),(none,0,0)),(0,(none,0,0),(none,0,0))],Elt.InS.lit (E:=stE) (W:=w7) (e:=74) (Y:=[((0,(some ⟨w.heap.size+1+1+1+1+1+1,0,none⟩,1,1),(none,0,0)):Int × Sl × Sl),(0,(none,0,0),(none,0,0))]) (fun a ha=>by simp only [List.mem_cons,List.not_mem_nil,or_false] at ha;rcases ha with rfl | rfl <;> exact (show I.Byte (0:Int) from by decide)) s7.symm ⟨by omega,by omega⟩ (by rw [hw8] at k8;exact k8),rfl,?_⟩,Elt.InS.lit (E:=intE) (W:=w4) (e:=3) (Y:=[(0:Int)]) (fun a ha=>by rw [List.mem_singleton.1 ha];exact (show I.Byte _ from by decide)) s4.symm ⟨by omega,by omega⟩ (by rw [hw5] at k5;exact k5),Elt.InS.lit (E:=intE) (W:=w5) (e:=3) (Y:=[(1:Int)]) (fun a ha=>by rw [List.mem_singleton.1 ha];exact (show I.Byte _ from by decide)) s5.symm ⟨by omega,by omega⟩ (by rw [hw6] at k6;exact k6),Elt.InS.nil' _,Elt.InS.nil' _⟩,⟨[],Elt.InS.nil' _,rfl,fun j x d hx=>by simp at hx⟩⟩,fun j v hv=>?_,fun j=>?_,g1.trans k1⟩
 ·intro j x d hx hd
  have hj:j=0:=by
   have:=(List.getElem?_eq_some_iff.1 hx).1
   simp at this;omega
  subst hj
  obtain rfl:=Option.some.inj hx
  obtain rfl:[]=d:=Option.some.inj hd
  exact Elt.InS.nil' _
 ·intro j x d hx hd
  have hj:j=0∨j=1:=by
   have:=(List.getElem?_eq_some_iff.1 hx).1
   simp at this;omega
  rcases hj with rfl | rfl
  ·obtain rfl:=Option.some.inj hx
   obtain rfl:(0,[(0,0,1)],[])=d:=Option.some.inj hd
   exact ⟨rfl,by decide,Elt.InS.lit (E:=edgeE) (W:=w6) (e:=71) (Y:=[((0,0,1):EdgeD)]) (fun a ha=>by rw [List.mem_singleton.1 ha];exact ⟨by decide,by decide,by decide⟩) s6.symm ⟨by omega,by omega⟩ (by rw [hw7] at k7;exact k7),Elt.InS.nil' _⟩
  ·obtain rfl:=Option.some.inj hx
   obtain rfl:(0,[],[])=d:=Option.some.inj hd
   exact ⟨rfl,by decide,Elt.InS.nil' _,Elt.InS.nil' _⟩
 ·rw [hw9,show w.heap.size+1+1+1+1+1+1+1+1=w8.heap.size from s8.symm]
  exact allocAt _ rfl (by rw [← Array.getElem?_toList];exact hv)
 ·rw [hw9,show w.heap.size+1+1+1+1+1+1+1+1=w8.heap.size from s8.symm]
  exact World.frozen?_alloc_new _ _ _ _
end Go.Proofs.YtgnpmceimpjheaaGreat
namespace Go.Proofs.YtgnpmceimpjheaaGreat
open Go.RowKit
set_option maxRecDepth 100000 in
set_option maxHeartbeats 8000000 in
theorem lives_any (w:World):Calls Tryz.prog 8 #[] w fun e w'=>e=.returned (.bool true)∧Chg (fun _=>False) w w':=by
 have hlv:=liv_mem w
 obtain ⟨wv,hwv⟩:∃ W,W=((((((((w.alloc (.cells #[.string ⟨#[97]⟩] 9)).alloc (.cells #[] 3)).alloc (.cells #[.slice (some ⟨w.heap.size+1,0,none⟩) 0 0] 25)).alloc (.cells #[.int .i64 (-1)] 3)).alloc (.cells #[.int .i64 0] 3)).alloc (.cells #[.int .i64 1] 3)).alloc (.cells #[.int .u8 0,.int .i64 0,.int .i64 1] 71)).alloc (.cells #[.int .i64 0,.slice (some ⟨w.heap.size+1+1+1+1+1+1,0,none⟩) 1 1,.slice none 0 0,.int .i64 0,.slice none 0 0,.slice none 0 0] 74)).alloc (.cells #[.slice (some ⟨w.heap.size,0,none⟩) 1 1,.slice none 0 0,.slice none 0 0,.slice none 0 0,.slice none 0 0,.slice (some ⟨w.heap.size+1+1,0,none⟩) 1 1,.slice (some ⟨w.heap.size+1+1+1,0,none⟩) 1 1,.slice (some ⟨w.heap.size+1+1+1+1+1+1+1,0,none⟩) 2 2,.slice (some ⟨w.heap.size+1+1+1+1,0,none⟩) 1 1,.slice (some ⟨w.heap.size+1+1+1+1+1,0,none⟩) 1 1,.slice none 0 0,.slice none 0 0,.slice none 0 0] 34):=⟨_,rfl⟩
 rw [← hwv] at hlv
 have HLV:=jh hlv
 have HWV:=jh hwv
 clear hlv hwv
 go_enter Tryz.func8,Tryz.ntmps8
 go_upto_region 2 with (fail)
 rw [← HWV.out]
 obtain ⟨bv,hbv⟩:∃ b,b=w.heap.size+1+1+1+1+1+1+1+1:=⟨_,rfl⟩
 have HBV:=jh hbv
 rw [← hbv]
 have HC:Hid (∀ X,Chg (fun _=>False) wv X→∀ j v,([.slice (some ⟨w.heap.size,0,none⟩) 1 1,.slice none 0 0,.slice none 0 0,.slice none 0 0,.slice none 0 0,.slice (some ⟨w.heap.size+1+1,0,none⟩) 1 1,.slice (some ⟨w.heap.size+1+1+1,0,none⟩) 1 1,.slice (some ⟨w.heap.size+1+1+1+1+1+1+1,0,none⟩) 2 2,.slice (some ⟨w.heap.size+1+1+1+1,0,none⟩) 1 1,.slice (some ⟨w.heap.size+1+1+1+1+1,0,none⟩) 1 1,.slice none 0 0,.slice none 0 0,.slice none 0 0]:List Value)[j]?=some v→X.cell? ⟨bv,j,none⟩=some v):=jh (fun X hx j v hv=>hx.cellS (by rw [hbv];exact HLV.out.c j v hv) (fun h=>h))
 have HZV:Hid (∀ X,Chg (fun _=>False) wv X→∀ j,X.frozen? ⟨bv,j,none⟩=false):=jh (fun X hx j=>(hx.frozen (p:=⟨bv,j,none⟩) (by have:=World.block_lt_of_cell? _ _ (HC.out wv (Chg.refl _ _) 0 _ rfl);exact this) (fun h=>h)).trans (by rw [hbv];exact HLV.out.z j))
 clear hbv
 have v0:=HC.out wv (Chg.refl _ _) 0 _ rfl
 have v1:=HC.out wv (Chg.refl _ _) 1 _ rfl
 have v2:=HC.out wv (Chg.refl _ _) 2 _ rfl
 have v3:=HC.out wv (Chg.refl _ _) 3 _ rfl
 have v4:=HC.out wv (Chg.refl _ _) 4 _ rfl
 have v5:=HC.out wv (Chg.refl _ _) 5 _ rfl
 have v6:=HC.out wv (Chg.refl _ _) 6 _ rfl
 have v7:=HC.out wv (Chg.refl _ _) 7 _ rfl
 have v8:=HC.out wv (Chg.refl _ _) 8 _ rfl
 have v9:=HC.out wv (Chg.refl _ _) 9 _ rfl
 have v10:=HC.out wv (Chg.refl _ _) 10 _ rfl
 have v11:=HC.out wv (Chg.refl _ _) 11 _ rfl
 have v12:=HC.out wv (Chg.refl _ _) 12 _ rfl
 go_wp2_with fail
 refine (put_tabs livT ⟨(some ⟨w.heap.size,0,none⟩,1,1),(none,0,0),(none,0,0),⟨(none,0,0),(none,0,0),(some ⟨w.heap.size+1+1,0,none⟩,1,1),(some ⟨w.heap.size+1+1+1,0,none⟩,1,1)⟩,⟨(some ⟨w.heap.size+1+1+1+1+1+1+1,0,none⟩,2,2),(some ⟨w.heap.size+1+1+1+1,0,none⟩,1,1),(some ⟨w.heap.size+1+1+1+1+1,0,none⟩,1,1),(none,0,0),(none,0,0)⟩,(none,0,0)⟩ _ wv HLV.out.t livT_fit.f livT_fit.p).mono ?_
 rintro e x1 ⟨hc1,h1⟩
 rcases h1 with ⟨hm,-⟩ | ⟨-,h,rfl,hlo,hrow⟩
 ·rw [livT_may] at hm;cases hm
 have hgr:=livT_fit.back livT_may
 have hll:(sealL (ptTabs livT)).length≤5000004:=by have:=livT_fit.l livT_may;rw [sealL_length];omega
 obtain ⟨L,hL⟩:∃ L,sealL (ptTabs livT)=L:=⟨_,rfl⟩
 rw [hL] at hgr hrow hll ⊢
 clear hL
 have HX1:=jh hc1
 have HGR:=jh hgr
 have HROW:=jh hrow
 have HLL:=jh hll
 clear hc1 hgr hrow hlo hll v0 v1 v2 v3 v4 v5 v6 v7 v8 v9 v10 v11 v12
 go_wp2_with fail
 refine (get_any L (some ⟨h,0,none⟩) h 0 L.length x1 (HROW.out.bytes (List.prefix_refl _)) (fun _=>rfl) (Nat.le_refl _) (by have:=HLL.out;omega)).mono ?_
 rintro e x2 ⟨hc2,m1,rfl,h2⟩
 rw [HGR.out] at h2 ⊢
 rcases h2 with ⟨h2,-⟩ | ⟨t,ht,hin⟩
 ·cases h2
 obtain rfl:livT=t:=Option.some.inj ht
 obtain ⟨⟨a0,n0,c0⟩,⟨a1,n1,c1⟩,⟨a2,n2,c2⟩,⟨⟨a3,n3,c3⟩,⟨a4,n4,c4⟩,⟨a5,n5,c5⟩,⟨a6,n6,c6⟩⟩,⟨⟨a7,n7,c7⟩,⟨a8,n8,c8⟩,⟨a9,n9,c9⟩,⟨a10,n10,c10⟩,⟨a11,n11,c11⟩⟩,⟨a12,n12,c12⟩⟩:=m1
 simp only [tabsV,slV]
 have HX2:=jh (HX1.out.trans hc2)
 have HIN:=jh hin
 clear hc2 hin ht
 obtain ⟨x3,hx3⟩:∃ X,X=x2.alloc (.cells #[.slice a0 n0 c0,.slice a1 n1 c1,.slice a2 n2 c2,.slice a3 n3 c3,.slice a4 n4 c4,.slice a5 n5 c5,.slice a6 n6 c6,.slice a7 n7 c7,.slice a8 n8 c8,.slice a9 n9 c9,.slice a10 n10 c10,.slice a11 n11 c11,.slice a12 n12 c12] 34):=⟨_,rfl⟩
 have HX3:Hid (Chg (fun _=>False) wv x3∧Chg (fun _=>False) x2 x3):=jh (by rw [hx3];exact ⟨HX2.out.alloc _,(Chg.refl _ _).alloc _⟩)
 obtain ⟨bm,hbm⟩:∃ b,b=x2.heap.size:=⟨_,rfl⟩
 have HU:Hid (∀ X,Chg (fun _=>False) x3 X→∀ j v,([.slice a0 n0 c0,.slice a1 n1 c1,.slice a2 n2 c2,.slice a3 n3 c3,.slice a4 n4 c4,.slice a5 n5 c5,.slice a6 n6 c6,.slice a7 n7 c7,.slice a8 n8 c8,.slice a9 n9 c9,.slice a10 n10 c10,.slice a11 n11 c11,.slice a12 n12 c12]:List Value)[j]?=some v→X.cell? ⟨bm,j,none⟩=some v):=jh (fun X hx j v hv=>hx.cellS (by rw [hx3];exact allocAt _ hbm (by rw [← Array.getElem?_toList];exact hv)) (fun h=>h))
 have HW3:=jh hx3
 have HBM:=jh hbm
 clear hx3 hbm
 go_upto_region 4 with (fail)
 rw [← HW3.out,← HBM.out]
 obtain ⟨wd,hwd⟩:∃ X,x3.drew=X:=⟨_,rfl⟩
 have HWD:Hid (Chg (fun _=>False) x3 wd):=jh (by rw [← hwd];exact (Chg.refl _ _).drew)
 refine wp_region_late (fun x=>Chg (fun _=>False) wd x) (fun _=>false) (by kernel_rfl) ?_
 show wpAnyL _ _ _ _ _ _ 18 (Array.replicate 18 false) _ x3.drew
 rw [hwd]
 clear hwd
 have HSS:Hid (Chg (fun _=>False) wd wd):=jh (Chg.refl _ _)
 have HQV:Hid (∀ x,Chg (fun _=>False) wd x→∀ j v,([.slice (some ⟨w.heap.size,0,none⟩) 1 1,.slice none 0 0,.slice none 0 0,.slice none 0 0,.slice none 0 0,.slice (some ⟨w.heap.size+1+1,0,none⟩) 1 1,.slice (some ⟨w.heap.size+1+1+1,0,none⟩) 1 1,.slice (some ⟨w.heap.size+1+1+1+1+1+1+1,0,none⟩) 2 2,.slice (some ⟨w.heap.size+1+1+1+1,0,none⟩) 1 1,.slice (some ⟨w.heap.size+1+1+1+1+1,0,none⟩) 1 1,.slice none 0 0,.slice none 0 0,.slice none 0 0]:List Value)[j]?=some v→x.cell? ⟨bv,j,none⟩=some v):=jh (fun x hx=>HC.out x ((HX3.out.1.trans HWD.out).trans hx))
 have HQU:Hid (∀ x,Chg (fun _=>False) wd x→∀ j v,([.slice a0 n0 c0,.slice a1 n1 c1,.slice a2 n2 c2,.slice a3 n3 c3,.slice a4 n4 c4,.slice a5 n5 c5,.slice a6 n6 c6,.slice a7 n7 c7,.slice a8 n8 c8,.slice a9 n9 c9,.slice a10 n10 c10,.slice a11 n11 c11,.slice a12 n12 c12]:List Value)[j]?=some v→x.cell? ⟨bm,j,none⟩=some v):=jh (fun x hx=>HU.out x (HWD.out.trans hx))
 have HTV:Hid (∀ x,Chg (fun _=>False) wd x→TabsIn x (fun k=>w.heap.size≤k∧k < w.heap.size+8) ⟨(some ⟨w.heap.size,0,none⟩,1,1),(none,0,0),(none,0,0),⟨(none,0,0),(none,0,0),(some ⟨w.heap.size+1+1,0,none⟩,1,1),(some ⟨w.heap.size+1+1+1,0,none⟩,1,1)⟩,⟨(some ⟨w.heap.size+1+1+1+1+1+1+1,0,none⟩,2,2),(some ⟨w.heap.size+1+1+1+1,0,none⟩,1,1),(some ⟨w.heap.size+1+1+1+1+1,0,none⟩,1,1),(none,0,0),(none,0,0)⟩,(none,0,0)⟩ livT):=jh (fun x hx=>TabsIn.good.chg HLV.out.t ((HX3.out.1.trans HWD.out).trans hx) (fun _ _ h=>h))
 have HTU:Hid (∀ x,Chg (fun _=>False) wd x→TabsIn x (fun k=>x1.heap.size≤k) ⟨(a0,n0,c0),(a1,n1,c1),(a2,n2,c2),⟨(a3,n3,c3),(a4,n4,c4),(a5,n5,c5),(a6,n6,c6)⟩,⟨(a7,n7,c7),(a8,n8,c8),(a9,n9,c9),(a10,n10,c10),(a11,n11,c11)⟩,(a12,n12,c12)⟩ livT):=jh (fun x hx=>TabsIn.good.chg HIN.out ((HX3.out.2.trans HWD.out).trans hx) (fun _ _ h=>h))
 have HOT:Hid (∀ x,Chg (fun _=>False) wd x→Calls Tryz.prog 9 #[.agg #[.slice (some ⟨w.heap.size,0,none⟩) 1 1,.slice none 0 0,.slice none 0 0,.slice none 0 0,.slice none 0 0,.slice (some ⟨w.heap.size+1+1,0,none⟩) 1 1,.slice (some ⟨w.heap.size+1+1+1,0,none⟩) 1 1,.slice (some ⟨w.heap.size+1+1+1+1+1+1+1,0,none⟩) 2 2,.slice (some ⟨w.heap.size+1+1+1+1,0,none⟩) 1 1,.slice (some ⟨w.heap.size+1+1+1+1+1,0,none⟩) 1 1,.slice none 0 0,.slice none 0 0,.slice none 0 0]] x fun e w'=>∃ (b0 b1 b2 b3 b4 b5 b6 b7 b8 b9 b10 b11 b12:Option Addr) (k0 k1 k2 k3 k4 k5 k6 k7 k8 k9 k10 k11 k12:Nat) (d0 d1 d2 d3 d4 d5 d6 d7 d8 d9 d10 d11 d12:Nat),e=.returned (.agg #[.slice b0 k0 d0,.slice b1 k1 d1,.slice b2 k2 d2,.slice b3 k3 d3,.slice b4 k4 d4,.slice b5 k5 d5,.slice b6 k6 d6,.slice b7 k7 d7,.slice b8 k8 d8,.slice b9 k9 d9,.slice b10 k10 d10,.slice b11 k11 d11,.slice b12 k12 d12])∧DocIn w' (fun _=>True) ⟨(b0,k0,d0),(b1,k1,d1),(b2,k2,d2),⟨(b3,k3,d3),(b4,k4,d4),(b5,k5,d5),(b6,k6,d6)⟩,⟨(b7,k7,d7),(b8,k8,d8),(b9,k9,d9),(b10,k10,d10),(b11,k11,d11)⟩,(b12,k12,d12)⟩ livT∧Chg (fun _=>False) x w'):=jh (fun x hx=>(other_tabs livT ⟨(some ⟨w.heap.size,0,none⟩,1,1),(none,0,0),(none,0,0),⟨(none,0,0),(none,0,0),(some ⟨w.heap.size+1+1,0,none⟩,1,1),(some ⟨w.heap.size+1+1+1,0,none⟩,1,1)⟩,⟨(some ⟨w.heap.size+1+1+1+1+1+1+1,0,none⟩,2,2),(some ⟨w.heap.size+1+1+1+1,0,none⟩,1,1),(some ⟨w.heap.size+1+1+1+1+1,0,none⟩,1,1),(none,0,0),(none,0,0)⟩,(none,0,0)⟩ _ x (HTV.out x hx) livT_fit.f).mono (by
  rintro e w' ⟨m',rfl,hd,hc⟩
  obtain ⟨⟨b0,k0,d0⟩,⟨b1,k1,d1⟩,⟨b2,k2,d2⟩,⟨⟨b3,k3,d3⟩,⟨b4,k4,d4⟩,⟨b5,k5,d5⟩,⟨b6,k6,d6⟩⟩,⟨⟨b7,k7,d7⟩,⟨b8,k8,d8⟩,⟨b9,k9,d9⟩,⟨b10,k10,d10⟩,⟨b11,k11,d11⟩⟩,⟨b12,k12,d12⟩⟩:=m'
  exact ⟨b0,b1,b2,b3,b4,b5,b6,b7,b8,b9,b10,b11,b12,k0,k1,k2,k3,k4,k5,k6,k7,k8,k9,k10,k11,k12,d0,d1,d2,d3,d4,d5,d6,d7,d8,d9,d10,d11,d12,rfl,hd,hc⟩))
 (refine lrd 0 HSS.out (fun K hK=>?_);apply Exists.intro;refine ⟨fun w' hC=>?_,?_⟩;(go_simp;try with_reducible rfl);(try go_simp);refine hK _ ?_;clear hK K)
 (refine lrd 1 HSS.out (fun K hK=>?_);apply Exists.intro;refine ⟨fun w' hC=>?_,?_⟩;(go_simp;try with_reducible rfl);(try go_simp);refine hK _ ?_;clear hK K)
 (refine lrd 2 HSS.out (fun K hK=>?_);apply Exists.intro;refine ⟨fun w' hC=>?_,?_⟩;(go_simp;try with_reducible rfl);(try go_simp);refine hK _ ?_;clear hK K)
 (refine lrd 3 HSS.out (fun K hK=>?_);apply Exists.intro;refine ⟨fun w' hC=>?_,?_⟩;(go_simp;try with_reducible rfl);(try go_simp);refine hK _ ?_;clear hK K)
 (refine lrd 4 HSS.out (fun K hK=>?_);apply Exists.intro;refine ⟨fun w' hC=>?_,?_⟩;(go_simp;try with_reducible rfl);(try go_simp);refine hK _ ?_;clear hK K)
 (refine lrd 5 HSS.out (fun K hK=>?_);apply Exists.intro;refine ⟨fun w' hC=>?_,?_⟩;(go_simp;try with_reducible rfl);(try go_simp);refine hK _ ?_;clear hK K)
 (refine lrd 6 HSS.out (fun K hK=>?_);apply Exists.intro;refine ⟨fun w' hC=>?_,?_⟩;(go_simp;try with_reducible rfl);(try go_simp);refine hK _ ?_;clear hK K)
 (refine lrd 7 HSS.out (fun K hK=>?_);apply Exists.intro;refine ⟨fun w' hC=>?_,?_⟩;((have u0:=HQU.out _ hC 0 _ rfl;have u1:=HQU.out _ hC 1 _ rfl;have u2:=HQU.out _ hC 2 _ rfl;have u3:=HQU.out _ hC 3 _ rfl;have u4:=HQU.out _ hC 4 _ rfl;have u5:=HQU.out _ hC 5 _ rfl;have u6:=HQU.out _ hC 6 _ rfl;have u7:=HQU.out _ hC 7 _ rfl;have u8:=HQU.out _ hC 8 _ rfl;have u9:=HQU.out _ hC 9 _ rfl;have u10:=HQU.out _ hC 10 _ rfl;have u11:=HQU.out _ hC 11 _ rfl;have u12:=HQU.out _ hC 12 _ rfl);go_simp;try with_reducible rfl);(try go_simp);refine hK _ ?_;clear hK K)
 (refine lrd 8 HSS.out (fun K hK=>?_);apply Exists.intro;refine ⟨fun w' hC=>?_,?_⟩;((have v0:=HQV.out _ hC 0 _ rfl;have v1:=HQV.out _ hC 1 _ rfl;have v2:=HQV.out _ hC 2 _ rfl;have v3:=HQV.out _ hC 3 _ rfl;have v4:=HQV.out _ hC 4 _ rfl;have v5:=HQV.out _ hC 5 _ rfl;have v6:=HQV.out _ hC 6 _ rfl;have v7:=HQV.out _ hC 7 _ rfl;have v8:=HQV.out _ hC 8 _ rfl;have v9:=HQV.out _ hC 9 _ rfl;have v10:=HQV.out _ hC 10 _ rfl;have v11:=HQV.out _ hC 11 _ rfl;have v12:=HQV.out _ hC 12 _ rfl);go_simp;try with_reducible rfl);(try go_simp);refine hK _ ?_;clear hK K)
 refine late_call (i:=9) (by kernel_rfl) rfl rfl 9 #[.agg #[.slice (some ⟨w.heap.size,0,none⟩) 1 1,.slice none 0 0,.slice none 0 0,.slice none 0 0,.slice none 0 0,.slice (some ⟨w.heap.size+1+1,0,none⟩) 1 1,.slice (some ⟨w.heap.size+1+1+1,0,none⟩) 1 1,.slice (some ⟨w.heap.size+1+1+1+1+1+1+1,0,none⟩) 2 2,.slice (some ⟨w.heap.size+1+1+1+1,0,none⟩) 1 1,.slice (some ⟨w.heap.size+1+1+1+1+1,0,none⟩) 1 1,.slice none 0 0,.slice none 0 0,.slice none 0 0]] (fun v w'=>∃ (b0 b1 b2 b3 b4 b5 b6 b7 b8 b9 b10 b11 b12:Option Addr) (k0 k1 k2 k3 k4 k5 k6 k7 k8 k9 k10 k11 k12:Nat) (d0 d1 d2 d3 d4 d5 d6 d7 d8 d9 d10 d11 d12:Nat),v=.agg #[.slice b0 k0 d0,.slice b1 k1 d1,.slice b2 k2 d2,.slice b3 k3 d3,.slice b4 k4 d4,.slice b5 k5 d5,.slice b6 k6 d6,.slice b7 k7 d7,.slice b8 k8 d8,.slice b9 k9 d9,.slice b10 k10 d10,.slice b11 k11 d11,.slice b12 k12 d12]∧DocIn w' (fun _=>True) ⟨(b0,k0,d0),(b1,k1,d1),(b2,k2,d2),⟨(b3,k3,d3),(b4,k4,d4),(b5,k5,d5),(b6,k6,d6)⟩,⟨(b7,k7,d7),(b8,k8,d8),(b9,k9,d9),(b10,k10,d10),(b11,k11,d11)⟩,(b12,k12,d12)⟩ livT∧Chg (fun _=>False) wd w') (by go_simp) ?_ ?_
 ·exact (HOT.out wd (Chg.refl _ _)).mono (by
   rintro e w' ⟨b0,b1,b2,b3,b4,b5,b6,b7,b8,b9,b10,b11,b12,k0,k1,k2,k3,k4,k5,k6,k7,k8,k9,k10,k11,k12,d0,d1,d2,d3,d4,d5,d6,d7,d8,d9,d10,d11,d12,rfl,hd,hc⟩
   exact ⟨_,rfl,fun _=>hc,b0,b1,b2,b3,b4,b5,b6,b7,b8,b9,b10,b11,b12,k0,k1,k2,k3,k4,k5,k6,k7,k8,k9,k10,k11,k12,d0,d1,d2,d3,d4,d5,d6,d7,d8,d9,d10,d11,d12,rfl,hd,hc⟩)
 rintro v y1 hs ⟨b0,b1,b2,b3,b4,b5,b6,b7,b8,b9,b10,b11,b12,k0,k1,k2,k3,k4,k5,k6,k7,k8,k9,k10,k11,k12,d0,d1,d2,d3,d4,d5,d6,d7,d8,d9,d10,d11,d12,rfl,hd,hc⟩ K hK
 have HD:=jh hd
 have HY1:=jh hc
 clear hd hc hs
 (try go_simp)
 refine hK _ ?_
 clear hK K
 refine late_call (i:=10) (by kernel_rfl) rfl rfl 15 #[.agg #[.slice a0 n0 c0,.slice a1 n1 c1,.slice a2 n2 c2,.slice a3 n3 c3,.slice a4 n4 c4,.slice a5 n5 c5,.slice a6 n6 c6,.slice a7 n7 c7,.slice a8 n8 c8,.slice a9 n9 c9,.slice a10 n10 c10,.slice a11 n11 c11,.slice a12 n12 c12],.agg #[.slice b0 k0 d0,.slice b1 k1 d1,.slice b2 k2 d2,.slice b3 k3 d3,.slice b4 k4 d4,.slice b5 k5 d5,.slice b6 k6 d6,.slice b7 k7 d7,.slice b8 k8 d8,.slice b9 k9 d9,.slice b10 k10 d10,.slice b11 k11 d11,.slice b12 k12 d12]] (fun v w'=>v=.bool true∧Chg (fun _=>False) wd w') (by go_simp) ?_ ?_
 ·refine (same_yes livT ⟨(a0,n0,c0),(a1,n1,c1),(a2,n2,c2),⟨(a3,n3,c3),(a4,n4,c4),(a5,n5,c5),(a6,n6,c6)⟩,⟨(a7,n7,c7),(a8,n8,c8),(a9,n9,c9),(a10,n10,c10),(a11,n11,c11)⟩,(a12,n12,c12)⟩ ⟨(b0,k0,d0),(b1,k1,d1),(b2,k2,d2),⟨(b3,k3,d3),(b4,k4,d4),(b5,k5,d5),(b6,k6,d6)⟩,⟨(b7,k7,d7),(b8,k8,d8),(b9,k9,d9),(b10,k10,d10),(b11,k11,d11)⟩,(b12,k12,d12)⟩ _ _ y1 (HTU.out y1 HY1.out) HD.out livT_fit.f).mono ?_
  rintro e w' ⟨rfl,hc⟩
  exact ⟨_,rfl,fun _=>HY1.out.trans hc,rfl,HY1.out.trans hc⟩
 rintro v y2 hs ⟨rfl,hc⟩ K hK
 have HY2:=jh hc
 clear hc hs
 (try go_simp)
 refine hK _ ?_
 clear hK K
 have HSS:=HY2
 (refine lrd 11 HSS.out (fun K hK=>?_);apply Exists.intro;refine ⟨fun w' hC=>?_,?_⟩;(go_simp;try with_reducible rfl);(try go_simp);refine hK _ ?_;clear hK K)
 (refine lrd 12 HSS.out (fun K hK=>?_);apply Exists.intro;refine ⟨fun w' hC=>?_,?_⟩;(go_simp;try with_reducible rfl);(try go_simp);refine hK _ ?_;clear hK K)
 (refine lrd 13 HSS.out (fun K hK=>?_);apply Exists.intro;refine ⟨fun w' hC=>?_,?_⟩;(go_simp;try with_reducible rfl);(try go_simp);refine hK _ ?_;clear hK K)
 (refine lrd 14 HSS.out (fun K hK=>?_);apply Exists.intro;refine ⟨fun w' hC=>?_,?_⟩;((have v0:=HQV.out _ hC 0 _ rfl;have v1:=HQV.out _ hC 1 _ rfl;have v2:=HQV.out _ hC 2 _ rfl;have v3:=HQV.out _ hC 3 _ rfl;have v4:=HQV.out _ hC 4 _ rfl;have v5:=HQV.out _ hC 5 _ rfl;have v6:=HQV.out _ hC 6 _ rfl;have v7:=HQV.out _ hC 7 _ rfl;have v8:=HQV.out _ hC 8 _ rfl;have v9:=HQV.out _ hC 9 _ rfl;have v10:=HQV.out _ hC 10 _ rfl;have v11:=HQV.out _ hC 11 _ rfl;have v12:=HQV.out _ hC 12 _ rfl);go_simp;try with_reducible rfl);(try go_simp);refine hK _ ?_;clear hK K)
 refine late_call (i:=15) (by kernel_rfl) rfl rfl 12 #[.agg #[.slice (some ⟨w.heap.size,0,none⟩) 1 1,.slice none 0 0,.slice none 0 0,.slice none 0 0,.slice none 0 0,.slice (some ⟨w.heap.size+1+1,0,none⟩) 1 1,.slice (some ⟨w.heap.size+1+1+1,0,none⟩) 1 1,.slice (some ⟨w.heap.size+1+1+1+1+1+1+1,0,none⟩) 2 2,.slice (some ⟨w.heap.size+1+1+1+1,0,none⟩) 1 1,.slice (some ⟨w.heap.size+1+1+1+1+1,0,none⟩) 1 1,.slice none 0 0,.slice none 0 0,.slice none 0 0]] (fun v w'=>v=.bool true∧Chg (fun _=>False) wd w') (by go_simp) ?_ ?_
 ·refine (may_tabs livT ⟨(some ⟨w.heap.size,0,none⟩,1,1),(none,0,0),(none,0,0),⟨(none,0,0),(none,0,0),(some ⟨w.heap.size+1+1,0,none⟩,1,1),(some ⟨w.heap.size+1+1+1,0,none⟩,1,1)⟩,⟨(some ⟨w.heap.size+1+1+1+1+1+1+1,0,none⟩,2,2),(some ⟨w.heap.size+1+1+1+1,0,none⟩,1,1),(some ⟨w.heap.size+1+1+1+1+1,0,none⟩,1,1),(none,0,0),(none,0,0)⟩,(none,0,0)⟩ _ y2 (HTV.out y2 HY2.out) livT_fit.f).mono ?_
  rintro e w' ⟨rfl,hc⟩
  exact ⟨_,rfl,fun _=>HY2.out.trans hc,by rw [livT_may],HY2.out.trans hc⟩
 rintro v y3 hs ⟨rfl,hc⟩ K hK
 have HY3:=jh hc
 clear hc hs
 (try go_simp)
 refine hK _ ?_
 clear hK K
 have HSS:=HY3
 (refine lrd 16 HSS.out (fun K hK=>?_);apply Exists.intro;refine ⟨fun w' hC=>?_,?_⟩;(go_simp;try with_reducible rfl);(try go_simp);refine hK _ ?_;clear hK K)
 (refine lrd 17 HSS.out (fun K hK=>?_);apply Exists.intro;refine ⟨fun w' hC=>?_,?_⟩;(go_simp;try with_reducible rfl);(try go_simp);refine hK _ ?_;clear hK K)
 refine late_done (by kernel_rfl) ?_ _
 have HCY:Hid (Chg (fun _=>False) wv y3):=jh ((HX3.out.1.trans HWD.out).trans HY3.out)
 have v0:=HQV.out y3 HY3.out 0 _ rfl
 have v1:=HQV.out y3 HY3.out 1 _ rfl
 have v2:=HQV.out y3 HY3.out 2 _ rfl
 have v3:=HQV.out y3 HY3.out 3 _ rfl
 have v4:=HQV.out y3 HY3.out 4 _ rfl
 have v5:=HQV.out y3 HY3.out 5 _ rfl
 have v6:=HQV.out y3 HY3.out 6 _ rfl
 have v7:=HQV.out y3 HY3.out 7 _ rfl
 have v8:=HQV.out y3 HY3.out 8 _ rfl
 have v9:=HQV.out y3 HY3.out 9 _ rfl
 have v10:=HQV.out y3 HY3.out 10 _ rfl
 have v11:=HQV.out y3 HY3.out 11 _ rfl
 have v12:=HQV.out y3 HY3.out 12 _ rfl
 have zz:=HZV.out y3 HCY.out 7
 obtain ⟨y4,hy4⟩:∃ X,X=y3.setCell ⟨bv,7,none⟩ (.slice none 0 0):=⟨_,rfl⟩
 have HY4:Hid (Chg (·=bv) y3 y4):=jh (by rw [hy4];exact setCellChg _ _ _ _)
 have HCN:Hid (∀ X,Chg (fun _=>False) y4 X→∀ j v,([.slice (some ⟨w.heap.size,0,none⟩) 1 1,.slice none 0 0,.slice none 0 0,.slice none 0 0,.slice none 0 0,.slice (some ⟨w.heap.size+1+1,0,none⟩) 1 1,.slice (some ⟨w.heap.size+1+1+1,0,none⟩) 1 1,.slice none 0 0,.slice (some ⟨w.heap.size+1+1+1+1,0,none⟩) 1 1,.slice (some ⟨w.heap.size+1+1+1+1+1,0,none⟩) 1 1,.slice none 0 0,.slice none 0 0,.slice none 0 0]:List Value)[j]?=some v→X.cell? ⟨bv,j,none⟩=some v):=jh (fun X hx j v hv=>hx.cellS (by
  rw [hy4]
  by_cases h7:j=7
  ·subst h7
   obtain rfl:=Option.some.inj hv
   exact World.cell?_setCell_same _ _ _ v7
  ·rw [World.cell?_setCell_other _ _ _ _ (by intro e;injection e with _ e;exact h7 e.symm)]
   refine HQV.out y3 HY3.out j v ?_
   have hj:=(List.getElem?_eq_some_iff.1 hv).1
   simp only [List.length_cons,List.length_nil] at hj
   rcases (by omega:j=0∨j=1∨j=2∨j=3∨j=4∨j=5∨j=6∨j=8∨j=9∨j=10∨j=11∨j=12) with rfl | rfl | rfl | rfl | rfl | rfl | rfl | rfl | rfl | rfl | rfl | rfl <;> exact hv) (fun h=>h))
 have HTN:Hid (∀ X,Chg (fun _=>False) y4 X→TabsIn X (fun k=>w.heap.size≤k∧k < w.heap.size+8) ⟨(some ⟨w.heap.size,0,none⟩,1,1),(none,0,0),(none,0,0),⟨(none,0,0),(none,0,0),(some ⟨w.heap.size+1+1,0,none⟩,1,1),(some ⟨w.heap.size+1+1+1,0,none⟩,1,1)⟩,⟨(none,0,0),(some ⟨w.heap.size+1+1+1+1,0,none⟩,1,1),(some ⟨w.heap.size+1+1+1+1+1,0,none⟩,1,1),(none,0,0),(none,0,0)⟩,(none,0,0)⟩ livN):=jh (fun X hx=>by
  have h1:=TabsIn.good.chg (TabsIn.good.chg (HTV.out y3 HY3.out) HY4.out (fun g hg e=>by have:=HBV.out;omega)) hx (fun _ _ h=>h)
  exact ⟨h1.rl,h1.tk,h1.dr,h1.lx,⟨⟨[],Elt.InS.nil' _,rfl,fun j x d hx=>by simp at hx⟩,h1.nt.s,h1.nt.p,h1.nt.q,h1.nt.d⟩,h1.lk⟩)
 have HWF:Hid (Chg (fun _=>False) w y4):=jh ((HLV.out.h.trans HCY.out).trans2 HY4.out (fun k hk e=>by have:=HBV.out;omega))
 have HW4:=jh hy4
 clear hy4
 go_upto_region 7 with (fail)
 rw [← HW4.out]
 clear zz v0 v1 v2 v3 v4 v5 v6 v7 v8 v9 v10 v11 v12
 have v0:=HCN.out y4 (Chg.refl _ _) 0 _ rfl
 have v1:=HCN.out y4 (Chg.refl _ _) 1 _ rfl
 have v2:=HCN.out y4 (Chg.refl _ _) 2 _ rfl
 have v3:=HCN.out y4 (Chg.refl _ _) 3 _ rfl
 have v4:=HCN.out y4 (Chg.refl _ _) 4 _ rfl
 have v5:=HCN.out y4 (Chg.refl _ _) 5 _ rfl
 have v6:=HCN.out y4 (Chg.refl _ _) 6 _ rfl
 have v7:=HCN.out y4 (Chg.refl _ _) 7 _ rfl
 have v8:=HCN.out y4 (Chg.refl _ _) 8 _ rfl
 have v9:=HCN.out y4 (Chg.refl _ _) 9 _ rfl
 have v10:=HCN.out y4 (Chg.refl _ _) 10 _ rfl
 have v11:=HCN.out y4 (Chg.refl _ _) 11 _ rfl
 have v12:=HCN.out y4 (Chg.refl _ _) 12 _ rfl
 go_wp2_with fail
 refine (put_tabs livN ⟨(some ⟨w.heap.size,0,none⟩,1,1),(none,0,0),(none,0,0),⟨(none,0,0),(none,0,0),(some ⟨w.heap.size+1+1,0,none⟩,1,1),(some ⟨w.heap.size+1+1+1,0,none⟩,1,1)⟩,⟨(none,0,0),(some ⟨w.heap.size+1+1+1+1,0,none⟩,1,1),(some ⟨w.heap.size+1+1+1+1+1,0,none⟩,1,1),(none,0,0),(none,0,0)⟩,(none,0,0)⟩ _ y4 (HTN.out y4 (Chg.refl _ _)) livN_fair (fun h=>by rw [livN_may] at h;cases h)).mono ?_
 rintro e y5 ⟨hc5,h5⟩
 have h6:e=.returned (.tuple #[.slice none 0 0,.int .i64 1]):=by
  rcases h5 with ⟨-,h⟩ | ⟨hm,-⟩
  ·exact h
  ·rw [livN_may] at hm;cases hm
 subst h6
 clear h5
 have HY5:=jh hc5
 clear hc5 v0 v1 v2 v3 v4 v5 v6 v7 v8 v9 v10 v11 v12
 have v0:=HCN.out y5 HY5.out 0 _ rfl
 have v1:=HCN.out y5 HY5.out 1 _ rfl
 have v2:=HCN.out y5 HY5.out 2 _ rfl
 have v3:=HCN.out y5 HY5.out 3 _ rfl
 have v4:=HCN.out y5 HY5.out 4 _ rfl
 have v5:=HCN.out y5 HY5.out 5 _ rfl
 have v6:=HCN.out y5 HY5.out 6 _ rfl
 have v7:=HCN.out y5 HY5.out 7 _ rfl
 have v8:=HCN.out y5 HY5.out 8 _ rfl
 have v9:=HCN.out y5 HY5.out 9 _ rfl
 have v10:=HCN.out y5 HY5.out 10 _ rfl
 have v11:=HCN.out y5 HY5.out 11 _ rfl
 have v12:=HCN.out y5 HY5.out 12 _ rfl
 go_wp2_with fail
 refine (may_tabs livN ⟨(some ⟨w.heap.size,0,none⟩,1,1),(none,0,0),(none,0,0),⟨(none,0,0),(none,0,0),(some ⟨w.heap.size+1+1,0,none⟩,1,1),(some ⟨w.heap.size+1+1+1,0,none⟩,1,1)⟩,⟨(none,0,0),(some ⟨w.heap.size+1+1+1+1,0,none⟩,1,1),(some ⟨w.heap.size+1+1+1+1+1,0,none⟩,1,1),(none,0,0),(none,0,0)⟩,(none,0,0)⟩ _ y5 (HTN.out y5 HY5.out) livN_fair).mono ?_
 rintro e y6 ⟨rfl,hc6⟩
 rw [livN_may]
 have HY6:=jh ((HWF.out.trans HY5.out).trans hc6)
 clear hc6 v0 v1 v2 v3 v4 v5 v6 v7 v8 v9 v10 v11 v12
 go_wp2
 go_ret
 exact ⟨rfl,HY6.out⟩
end Go.Proofs.YtgnpmceimpjheaaGreat
