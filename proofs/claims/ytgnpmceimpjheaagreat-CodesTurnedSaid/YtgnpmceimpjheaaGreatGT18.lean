/- A part of the proof: SameB SameC Crc BLaw LivA. -/
import Derived.Test.YtgnpmceimpjheaaGreatGT17
import Derived.Test.YtgnpmceimpjheaaGreatGT11
import Derived.Test.YtgnpmceimpjheaaGreatGT16
import Derived.Lib.EndianBits
set_option maxRecDepth 100000
set_option maxHeartbeats 16000000
namespace Go.Proofs.YtgnpmceimpjheaaGreat
open Go.RowKit
theorem sameAuto_yes (A:List LsD) (a b:Option Addr) (c d:Nat) (S S':Nat→Prop) (w:World) (h:ListR lsE lsR w S (a,A.length,c) A) (k:ListR dLsE dLsR w S' (b,A.length,d) A) (hl:A.length≤1000000000) (hb:∀ x∈A,lsB x) :
  Calls Tryz.prog 51 #[.agg #[.slice a A.length c],.agg #[.slice b A.length d]] w fun e w'=>e=.returned (.bool true)∧Chg (fun _=>False) w w':=by
 have H1:=jh h
 have H2:=jh k
 have HB:=jh hb
 obtain⟨w0,hw0⟩:∃ W,W=(w.alloc (.cells #[.slice a A.length c] 63)).alloc (.cells #[.slice b A.length d] 79):=⟨_,rfl⟩
 have HC0:Hid (Chg (fun _=>False) w w0):=jh (by rw [hw0];exact ((Chg.refl _ w).alloc _).alloc _)
 have d0:w0.cell? ⟨w.heap.size,0,none⟩=some (.slice a A.length c):=by rw [hw0];exact allocOld _ (allocNew _ _ rfl)
 have d1:w0.cell? ⟨w.heap.size+1,0,none⟩=some (.slice b A.length d):=by rw [hw0];exact allocNew _ _ (by simp)
 have HD:Hid (∀ X,Chg (fun _=>False) w0 X→X.cell? ⟨w.heap.size,0,none⟩=some (.slice a A.length c)∧X.cell? ⟨w.heap.size+1,0,none⟩=some (.slice b A.length d)):=jh (fun X hx=>⟨hx.cellS d0 (fun h=>h),hx.cellS d1 (fun h=>h)⟩)
 clear h k hb
 go_enter Tryz.func51,Tryz.ntmps51
 go_upto_region 1 with (fail)
 rw [← hw0]
 clear hw0
 go_upto_region 4 with (fail)
 clear d0 d1
 go_loopw [5] (fun q wr=>∃ i:Nat,i≤A.length∧q=.int .i64 i∧Chg (fun _=>False) w0 wr) (fun q _=>A.length-(intOf q).toNat)
 case atStart=>exact⟨0,by omega,rfl,Chg.refl _ _⟩
 case round =>
  obtain⟨i,hi,rfl,hc⟩:=hrel
  obtain⟨wo,rfl⟩:∃ wo:World,wo=wr:=⟨_,rfl⟩
  have HC:=jh hc
  clear hc
  obtain⟨d0,d1⟩:=HD.out wo HC.out
  by_cases hil:i<A.length
  ·have b9:decide ((i:Int)<(A.length:Int))=true:=by simp;omega
   obtain⟨⟨k1,⟨a1,n1,c1⟩,⟨e1,m1,g1⟩⟩,⟨kd,al,es⟩,gx,ox,hx,⟨r1,r2,r3,r4⟩,rfl,-,-,-,hcells⟩:=((ListR.good lsR.good).chg H1.out (HC0.out.trans HC.out) (fun _ _ h=>h)).get3 (f:=encLs) rfl hil rfl
   obtain⟨⟨k2,⟨a2,n2,c2⟩,⟨e2,m2,g2⟩⟩,d',gy,oy,hy,⟨s1,s2,s3,s4⟩,rfl,-,-,-,hcells'⟩:=((ListR.good dLsR.good).chg H2.out (HC0.out.trans HC.out) (fun _ _ h=>h)).get3 (f:=encSt) rfl hil rfl
   rw [hx] at hy
   obtain rfl:=Option.some.inj hy
   simp only at r1 r2 r3 r4 s1 s2 s3 s4
   subst r1 s1
   obtain⟨rfl,-⟩:=r3.len
   obtain⟨rfl,-⟩:=r4.len
   obtain⟨rfl,-⟩:=s3.len
   obtain⟨rfl,-⟩:=s4.len
   obtain⟨lb1,lb2⟩:=HB.out _ (List.mem_of_getElem? hx)
   simp only at lb1 lb2
   obtain⟨x0,x1,x2⟩:=hcells _ _ _ rfl
   obtain⟨y0,y1,y2⟩:=hcells' _ _ _ rfl
   simp only [slV] at x1 x2 y1 y2
   have hwk:IntKind.i64.wrap k2=k2:=by rw [IntKind.wrap_i64];obtain⟨r21,r22⟩:=r2;omega
   obtain⟨w7,hw7⟩:∃ W,W=(wo.alloc (.cells #[.int .u8 k2,.slice a1 al.length c1,.slice e1 es.length g1] 67)).alloc (.cells #[.int .i64 k2,.slice a2 al.length c2,.slice e2 es.length g2] 145):=⟨_,rfl⟩
   have HC7:Hid (Chg (fun _=>False) wo w7):=jh (by rw [hw7];exact ((Chg.refl _ _).alloc _).alloc _)
   have z0:w7.cell? ⟨wo.heap.size,0,none⟩=some (.int .u8 k2):=by rw [hw7];exact allocOld _ (allocAt _ rfl rfl)
   have z1:w7.cell? ⟨wo.heap.size,1,none⟩=some (.slice a1 al.length c1):=by rw [hw7];exact allocOld _ (allocAt _ rfl rfl)
   have z2:w7.cell? ⟨wo.heap.size,2,none⟩=some (.slice e1 es.length g1):=by rw [hw7];exact allocOld _ (allocAt _ rfl rfl)
   have z3:w7.cell? ⟨wo.heap.size+1,0,none⟩=some (.int .i64 k2):=by rw [hw7];exact allocAt _ (by simp) rfl
   have z4:w7.cell? ⟨wo.heap.size+1,1,none⟩=some (.slice a2 al.length c2):=by rw [hw7];exact allocAt _ (by simp) rfl
   have z5:w7.cell? ⟨wo.heap.size+1,2,none⟩=some (.slice e2 es.length g2):=by rw [hw7];exact allocAt _ (by simp) rfl
   have HZ:Hid (∀ X,Chg (fun _=>False) w7 X→(X.cell? ⟨wo.heap.size,2,none⟩=some (.slice e1 es.length g1)∧X.cell? ⟨wo.heap.size+1,2,none⟩=some (.slice e2 es.length g2))∧ledgeE.InS X S (e1,es.length,g1) es∧dLeE.InS X S' (e2,es.length,g2) es):=jh (fun X hx =>
    ⟨⟨hx.cellS z2 (fun h=>h),hx.cellS z5 (fun h=>h)⟩,r4.chg (HC7.out.trans hx) (fun _ _ h=>h),s4.chg (HC7.out.trans hx) (fun _ _ h=>h)⟩)
   have HSN:=jh (sameNums_yes al a1 a2 c1 c2 S S' w7 (r3.chg HC7.out (fun _ _ h=>h)) (s3.chg HC7.out (fun _ _ h=>h)) lb1)
   clear hx hy hcells hcells' r2 r3 r4 s2 s3 s4
   obtain⟨w6,hw6⟩:∃ W,W=wo.alloc (.cells #[.int .u8 k2,.slice a1 al.length c1,.slice e1 es.length g1] 67):=⟨_,rfl⟩
   have HC6:Hid (Chg (fun _=>False) wo w6):=jh (by rw [hw6];exact (Chg.refl _ _).alloc _)
   have hs6:w6.heap.size=wo.heap.size+1:=by rw [hw6];simp
   have d1':=HC6.out.cellS d1 (fun h=>h)
   have y0':=HC6.out.cellS y0 (fun h=>h)
   have y1':=HC6.out.cellS y1 (fun h=>h)
   have y2':=HC6.out.cellS y2 (fun h=>h)
   rw [← hw6] at hw7
   go_upto_region 7 with (fail)
   rw [← hw6]
   clear hw6 x0 x1 x2 y0 y1 y2 d0 d1
   go_upto_region 8 with (fail)
   rw [← hw7]
   clear hw7 hs6 d1' y0' y1' y2'
   go_wp2_with fail
   refine HSN.out.mono ?_
   rintro e w8 ⟨rfl,hc8⟩
   have HC8:=jh hc8
   have z2':=hc8.cellS z2 (fun h=>h)
   have z5':=hc8.cellS z5 (fun h=>h)
   clear hc8 HSN z0 z1 z3 z4 z2 z5
   go_upto_region 11 with (fail)
   clear z2' z5'
   go_loopw [8] (fun q wr=>∃ j:Nat,j≤es.length∧q=.int .i64 j∧Chg (fun _=>False) w7 wr) (fun q _=>es.length-(intOf q).toNat)
   case atStart=>exact⟨0,by omega,rfl,HC8.out⟩
   case round =>
    clear HC8
    obtain⟨j,hj,rfl,hc⟩:=hrel
    have HCJ:=jh hc
    clear hc
    obtain⟨⟨z2,z5⟩,hle,hld⟩:=HZ.out _ HCJ.out
    by_cases hjl:j<es.length
    ·have b10:decide ((j:Int)<(es.length:Int))=true:=by simp;omega
     obtain⟨⟨t1,t2⟩,f1,gl,ol,hx,hr1,rfl,-,-,-,hcells⟩:=(ListR.of hle).get2 (f:=encPair) rfl hjl rfl
     obtain⟨⟨t3,t4⟩,f2,gm,om,hy,hr2,rfl,-,-,-,hcells'⟩:=(ListR.of hld).get2 (f:=encPair) rfl hjl rfl
     obtain rfl:(t1,t2)=f1:=hr1
     obtain rfl:(t3,t4)=f2:=hr2
     rw [hx] at hy
     injection hy with hy
     injection hy with hy1 hy2
     subst hy1 hy2
     obtain⟨x0,x1⟩:=hcells _ _ rfl
     obtain⟨y0,y1⟩:=hcells' _ _ rfl
     have HCF:Hid (∀ X,Chg (fun _=>False) wr X→X.cell? ⟨wo.heap.size,2,none⟩=some (.slice (some ⟨gl,ol,none⟩) es.length g1)∧X.cell? ⟨wo.heap.size+1,2,none⟩=some (.slice (some ⟨gm,om,none⟩) es.length g2)∧X.cell? ⟨gl,ol+j * 2,none⟩=some (.int .i64 t1)∧X.cell? ⟨gl,ol+j * 2+1,none⟩=some (.int .i64 t2)∧X.cell? ⟨gm,om+j * 2,none⟩=some (.int .i64 t1)∧X.cell? ⟨gm,om+j * 2+1,none⟩=some (.int .i64 t2)):=jh (fun X hx =>
      ⟨hx.cellS z2 (fun h=>h),hx.cellS z5 (fun h=>h),hx.cellS x0 (fun h=>h),hx.cellS x1 (fun h=>h),hx.cellS y0 (fun h=>h),hx.cellS y1 (fun h=>h)⟩)
     clear hx hcells hcells' hle hld x0 x1 y0 y1
     go_upto_region 13 with (fail)
     refine wp_region_same (fun x=>Chg (fun _=>False) wr x) (by kernel_rfl) (by kernel_rfl) ?_ ?_
     ·exact (Chg.refl _ _).drew
     (refine rdC fun K hK=>?_;apply ei;intro _ w' _ hC;((obtain⟨q0,q1,q2,q3,q4,q5⟩:=HCF.out w' hC);go_simp;try with_reducible rfl);(try go_simp);refine hK _ ?_;clear hK K)
     (refine rdC fun K hK=>?_;apply ei;intro _ w' _ hC;((obtain⟨q0,q1,q2,q3,q4,q5⟩:=HCF.out w' hC);go_simp;try with_reducible rfl);(try go_simp);refine hK _ ?_;clear hK K)
     (refine rdC fun K hK=>?_;apply ei;intro _ w' _ hC;((obtain⟨q0,q1,q2,q3,q4,q5⟩:=HCF.out w' hC);go_simp;try with_reducible rfl);(try go_simp);refine hK _ ?_;clear hK K)
     (refine rdC fun K hK=>?_;apply ei;intro _ w' _ hC;((obtain⟨q0,q1,q2,q3,q4,q5⟩:=HCF.out w' hC);go_simp;try with_reducible rfl);(try go_simp);refine hK _ ?_;clear hK K)
     (refine rdC fun K hK=>?_;apply ei;intro _ w' _ hC;((obtain⟨q0,q1,q2,q3,q4,q5⟩:=HCF.out w' hC);go_simp;try with_reducible rfl);(try go_simp);refine hK _ ?_;clear hK K)
     (refine rdC fun K hK=>?_;apply ei;intro _ w' _ hC;((obtain⟨q0,q1,q2,q3,q4,q5⟩:=HCF.out w' hC);go_simp;try with_reducible rfl);(try go_simp);refine hK _ ?_;clear hK K)
     (refine rdC fun K hK=>?_;apply ei;intro _ w' _ hC;((obtain⟨q0,q1,q2,q3,q4,q5⟩:=HCF.out w' hC);go_simp;try with_reducible rfl);(try go_simp);refine hK _ ?_;clear hK K)
     (refine rdC fun K hK=>?_;apply ei;intro _ w' _ hC;((obtain⟨q0,q1,q2,q3,q4,q5⟩:=HCF.out w' hC);go_simp;try with_reducible rfl);(try go_simp);refine hK _ ?_;clear hK K)
     (refine rdC fun K hK=>?_;apply ei;intro _ w' _ hC;((obtain⟨q0,q1,q2,q3,q4,q5⟩:=HCF.out w' hC);go_simp;try with_reducible rfl);(try go_simp);refine hK _ ?_;clear hK K)
     (refine rdC fun K hK=>?_;apply ei;intro _ w' _ hC;((obtain⟨q0,q1,q2,q3,q4,q5⟩:=HCF.out w' hC);go_simp;try with_reducible rfl);(try go_simp);refine hK _ ?_;clear hK K)
     (refine rdC fun K hK=>?_;apply ei;intro _ w' _ hC;((obtain⟨q0,q1,q2,q3,q4,q5⟩:=HCF.out w' hC);go_simp;try with_reducible rfl);(try go_simp);refine hK _ ?_;clear hK K)
     (refine rdC fun K hK=>?_;apply ei;intro _ w' _ hC;((obtain⟨q0,q1,q2,q3,q4,q5⟩:=HCF.out w' hC);go_simp;try with_reducible rfl);(try go_simp);refine hK _ ?_;clear hK K)
     (refine rdC fun K hK=>?_;apply ei;intro _ w' _ hC;((obtain⟨q0,q1,q2,q3,q4,q5⟩:=HCF.out w' hC);go_simp;try with_reducible rfl);(try go_simp);refine hK _ ?_;clear hK K)
     (refine rdC fun K hK=>?_;apply ei;intro _ w' _ hC;((obtain⟨q0,q1,q2,q3,q4,q5⟩:=HCF.out w' hC);go_simp;try with_reducible rfl);(try go_simp);refine hK _ ?_;clear hK K)
     (refine rdC fun K hK=>?_;apply ei;intro _ w' _ hC;((obtain⟨q0,q1,q2,q3,q4,q5⟩:=HCF.out w' hC);go_simp;try with_reducible rfl);(try go_simp);refine hK _ ?_;clear hK K)
     (refine rdC fun K hK=>?_;apply ei;intro _ w' _ hC;((obtain⟨q0,q1,q2,q3,q4,q5⟩:=HCF.out w' hC);go_simp;try with_reducible rfl);(try go_simp);refine hK _ ?_;clear hK K)
     (refine rdC fun K hK=>?_;apply ei;intro _ w' _ hC;((obtain⟨q0,q1,q2,q3,q4,q5⟩:=HCF.out w' hC);go_simp;try with_reducible rfl);(try go_simp);refine hK _ ?_;clear hK K)
     (refine rdC fun K hK=>?_;apply ei;intro _ w' _ hC;((obtain⟨q0,q1,q2,q3,q4,q5⟩:=HCF.out w' hC);go_simp;try with_reducible rfl);(try go_simp);refine hK _ ?_;clear hK K)
     (refine rdC fun K hK=>?_;apply ei;intro _ w' _ hC;((obtain⟨q0,q1,q2,q3,q4,q5⟩:=HCF.out w' hC);go_simp;try with_reducible rfl);(try go_simp);refine hK _ ?_;clear hK K)
     (refine rdC fun K hK=>?_;apply ei;intro _ w' _ hC;((obtain⟨q0,q1,q2,q3,q4,q5⟩:=HCF.out w' hC);go_simp;try with_reducible rfl);(try go_simp);refine hK _ ?_;clear hK K)
     (refine rdC fun K hK=>?_;apply ei;intro _ w' _ hC;((obtain⟨q0,q1,q2,q3,q4,q5⟩:=HCF.out w' hC);go_simp;try with_reducible rfl);(try go_simp);refine hK _ ?_;clear hK K)
     (refine rdC fun K hK=>?_;apply ei;intro _ w' _ hC;((obtain⟨q0,q1,q2,q3,q4,q5⟩:=HCF.out w' hC);go_simp;try with_reducible rfl);(try go_simp);refine hK _ ?_;clear hK K)
     (refine rdC fun K hK=>?_;apply ei;intro _ w' _ hC;((obtain⟨q0,q1,q2,q3,q4,q5⟩:=HCF.out w' hC);go_simp;try with_reducible rfl);(try go_simp);refine hK _ ?_;clear hK K)
     (refine rdC fun K hK=>?_;apply ei;intro _ w' _ hC;((obtain⟨q0,q1,q2,q3,q4,q5⟩:=HCF.out w' hC);go_simp;try with_reducible rfl);(try go_simp);refine hK _ ?_;clear hK K)
     (refine rdC fun K hK=>?_;apply ei;intro _ w' _ hC;((obtain⟨q0,q1,q2,q3,q4,q5⟩:=HCF.out w' hC);go_simp;try with_reducible rfl);(try go_simp);refine hK _ ?_;clear hK K)
     (refine rdC fun K hK=>?_;apply ei;intro _ w' _ hC;((obtain⟨q0,q1,q2,q3,q4,q5⟩:=HCF.out w' hC);go_simp;try with_reducible rfl);(try go_simp);refine hK _ ?_;clear hK K)
     (refine rdC fun K hK=>?_;apply ei;intro _ w' _ hC;((obtain⟨q0,q1,q2,q3,q4,q5⟩:=HCF.out w' hC);go_simp;try with_reducible rfl);(try go_simp);refine hK _ ?_;clear hK K)
     (refine rdC fun K hK=>?_;apply ei;intro _ w' _ hC;((obtain⟨q0,q1,q2,q3,q4,q5⟩:=HCF.out w' hC);go_simp;try with_reducible rfl);(try go_simp);refine hK _ ?_;clear hK K)
     refine wpC_nil ?_
     intro w2 hc2
     have HC2:=jh (HCJ.out.trans hc2)
     clear hc2 z2 z5
     go_wp2
     go_roundw
     case rel=>exact⟨j+1,by omega,by go_num,HC2.out⟩
     case measure=>simp [intOf];omega
    ·obtain rfl:j=es.length:=by omega
     have b10:decide ((es.length:Int)<(es.length:Int))=false:=by simp
     have HC2:=jh (HC.out.trans (HC7.out.trans HCJ.out))
     go_wp2
     go_roundw
     case rel=>exact⟨i+1,by omega,by go_num,HC2.out⟩
     case measure=>simp [intOf];omega
  ·obtain rfl:i=A.length:=by omega
   have b9:decide ((A.length:Int)<(A.length:Int))=false:=by simp
   go_wp2
   go_ret
   exact⟨rfl,HC0.out.trans HC.out⟩
end Go.Proofs.YtgnpmceimpjheaaGreat
namespace Go.Proofs.YtgnpmceimpjheaaGreat
open Go.RowKit
theorem same_yes (t:TabsD) (m m':TabsS) (S S':Nat→Prop) (w:World) (h:TabsIn w S m t) (k:DocIn w S' m' t) (hf:FairTabs t) :
  Calls Tryz.prog 15 #[tabsV m,tabsV m'] w fun e w'=>e=.returned (.bool true)∧Chg (fun _=>False) w w':=by
 obtain⟨⟨a0,n0,c0⟩,⟨a1,n1,c1⟩,⟨a2,n2,c2⟩,⟨⟨a3,n3,c3⟩,⟨a4,n4,c4⟩,⟨a5,n5,c5⟩,⟨a6,n6,c6⟩⟩,⟨⟨a7,n7,c7⟩,⟨a8,n8,c8⟩,⟨a9,n9,c9⟩,⟨a10,n10,c10⟩,⟨a11,n11,c11⟩⟩,⟨a12,n12,c12⟩⟩:=m
 obtain⟨⟨b0,k0,d0⟩,⟨b1,k1,d1⟩,⟨b2,k2,d2⟩,⟨⟨b3,k3,d3⟩,⟨b4,k4,d4⟩,⟨b5,k5,d5⟩,⟨b6,k6,d6⟩⟩,⟨⟨b7,k7,d7⟩,⟨b8,k8,d8⟩,⟨b9,k9,d9⟩,⟨b10,k10,d10⟩,⟨b11,k11,d11⟩⟩,⟨b12,k12,d12⟩⟩:=m'
 have HA0:=jh h
 have HB0:=jh k
 have HF:=jh hf
 obtain⟨h0,h1,h2,⟨h3,h4,h5,h6⟩,⟨h7,h8,h9,h10,h11⟩,h12⟩:=h
 obtain⟨rfl,-⟩:=h0.len
 obtain⟨rfl,-⟩:=h1.len
 obtain⟨rfl,-⟩:=h2.len
 obtain⟨rfl,-⟩:=h3.len
 obtain⟨rfl,-⟩:=h4.len
 obtain⟨rfl,-⟩:=h5.len
 obtain⟨rfl,-⟩:=h6.len
 obtain⟨rfl,-⟩:=h7.len
 obtain⟨rfl,-⟩:=h8.len
 obtain⟨rfl,-⟩:=h9.len
 obtain⟨rfl,-⟩:=h10.len
 obtain⟨rfl,-⟩:=h11.len
 obtain⟨rfl,-⟩:=h12.len
 clear h0 h1 h2 h3 h4 h5 h6 h7 h8 h9 h10 h11 h12
 obtain⟨h0,h1,h2,⟨h3,h4,h5,h6⟩,⟨h7,h8,h9,h10,h11⟩,h12⟩:=k
 obtain⟨rfl,-⟩:=h0.len
 obtain⟨rfl,-⟩:=h1.len
 obtain⟨rfl,-⟩:=h2.len
 obtain⟨rfl,-⟩:=h3.len
 obtain⟨rfl,-⟩:=h4.len
 obtain⟨rfl,-⟩:=h5.len
 obtain⟨rfl,-⟩:=h6.len
 obtain⟨rfl,-⟩:=h7.len
 obtain⟨rfl,-⟩:=h8.len
 obtain⟨rfl,-⟩:=h9.len
 obtain⟨rfl,-⟩:=h10.len
 obtain⟨rfl,-⟩:=h11.len
 obtain⟨rfl,-⟩:=h12.len
 clear h0 h1 h2 h3 h4 h5 h6 h7 h8 h9 h10 h11 h12 hf
 have p_rl:=HF.out.rl
 have p_tk:=HF.out.tk
 have p_dr:=HF.out.dr
 have p_lr:=HF.out.lx.r
 have p_ln:=HF.out.lx.n
 have p_lk:=HF.out.lk
 have p_st:=HF.out.nt.st
 obtain⟨w0,hw0⟩:∃ W,W=(w.alloc (.cells #[.slice a0 t.rl.length c0,.slice a1 t.tk.length c1,.slice a2 t.dr.length c2,.slice a3 t.lx.r.length c3,.slice a4 t.lx.c.length c4,.slice a5 t.lx.n.length c5,.slice a6 t.lx.e.length c6,.slice a7 t.nt.st.length c7,.slice a8 t.nt.s.length c8,.slice a9 t.nt.p.length c9,.slice a10 t.nt.q.length c10,.slice a11 t.nt.d.length c11,.slice a12 t.lk.length c12] 34)).alloc (.cells #[.slice b0 t.rl.length d0,.slice b1 t.tk.length d1,.slice b2 t.dr.length d2,.slice b3 t.lx.r.length d3,.slice b4 t.lx.c.length d4,.slice b5 t.lx.n.length d5,.slice b6 t.lx.e.length d6,.slice b7 t.nt.st.length d7,.slice b8 t.nt.s.length d8,.slice b9 t.nt.p.length d9,.slice b10 t.nt.q.length d10,.slice b11 t.nt.d.length d11,.slice b12 t.lk.length d12] 43):=⟨_,rfl⟩
 have HC0:Hid (Chg (fun _=>False) w w0):=jh (by rw [hw0];exact ((Chg.refl _ w).alloc _).alloc _)
 have HD:Hid (∀ X,Chg (fun _=>False) w0 X→(∀ j v,([.slice a0 t.rl.length c0,.slice a1 t.tk.length c1,.slice a2 t.dr.length c2,.slice a3 t.lx.r.length c3,.slice a4 t.lx.c.length c4,.slice a5 t.lx.n.length c5,.slice a6 t.lx.e.length c6,.slice a7 t.nt.st.length c7,.slice a8 t.nt.s.length c8,.slice a9 t.nt.p.length c9,.slice a10 t.nt.q.length c10,.slice a11 t.nt.d.length c11,.slice a12 t.lk.length c12]:List Value)[j]?=some v→X.cell? ⟨w.heap.size,j,none⟩=some v)∧∀ j v,([.slice b0 t.rl.length d0,.slice b1 t.tk.length d1,.slice b2 t.dr.length d2,.slice b3 t.lx.r.length d3,.slice b4 t.lx.c.length d4,.slice b5 t.lx.n.length d5,.slice b6 t.lx.e.length d6,.slice b7 t.nt.st.length d7,.slice b8 t.nt.s.length d8,.slice b9 t.nt.p.length d9,.slice b10 t.nt.q.length d10,.slice b11 t.nt.d.length d11,.slice b12 t.lk.length d12]:List Value)[j]?=some v→X.cell? ⟨w.heap.size+1,j,none⟩=some v):=jh (fun X hx =>
  ⟨fun j v hv=>hx.cellS (by rw [hw0];exact allocOld _ (allocAt _ rfl (by rw [← Array.getElem?_toList];exact hv))) (fun h=>h),fun j v hv=>hx.cellS (by rw [hw0];exact allocAt _ (by simp) (by rw [← Array.getElem?_toList];exact hv)) (fun h=>h)⟩)
 have HA:Hid (∀ X,Chg (fun _=>False) w0 X→TabsIn X S ⟨(a0,t.rl.length,c0),(a1,t.tk.length,c1),(a2,t.dr.length,c2),⟨(a3,t.lx.r.length,c3),(a4,t.lx.c.length,c4),(a5,t.lx.n.length,c5),(a6,t.lx.e.length,c6)⟩,⟨(a7,t.nt.st.length,c7),(a8,t.nt.s.length,c8),(a9,t.nt.p.length,c9),(a10,t.nt.q.length,c10),(a11,t.nt.d.length,c11)⟩,(a12,t.lk.length,c12)⟩ t):=jh (fun X hx=>TabsIn.good.chg HA0.out (HC0.out.trans hx) (fun _ _ h=>h))
 have HB:Hid (∀ X,Chg (fun _=>False) w0 X→DocIn X S' ⟨(b0,t.rl.length,d0),(b1,t.tk.length,d1),(b2,t.dr.length,d2),⟨(b3,t.lx.r.length,d3),(b4,t.lx.c.length,d4),(b5,t.lx.n.length,d5),(b6,t.lx.e.length,d6)⟩,⟨(b7,t.nt.st.length,d7),(b8,t.nt.s.length,d8),(b9,t.nt.p.length,d9),(b10,t.nt.q.length,d10),(b11,t.nt.d.length,d11)⟩,(b12,t.lk.length,d12)⟩ t):=jh (fun X hx=>DocIn.good.chg HB0.out (HC0.out.trans hx) (fun _ _ h=>h))
 show Calls Tryz.prog 15 #[.agg #[.slice a0 t.rl.length c0,.slice a1 t.tk.length c1,.slice a2 t.dr.length c2,.slice a3 t.lx.r.length c3,.slice a4 t.lx.c.length c4,.slice a5 t.lx.n.length c5,.slice a6 t.lx.e.length c6,.slice a7 t.nt.st.length c7,.slice a8 t.nt.s.length c8,.slice a9 t.nt.p.length c9,.slice a10 t.nt.q.length c10,.slice a11 t.nt.d.length c11,.slice a12 t.lk.length c12],.agg #[.slice b0 t.rl.length d0,.slice b1 t.tk.length d1,.slice b2 t.dr.length d2,.slice b3 t.lx.r.length d3,.slice b4 t.lx.c.length d4,.slice b5 t.lx.n.length d5,.slice b6 t.lx.e.length d6,.slice b7 t.nt.st.length d7,.slice b8 t.nt.s.length d8,.slice b9 t.nt.p.length d9,.slice b10 t.nt.q.length d10,.slice b11 t.nt.d.length d11,.slice b12 t.lk.length d12]] w _
 go_enter Tryz.func15,Tryz.ntmps15
 go_upto_region 1 with (fail)
 rw [← hw0]
 clear hw0
 have f0:=(HD.out w0 (Chg.refl _ _)).1 0 _ rfl
 have g0:=(HD.out w0 (Chg.refl _ _)).2 0 _ rfl
 have f1:=(HD.out w0 (Chg.refl _ _)).1 1 _ rfl
 have g1:=(HD.out w0 (Chg.refl _ _)).2 1 _ rfl
 have f2:=(HD.out w0 (Chg.refl _ _)).1 2 _ rfl
 have g2:=(HD.out w0 (Chg.refl _ _)).2 2 _ rfl
 have f12:=(HD.out w0 (Chg.refl _ _)).1 12 _ rfl
 have g12:=(HD.out w0 (Chg.refl _ _)).2 12 _ rfl
 have f3:=(HD.out w0 (Chg.refl _ _)).1 3 _ rfl
 have g3:=(HD.out w0 (Chg.refl _ _)).2 3 _ rfl
 have f5:=(HD.out w0 (Chg.refl _ _)).1 5 _ rfl
 have g5:=(HD.out w0 (Chg.refl _ _)).2 5 _ rfl
 go_wp2_with fail
 refine (texts_yes t.rl a0 b0 c0 d0 S S' w0 (HA.out _ (Chg.refl _ _)).rl (HB.out _ (Chg.refl _ _)).rl (by omega)).mono ?_
 rintro e w1 ⟨rfl,hc1⟩
 have HC1:=jh hc1
 clear hc1
 clear f0 g0 f1 g1 f2 g2 f12 g12 f3 g3 f5 g5
 have f0:=(HD.out w1 HC1.out).1 0 _ rfl
 have g0:=(HD.out w1 HC1.out).2 0 _ rfl
 have f1:=(HD.out w1 HC1.out).1 1 _ rfl
 have g1:=(HD.out w1 HC1.out).2 1 _ rfl
 have f2:=(HD.out w1 HC1.out).1 2 _ rfl
 have g2:=(HD.out w1 HC1.out).2 2 _ rfl
 have f12:=(HD.out w1 HC1.out).1 12 _ rfl
 have g12:=(HD.out w1 HC1.out).2 12 _ rfl
 have f3:=(HD.out w1 HC1.out).1 3 _ rfl
 have g3:=(HD.out w1 HC1.out).2 3 _ rfl
 have f5:=(HD.out w1 HC1.out).1 5 _ rfl
 have g5:=(HD.out w1 HC1.out).2 5 _ rfl
 go_wp2_with fail
 refine (texts_yes t.tk a1 b1 c1 d1 S S' w1 (HA.out _ HC1.out).tk (HB.out _ HC1.out).tk (by omega)).mono ?_
 rintro e w2 ⟨rfl,hc2⟩
 have HC2:=jh (HC1.out.trans hc2)
 clear hc2
 clear f0 g0 f1 g1 f2 g2 f12 g12 f3 g3 f5 g5
 have f0:=(HD.out w2 HC2.out).1 0 _ rfl
 have g0:=(HD.out w2 HC2.out).2 0 _ rfl
 have f1:=(HD.out w2 HC2.out).1 1 _ rfl
 have g1:=(HD.out w2 HC2.out).2 1 _ rfl
 have f2:=(HD.out w2 HC2.out).1 2 _ rfl
 have g2:=(HD.out w2 HC2.out).2 2 _ rfl
 have f12:=(HD.out w2 HC2.out).1 12 _ rfl
 have g12:=(HD.out w2 HC2.out).2 12 _ rfl
 have f3:=(HD.out w2 HC2.out).1 3 _ rfl
 have g3:=(HD.out w2 HC2.out).2 3 _ rfl
 have f5:=(HD.out w2 HC2.out).1 5 _ rfl
 have g5:=(HD.out w2 HC2.out).2 5 _ rfl
 go_upto_region 4 with (fail)
 clear f0 g0 f1 g1 f2 g2 f12 g12 f3 g3 f5 g5
 go_loopw [5] (fun q wr=>∃ k:Nat,k≤t.dr.length∧q=.int .i64 k∧Chg (fun _=>False) w0 wr) (fun q _=>t.dr.length-(intOf q).toNat)
 case atStart=>exact⟨0,by omega,rfl,HC2.out⟩
 case round =>
  obtain⟨k,hk,rfl,hc⟩:=hrel
  have HC:=jh hc
  clear hc
  have f2:=(HD.out wr HC.out).1 2 _ rfl
  have g2:=(HD.out wr HC.out).2 2 _ rfl
  by_cases hkl:k<t.dr.length
  ·have hb9:decide ((k:Int)<(t.dr.length:Int))=true:=by simp;omega
   obtain⟨x,x1,gx,ox,hx,r1,rfl,-,-,-,e4⟩:=(ListR.of (HA.out _ HC.out).dr).get1' (f:=fun b=>[.bool b]) rfl hkl rfl
   obtain⟨y,y1,gy,oy,hy,r2,rfl,-,-,-,f4⟩:=(ListR.of (HB.out _ HC.out).dr).get1' (f:=fun b=>[.bool b]) rfl hkl rfl
   obtain rfl:x=x1:=r1
   obtain rfl:y=y1:=r2
   rw [hx] at hy
   obtain rfl:=Option.some.inj hy
   have q0:=e4 _ rfl
   have q1:=f4 _ rfl
   have HCF:Hid (∀ X,Chg (fun _=>False) wr X→(X.cell? ⟨w.heap.size,2,none⟩=some (.slice (some ⟨gx,ox,none⟩) t.dr.length c2)∧X.cell? ⟨w.heap.size+1,2,none⟩=some (.slice (some ⟨gy,oy,none⟩) t.dr.length d2))∧X.cell? ⟨gx,ox+k,none⟩=some (.bool x)∧X.cell? ⟨gy,oy+k,none⟩=some (.bool x)):=jh (fun X hx=>⟨⟨hx.cellS f2 (fun h=>h),hx.cellS g2 (fun h=>h)⟩,hx.cellS q0 (fun h=>h),hx.cellS q1 (fun h=>h)⟩)
   have bnx:(x != x)=false:=by simp
   clear hx hy e4 f4 q0 q1
   go_upto_region 6 with (fail)
   refine wp_region_same (fun x=>Chg (fun _=>False) wr x) (by kernel_rfl) (by kernel_rfl) ?_ ?_
   ·exact (Chg.refl _ _).drew
   (refine rdC fun K hK=>?_;apply ei;intro _ w' _ hC;(go_simp;try with_reducible rfl);(try go_simp);refine hK _ ?_;clear hK K);(refine rdC fun K hK=>?_;apply ei;intro _ w' _ hC;((obtain⟨⟨q0,q1⟩,q2,q3⟩:=HCF.out w' hC);go_simp;try with_reducible rfl);(try go_simp);refine hK _ ?_;clear hK K);(refine rdC fun K hK=>?_;apply ei;intro _ w' _ hC;(go_simp;try with_reducible rfl);(try go_simp);refine hK _ ?_;clear hK K);(refine rdC fun K hK=>?_;apply ei;intro _ w' _ hC;(go_simp;try with_reducible rfl);(try go_simp);refine hK _ ?_;clear hK K);(refine rdC fun K hK=>?_;apply ei;intro _ w' _ hC;((obtain⟨⟨q0,q1⟩,q2,q3⟩:=HCF.out w' hC);go_simp;try with_reducible rfl);(try go_simp);refine hK _ ?_;clear hK K);(refine rdC fun K hK=>?_;apply ei;intro _ w' _ hC;(go_simp;try with_reducible rfl);(try go_simp);refine hK _ ?_;clear hK K);(refine rdC fun K hK=>?_;apply ei;intro _ w' _ hC;((obtain⟨⟨q0,q1⟩,q2,q3⟩:=HCF.out w' hC);go_simp;try with_reducible rfl);(try go_simp);refine hK _ ?_;clear hK K);(refine rdC fun K hK=>?_;apply ei;intro _ w' _ hC;(go_simp;try with_reducible rfl);(try go_simp);refine hK _ ?_;clear hK K);(refine rdC fun K hK=>?_;apply ei;intro _ w' _ hC;(go_simp;try with_reducible rfl);(try go_simp);refine hK _ ?_;clear hK K);(refine rdC fun K hK=>?_;apply ei;intro _ w' _ hC;((obtain⟨⟨q0,q1⟩,q2,q3⟩:=HCF.out w' hC);go_simp;try with_reducible rfl);(try go_simp);refine hK _ ?_;clear hK K);(refine rdC fun K hK=>?_;apply ei;intro _ w' _ hC;(go_simp;try with_reducible rfl);(try go_simp);refine hK _ ?_;clear hK K)
   refine wpC_nil ?_
   intro w2 hc2
   have HC2:=jh (HC.out.trans hc2)
   clear hc2
   clear f2 g2
   go_wp2
   go_roundw
   case rel=>exact⟨k+1,by omega,by go_num,HC2.out⟩
   case measure=>simp [intOf];omega
  ·obtain rfl:k=t.dr.length:=by omega
   have hb9:decide ((t.dr.length:Int)<(t.dr.length:Int))=false:=by simp
   have HCE:=jh HC.out
   go_upto_region 9 with (fail)
   clear HC f2 g2
   go_loopw [6] (fun q wr=>∃ k:Nat,k≤t.lx.r.length∧q=.int .i64 k∧Chg (fun _=>False) w0 wr) (fun q _=>t.lx.r.length-(intOf q).toNat)
   case atStart=>exact⟨0,by omega,rfl,HCE.out⟩
   case round =>
    obtain⟨k,hk,rfl,hc⟩:=hrel
    have HC:=jh hc
    clear hc
    have f3:=(HD.out wr HC.out).1 3 _ rfl
    have g3:=(HD.out wr HC.out).2 3 _ rfl
    by_cases hkl:k<t.lx.r.length
    ·have hb9:decide ((k:Int)<(t.lx.r.length:Int))=true:=by simp;omega
     obtain⟨⟨x,x'⟩,x1,gx,ox,hx,r1,rfl,-,-,-,e4⟩:=(ListR.of (HA.out _ HC.out).lx.r).get2 (f:=encRng) rfl hkl rfl
     obtain⟨⟨y,y'⟩,y1,gy,oy,hy,r2,rfl,-,-,-,f4⟩:=(ListR.of (HB.out _ HC.out).lx.r).get2 (f:=encRng) rfl hkl rfl
     obtain rfl:(x,x')=x1:=r1
     obtain rfl:(y,y')=y1:=r2
     rw [hx] at hy
     injection hy with hy
     injection hy with hy1 hy2
     subst hy1 hy2
     obtain⟨q0,q1⟩:=e4 _ _ rfl
     obtain⟨q2,q3⟩:=f4 _ _ rfl
     have HCF:Hid (∀ X,Chg (fun _=>False) wr X→(X.cell? ⟨w.heap.size,3,none⟩=some (.slice (some ⟨gx,ox,none⟩) t.lx.r.length c3)∧X.cell? ⟨w.heap.size+1,3,none⟩=some (.slice (some ⟨gy,oy,none⟩) t.lx.r.length d3))∧X.cell? ⟨gx,ox+k * 2,none⟩=some (.int .i32 x)∧X.cell? ⟨gx,ox+k * 2+1,none⟩=some (.int .i32 x')∧X.cell? ⟨gy,oy+k * 2,none⟩=some (.int .i32 x)∧X.cell? ⟨gy,oy+k * 2+1,none⟩=some (.int .i32 x')):=jh (fun X hx=>⟨⟨hx.cellS f3 (fun h=>h),hx.cellS g3 (fun h=>h)⟩,hx.cellS q0 (fun h=>h),hx.cellS q1 (fun h=>h),hx.cellS q2 (fun h=>h),hx.cellS q3 (fun h=>h)⟩)
     clear hx e4 f4 q0 q1 q2 q3
     go_upto_region 11 with (fail)
     refine wp_region_same (fun x=>Chg (fun _=>False) wr x) (by kernel_rfl) (by kernel_rfl) ?_ ?_
     ·exact (Chg.refl _ _).drew
     (refine rdC fun K hK=>?_;apply ei;intro _ w' _ hC;(go_simp;try with_reducible rfl);(try go_simp);refine hK _ ?_;clear hK K);(refine rdC fun K hK=>?_;apply ei;intro _ w' _ hC;(go_simp;try with_reducible rfl);(try go_simp);refine hK _ ?_;clear hK K);(refine rdC fun K hK=>?_;apply ei;intro _ w' _ hC;((obtain⟨⟨q0,q1⟩,q2,q3,q4,q5⟩:=HCF.out w' hC);go_simp;try with_reducible rfl);(try go_simp);refine hK _ ?_;clear hK K);(refine rdC fun K hK=>?_;apply ei;intro _ w' _ hC;(go_simp;try with_reducible rfl);(try go_simp);refine hK _ ?_;clear hK K);(refine rdC fun K hK=>?_;apply ei;intro _ w' _ hC;(go_simp;try with_reducible rfl);(try go_simp);refine hK _ ?_;clear hK K);(refine rdC fun K hK=>?_;apply ei;intro _ w' _ hC;((obtain⟨⟨q0,q1⟩,q2,q3,q4,q5⟩:=HCF.out w' hC);go_simp;try with_reducible rfl);(try go_simp);refine hK _ ?_;clear hK K);(refine rdC fun K hK=>?_;apply ei;intro _ w' _ hC;(go_simp;try with_reducible rfl);(try go_simp);refine hK _ ?_;clear hK K);(refine rdC fun K hK=>?_;apply ei;intro _ w' _ hC;(go_simp;try with_reducible rfl);(try go_simp);refine hK _ ?_;clear hK K);(refine rdC fun K hK=>?_;apply ei;intro _ w' _ hC;((obtain⟨⟨q0,q1⟩,q2,q3,q4,q5⟩:=HCF.out w' hC);go_simp;try with_reducible rfl);(try go_simp);refine hK _ ?_;clear hK K);(refine rdC fun K hK=>?_;apply ei;intro _ w' _ hC;(go_simp;try with_reducible rfl);(try go_simp);refine hK _ ?_;clear hK K);(refine rdC fun K hK=>?_;apply ei;intro _ w' _ hC;(go_simp;try with_reducible rfl);(try go_simp);refine hK _ ?_;clear hK K);(refine rdC fun K hK=>?_;apply ei;intro _ w' _ hC;((obtain⟨⟨q0,q1⟩,q2,q3,q4,q5⟩:=HCF.out w' hC);go_simp;try with_reducible rfl);(try go_simp);refine hK _ ?_;clear hK K);(refine rdC fun K hK=>?_;apply ei;intro _ w' _ hC;(go_simp;try with_reducible rfl);(try go_simp);refine hK _ ?_;clear hK K)
     refine wpC_nil ?_
     intro w2 hc2
     have HC2:=jh (HC.out.trans hc2)
     clear hc2
     clear f3 g3
     go_wp2
     go_roundw
     case rel=>exact⟨k+1,by omega,by go_num,HC2.out⟩
     case measure=>simp [intOf];omega
    ·obtain rfl:k=t.lx.r.length:=by omega
     have hb9:decide ((t.lx.r.length:Int)<(t.lx.r.length:Int))=false:=by simp
     have HCE:=jh HC.out
     go_upto_region 14 with (fail)
     clear HC f3 g3
     go_loopw [7] (fun q wr=>∃ k:Nat,k≤t.lx.n.length∧q=.int .i64 k∧Chg (fun _=>False) w0 wr) (fun q _=>t.lx.n.length-(intOf q).toNat)
     case atStart=>exact⟨0,by omega,rfl,HCE.out⟩
     case round =>
      obtain⟨k,hk,rfl,hc⟩:=hrel
      have HC:=jh hc
      clear hc
      have f5:=(HD.out wr HC.out).1 5 _ rfl
      have g5:=(HD.out wr HC.out).2 5 _ rfl
      by_cases hkl:k<t.lx.n.length
      ·have hb9:decide ((k:Int)<(t.lx.n.length:Int))=true:=by simp;omega
       obtain⟨⟨xa,xn,xc⟩,x1,gx,ox,hx,r1,rfl,-,-,e4⟩:=(HA.out _ HC.out).lx.n.get1 (f:=slV) rfl hkl (fun _=>rfl)
       obtain⟨⟨ya,yn,yc⟩,y1,gy,oy,hy,r2,rfl,-,-,f4⟩:=(HB.out _ HC.out).lx.n.get1 (f:=slV) rfl hkl (fun _=>rfl)
       rw [hx] at hy
       obtain rfl:=Option.some.inj hy
       have r1:intE.InS wr S (xa,xn,xc) x1:=r1
       have r2:intE.InS wr S' (ya,yn,yc) x1:=r2
       obtain⟨rfl,-⟩:=r1.len
       obtain⟨rfl,-⟩:=r2.len
       simp only [slV] at e4 f4
       have HXL:Hid (x1.length≤1000000000):=jh (HF.out.lx.l _ (List.mem_of_getElem? hx))
       have HCF:Hid (∀ X,Chg (fun _=>False) wr X→(X.cell? ⟨w.heap.size,5,none⟩=some (.slice (some ⟨gx,ox,none⟩) t.lx.n.length c5)∧X.cell? ⟨w.heap.size+1,5,none⟩=some (.slice (some ⟨gy,oy,none⟩) t.lx.n.length d5))∧X.cell? ⟨gx,ox+k,none⟩=some (.slice xa x1.length xc)∧X.cell? ⟨gy,oy+k,none⟩=some (.slice ya x1.length yc)):=jh (fun X hx=>⟨⟨hx.cellS f5 (fun h=>h),hx.cellS g5 (fun h=>h)⟩,hx.cellS e4 (fun h=>h),hx.cellS f4 (fun h=>h)⟩)
       have HSN:=jh (fun (X:World) (hx:Chg (fun _=>False) wr X)=>sameNums_yes x1 xa ya xc yc S S' X (r1.chg hx (fun _ _ h=>h)) (r2.chg hx (fun _ _ h=>h)) HXL.out)
       clear hx hy e4 f4 r1 r2
       go_upto_region 16 with (fail)
       refine wp_region_same (fun x=>Chg (fun _=>False) wr x) (by kernel_rfl) (by kernel_rfl) ?_ ?_
       ·exact (Chg.refl _ _).drew
       (refine rdC fun K hK=>?_;apply ei;intro _ w' _ hC;(go_simp;try with_reducible rfl);(try go_simp);refine hK _ ?_;clear hK K);(refine rdC fun K hK=>?_;apply ei;intro _ w' _ hC;(go_simp;try with_reducible rfl);(try go_simp);refine hK _ ?_;clear hK K);(refine rdC fun K hK=>?_;apply ei;intro _ w' _ hC;((obtain⟨⟨q0,q1⟩,q2,q3⟩:=HCF.out w' hC);go_simp;try with_reducible rfl);(try go_simp);refine hK _ ?_;clear hK K);(refine rdC fun K hK=>?_;apply ei;intro _ w' _ hC;(go_simp;try with_reducible rfl);(try go_simp);refine hK _ ?_;clear hK K);(refine rdC fun K hK=>?_;apply ei;intro _ w' _ hC;(go_simp;try with_reducible rfl);(try go_simp);refine hK _ ?_;clear hK K);(refine rdC fun K hK=>?_;apply ei;intro _ w' _ hC;((obtain⟨⟨q0,q1⟩,q2,q3⟩:=HCF.out w' hC);go_simp;try with_reducible rfl);(try go_simp);refine hK _ ?_;clear hK K);(refine rdC fun K hK=>?_;apply ei;intro _ w' _ hC;(go_simp;try with_reducible rfl);(try go_simp);refine hK _ ?_;clear hK K);(refine rdC fun K hK=>?_;apply ei;intro _ w' _ hC;(go_simp;try with_reducible rfl);(try go_simp);refine hK _ ?_;clear hK K);(refine rdC fun K hK=>?_;apply ei;intro _ w' _ hC;((obtain⟨⟨q0,q1⟩,q2,q3⟩:=HCF.out w' hC);go_simp;try with_reducible rfl);(try go_simp);refine hK _ ?_;clear hK K);(refine rdC fun K hK=>?_;apply ei;intro _ w' _ hC;(go_simp;try with_reducible rfl);(try go_simp);refine hK _ ?_;clear hK K);(refine rdC fun K hK=>?_;apply ei;intro _ w' _ hC;(go_simp;try with_reducible rfl);(try go_simp);refine hK _ ?_;clear hK K);(refine rdC fun K hK=>?_;apply ei;intro _ w' _ hC;((obtain⟨⟨q0,q1⟩,q2,q3⟩:=HCF.out w' hC);go_simp;try with_reducible rfl);(try go_simp);refine hK _ ?_;clear hK K)
       refine wpC_call rfl (.bool true )  50  ( #[.slice xa x1.length xc,.slice ya x1.length yc]) (fun w'=>by go_simp) (fun _ w' _ hC=>?_) (fun K hK=>?_)
       ·refine (HSN.out w' hC).mono ?_
        rintro e w'' ⟨rfl,h⟩
        exact⟨rfl,hC.trans h⟩
       ((try go_simp);refine hK _ ?_;clear hK K)
       (refine rdC fun K hK=>?_;apply ei;intro _ w' _ hC;(go_simp;try with_reducible rfl);(try go_simp);refine hK _ ?_;clear hK K)
       refine wpC_nil ?_
       intro w2 hc2
       have HC2:=jh (HC.out.trans hc2)
       clear hc2
       clear f5 g5
       go_wp2
       go_roundw
       case rel=>exact⟨k+1,by omega,by go_num,HC2.out⟩
       case measure=>simp [intOf];omega
      ·obtain rfl:k=t.lx.n.length:=by omega
       have hb9:decide ((t.lx.n.length:Int)<(t.lx.n.length:Int))=false:=by simp
       have HCE:=jh HC.out
       go_upto_region 19 with (fail)
       clear HC f5 g5
       go_loopw [8] (fun q wr=>∃ k:Nat,k≤t.lk.length∧q=.int .i64 k∧Chg (fun _=>False) w0 wr) (fun q _=>t.lk.length-(intOf q).toNat)
       case atStart=>exact⟨0,by omega,rfl,HCE.out⟩
       case round =>
        obtain⟨k,hk,rfl,hc⟩:=hrel
        have HC:=jh hc
        clear hc
        have f12:=(HD.out wr HC.out).1 12 _ rfl
        have g12:=(HD.out wr HC.out).2 12 _ rfl
        by_cases hkl:k<t.lk.length
        ·have hb9:decide ((k:Int)<(t.lk.length:Int))=true:=by simp;omega
         obtain⟨⟨xa,xn,xc⟩,x1,gx,ox,hx,r1,rfl,-,-,e4⟩:=(HA.out _ HC.out).lk.get1 (f:=slV) rfl hkl (fun _=>rfl)
         obtain⟨⟨ya,yn,yc⟩,y1,gy,oy,hy,r2,rfl,-,-,f4⟩:=(HB.out _ HC.out).lk.get1 (f:=slV) rfl hkl (fun _=>rfl)
         rw [hx] at hy
         obtain rfl:=Option.some.inj hy
         have r1:ListR lsE lsR wr S (xa,xn,xc) x1:=r1
         have r2:ListR dLsE dLsR wr S' (ya,yn,yc) x1:=r2
         obtain⟨rfl,-⟩:=r1.len
         obtain⟨rfl,-⟩:=r2.len
         simp only [slV] at e4 f4
         have HXL:=jh (HF.out.la _ (List.mem_of_getElem? hx))
         have HCF:Hid (∀ X,Chg (fun _=>False) wr X→(X.cell? ⟨w.heap.size,12,none⟩=some (.slice (some ⟨gx,ox,none⟩) t.lk.length c12)∧X.cell? ⟨w.heap.size+1,12,none⟩=some (.slice (some ⟨gy,oy,none⟩) t.lk.length d12))∧X.cell? ⟨gx,ox+k,none⟩=some (.slice xa x1.length xc)∧X.cell? ⟨gy,oy+k,none⟩=some (.slice ya x1.length yc)):=jh (fun X hx=>⟨⟨hx.cellS f12 (fun h=>h),hx.cellS g12 (fun h=>h)⟩,hx.cellS e4 (fun h=>h),hx.cellS f4 (fun h=>h)⟩)
         have HSN:=jh (fun (X:World) (hx:Chg (fun _=>False) wr X)=>sameAuto_yes x1 xa ya xc yc S S' X ((ListR.good lsR.good).chg r1 hx (fun _ _ h=>h)) ((ListR.good dLsR.good).chg r2 hx (fun _ _ h=>h)) HXL.out.1 HXL.out.2)
         clear hx hy e4 f4 r1 r2
         go_upto_region 21 with (fail)
         refine wp_region_same (fun x=>Chg (fun _=>False) wr x) (by kernel_rfl) (by kernel_rfl) ?_ ?_
         ·exact (Chg.refl _ _).drew
         (refine rdC fun K hK=>?_;apply ei;intro _ w' _ hC;(go_simp;try with_reducible rfl);(try go_simp);refine hK _ ?_;clear hK K);(refine rdC fun K hK=>?_;apply ei;intro _ w' _ hC;((obtain⟨⟨q0,q1⟩,q2,q3⟩:=HCF.out w' hC);go_simp;try with_reducible rfl);(try go_simp);refine hK _ ?_;clear hK K);(refine rdC fun K hK=>?_;apply ei;intro _ w' _ hC;(go_simp;try with_reducible rfl);(try go_simp);refine hK _ ?_;clear hK K);(refine rdC fun K hK=>?_;apply ei;intro _ w' _ hC;(go_simp;try with_reducible rfl);(try go_simp);refine hK _ ?_;clear hK K);(refine rdC fun K hK=>?_;apply ei;intro _ w' _ hC;((obtain⟨⟨q0,q1⟩,q2,q3⟩:=HCF.out w' hC);go_simp;try with_reducible rfl);(try go_simp);refine hK _ ?_;clear hK K);(refine rdC fun K hK=>?_;apply ei;intro _ w' _ hC;(go_simp;try with_reducible rfl);(try go_simp);refine hK _ ?_;clear hK K);(refine rdC fun K hK=>?_;apply ei;intro _ w' _ hC;((obtain⟨⟨q0,q1⟩,q2,q3⟩:=HCF.out w' hC);go_simp;try with_reducible rfl);(try go_simp);refine hK _ ?_;clear hK K);(refine rdC fun K hK=>?_;apply ei;intro _ w' _ hC;(go_simp;try with_reducible rfl);(try go_simp);refine hK _ ?_;clear hK K);(refine rdC fun K hK=>?_;apply ei;intro _ w' _ hC;(go_simp;try with_reducible rfl);(try go_simp);refine hK _ ?_;clear hK K);(refine rdC fun K hK=>?_;apply ei;intro _ w' _ hC;((obtain⟨⟨q0,q1⟩,q2,q3⟩:=HCF.out w' hC);go_simp;try with_reducible rfl);(try go_simp);refine hK _ ?_;clear hK K)
         refine wpC_call rfl (.bool true )  51  ( #[.agg #[.slice xa x1.length xc],.agg #[.slice ya x1.length yc]]) (fun w'=>by go_simp) (fun _ w' _ hC=>?_) (fun K hK=>?_)
         ·refine (HSN.out w' hC).mono ?_
          rintro e w'' ⟨rfl,h⟩
          exact⟨rfl,hC.trans h⟩
         ((try go_simp);refine hK _ ?_;clear hK K)
         (refine rdC fun K hK=>?_;apply ei;intro _ w' _ hC;(go_simp;try with_reducible rfl);(try go_simp);refine hK _ ?_;clear hK K)
         refine wpC_nil ?_
         intro w2 hc2
         have HC2:=jh (HC.out.trans hc2)
         clear hc2
         clear f12 g12
         go_wp2
         go_roundw
         case rel=>exact⟨k+1,by omega,by go_num,HC2.out⟩
         case measure=>simp [intOf];omega
        ·obtain rfl:k=t.lk.length:=by omega
         have hb9:decide ((t.lk.length:Int)<(t.lk.length:Int))=false:=by simp
         have HCE:=jh HC.out
         clear HC
         have f7:=(HD.out wr HCE.out).1 7 _ rfl
         have g7:=(HD.out wr HCE.out).2 7 _ rfl
         have f8:=(HD.out wr HCE.out).1 8 _ rfl
         have g8:=(HD.out wr HCE.out).2 8 _ rfl
         have f9:=(HD.out wr HCE.out).1 9 _ rfl
         have g9:=(HD.out wr HCE.out).2 9 _ rfl
         have f10:=(HD.out wr HCE.out).1 10 _ rfl
         have g10:=(HD.out wr HCE.out).2 10 _ rfl
         have f11:=(HD.out wr HCE.out).1 11 _ rfl
         have g11:=(HD.out wr HCE.out).2 11 _ rfl
         obtain⟨w5,hw5⟩:∃ X,X=wr.alloc (.cells #[.slice a7 t.nt.st.length c7,.slice a8 t.nt.s.length c8,.slice a9 t.nt.p.length c9,.slice a10 t.nt.q.length c10,.slice a11 t.nt.d.length c11] 31):=⟨_,rfl⟩
         have HC5:Hid (Chg (fun _=>False) wr w5):=jh (by rw [hw5];exact (Chg.refl _ _).alloc _)
         have hs5:w5.heap.size=wr.heap.size+1:=by rw [hw5];simp
         obtain⟨wn,hwn⟩:∃ X,X=w5.alloc (.cells #[.slice b7 t.nt.st.length d7,.slice b8 t.nt.s.length d8,.slice b9 t.nt.p.length d9,.slice b10 t.nt.q.length d10,.slice b11 t.nt.d.length d11] 40):=⟨_,rfl⟩
         have HCN:Hid (Chg (fun _=>False) w5 wn):=jh (by rw [hwn];exact (Chg.refl _ _).alloc _)
         have HCW:=jh (HCE.out.trans (HC5.out.trans HCN.out))
         have HN:Hid (∀ X,Chg (fun _=>False) wn X→(∀ j v,([.slice a7 t.nt.st.length c7,.slice a8 t.nt.s.length c8,.slice a9 t.nt.p.length c9,.slice a10 t.nt.q.length c10,.slice a11 t.nt.d.length c11]:List Value)[j]?=some v→X.cell? ⟨wr.heap.size,j,none⟩=some v)∧∀ j v,([.slice b7 t.nt.st.length d7,.slice b8 t.nt.s.length d8,.slice b9 t.nt.p.length d9,.slice b10 t.nt.q.length d10,.slice b11 t.nt.d.length d11]:List Value)[j]?=some v→X.cell? ⟨wr.heap.size+1,j,none⟩=some v):=jh (fun X hx =>
          ⟨fun j v hv=>hx.cellS (by rw [hwn,hw5];exact allocOld _ (allocAt _ rfl (by rw [← Array.getElem?_toList];exact hv))) (fun h=>h),fun j v hv=>hx.cellS (by rw [hwn];exact allocAt _ hs5.symm (by rw [← Array.getElem?_toList];exact hv)) (fun h=>h)⟩)
         go_upto_region 24 with (fail)
         rw [← hw5]
         clear f12 g12 hw5 f7 g7 f8 g8 f9 g9 f10 g10 f11 g11
         have f7:=(HD.out w5 (HCE.out.trans HC5.out)).1 7 _ rfl
         have g7:=(HD.out w5 (HCE.out.trans HC5.out)).2 7 _ rfl
         have f8:=(HD.out w5 (HCE.out.trans HC5.out)).1 8 _ rfl
         have g8:=(HD.out w5 (HCE.out.trans HC5.out)).2 8 _ rfl
         have f9:=(HD.out w5 (HCE.out.trans HC5.out)).1 9 _ rfl
         have g9:=(HD.out w5 (HCE.out.trans HC5.out)).2 9 _ rfl
         have f10:=(HD.out w5 (HCE.out.trans HC5.out)).1 10 _ rfl
         have g10:=(HD.out w5 (HCE.out.trans HC5.out)).2 10 _ rfl
         have f11:=(HD.out w5 (HCE.out.trans HC5.out)).1 11 _ rfl
         have g11:=(HD.out w5 (HCE.out.trans HC5.out)).2 11 _ rfl
         go_upto_region 25 with (fail)
         rw [← hwn]
         clear hwn hs5 f7 g7 f8 g8 f9 g9 f10 g10 f11 g11
         have HX0:Hid (Chg (fun _=>False) wn wn):=jh (Chg.refl _ _)
         have f4:=(HD.out wn (HCW.out.trans HX0.out)).1 4 _ rfl
         have g4:=(HD.out wn (HCW.out.trans HX0.out)).2 4 _ rfl
         have f6:=(HD.out wn (HCW.out.trans HX0.out)).1 6 _ rfl
         have g6:=(HD.out wn (HCW.out.trans HX0.out)).2 6 _ rfl
         have m0:=(HN.out wn HX0.out).1 0 _ rfl
         have l0:=(HN.out wn HX0.out).2 0 _ rfl
         have m1:=(HN.out wn HX0.out).1 1 _ rfl
         have l1:=(HN.out wn HX0.out).2 1 _ rfl
         have m2:=(HN.out wn HX0.out).1 2 _ rfl
         have l2:=(HN.out wn HX0.out).2 2 _ rfl
         have m3:=(HN.out wn HX0.out).1 3 _ rfl
         have l3:=(HN.out wn HX0.out).2 3 _ rfl
         have m4:=(HN.out wn HX0.out).1 4 _ rfl
         have l4:=(HN.out wn HX0.out).2 4 _ rfl
         go_wp2_with fail
         refine (sameNums_yes t.lx.c a4 b4 c4 d4 S S' wn (HA.out _ (HCW.out.trans HX0.out)).lx.c (HB.out _ (HCW.out.trans HX0.out)).lx.c (HF.out.lx.c)).mono ?_
         rintro e x1 ⟨rfl,hc⟩
         have HX1:=jh (HX0.out.trans hc)
         clear hc f4 g4 f6 g6 m0 m1 m2 m3 m4 l0 l1 l2 l3 l4
         have f4:=(HD.out x1 (HCW.out.trans HX1.out)).1 4 _ rfl
         have g4:=(HD.out x1 (HCW.out.trans HX1.out)).2 4 _ rfl
         have f6:=(HD.out x1 (HCW.out.trans HX1.out)).1 6 _ rfl
         have g6:=(HD.out x1 (HCW.out.trans HX1.out)).2 6 _ rfl
         have m0:=(HN.out x1 HX1.out).1 0 _ rfl
         have l0:=(HN.out x1 HX1.out).2 0 _ rfl
         have m1:=(HN.out x1 HX1.out).1 1 _ rfl
         have l1:=(HN.out x1 HX1.out).2 1 _ rfl
         have m2:=(HN.out x1 HX1.out).1 2 _ rfl
         have l2:=(HN.out x1 HX1.out).2 2 _ rfl
         have m3:=(HN.out x1 HX1.out).1 3 _ rfl
         have l3:=(HN.out x1 HX1.out).2 3 _ rfl
         have m4:=(HN.out x1 HX1.out).1 4 _ rfl
         have l4:=(HN.out x1 HX1.out).2 4 _ rfl
         go_wp2_with fail
         refine (sameNums_yes t.lx.e a6 b6 c6 d6 S S' x1 (HA.out _ (HCW.out.trans HX1.out)).lx.e (HB.out _ (HCW.out.trans HX1.out)).lx.e (HF.out.lx.e)).mono ?_
         rintro e x2 ⟨rfl,hc⟩
         have HX2:=jh (HX1.out.trans hc)
         clear hc f4 g4 f6 g6 m0 m1 m2 m3 m4 l0 l1 l2 l3 l4
         have f4:=(HD.out x2 (HCW.out.trans HX2.out)).1 4 _ rfl
         have g4:=(HD.out x2 (HCW.out.trans HX2.out)).2 4 _ rfl
         have f6:=(HD.out x2 (HCW.out.trans HX2.out)).1 6 _ rfl
         have g6:=(HD.out x2 (HCW.out.trans HX2.out)).2 6 _ rfl
         have m0:=(HN.out x2 HX2.out).1 0 _ rfl
         have l0:=(HN.out x2 HX2.out).2 0 _ rfl
         have m1:=(HN.out x2 HX2.out).1 1 _ rfl
         have l1:=(HN.out x2 HX2.out).2 1 _ rfl
         have m2:=(HN.out x2 HX2.out).1 2 _ rfl
         have l2:=(HN.out x2 HX2.out).2 2 _ rfl
         have m3:=(HN.out x2 HX2.out).1 3 _ rfl
         have l3:=(HN.out x2 HX2.out).2 3 _ rfl
         have m4:=(HN.out x2 HX2.out).1 4 _ rfl
         have l4:=(HN.out x2 HX2.out).2 4 _ rfl
         go_wp2_with fail
         refine (sameNums_yes t.nt.s a8 b8 c8 d8 S S' x2 (HA.out _ (HCW.out.trans HX2.out)).nt.s (HB.out _ (HCW.out.trans HX2.out)).nt.s (Nat.le_trans HF.out.nt.s (by decide))).mono ?_
         rintro e x3 ⟨rfl,hc⟩
         have HX3:=jh (HX2.out.trans hc)
         clear hc f4 g4 f6 g6 m0 m1 m2 m3 m4 l0 l1 l2 l3 l4
         have f4:=(HD.out x3 (HCW.out.trans HX3.out)).1 4 _ rfl
         have g4:=(HD.out x3 (HCW.out.trans HX3.out)).2 4 _ rfl
         have f6:=(HD.out x3 (HCW.out.trans HX3.out)).1 6 _ rfl
         have g6:=(HD.out x3 (HCW.out.trans HX3.out)).2 6 _ rfl
         have m0:=(HN.out x3 HX3.out).1 0 _ rfl
         have l0:=(HN.out x3 HX3.out).2 0 _ rfl
         have m1:=(HN.out x3 HX3.out).1 1 _ rfl
         have l1:=(HN.out x3 HX3.out).2 1 _ rfl
         have m2:=(HN.out x3 HX3.out).1 2 _ rfl
         have l2:=(HN.out x3 HX3.out).2 2 _ rfl
         have m3:=(HN.out x3 HX3.out).1 3 _ rfl
         have l3:=(HN.out x3 HX3.out).2 3 _ rfl
         have m4:=(HN.out x3 HX3.out).1 4 _ rfl
         have l4:=(HN.out x3 HX3.out).2 4 _ rfl
         go_wp2_with fail
         refine (sameNums_yes t.nt.p a9 b9 c9 d9 S S' x3 (HA.out _ (HCW.out.trans HX3.out)).nt.p (HB.out _ (HCW.out.trans HX3.out)).nt.p (Nat.le_trans HF.out.nt.p (by decide))).mono ?_
         rintro e x4 ⟨rfl,hc⟩
         have HX4:=jh (HX3.out.trans hc)
         clear hc f4 g4 f6 g6 m0 m1 m2 m3 m4 l0 l1 l2 l3 l4
         have f4:=(HD.out x4 (HCW.out.trans HX4.out)).1 4 _ rfl
         have g4:=(HD.out x4 (HCW.out.trans HX4.out)).2 4 _ rfl
         have f6:=(HD.out x4 (HCW.out.trans HX4.out)).1 6 _ rfl
         have g6:=(HD.out x4 (HCW.out.trans HX4.out)).2 6 _ rfl
         have m0:=(HN.out x4 HX4.out).1 0 _ rfl
         have l0:=(HN.out x4 HX4.out).2 0 _ rfl
         have m1:=(HN.out x4 HX4.out).1 1 _ rfl
         have l1:=(HN.out x4 HX4.out).2 1 _ rfl
         have m2:=(HN.out x4 HX4.out).1 2 _ rfl
         have l2:=(HN.out x4 HX4.out).2 2 _ rfl
         have m3:=(HN.out x4 HX4.out).1 3 _ rfl
         have l3:=(HN.out x4 HX4.out).2 3 _ rfl
         have m4:=(HN.out x4 HX4.out).1 4 _ rfl
         have l4:=(HN.out x4 HX4.out).2 4 _ rfl
         go_wp2_with fail
         refine (sameNums_yes t.nt.q a10 b10 c10 d10 S S' x4 (HA.out _ (HCW.out.trans HX4.out)).nt.q (HB.out _ (HCW.out.trans HX4.out)).nt.q (HF.out.nt.q)).mono ?_
         rintro e x5 ⟨rfl,hc⟩
         have HX5:=jh (HX4.out.trans hc)
         clear hc f4 g4 f6 g6 m0 m1 m2 m3 m4 l0 l1 l2 l3 l4
         have f4:=(HD.out x5 (HCW.out.trans HX5.out)).1 4 _ rfl
         have g4:=(HD.out x5 (HCW.out.trans HX5.out)).2 4 _ rfl
         have f6:=(HD.out x5 (HCW.out.trans HX5.out)).1 6 _ rfl
         have g6:=(HD.out x5 (HCW.out.trans HX5.out)).2 6 _ rfl
         have m0:=(HN.out x5 HX5.out).1 0 _ rfl
         have l0:=(HN.out x5 HX5.out).2 0 _ rfl
         have m1:=(HN.out x5 HX5.out).1 1 _ rfl
         have l1:=(HN.out x5 HX5.out).2 1 _ rfl
         have m2:=(HN.out x5 HX5.out).1 2 _ rfl
         have l2:=(HN.out x5 HX5.out).2 2 _ rfl
         have m3:=(HN.out x5 HX5.out).1 3 _ rfl
         have l3:=(HN.out x5 HX5.out).2 3 _ rfl
         have m4:=(HN.out x5 HX5.out).1 4 _ rfl
         have l4:=(HN.out x5 HX5.out).2 4 _ rfl
         go_wp2_with fail
         refine (sameNums_yes t.nt.d a11 b11 c11 d11 S S' x5 (HA.out _ (HCW.out.trans HX5.out)).nt.d (HB.out _ (HCW.out.trans HX5.out)).nt.d (HF.out.nt.d)).mono ?_
         rintro e x6 ⟨rfl,hc⟩
         have HX6:=jh (HX5.out.trans hc)
         clear hc f4 g4 f6 g6 m0 m1 m2 m3 m4 l0 l1 l2 l3 l4
         have m0:=(HN.out x6 HX6.out).1 0 _ rfl
         have l0:=(HN.out x6 HX6.out).2 0 _ rfl
         go_upto_region 28 with (fail)
         clear m0 l0
         obtain⟨wb,rfl⟩:∃ wb:World,wb=wr:=⟨_,rfl⟩
         go_loopw [11] (fun q wr=>∃ k:Nat,k≤t.nt.st.length∧q=.int .i64 k∧Chg (fun _=>False) wn wr) (fun q _=>t.nt.st.length-(intOf q).toNat)
         case atStart=>exact⟨0,by omega,rfl,HX6.out⟩
         case round =>
          clear HX1 HX2 HX3 HX4 HX5 HX6
          obtain⟨k,hk,rfl,hc⟩:=hrel
          obtain⟨wo,rfl⟩:∃ wo:World,wo=wr:=⟨_,rfl⟩
          have HC:=jh hc
          clear hc
          have m0:=(HN.out wo HC.out).1 0 _ rfl
          have l0:=(HN.out wo HC.out).2 0 _ rfl
          by_cases hkl:k<t.nt.st.length
          ·have hb9:decide ((k:Int)<(t.nt.st.length:Int))=true:=by simp;omega
           obtain⟨⟨k1,⟨xa,n1,xc⟩,⟨ya,m1,yc⟩⟩,⟨kd,es,ds⟩,gx,ox,hx,⟨r1,r2,r3,r4⟩,rfl,-,-,-,hcells⟩:=(HA.out _ (HCW.out.trans HC.out)).nt.st.get3 (f:=encSt) rfl hkl rfl
           obtain⟨⟨k2,⟨za,n2,zc⟩,⟨ua,m2,uc⟩⟩,d',gy,oy,hy,⟨s1,s2,s3,s4⟩,rfl,-,-,-,hcells'⟩:=(HB.out _ (HCW.out.trans HC.out)).nt.st.get3 (f:=encSt) rfl hkl rfl
           rw [hx] at hy
           obtain rfl:=Option.some.inj hy
           simp only at r1 r2 r3 r4 s1 s2 s3 s4
           subst r1 s1
           obtain⟨rfl,-⟩:=r3.len
           obtain⟨rfl,-⟩:=r4.len
           obtain⟨rfl,-⟩:=s3.len
           obtain⟨rfl,-⟩:=s4.len
           obtain⟨lb1,lb2⟩:=HF.out.nt.e _ (List.mem_of_getElem? hx)
           simp only at lb1 lb2
           obtain⟨x0,x1,x2⟩:=hcells _ _ _ rfl
           obtain⟨y0,y1,y2⟩:=hcells' _ _ _ rfl
           simp only [slV] at x1 x2 y1 y2
           obtain⟨w6,hw6⟩:∃ X,X=wo.alloc (.cells #[.int .i64 k2,.slice xa es.length xc,.slice ya ds.length yc] 74):=⟨_,rfl⟩
           have HC6:Hid (Chg (fun _=>False) wo w6):=jh (by rw [hw6];exact (Chg.refl _ _).alloc _)
           have hs6:w6.heap.size=wo.heap.size+1:=by rw [hw6];simp
           obtain⟨w7,hw7⟩:∃ X,X=w6.alloc (.cells #[.int .i64 k2,.slice za es.length zc,.slice ua ds.length uc] 121):=⟨_,rfl⟩
           have HC7:Hid (Chg (fun _=>False) wo w7):=jh (HC6.out.trans (by rw [hw7];exact (Chg.refl _ _).alloc _))
           have HZ0:Hid (∀ X,Chg (fun _=>False) w7 X→(∀ j v,([.int .i64 k2,.slice xa es.length xc,.slice ya ds.length yc]:List Value)[j]?=some v→X.cell? ⟨wo.heap.size,j,none⟩=some v)∧∀ j v,([.int .i64 k2,.slice za es.length zc,.slice ua ds.length uc]:List Value)[j]?=some v→X.cell? ⟨wo.heap.size+1,j,none⟩=some v):=jh (fun X hx =>
            ⟨fun j v hv=>hx.cellS (by rw [hw7,hw6];exact allocOld _ (allocAt _ rfl (by rw [← Array.getElem?_toList];exact hv))) (fun h=>h),fun j v hv=>hx.cellS (by rw [hw7];exact allocAt _ hs6.symm (by rw [← Array.getElem?_toList];exact hv)) (fun h=>h)⟩)
           have HZ:Hid (∀ X,Chg (fun _=>False) w7 X→edgeE.InS X S (xa,es.length,xc) es∧dEdgeE.InS X S' (za,es.length,zc) es):=jh (fun X hx=>⟨r3.chg (HC7.out.trans hx) (fun _ _ h=>h),s3.chg (HC7.out.trans hx) (fun _ _ h=>h)⟩)
           have HSN:=jh (sameNums_yes ds ya ua yc uc S S' w7 (r4.chg HC7.out (fun _ _ h=>h)) (s4.chg HC7.out (fun _ _ h=>h)) lb2)
           have l0':=HC6.out.cellS l0 (fun h=>h)
           have y0':=HC6.out.cellS y0 (fun h=>h)
           have y1':=HC6.out.cellS y1 (fun h=>h)
           have y2':=HC6.out.cellS y2 (fun h=>h)
           clear hx hy hcells hcells' r2 r3 r4 s2 s3 s4
           go_upto_region 31 with (fail)
           rw [← hw6]
           clear hw6 x0 x1 x2 y0 y1 y2 m0 l0
           go_upto_region 32 with (fail)
           rw [← hw7]
           clear hw7 hs6 l0' y0' y1' y2'
           have z0:=(HZ0.out w7 (Chg.refl _ _)).1 0 _ rfl
           have z1:=(HZ0.out w7 (Chg.refl _ _)).1 1 _ rfl
           have z2:=(HZ0.out w7 (Chg.refl _ _)).1 2 _ rfl
           have v0:=(HZ0.out w7 (Chg.refl _ _)).2 0 _ rfl
           have v1:=(HZ0.out w7 (Chg.refl _ _)).2 1 _ rfl
           have v2:=(HZ0.out w7 (Chg.refl _ _)).2 2 _ rfl
           go_wp2_with fail
           refine HSN.out.mono ?_
           rintro e w8 ⟨rfl,hc8⟩
           have HC8:=jh hc8
           clear hc8 HSN z0 z1 z2 v0 v1 v2
           have z1:=(HZ0.out w8 HC8.out).1 1 _ rfl
           go_upto_region 35 with (fail)
           clear z1
           go_loopw [14] (fun q wr=>∃ j:Nat,j≤es.length∧q=.int .i64 j∧Chg (fun _=>False) w7 wr) (fun q _=>es.length-(intOf q).toNat)
           case atStart=>exact⟨0,by omega,rfl,HC8.out⟩
           case round =>
            clear HC8
            obtain⟨j,hj,rfl,hc⟩:=hrel
            have HCJ:=jh hc
            clear hc
            have z1:=(HZ0.out wr HCJ.out).1 1 _ rfl
            have v1:=(HZ0.out wr HCJ.out).2 1 _ rfl
            obtain⟨hle,hld⟩:=HZ.out _ HCJ.out
            by_cases hjl:j<es.length
            ·have hb10:decide ((j:Int)<(es.length:Int))=true:=by simp;omega
             obtain⟨⟨t1,t2,t3⟩,f1,gl,ol,hx,hr1,rfl,-,-,hek,hcells⟩:=(ListR.of hle).get3 (f:=encEdge) rfl hjl rfl
             obtain⟨⟨t4,t5,t6⟩,f2,gm,om,hy,hr2,rfl,-,-,-,hcells'⟩:=(ListR.of hld).get3 (f:=encDe) rfl hjl rfl
             obtain rfl:(t1,t2,t3)=f1:=hr1
             obtain rfl:(t4,t5,t6)=f2:=hr2
             rw [hx] at hy
             injection hy with hy
             injection hy with hy1 hy2
             injection hy2 with hy2 hy3
             subst hy1 hy2 hy3
             obtain⟨⟨hk1,hk2⟩,-⟩:=hek
             simp only at hk1 hk2
             have hwk:IntKind.i64.wrap t1=t1:=by rw [IntKind.wrap_i64];omega
             obtain⟨x0,x1,x2⟩:=hcells _ _ _ rfl
             obtain⟨y0,y1,y2⟩:=hcells' _ _ _ rfl
             have HCF:Hid (∀ X,Chg (fun _=>False) wr X→(X.cell? ⟨wo.heap.size,1,none⟩=some (.slice (some ⟨gl,ol,none⟩) es.length xc)∧X.cell? ⟨wo.heap.size+1,1,none⟩=some (.slice (some ⟨gm,om,none⟩) es.length zc))∧(X.cell? ⟨gl,ol+j * 3,none⟩=some (.int .u8 t1)∧X.cell? ⟨gl,ol+j * 3+1,none⟩=some (.int .i64 t2)∧X.cell? ⟨gl,ol+j * 3+2,none⟩=some (.int .i64 t3))∧X.cell? ⟨gm,om+j * 3,none⟩=some (.int .i64 t1)∧X.cell? ⟨gm,om+j * 3+1,none⟩=some (.int .i64 t2)∧X.cell? ⟨gm,om+j * 3+2,none⟩=some (.int .i64 t3)):=jh (fun X hx =>
              ⟨⟨hx.cellS z1 (fun h=>h),hx.cellS v1 (fun h=>h)⟩,⟨hx.cellS x0 (fun h=>h),hx.cellS x1 (fun h=>h),hx.cellS x2 (fun h=>h)⟩,hx.cellS y0 (fun h=>h),hx.cellS y1 (fun h=>h),hx.cellS y2 (fun h=>h)⟩)
             clear hx hcells hcells' hle hld x0 x1 x2 y0 y1 y2
             go_upto_region 37 with (fail)
             refine wp_region_same (fun x=>Chg (fun _=>False) wr x) (by kernel_rfl) (by kernel_rfl) ?_ ?_
             ·exact (Chg.refl _ _).drew
             (refine rdC fun K hK=>?_;apply ei;intro _ w' _ hC;(go_simp;try with_reducible rfl);(try go_simp);refine hK _ ?_;clear hK K);(refine rdC fun K hK=>?_;apply ei;intro _ w' _ hC;((obtain⟨⟨q0,q1⟩,⟨q2,q3,q4⟩,q5,q6,q7⟩:=HCF.out w' hC);go_simp;try with_reducible rfl);(try go_simp);refine hK _ ?_;clear hK K);(refine rdC fun K hK=>?_;apply ei;intro _ w' _ hC;(go_simp;try with_reducible rfl);(try go_simp);refine hK _ ?_;clear hK K);(refine rdC fun K hK=>?_;apply ei;intro _ w' _ hC;(go_simp;try with_reducible rfl);(try go_simp);refine hK _ ?_;clear hK K);(refine rdC fun K hK=>?_;apply ei;intro _ w' _ hC;(go_simp;try with_reducible rfl);(try go_simp);refine hK _ ?_;clear hK K);(refine rdC fun K hK=>?_;apply ei;intro _ w' _ hC;((obtain⟨⟨q0,q1⟩,⟨q2,q3,q4⟩,q5,q6,q7⟩:=HCF.out w' hC);go_simp;try with_reducible rfl);(try go_simp);refine hK _ ?_;clear hK K);(refine rdC fun K hK=>?_;apply ei;intro _ w' _ hC;(go_simp;try with_reducible rfl);(try go_simp);refine hK _ ?_;clear hK K);(refine rdC fun K hK=>?_;apply ei;intro _ w' _ hC;(go_simp;try with_reducible rfl);(try go_simp);refine hK _ ?_;clear hK K);(refine rdC fun K hK=>?_;apply ei;intro _ w' _ hC;((obtain⟨⟨q0,q1⟩,⟨q2,q3,q4⟩,q5,q6,q7⟩:=HCF.out w' hC);go_simp;try with_reducible rfl);(try go_simp);refine hK _ ?_;clear hK K);(refine rdC fun K hK=>?_;apply ei;intro _ w' _ hC;(go_simp;try with_reducible rfl);(try go_simp);refine hK _ ?_;clear hK K);(refine rdC fun K hK=>?_;apply ei;intro _ w' _ hC;(go_simp;try with_reducible rfl);(try go_simp);refine hK _ ?_;clear hK K);(refine rdC fun K hK=>?_;apply ei;intro _ w' _ hC;(go_simp;try with_reducible rfl);(try go_simp);refine hK _ ?_;clear hK K);(refine rdC fun K hK=>?_;apply ei;intro _ w' _ hC;((obtain⟨⟨q0,q1⟩,⟨q2,q3,q4⟩,q5,q6,q7⟩:=HCF.out w' hC);go_simp;try with_reducible rfl);(try go_simp);refine hK _ ?_;clear hK K);(refine rdC fun K hK=>?_;apply ei;intro _ w' _ hC;(go_simp;try with_reducible rfl);(try go_simp);refine hK _ ?_;clear hK K);(refine rdC fun K hK=>?_;apply ei;intro _ w' _ hC;(go_simp;try with_reducible rfl);(try go_simp);refine hK _ ?_;clear hK K);(refine rdC fun K hK=>?_;apply ei;intro _ w' _ hC;(go_simp;try with_reducible rfl);(try go_simp);refine hK _ ?_;clear hK K);(refine rdC fun K hK=>?_;apply ei;intro _ w' _ hC;((obtain⟨⟨q0,q1⟩,⟨q2,q3,q4⟩,q5,q6,q7⟩:=HCF.out w' hC);go_simp;try with_reducible rfl);(try go_simp);refine hK _ ?_;clear hK K);(refine rdC fun K hK=>?_;apply ei;intro _ w' _ hC;(go_simp;try with_reducible rfl);(try go_simp);refine hK _ ?_;clear hK K);(refine rdC fun K hK=>?_;apply ei;intro _ w' _ hC;(go_simp;try with_reducible rfl);(try go_simp);refine hK _ ?_;clear hK K);(refine rdC fun K hK=>?_;apply ei;intro _ w' _ hC;(go_simp;try with_reducible rfl);(try go_simp);refine hK _ ?_;clear hK K);(refine rdC fun K hK=>?_;apply ei;intro _ w' _ hC;((obtain⟨⟨q0,q1⟩,⟨q2,q3,q4⟩,q5,q6,q7⟩:=HCF.out w' hC);go_simp;try with_reducible rfl);(try go_simp);refine hK _ ?_;clear hK K);(refine rdC fun K hK=>?_;apply ei;intro _ w' _ hC;(go_simp;try with_reducible rfl);(try go_simp);refine hK _ ?_;clear hK K);(refine rdC fun K hK=>?_;apply ei;intro _ w' _ hC;((obtain⟨⟨q0,q1⟩,⟨q2,q3,q4⟩,q5,q6,q7⟩:=HCF.out w' hC);go_simp;try with_reducible rfl);(try go_simp);refine hK _ ?_;clear hK K);(refine rdC fun K hK=>?_;apply ei;intro _ w' _ hC;(go_simp;try with_reducible rfl);(try go_simp);refine hK _ ?_;clear hK K);(refine rdC fun K hK=>?_;apply ei;intro _ w' _ hC;(go_simp;try with_reducible rfl);(try go_simp);refine hK _ ?_;clear hK K);(refine rdC fun K hK=>?_;apply ei;intro _ w' _ hC;(go_simp;try with_reducible rfl);(try go_simp);refine hK _ ?_;clear hK K);(refine rdC fun K hK=>?_;apply ei;intro _ w' _ hC;((obtain⟨⟨q0,q1⟩,⟨q2,q3,q4⟩,q5,q6,q7⟩:=HCF.out w' hC);go_simp;try with_reducible rfl);(try go_simp);refine hK _ ?_;clear hK K);(refine rdC fun K hK=>?_;apply ei;intro _ w' _ hC;(go_simp;try with_reducible rfl);(try go_simp);refine hK _ ?_;clear hK K);(refine rdC fun K hK=>?_;apply ei;intro _ w' _ hC;(go_simp;try with_reducible rfl);(try go_simp);refine hK _ ?_;clear hK K);(refine rdC fun K hK=>?_;apply ei;intro _ w' _ hC;(go_simp;try with_reducible rfl);(try go_simp);refine hK _ ?_;clear hK K);(refine rdC fun K hK=>?_;apply ei;intro _ w' _ hC;(go_simp;try with_reducible rfl);(try go_simp);refine hK _ ?_;clear hK K);(refine rdC fun K hK=>?_;apply ei;intro _ w' _ hC;((obtain⟨⟨q0,q1⟩,⟨q2,q3,q4⟩,q5,q6,q7⟩:=HCF.out w' hC);go_simp;try with_reducible rfl);(try go_simp);refine hK _ ?_;clear hK K);(refine rdC fun K hK=>?_;apply ei;intro _ w' _ hC;(go_simp;try with_reducible rfl);(try go_simp);refine hK _ ?_;clear hK K);(refine rdC fun K hK=>?_;apply ei;intro _ w' _ hC;(go_simp;try with_reducible rfl);(try go_simp);refine hK _ ?_;clear hK K);(refine rdC fun K hK=>?_;apply ei;intro _ w' _ hC;(go_simp;try with_reducible rfl);(try go_simp);refine hK _ ?_;clear hK K);(refine rdC fun K hK=>?_;apply ei;intro _ w' _ hC;((obtain⟨⟨q0,q1⟩,⟨q2,q3,q4⟩,q5,q6,q7⟩:=HCF.out w' hC);go_simp;try with_reducible rfl);(try go_simp);refine hK _ ?_;clear hK K);(refine rdC fun K hK=>?_;apply ei;intro _ w' _ hC;(go_simp;try with_reducible rfl);(try go_simp);refine hK _ ?_;clear hK K);(refine rdC fun K hK=>?_;apply ei;intro _ w' _ hC;((obtain⟨⟨q0,q1⟩,⟨q2,q3,q4⟩,q5,q6,q7⟩:=HCF.out w' hC);go_simp;try with_reducible rfl);(try go_simp);refine hK _ ?_;clear hK K);(refine rdC fun K hK=>?_;apply ei;intro _ w' _ hC;(go_simp;try with_reducible rfl);(try go_simp);refine hK _ ?_;clear hK K);(refine rdC fun K hK=>?_;apply ei;intro _ w' _ hC;(go_simp;try with_reducible rfl);(try go_simp);refine hK _ ?_;clear hK K);(refine rdC fun K hK=>?_;apply ei;intro _ w' _ hC;(go_simp;try with_reducible rfl);(try go_simp);refine hK _ ?_;clear hK K);(refine rdC fun K hK=>?_;apply ei;intro _ w' _ hC;((obtain⟨⟨q0,q1⟩,⟨q2,q3,q4⟩,q5,q6,q7⟩:=HCF.out w' hC);go_simp;try with_reducible rfl);(try go_simp);refine hK _ ?_;clear hK K);(refine rdC fun K hK=>?_;apply ei;intro _ w' _ hC;(go_simp;try with_reducible rfl);(try go_simp);refine hK _ ?_;clear hK K);(refine rdC fun K hK=>?_;apply ei;intro _ w' _ hC;(go_simp;try with_reducible rfl);(try go_simp);refine hK _ ?_;clear hK K)
             refine wpC_nil ?_
             intro w2 hc2
             have HC2:=jh (HCJ.out.trans hc2)
             clear hc2 z1 v1
             go_wp2
             go_roundw
             case rel=>exact⟨j+1,by omega,by go_num,HC2.out⟩
             case measure=>simp [intOf];omega
            ·obtain rfl:j=es.length:=by omega
             have hb10:decide ((es.length:Int)<(es.length:Int))=false:=by simp
             have HC2:=jh (HC.out.trans (HC7.out.trans HCJ.out))
             go_wp2
             go_roundw
             case rel=>exact⟨k+1,by omega,by go_num,HC2.out⟩
             case measure=>simp [intOf];omega
          ·obtain rfl:k=t.nt.st.length:=by omega
           have hb9:decide ((t.nt.st.length:Int)<(t.nt.st.length:Int))=false:=by simp
           have HFIN:=jh (HC0.out.trans (HCW.out.trans HC.out))
           go_wp2
           go_ret
           exact⟨rfl,HFIN.out⟩
end Go.Proofs.YtgnpmceimpjheaaGreat
namespace Go.Proofs.YtgnpmceimpjheaaGreat
open Go.RowKit
theorem xor_nat (k:IntKind) (j:Nat) (hj:j≤k.bits) (hk:∀ n:Int,0≤n→n<2 ^ j→k.wrap n=n) (a b:Nat) (ha:a<2 ^ j) (hb:b<2 ^ j):bits .xor k a b=((a ^^^ b:Nat):Int):=by
 have hp:2 ^ j≤2 ^ k.bits:=Nat.pow_le_pow_right (by decide) hj
 have ha':a % 2 ^ k.bits=a:=Nat.mod_eq_of_lt (Nat.lt_of_lt_of_le ha hp)
 have hb':b % 2 ^ k.bits=b:=Nat.mod_eq_of_lt (Nat.lt_of_lt_of_le hb hp)
 have cast:∀ n:Nat,n<2 ^ j→((n:Nat):Int)<2 ^ j:=fun n h=>by exact_mod_cast h
 simp only [bits,BitVec.ofInt_natCast,BitVec.toNat_xor,BitVec.toNat_ofNat,ha',hb']
 exact hk _ (Int.natCast_nonneg _) (cast _ (Nat.xor_lt_two_pow ha hb))
theorem xor32 (a b:Nat) (ha:a<4294967296) (hb:b<4294967296):bits .xor .u32 a b=((a ^^^ b:Nat):Int):=xor_nat .u32 32 (by decide) wraps_u32 a b ha hb
theorem xor8 (a b:Nat) (ha:a<256) (hb:b<256):bits .xor .u8 a b=((a ^^^ b:Nat):Int):=xor_nat .u8 8 (by decide) wraps_u8 a b ha hb
theorem xor_left {a b c:Nat} (h:a ^^^ b=a ^^^ c):b=c:=by
 have:=congrArg (fun x=>a ^^^ x) h
 simpa [← Nat.xor_assoc] using this
theorem xor_right {a b c:Nat} (h:a ^^^ c=b ^^^ c):a=b:=by
 rw [Nat.xor_comm a c,Nat.xor_comm b c] at h
 exact xor_left h
def invL:List Nat:=[0,65,195,130,134,199,69,4,77,12,142,207,203,138,8,73,154,219,89,24,28,93,223,158,215,150,20,85,81,16,146,211,117,52,182,247,243,178,48,113,56,121,251,186,190,255,125,60,239,174,44,109,105,40,170,235,162,227,97,32,36,101,231,166,234,171,41,104,108,45,175,238,167,230,100,37,33,96,226,163,112,49,179,242,246,183,53,116,61,124,254,191,187,250,120,57,159,222,92,29,25,88,218,155,210,147,17,80,84,21,151,214,5,68,198,135,131,194,64,1,72,9,139,202,206,143,13,76,149,212,86,23,19,82,208,145,216,153,27,90,94,31,157,220,15,78,204,141,137,200,74,11,66,3,129,192,196,133,7,70,224,161,35,98,102,39,165,228,173,236,110,47,43,106,232,169,122,59,185,248,252,189,63,126,55,118,244,181,177,240,114,51,127,62,188,253,249,184,58,123,50,115,241,176,180,245,119,54,229,164,38,103,99,34,160,225,168,233,107,42,46,111,237,172,10,75,201,136,140,205,79,14,71,6,132,197,193,128,2,67,144,209,83,18,22,87,213,148,221,156,30,95,91,26,152,217]
theorem tab_inv:∀ i:Fin 256,0≤tabI i.val∧tabI i.val<4294967296∧invL[(tabI i.val).toNat / 16777216]?=some i.val:=by decide +kernel
theorem tab_nat {i:Nat} (hi:i<256):∃ t:Nat,tabI i=t∧t<4294967296∧invL[t / 16777216]?=some i:=by
 obtain⟨h1,h2,h3⟩:=tab_inv ⟨i,hi⟩
 exact⟨(tabI i).toNat,by simp only at h1;omega,by simp only at h2;omega,h3⟩
theorem ofStep_nat {y c:Nat} (hy:y<4294967296) (hc:c<256):∃ t:Nat,tabI (y % 256 ^^^ c)=t∧ofStep y c=((y / 256 ^^^ t:Nat):Int)∧t<4294967296∧invL[t / 16777216]?=some (y % 256 ^^^ c):=by
 have hx:y % 256 ^^^ c<256:=Nat.xor_lt_two_pow (n:=8) (Nat.mod_lt _ (by omega)) hc
 obtain⟨t,ht,ht2,ht3⟩:=tab_nat hx
 refine⟨t,ht,?_,ht2,ht3⟩
 unfold ofStep
 rw [show ((y:Int) % 256)=((y % 256:Nat):Int) by omega,show ((y:Int) / 256)=((y / 256:Nat):Int) by omega,xor8 _ _ (Nat.mod_lt _ (by omega)) hc,Int.toNat_natCast,ht,xor32 _ _ (by omega) ht2]
theorem ofStep_inj {y1 y2 c1 c2:Nat} (h1:y1<4294967296) (h2:y2<4294967296) (hc1:c1<256) (hc2:c2<256) (h:ofStep y1 c1=ofStep y2 c2):y1 / 256=y2 / 256∧y1 % 256 ^^^ c1=y2 % 256 ^^^ c2:=by
 obtain⟨t1,a1,e1,b1,i1⟩:=ofStep_nat h1 hc1
 obtain⟨t2,a2,e2,b2,i2⟩:=ofStep_nat h2 hc2
 rw [e1,e2] at h
 have h':y1 / 256 ^^^ t1=y2 / 256 ^^^ t2:=by exact_mod_cast h
 have top:=congrArg (fun x=>x / 2 ^ 24) h'
 simp only [Nat.xor_div_two_pow] at top
 have z1:y1 / 256 / 2 ^ 24=0:=by omega
 have z2:y2 / 256 / 2 ^ 24=0:=by omega
 rw [z1,z2,Nat.zero_xor,Nat.zero_xor,show (2:Nat) ^ 24=16777216 from rfl] at top
 rw [top] at i1
 have hi:=Option.some.inj (i1.symm.trans i2)
 have ht:t1=t2:=by
  rw [hi,a2] at a1
  exact_mod_cast a1.symm
 subst ht
 exact⟨xor_right h',hi⟩
theorem ofStep_range (y c:Int):0≤ofStep y c∧ofStep y c≤4294967295:=bounds_u32 (wf_bits BinOp.xor IntKind.u32 _ _)
theorem foldl_range (Z:List Int) (y:Int) (hy:0≤y∧y≤4294967295):0≤Z.foldl ofStep y∧Z.foldl ofStep y≤4294967295:=by
 induction Z generalizing y with
 | nil=>exact hy
 | cons z Z ih=>exact ih _ (ofStep_range y z)
theorem step_state {y1 y2 c:Int} (h1:0≤y1∧y1≤4294967295) (h2:0≤y2∧y2≤4294967295) (hc:Byte c) (h:ofStep y1 c=ofStep y2 c):y1=y2:=by
 obtain⟨a,rfl⟩:=Int.eq_ofNat_of_zero_le h1.1
 obtain⟨b,rfl⟩:=Int.eq_ofNat_of_zero_le h2.1
 obtain⟨d,rfl⟩:=Int.eq_ofNat_of_zero_le hc.1
 have hd:=hc.2
 obtain⟨e1,e2⟩:=ofStep_inj (y1:=a) (y2:=b) (c1:=d) (c2:=d) (by omega) (by omega) (by omega) (by omega) h
 have e3:=xor_right e2
 omega
theorem step_byte {y c1 c2:Int} (h1:0≤y∧y≤4294967295) (hc1:Byte c1) (hc2:Byte c2) (h:ofStep y c1=ofStep y c2):c1=c2:=by
 obtain⟨a,rfl⟩:=Int.eq_ofNat_of_zero_le h1.1
 obtain⟨d,rfl⟩:=Int.eq_ofNat_of_zero_le hc1.1
 obtain⟨f,rfl⟩:=Int.eq_ofNat_of_zero_le hc2.1
 have hd:=hc1.2
 have hf:=hc2.2
 obtain⟨_,e2⟩:=ofStep_inj (y1:=a) (y2:=a) (c1:=d) (c2:=f) (by omega) (by omega) (by omega) (by omega) h
 rw [xor_left e2]
theorem foldl_state {Z:List Int} (hZ:∀ a∈Z,Byte a) {y1 y2:Int} (h1:0≤y1∧y1≤4294967295) (h2:0≤y2∧y2≤4294967295) (h:Z.foldl ofStep y1=Z.foldl ofStep y2):y1=y2:=by
 induction Z generalizing y1 y2 with
 | nil=>exact h
 | cons z Z ih=>exact step_state h1 h2 (hZ z (by simp)) (ih (fun a ha=>hZ a (by simp [ha])) (ofStep_range _ _) (ofStep_range _ _) h)
theorem ofI_inj {Z Z':List Int} (h:ofI Z=ofI Z'):ofFold Z=ofFold Z':=by
 have r:∀ X:List Int,0≤ofFold X∧ofFold X≤4294967295:=fun X=>foldl_range X _ ⟨by omega,by omega⟩
 obtain⟨a,ha⟩:=Int.eq_ofNat_of_zero_le (r Z).1
 obtain⟨b,hb⟩:=Int.eq_ofNat_of_zero_le (r Z').1
 have ra:=(r Z).2
 have rb:=(r Z').2
 unfold ofI at h
 rw [ha] at h ra ⊢
 rw [hb] at h rb ⊢
 have hm:(IntKind.u32.max:Int)=((4294967295:Nat):Int):=by decide
 rw [hm,xor32 _ _ (by omega) (by omega),xor32 _ _ (by omega) (by omega)] at h
 have h':4294967295 ^^^ a=4294967295 ^^^ b:=by exact_mod_cast h
 rw [xor_left h']
theorem ofI_set {Z:List Int} (hZ:∀ a∈Z,Byte a) {k:Nat} {z y:Int} (hk:Z[k]?=some z) (hy:Byte y) (hne:y≠z):ofI (Z.set k y)≠ofI Z:=by
 intro h
 have h:=ofI_inj h
 have hlt:=(List.getElem?_eq_some_iff.1 hk).1
 have e1:Z=Z.take k++z :: Z.drop (k+1):=by
  have h1:=List.take_append_drop k Z
  rw [List.drop_eq_getElem_cons hlt,(List.getElem?_eq_some_iff.1 hk).2] at h1
  exact h1.symm
 have e2:Z.set k y=Z.take k++y :: Z.drop (k+1):=by rw [List.set_eq_take_append_cons_drop,if_pos hlt]
 have e3:ofFold Z=(Z.drop (k+1)).foldl ofStep (ofStep ((Z.take k).foldl ofStep 4294967295) z):=by
  have:=congrArg ofFold e1
  rw [this]
  unfold ofFold
  rw [List.foldl_append,List.foldl_cons]
 rw [e3] at h
 unfold ofFold at h
 rw [e2,List.foldl_append,List.foldl_cons] at h
 have h2:=foldl_state (fun a ha=>hZ a (List.mem_of_mem_drop ha)) (ofStep_range _ _) (ofStep_range _ _) h
 exact hne (step_byte (foldl_range _ _ ⟨by omega,by omega⟩) hy (hZ z (List.mem_of_getElem? hk)) h2)
theorem fourL_inj {n m:Int} (h:fourL n=fourL m):n=m:=by
 simp only [fourL,List.cons.injEq] at h
 omega
end Go.Proofs.YtgnpmceimpjheaaGreat
namespace Go.Proofs.YtgnpmceimpjheaaGreat
open Go.RowKit
theorem sealL_take (Z:List Int):(sealL Z).take Z.length=Z:=by rw [sealL];exact List.take_left
theorem sealL_drop (Z:List Int):(sealL Z).drop Z.length=fourL (ofI Z):=by rw [sealL];exact List.drop_left
theorem turned_law {Z:List Int} (hZ:∀ a∈Z,Byte a) {K:Nat} {x V:Int} (hK:(sealL Z)[K]?=some x) (hV:Byte V) (hne:V≠x) :
  ((sealL Z).set K V).drop Z.length≠fourL (ofI (((sealL Z).set K V).take Z.length)):=by
 intro h
 by_cases hk:K<Z.length
 ·have e1:(sealL Z).set K V=Z.set K V++fourL (ofI Z):=by rw [sealL,List.set_append_left _ _ hk]
  have hl:(Z.set K V).length=Z.length:=List.length_set
  have hz:Z[K]?=some x:=by
   rw [sealL,List.getElem?_append_left hk] at hK
   exact hK
  rw [e1] at h
  rw [show (Z.set K V++fourL (ofI Z)).drop Z.length=fourL (ofI Z) by rw [← hl];exact List.drop_left,show (Z.set K V++fourL (ofI Z)).take Z.length=Z.set K V by rw [← hl];exact List.take_left] at h
  exact ofI_set hZ hz hV hne (fourL_inj h).symm
 ·have e1:(sealL Z).set K V=Z++(fourL (ofI Z)).set (K-Z.length) V:=by rw [sealL,List.set_append_right _ _ (by omega)]
  rw [e1,List.drop_left,List.take_left] at h
  have hK2:(fourL (ofI Z))[K-Z.length]?=some x:=by
   rw [sealL,List.getElem?_append_right (by omega)] at hK
   exact hK
  have hlt:=(List.getElem?_eq_some_iff.1 hK2).1
  have h2:((fourL (ofI Z)).set (K-Z.length) V)[K-Z.length]?=some V:=by rw [List.getElem?_set_self hlt]
  rw [h,hK2] at h2
  exact hne (Option.some.inj h2).symm
theorem getR_seal (Z:List Int):getR (sealL Z)=getB (tabsG Z):=by
 unfold getR
 rw [sealL_length,if_neg (by omega),show Z.length+4-4=Z.length by omega,sealL_take,sealL_drop,if_pos rfl]
theorem getR_turned {Z:List Int} (hZ:∀ a∈Z,Byte a) {K:Nat} {x V:Int} (hK:(sealL Z)[K]?=some x) (hV:Byte V) (hne:V≠x):getR ((sealL Z).set K V)=(5,none):=by
 have h:=turned_law hZ hK hV hne
 unfold getR
 rw [List.length_set,sealL_length,if_neg (by omega),show Z.length+4-4=Z.length by omega,if_neg h]
structure Fit (t:TabsD):Prop where
 f:FairTabs t
 p:mayTabs t=true→PutB t
 o:mayTabs t=true→OkTabs t
 l:mayTabs t=true→(ptTabs t).length≤5000000
theorem NotGreat.fit {t:TabsD} (h:NotGreat t) (hk:∀ s∈t.nt.st,∀ e∈s.2.1,0≤e.1):Fit t:=by
 have hl:=h.light
 have ho:mayTabs t=true→OkTabs t:=fun hm=>ok_tabs hm (hl.small hk)
 exact⟨hl.fair,fun hm=>by
  obtain⟨h1,h2⟩:=hl.put (ho hm) hm
  exact⟨h1,by omega⟩,ho,fun hm=>(hl.put (ho hm) hm).2⟩
theorem Fit.back {t:TabsD} (h:Fit t) (hm:mayTabs t=true):getR (sealL (ptTabs t))=(0,some t):=by
 rw [getR_seal,tabs_back (h.o hm) hm]
 rfl
theorem read_fit {Z:List Int} {t:TabsD} (hb:∀ a∈Z,Byte a) (hl:Z.length≤5000000) (h:tabsG Z=some t):Z=ptTabs t∧mayTabs t=true∧FairTabs t∧PutB t:=by
 obtain⟨h1,h2,h3⟩:=tabs_only hb h
 exact⟨h1,h2,tabs_fair h,⟨h3,by rw [← h1];omega⟩⟩
def livT:TabsD:=⟨[⟨#[97]⟩],[],[],⟨[],[],[[]],[-1]⟩,⟨[(0,[(0,0,1)],[]),(0,[],[])],[0],[1],[],[]⟩,[]⟩
def livN:TabsD:=⟨[⟨#[97]⟩],[],[],⟨[],[],[[]],[-1]⟩,⟨[],[0],[1],[],[]⟩,[]⟩
theorem livT_may:mayTabs livT=true:=by decide +kernel
theorem livN_may:mayTabs livN=false:=by decide +kernel
theorem livT_light:Light livT:=by constructor <;> decide +kernel
theorem livN_light:Light livN:=by constructor <;> decide +kernel
theorem livT_kinds:∀ s∈livT.nt.st,∀ e∈s.2.1,0≤e.1:=by decide +kernel
theorem livN_fair:FairTabs livN:=livN_light.fair
theorem livT_fit:Fit livT:=by
 have ho:mayTabs livT=true→OkTabs livT:=fun hm=>ok_tabs hm (livT_light.small livT_kinds)
 exact⟨livT_light.fair,fun hm=>by
  obtain⟨h1,h2⟩:=livT_light.put (ho hm) hm
  exact⟨h1,by omega⟩,ho,fun hm=>(livT_light.put (ho hm) hm).2⟩
end Go.Proofs.YtgnpmceimpjheaaGreat
namespace Go.Proofs.YtgnpmceimpjheaaGreat
open Go.RowKit
theorem Elt.InS.lit {α:Type} {E:Elt α} {W W':World} {Y:List α} {e:TypeId} {b:Nat} {S:Nat→Prop} (hY:∀ a∈Y,E.ok a) (hb:b=W.heap.size) (hS:S b) (hW:Chg (fun _=>False) (W.alloc (.cells (E.encs Y).toArray e)) W'):E.InS W' S (some ⟨b,0,none⟩,Y.length,Y.length) Y:=by
 subst hb
 exact⟨rfl,Nat.le_refl _,_,0,(E.lit W Y e hY).chg hW (fun _ h=>h),fun _=>⟨rfl,hS⟩⟩
theorem Elt.InS.nil' {α:Type} {E:Elt α} {W:World} {S:Nat→Prop} (a:Option Addr):E.InS W S (a,0,0) []:=⟨rfl,Nat.le_refl _,0,0,.nil _ _ _ _,fun h=>absurd h (by simp)⟩
structure LivAt (w W:World):Prop where
 t:TabsIn W (fun k=>w.heap.size≤k∧k<w.heap.size+8) ⟨(some ⟨w.heap.size,0,none⟩,1,1),(none,0,0),(none,0,0),⟨(none,0,0),(none,0,0),(some ⟨w.heap.size+1+1,0,none⟩,1,1),(some ⟨w.heap.size+1+1+1,0,none⟩,1,1)⟩,⟨(some ⟨w.heap.size+1+1+1+1+1+1+1,0,none⟩,2,2),(some ⟨w.heap.size+1+1+1+1,0,none⟩,1,1),(some ⟨w.heap.size+1+1+1+1+1,0,none⟩,1,1),(none,0,0),(none,0,0)⟩,(none,0,0)⟩ livT
 c:∀ j v,([.slice (some ⟨w.heap.size,0,none⟩) 1 1,.slice none 0 0,.slice none 0 0,.slice none 0 0,.slice none 0 0,.slice (some ⟨w.heap.size+1+1,0,none⟩) 1 1,.slice (some ⟨w.heap.size+1+1+1,0,none⟩) 1 1,.slice (some ⟨w.heap.size+1+1+1+1+1+1+1,0,none⟩) 2 2,.slice (some ⟨w.heap.size+1+1+1+1,0,none⟩) 1 1,.slice (some ⟨w.heap.size+1+1+1+1+1,0,none⟩) 1 1,.slice none 0 0,.slice none 0 0,.slice none 0 0]:List Value)[j]?=some v→W.cell? ⟨w.heap.size+1+1+1+1+1+1+1+1,j,none⟩=some v
 z:∀ j,W.frozen? ⟨w.heap.size+1+1+1+1+1+1+1+1,j,none⟩=false
 h:Chg (fun _=>False) w W
theorem liv_mem (w:World):LivAt w (((((((((w.alloc (.cells #[.string ⟨#[97]⟩] 9)).alloc (.cells #[] 3)).alloc (.cells #[.slice (some ⟨w.heap.size+1,0,none⟩) 0 0] 25)).alloc (.cells #[.int .i64 (-1)] 3)).alloc (.cells #[.int .i64 0] 3)).alloc (.cells #[.int .i64 1] 3)).alloc (.cells #[.int .u8 0,.int .i64 0,.int .i64 1] 71)).alloc (.cells #[.int .i64 0,.slice (some ⟨w.heap.size+1+1+1+1+1+1,0,none⟩) 1 1,.slice none 0 0,.int .i64 0,.slice none 0 0,.slice none 0 0] 74)).alloc (.cells #[.slice (some ⟨w.heap.size,0,none⟩) 1 1,.slice none 0 0,.slice none 0 0,.slice none 0 0,.slice none 0 0,.slice (some ⟨w.heap.size+1+1,0,none⟩) 1 1,.slice (some ⟨w.heap.size+1+1+1,0,none⟩) 1 1,.slice (some ⟨w.heap.size+1+1+1+1+1+1+1,0,none⟩) 2 2,.slice (some ⟨w.heap.size+1+1+1+1,0,none⟩) 1 1,.slice (some ⟨w.heap.size+1+1+1+1+1,0,none⟩) 1 1,.slice none 0 0,.slice none 0 0,.slice none 0 0] 34)):=by
 obtain⟨w9,hw9⟩:∃ W,W=((((((((w.alloc (.cells #[.string ⟨#[97]⟩] 9)).alloc (.cells #[] 3)).alloc (.cells #[.slice (some ⟨w.heap.size+1,0,none⟩) 0 0] 25)).alloc (.cells #[.int .i64 (-1)] 3)).alloc (.cells #[.int .i64 0] 3)).alloc (.cells #[.int .i64 1] 3)).alloc (.cells #[.int .u8 0,.int .i64 0,.int .i64 1] 71)).alloc (.cells #[.int .i64 0,.slice (some ⟨w.heap.size+1+1+1+1+1+1,0,none⟩) 1 1,.slice none 0 0,.int .i64 0,.slice none 0 0,.slice none 0 0] 74)).alloc (.cells #[.slice (some ⟨w.heap.size,0,none⟩) 1 1,.slice none 0 0,.slice none 0 0,.slice none 0 0,.slice none 0 0,.slice (some ⟨w.heap.size+1+1,0,none⟩) 1 1,.slice (some ⟨w.heap.size+1+1+1,0,none⟩) 1 1,.slice (some ⟨w.heap.size+1+1+1+1+1+1+1,0,none⟩) 2 2,.slice (some ⟨w.heap.size+1+1+1+1,0,none⟩) 1 1,.slice (some ⟨w.heap.size+1+1+1+1+1,0,none⟩) 1 1,.slice none 0 0,.slice none 0 0,.slice none 0 0] 34):=⟨_,rfl⟩
 rw [← hw9]
 obtain⟨w1,hw1⟩:∃ W,W=w.alloc (.cells #[.string ⟨#[97]⟩] 9):=⟨_,rfl⟩
 obtain⟨w2,hw2⟩:∃ W,W=w1.alloc (.cells #[] 3):=⟨_,rfl⟩
 obtain⟨w3,hw3⟩:∃ W,W=w2.alloc (.cells #[.slice (some ⟨w.heap.size+1,0,none⟩) 0 0] 25):=⟨_,rfl⟩
 obtain⟨w4,hw4⟩:∃ W,W=w3.alloc (.cells #[.int .i64 (-1)] 3):=⟨_,rfl⟩
 obtain⟨w5,hw5⟩:∃ W,W=w4.alloc (.cells #[.int .i64 0] 3):=⟨_,rfl⟩
 obtain⟨w6,hw6⟩:∃ W,W=w5.alloc (.cells #[.int .i64 1] 3):=⟨_,rfl⟩
 obtain⟨w7,hw7⟩:∃ W,W=w6.alloc (.cells #[.int .u8 0,.int .i64 0,.int .i64 1] 71):=⟨_,rfl⟩
 obtain⟨w8,hw8⟩:∃ W,W=w7.alloc (.cells #[.int .i64 0,.slice (some ⟨w.heap.size+1+1+1+1+1+1,0,none⟩) 1 1,.slice none 0 0,.int .i64 0,.slice none 0 0,.slice none 0 0] 74):=⟨_,rfl⟩
 rw [← hw1,← hw2,← hw3,← hw4,← hw5,← hw6,← hw7,← hw8] at hw9
 have s1:w1.heap.size=w.heap.size+1:=by rw [hw1];simp
 have s2:w2.heap.size=w.heap.size+1+1:=by rw [hw2];simp [s1]
 have s3:w3.heap.size=w.heap.size+1+1+1:=by rw [hw3];simp [s2]
 have s4:w4.heap.size=w.heap.size+1+1+1+1:=by rw [hw4];simp [s3]
 have s5:w5.heap.size=w.heap.size+1+1+1+1+1:=by rw [hw5];simp [s4]
 have s6:w6.heap.size=w.heap.size+1+1+1+1+1+1:=by rw [hw6];simp [s5]
 have s7:w7.heap.size=w.heap.size+1+1+1+1+1+1+1:=by rw [hw7];simp [s6]
 have s8:w8.heap.size=w.heap.size+1+1+1+1+1+1+1+1:=by rw [hw8];simp [s7]
 have g1:Chg (fun _=>False) w w1:=by rw [hw1];exact (Chg.refl _ _).alloc _
 have g2:Chg (fun _=>False) w1 w2:=by rw [hw2];exact (Chg.refl _ _).alloc _
 have g3:Chg (fun _=>False) w2 w3:=by rw [hw3];exact (Chg.refl _ _).alloc _
 have g4:Chg (fun _=>False) w3 w4:=by rw [hw4];exact (Chg.refl _ _).alloc _
 have g5:Chg (fun _=>False) w4 w5:=by rw [hw5];exact (Chg.refl _ _).alloc _
 have g6:Chg (fun _=>False) w5 w6:=by rw [hw6];exact (Chg.refl _ _).alloc _
 have g7:Chg (fun _=>False) w6 w7:=by rw [hw7];exact (Chg.refl _ _).alloc _
 have g8:Chg (fun _=>False) w7 w8:=by rw [hw8];exact (Chg.refl _ _).alloc _
 have g9:Chg (fun _=>False) w8 w9:=by rw [hw9];exact (Chg.refl _ _).alloc _
 have k9:Chg (fun _=>False) w9 w9:=Chg.refl _ _
 have k8:=g9.trans k9
 have k7:=g8.trans k8
 have k6:=g7.trans k7
 have k5:=g6.trans k6
 have k4:=g5.trans k5
 have k3:=g4.trans k4
 have k2:=g3.trans k3
 have k1:=g2.trans k2
 refine⟨⟨Elt.InS.lit (E:=strE) (W:=w) (e:=9) (Y:=[(⟨#[97]⟩:Str)]) (fun a ha=>by rw [List.mem_singleton.1 ha];exact trivial) rfl ⟨by omega,by omega⟩ (by rw [hw1] at k1;exact k1),Elt.InS.nil' _,Elt.InS.nil' _,⟨Elt.InS.nil' _,Elt.InS.nil' _,⟨[(some ⟨w.heap.size+1,0,none⟩,0,0)],Elt.InS.lit (E:=listE) (W:=w2) (e:=25) (Y:=[((some ⟨w.heap.size+1,0,none⟩,0,0):Sl)]) (fun _ _=>trivial) s2.symm ⟨by omega,by omega⟩ (by rw [hw3] at k3;exact k3),rfl,?_⟩,Elt.InS.lit (E:=intE) (W:=w3) (e:=3) (Y:=[(-1:Int)]) (fun a ha=>by rw [List.mem_singleton.1 ha];exact (show I.Byte _ from by decide)) s3.symm ⟨by omega,by omega⟩ (by rw [hw4] at k4;exact k4)⟩,⟨⟨[(0,(some ⟨w.heap.size+1+1+1+1+1+1,0,none⟩,1,1),(none,0,0)),(0,(none,0,0),(none,0,0))],Elt.InS.lit (E:=stE) (W:=w7) (e:=74) (Y:=[((0,(some ⟨w.heap.size+1+1+1+1+1+1,0,none⟩,1,1),(none,0,0)):Int × Sl × Sl),(0,(none,0,0),(none,0,0))]) (fun a ha=>by simp only [List.mem_cons,List.not_mem_nil,or_false] at ha;rcases ha with rfl|rfl <;> exact (show I.Byte (0:Int) from by decide)) s7.symm ⟨by omega,by omega⟩ (by rw [hw8] at k8;exact k8),rfl,?_⟩,Elt.InS.lit (E:=intE) (W:=w4) (e:=3) (Y:=[(0:Int)]) (fun a ha=>by rw [List.mem_singleton.1 ha];exact (show I.Byte _ from by decide)) s4.symm ⟨by omega,by omega⟩ (by rw [hw5] at k5;exact k5),Elt.InS.lit (E:=intE) (W:=w5) (e:=3) (Y:=[(1:Int)]) (fun a ha=>by rw [List.mem_singleton.1 ha];exact (show I.Byte _ from by decide)) s5.symm ⟨by omega,by omega⟩ (by rw [hw6] at k6;exact k6),Elt.InS.nil' _,Elt.InS.nil' _⟩,⟨[],Elt.InS.nil' _,rfl,fun j x d hx=>by simp at hx⟩⟩,fun j v hv=>?_,fun j=>?_,g1.trans k1⟩
 ·intro j x d hx hd
  have hj:j=0:=by
   have:=(List.getElem?_eq_some_iff.1 hx).1
   simp at this;omega
  subst hj
  obtain rfl:=Option.some.inj hx
  obtain rfl:[]=d:=Option.some.inj hd
  exact Elt.InS.nil' _
 ·intro j x d hx hd
  have hj:j=0∨j=1:=by
   have:=(List.getElem?_eq_some_iff.1 hx).1
   simp at this;omega
  rcases hj with rfl|rfl
  ·obtain rfl:=Option.some.inj hx
   obtain rfl:(0,[(0,0,1)],[])=d:=Option.some.inj hd
   exact⟨rfl,by decide,Elt.InS.lit (E:=edgeE) (W:=w6) (e:=71) (Y:=[((0,0,1):EdgeD)]) (fun a ha=>by rw [List.mem_singleton.1 ha];exact⟨by decide,by decide,by decide⟩) s6.symm ⟨by omega,by omega⟩ (by rw [hw7] at k7;exact k7),Elt.InS.nil' _⟩
  ·obtain rfl:=Option.some.inj hx
   obtain rfl:(0,[],[])=d:=Option.some.inj hd
   exact⟨rfl,by decide,Elt.InS.nil' _,Elt.InS.nil' _⟩
 ·rw [hw9,show w.heap.size+1+1+1+1+1+1+1+1=w8.heap.size from s8.symm]
  exact allocAt _ rfl (by rw [← Array.getElem?_toList];exact hv)
 ·rw [hw9,show w.heap.size+1+1+1+1+1+1+1+1=w8.heap.size from s8.symm]
  exact World.frozen?_alloc_new _ _ _ _
end Go.Proofs.YtgnpmceimpjheaaGreat
