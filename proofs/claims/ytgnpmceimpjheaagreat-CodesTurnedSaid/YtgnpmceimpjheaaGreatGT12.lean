/- A part of the proof: OthB OthC. -/
import Derived.Test.YtgnpmceimpjheaaGreatGT11
set_option maxRecDepth 100000
set_option maxHeartbeats 16000000
namespace Go.Proofs.YtgnpmceimpjheaaGreat
open Go.RowKit
section
variable {β δ:Type} {E:Elt β} {R:Rp β δ}
def pR (P:Nat→Prop) (R:Rp β δ):Rp β δ:=fun w S x d=>R w (fun k=>S k∧P k) x d
theorem pR.good {P:Nat→Prop} (hR:Good R):Good (pR P R):=⟨fun h hc hs=>hR.chg h hc (fun g hg=>hs g hg.1),fun h hs=>hR.mono h (fun g hg hg2=>⟨hs g hg hg2.1,hg2.2⟩)⟩
theorem Mk.inP {P:Nat→Prop} {bx bo off:Nat} {w:World} {a:Option Addr} {n c:Nat} {acc:List δ} (h:Mk E (pR P R) bx bo off w (.slice a n c) acc) (hR:Good R) (hP:∀ k,bo<k→P k) (hbx:bx≤bo):n=acc.length∧ListR E R w (fun k=>P k∧k≠bo∧k≠bx) (a,n,c) acc:=by
 obtain⟨X,h1,h2,h3⟩:=h.ex
 obtain⟨a',g,c',e1,e2,e3,e4⟩:=h1.at'
 injection e1 with e1 e5 e6
 subst e1 e5 e6
 refine⟨h2,X,⟨rfl,e2,g,0,e3,fun hp=>⟨(e4 hp).1,by have:=(e4 hp).2;exact⟨hP g (by omega),by omega,by omega⟩⟩⟩,h2,fun j x d hx hd=>hR.mono (h3 j x d hx hd) (fun k _ hk=>⟨hk.2,hk.1.1⟩)⟩
end
theorem otherNet_any (n:NetD) (m:NetS) (S:Nat→Prop) (w:World) (h:NetIn w S m n) (hf:FairN n) :
  Calls Tryz.prog 23 #[netV m] w fun e w'=>∃ m',e=.returned (netV m')∧DNetIn w' (fun k=>S k∨w.heap.size≤k) m' n∧Chg (fun _=>False) w w':=by
 obtain⟨⟨sa,sn,sc⟩,⟨aa,an,ac⟩,⟨pa,pn,pc⟩,⟨qa,qn,qc⟩,⟨da,dn,dc⟩⟩:=m
 have h':=NetIn.good.mono h (S':=fun k=>k<w.heap.size∧S k) (fun _ hg hs=>⟨hg,hs⟩)
 clear h
 obtain⟨h1,h2,h3,h4,h5⟩:=h'
 obtain⟨rfl,-⟩:=h1.len
 obtain⟨rfl,-⟩:=h2.len
 obtain⟨rfl,-⟩:=h3.len
 obtain⟨rfl,-⟩:=h4.len
 obtain⟨rfl,-⟩:=h5.len
 simp only at h1 h2 h3 h4 h5
 have HF:=jh hf
 have f_st:=hf.st
 obtain⟨w0,hw0⟩:∃ W,W=(w.alloc (.cells #[.slice sa n.st.length sc,.slice aa n.s.length ac,.slice pa n.p.length pc,.slice qa n.q.length qc,.slice da n.d.length dc] 31)).alloc (.cells #[.slice none 0 0,.slice none 0 0,.slice none 0 0,.slice none 0 0,.slice none 0 0] 40):=⟨_,rfl⟩
 obtain⟨w1,hw1⟩:∃ W,W=w0.alloc (.cells #[.slice none 0 0,.slice aa n.s.length ac,.slice pa n.p.length pc,.slice qa n.q.length qc,.slice da n.d.length dc] 40):=⟨_,rfl⟩
 have hC0:Chg (fun _=>False) w w0:=by rw [hw0];exact ((Chg.refl _ w).alloc _).alloc _
 have hC1:Chg (fun _=>False) w0 w1:=by rw [hw1];exact (Chg.refl _ w0).alloc _
 have hs0:w0.heap.size=w.heap.size+2:=by rw [hw0];simp
 obtain⟨br,hbr⟩:∃ b,b=w.heap.size+1:=⟨_,rfl⟩
 obtain⟨bo,hbo⟩:∃ b,b=w.heap.size+1+1:=⟨_,rfl⟩
 have HBN:Hid (br=w.heap.size+1∧bo=w.heap.size+2):=jh ⟨hbr,hbo⟩
 have HN0:Hid (∀ j v,([.slice sa n.st.length sc,.slice aa n.s.length ac,.slice pa n.p.length pc,.slice qa n.q.length qc,.slice da n.d.length dc]:List Value)[j]?=some v→w0.cell? ⟨w.heap.size,j,none⟩=some v):=jh (fun j v hv=>by
  rw [hw0];exact allocOld _ (allocAt _ rfl (by rw [← Array.getElem?_toList];exact hv)))
 have HR0:Hid (∀ j,j<5→w1.cell? ⟨br,j,none⟩=some (.slice none 0 0)):=jh (fun j hj=>hC1.cellS (by
  rw [hw0,hbr]
  exact allocAt _ (by simp) (by rcases (by omega:j=0∨j=1∨j=2∨j=3∨j=4) with rfl|rfl|rfl|rfl|rfl <;> rfl)) (fun h=>h))
 have HRZ:Hid (∀ j,w1.frozen? ⟨br,j,none⟩=false):=jh (fun j=>(hC1.frozen (p:=⟨br,j,none⟩) (by show br<w0.heap.size;omega) (fun h=>h)).trans (by
  have e:br=(w.alloc (.cells #[.slice sa n.st.length sc,.slice aa n.s.length ac,.slice pa n.p.length pc,.slice qa n.q.length qc,.slice da n.d.length dc] 31)).heap.size:=by rw [hbr];simp
  rw [hw0,e]
  exact World.frozen?_alloc_new _ _ _ _))
 have HO1:Hid (∀ j v,([.slice none 0 0,.slice aa n.s.length ac,.slice pa n.p.length pc,.slice qa n.q.length qc,.slice da n.d.length dc]:List Value)[j]?=some v→w1.cell? ⟨bo,j,none⟩=some v):=jh (fun j v hv=>by
  rw [hw1];exact allocAt _ (by rw [hs0,hbo]) (by rw [← Array.getElem?_toList];exact hv))
 have HOZ:Hid (∀ j,w1.frozen? ⟨bo,j,none⟩=false):=jh (fun j=>by
  have e:bo=w0.heap.size:=by rw [hs0,hbo]
  rw [hw1,e]
  exact World.frozen?_alloc_new _ _ _ _)
 have HM1:Hid (Mk dStE (pR (fun k=>S k∨w.heap.size≤k) dStR) br bo 0 w1 (.slice none 0 0) []):=jh ⟨HO1.out 0 _ rfl,HOZ.out 0,[],.nil _ _,rfl,fun j x d hx=>by simp at hx⟩
 have HC1:=jh (hC0.trans hC1)
 have HN1:Hid (∀ j v,([.slice sa n.st.length sc,.slice aa n.s.length ac,.slice pa n.p.length pc,.slice qa n.q.length qc,.slice da n.d.length dc]:List Value)[j]?=some v→w1.cell? ⟨w.heap.size,j,none⟩=some v):=jh (fun j v hv=>hC1.cellS (HN0.out j v hv) (fun h=>h))
 have HIN:Hid (∀ X,Chg (fun k=>w.heap.size≤k) w X→NetIn X (fun k=>k<w.heap.size∧S k) ⟨(sa,n.st.length,sc),(aa,n.s.length,ac),(pa,n.p.length,pc),(qa,n.q.length,qc),(da,n.d.length,dc)⟩ n):=jh (fun X hx=>NetIn.good.chg ⟨h1,h2,h3,h4,h5⟩ hx (fun g hg e=>by have:=hg.1;omega))
 have d1:=HN0.out 1 _ rfl
 have d2:=HN0.out 2 _ rfl
 have d3:=HN0.out 3 _ rfl
 have d4:=HN0.out 4 _ rfl
 clear h1 h2 h3 h4 h5 hf
 show Calls Tryz.prog 23 #[.agg #[.slice sa n.st.length sc,.slice aa n.s.length ac,.slice pa n.p.length pc,.slice qa n.q.length qc,.slice da n.d.length dc]] w _
 go_enter Tryz.func23,Tryz.ntmps23
 go_upto_region 1 with (fail)
 rw [← hw0]
 have hw1':=hw1
 clear hw0 hw1
 go_upto_region 3 with (fail)
 rw [← hw1',← hbo,← hbr]
 clear hw1' hbo hbr d1 d2 d3 d4 hC0 hC1 hs0
 go_loopw [4] (fun q wr=>∃ (i:Nat) (v:Value),i≤n.st.length∧q=.int .i64 i∧Mk dStE (pR (fun k=>S k∨w.heap.size≤k) dStR) br bo 0 wr v (n.st.take i)∧(∀ j u,([.slice none 0 0,.slice aa n.s.length ac,.slice pa n.p.length pc,.slice qa n.q.length qc,.slice da n.d.length dc]:List Value)[j]?=some u→j≠0→wr.cell? ⟨bo,j,none⟩=some u)∧Chg (fun k=>bo≤k) w1 wr) (fun q _=>n.st.length-(intOf q).toNat)
 case atStart=>exact⟨0,_,by omega,rfl,HM1.out,fun j u hu _=>HO1.out j u hu,Chg.refl _ _⟩
 case round =>
  clear HM1
  obtain⟨i,v,hi,rfl,hm,ho,hc⟩:=hrel
  obtain⟨wo,rfl⟩:∃ wo:World,wo=wr:=⟨_,rfl⟩
  have HM:=jh hm
  have HO:=jh ho
  have HC:=jh hc
  have HCW:Hid (Chg (fun k=>w.heap.size≤k) w wo):=jh (HC1.out.any.trans (hc.mono (fun k _ e=>by have:=HBN.out;omega)))
  obtain⟨va,vl,vc,rfl⟩:=hm.own
  have HBO:Hid (bo<wo.heap.size):=jh hm.lt
  have HNX:Hid (∀ X,Chg (fun k=>bo≤k) w1 X→X.cell? ⟨w.heap.size,0,none⟩=some (.slice sa n.st.length sc)):=jh (fun X hx=>hx.cellS (HN1.out 0 _ rfl) (by have:=HBN.out;show ¬ bo≤w.heap.size;omega))
  have n0:=HNX.out wo hc
  clear hm ho hc
  by_cases hil:i<n.st.length
  ·have hb9:decide ((i:Int)<(n.st.length:Int))=true:=by simp;omega
   obtain⟨⟨k,⟨ea,en,ec⟩,⟨ta,tn,tc⟩⟩,⟨kd,es,ds⟩,gx,ox,hx,⟨r1,r2,r3,r4⟩,rfl,hgx,-,-,hcells⟩:=(HIN.out _ HCW.out).st.get3 (f:=encSt) rfl hil rfl
   simp only at r1 r2 r3 r4
   subst r1
   obtain⟨rfl,-⟩:=r3.len
   obtain⟨rfl,-⟩:=r4.len
   have HX:=jh hx
   obtain⟨lb1,lb2⟩:=HF.out.e _ (List.mem_of_getElem? hx)
   simp only at lb1 lb2
   obtain⟨x0,x1,x2⟩:=hcells _ _ _ rfl
   simp only [slV] at x1 x2
   have HCF:Hid (∀ X,Chg (fun k=>wo.heap.size≤k) wo X→X.cell? ⟨w.heap.size,0,none⟩=some (.slice (some ⟨gx,ox,none⟩) n.st.length sc)∧X.cell? ⟨gx,ox+i * 3,none⟩=some (.int .i64 k)∧X.cell? ⟨gx,ox+i * 3+1,none⟩=some (.slice ea es.length ec)∧X.cell? ⟨gx,ox+i * 3+2,none⟩=some (.slice ta ds.length tc)):=jh (fun X hx =>
    ⟨hx.fresh.cellS n0 (fun h=>h),hx.fresh.cellS x0 (fun h=>h),hx.fresh.cellS x1 (fun h=>h),hx.fresh.cellS x2 (fun h=>h)⟩)
   have HRE:Hid (I.Byte k∧edgeE.InS wo (·<w.heap.size) (ea,es.length,ec) es∧intE.InS wo (fun k=>k<w.heap.size∧S k) (ta,ds.length,tc) ds):=jh ⟨r2,r3.mono (fun _ _ h=>h.1),r4⟩
   clear hx hcells r2 r3 r4
   go_upto_region 5 with (fail)
   clear x0 x1 x2 n0
   obtain⟨wd,hwd⟩:∃ X,wo.drew=X:=⟨_,rfl⟩
   have HWD:Hid (Chg (fun _=>False) wo wd):=jh (by rw [← hwd];exact (Chg.refl _ _).drew)
   have hsd:wd.heap.size=wo.heap.size:=by rw [← hwd];rfl
   refine wp_region_late (fun x=>Chg (fun _=>False) wd x) (fun i=>decide (i=14)) (by kernel_rfl) ?_
   show wpAnyL _ _ _ _ _ _ 15 (Array.replicate 15 false) _ wo.drew
   rw [hwd]
   clear hwd
   have HSS:Hid (Chg (fun _=>False) wd wd):=jh (Chg.refl _ _)
   (refine lrd 0 HSS.out fun K hK=>?_;apply ei;intro w' hC;(go_simp;try with_reducible rfl);(try go_simp);refine hK _ ?_;clear hK K)
   (refine lrd 1 HSS.out fun K hK=>?_;apply ei;intro w' hC;((obtain⟨q0,q1,q2,q3⟩:=HCF.out _ (HWD.out.trans hC).any);go_simp;try with_reducible rfl);(try go_simp);refine hK _ ?_;clear hK K)
   (refine lrd 2 HSS.out fun K hK=>?_;apply ei;intro w' hC;(go_simp;try with_reducible rfl);(try go_simp);refine hK _ ?_;clear hK K)
   (refine lrd 3 HSS.out fun K hK=>?_;apply ei;intro w' hC;(go_simp;try with_reducible rfl);(try go_simp);refine hK _ ?_;clear hK K)
   (refine lrd 4 HSS.out fun K hK=>?_;apply ei;intro w' hC;(go_simp;try with_reducible rfl);(try go_simp);refine hK _ ?_;clear hK K)
   (refine lrd 5 HSS.out fun K hK=>?_;apply ei;intro w' hC;((obtain⟨q0,q1,q2,q3⟩:=HCF.out _ (HWD.out.trans hC).any);go_simp;try with_reducible rfl);(try go_simp);refine hK _ ?_;clear hK K)
   (refine lrd 6 HSS.out fun K hK=>?_;apply ei;intro w' hC;(go_simp;try with_reducible rfl);(try go_simp);refine hK _ ?_;clear hK K)
   (refine lrd 7 HSS.out fun K hK=>?_;apply ei;intro w' hC;((obtain⟨q0,q1,q2,q3⟩:=HCF.out _ (HWD.out.trans hC).any);go_simp;try with_reducible rfl);(try go_simp);refine hK _ ?_;clear hK K)
   (refine lrd 8 HSS.out fun K hK=>?_;apply ei;intro w' hC;(go_simp;try with_reducible rfl);(try go_simp);refine hK _ ?_;clear hK K)
   (refine lrd 9 HSS.out fun K hK=>?_;apply ei;intro w' hC;(go_simp;try with_reducible rfl);(try go_simp);refine hK _ ?_;clear hK K)
   (refine lrd 10 HSS.out fun K hK=>?_;apply ei;intro w' hC;(go_simp;try with_reducible rfl);(try go_simp);refine hK _ ?_;clear hK K)
   (refine lrd 11 HSS.out fun K hK=>?_;apply ei;intro w' hC;((obtain⟨q0,q1,q2,q3⟩:=HCF.out _ (HWD.out.trans hC).any);go_simp;try with_reducible rfl);(try go_simp);refine hK _ ?_;clear hK K)
   (refine lrd 12 HSS.out fun K hK=>?_;apply ei;intro w' hC;(go_simp;try with_reducible rfl);(try go_simp);refine hK _ ?_;clear hK K)
   (refine late_turn (i:=13) (by kernel_rfl) rfl rfl fun K hK=>?_;apply Exists.intro;apply Exists.intro;refine⟨?_,?_,?_⟩;(go_simp;try first|with_reducible rfl|exact⟨rfl,rfl⟩);(exact fun _=>(Chg.refl _ _).alloc _);(try go_simp);refine hK _ _ ?_;clear hK K)
   (refine late_store (i:=14) (by kernel_rfl) rfl rfl fun K hK=>?_;apply Exists.intro;refine⟨?_,(fun h=>absurd h (by decide)),?_⟩;(go_simp;try first|with_reducible rfl|exact⟨rfl,rfl⟩);(try go_simp);refine hK _ _ ?_;clear hK K)
   refine late_done (by kernel_rfl) ?_ _
   obtain⟨w5,hw5⟩:∃ X,X=wd.alloc (.cells #[.int .i64 k,.slice none 0 0,.slice ta ds.length tc] 121):=⟨_,rfl⟩
   rw [← hw5]
   obtain⟨bs,hbs⟩:∃ b,b=wo.heap.size:=⟨_,rfl⟩
   rw [← hbs]
   have HBS:Hid (bs=wo.heap.size):=jh hbs
   have HC5:Hid (Chg (fun _=>False) wo w5):=jh (HWD.out.trans (by rw [hw5];exact (Chg.refl _ _).alloc _))
   have y0:w5.cell? ⟨bs,0,none⟩=some (.int .i64 k):=by rw [hw5];exact allocAt _ (by rw [hbs,hsd]) rfl
   have y1:w5.cell? ⟨bs,1,none⟩=some (.slice none 0 0):=by rw [hw5];exact allocAt _ (by rw [hbs,hsd]) rfl
   have y2:w5.cell? ⟨bs,2,none⟩=some (.slice ta ds.length tc):=by rw [hw5];exact allocAt _ (by rw [hbs,hsd]) rfl
   have z1:w5.frozen? ⟨bs,1,none⟩=false:=by
    rw [hw5,show bs=wd.heap.size by rw [hbs,hsd]]
    exact World.frozen?_alloc_new _ _ _ _
   have HM5:Hid (Mk dEdgeE eqR bs bs 1 w5 (.slice none 0 0) []):=jh ⟨y1,z1,[],.nil _ _,rfl,fun j x d hx=>by simp at hx⟩
   have HY5:Hid (w5.cell? ⟨bs,0,none⟩=some (.int .i64 k)∧w5.cell? ⟨bs,2,none⟩=some (.slice ta ds.length tc)):=jh ⟨y0,y2⟩
   clear hw5 hbs hsd y0 y1 y2 z1 HSS
   obtain⟨q0,q1,q2,q3⟩:=HCF.out w5 HC5.out.any
   go_upto_region 7 with (fail)
   go_loopw [6] (fun q wr=>∃ (j:Nat) (v:Value),j≤es.length∧q=.int .i64 j∧Mk dEdgeE eqR bs bs 1 wr v (es.take j)∧(wr.cell? ⟨bs,0,none⟩=some (.int .i64 k)∧wr.cell? ⟨bs,2,none⟩=some (.slice ta ds.length tc))∧Chg (fun k=>wo.heap.size≤k) wo wr) (fun q _=>es.length-(intOf q).toNat)
   case atStart=>exact⟨0,_,by omega,rfl,HM5.out,HY5.out,HC5.out.any⟩
   case round =>
    clear HM5 HY5 q0 q1 q2 q3
    obtain⟨j,v,hj,rfl,hm,hy,hc⟩:=hrel
    have HMJ:=jh hm
    have HYJ:=jh hy
    have HCJ:=jh hc
    obtain⟨ua,ul,uc,rfl⟩:=hm.own
    obtain⟨q0,q1,q2,q3⟩:=HCF.out wr hc
    have HEW:Hid (edgeE.InS wr (·<w.heap.size) (ea,es.length,ec) es):=jh (HRE.out.2.1.chg hc.fresh (fun _ _ h=>h))
    have m1:=hm.c
    have mz:=hm.z
    clear hm hy hc
    by_cases hjl:j<es.length
    ·have hb10:decide ((j:Int)<(es.length:Int))=true:=by simp;omega
     obtain⟨⟨t1,t2,t3⟩,f1,gl,ol,hx,hr1,rfl,-,-,hek,hcells⟩:=(ListR.of HEW.out).get3 (f:=encEdge) rfl hjl rfl
     obtain rfl:(t1,t2,t3)=f1:=hr1
     have HXE:=jh hx
     obtain⟨⟨hk1,hk2⟩,hk3,hk4⟩:=hek
     simp only at hk1 hk2 hk3 hk4
     have hwk:IntKind.i64.wrap t1=t1:=by rw [IntKind.wrap_i64];omega
     have HOKE:Hid (∀ x∈[((t1,t2,t3):EdgeD)],dEdgeE.ok x):=jh (fun x hx=>by
      rw [List.mem_singleton.1 hx]
      exact⟨⟨by show -9223372036854775808≤t1;omega,by show t1≤9223372036854775807;omega⟩,hk3,hk4⟩)
     obtain⟨x0,x1,x2⟩:=hcells _ _ _ rfl
     obtain⟨w7,hw7⟩:∃ X,X=wr.alloc (.cells #[.int .u8 t1,.int .i64 t2,.int .i64 t3] 71):=⟨_,rfl⟩
     have HC7:Hid (Chg (fun _=>False) wr w7):=jh (by rw [hw7];exact (Chg.refl _ _).alloc _)
     have e0:w7.cell? ⟨wr.heap.size,0,none⟩=some (.int .u8 t1):=by rw [hw7];exact allocAt _ rfl rfl
     have e1:w7.cell? ⟨wr.heap.size,1,none⟩=some (.int .i64 t2):=by rw [hw7];exact allocAt _ rfl rfl
     have e2:w7.cell? ⟨wr.heap.size,2,none⟩=some (.int .i64 t3):=by rw [hw7];exact allocAt _ rfl rfl
     have m7:=HC7.out.cellS m1 (fun h=>h)
     clear hx hcells hk1 hk2 hk3 hk4
     go_upto_region 10 with (fail)
     rw [← hw7]
     clear hw7 x0 x1 x2 q0 q1 q2 q3 m1 mz
     have HM7:=jh (HMJ.out.chg eqR.good HC7.out (fun _ h=>h.elim))
     obtain⟨X,h1,h2,h3⟩:=HM7.out.ex
     have HO1:=jh h1
     have HL1:=jh h2
     have HR1:=jh h3
     have HB1:Hid (bs+1≤w7.heap.size):=jh HM7.out.lt
     have HXL:Hid (X.length≤1000000000):=jh (by rw [h2,List.length_take];omega)
     clear h1 h2 h3
     go_wp2_with (at_builtin;refine Elt.wpList_append2 dEdgeE rfl _ _ 119 119 rfl rfl (bs+1) (.slice ua ul uc) X [((t1,t2,t3):EdgeD)] (.slice (some ⟨w7.heap.size,0,none⟩) 1 1) rfl rfl (HO1.out.chg ((Chg.refl (fun _=>False) _).alloc _) (fun _ _ _ h=>h)) (by have:=HB1.out;simp;omega) (Elt.srcLit dEdgeE (w:=w7) (Y:=[((t1,t2,t3):EdgeD)]) (e:=123) 1 HOKE.out) HOKE.out (by have:=HXL.out;simp;omega) ?_;intro v' wb HO2 HC4 HB2;obtain⟨va',vl',vc',hv'⟩:=HO2.out.shape3;subst hv';obtain⟨⟨k1,k2⟩,hf1,hf2,hf3⟩:=Mk.step eqR.good (d:=((t1,t2,t3):EdgeD)) HM7.out HL1.out HR1.out (fun k hk=>by have:=HO1.out.blk hk;omega) ((Chg.refl (fun _=>False) w7).alloc _) rfl HO2.out HB2.out.1 HB2.out.2;have HFF:=jh hf1;have HCG:=jh hf2;have HYY:=jh hf3;clear hf1 hf2 hf3)
     have HYF:=jh (show _∧_ from ⟨HYY.out 0 _ (by decide) (HC7.out.cellS HYJ.out.1 (fun h=>h)),HYY.out 2 _ (by decide) (HC7.out.cellS HYJ.out.2 (fun h=>h))⟩)
     have HCGF:=jh ((HCJ.out.trans HC7.out.any).trans2 HCG.out (fun k hk e=>by
      have hb1:=HBS.out
      rcases e with e|e
      ·omega
      ·have:=(HO1.out.blk e).1;omega))
     clear e0 e1 e2 m7
     go_wp2
     go_roundw
     case rel=>exact⟨j+1,_,by omega,by go_num,by rw [List.take_add_one,HXE.out];exact HFF.out,HYF.out,HCGF.out⟩
     case measure=>simp [intOf];omega
    ·obtain rfl:j=es.length:=by omega
     have hb10:decide ((es.length:Int)<(es.length:Int))=false:=by simp
     have HMF:Hid (Mk dStE (pR (fun k=>S k∨w.heap.size≤k) dStR) br bo 0 wr (.slice va vl vc) (n.st.take i)):=jh (HM.out.chg (pR.good dStR.good) HCJ.out (fun _ h=>h))
     obtain⟨Y,y1,y2,y3⟩:=HMF.out.ex
     have HOY:=jh y1
     have HLY:=jh y2
     have HRY:=jh y3
     have HBY:Hid (bo+1≤wr.heap.size):=jh HMF.out.lt
     have HYL:Hid (Y.length≤1000000000):=jh (by rw [y2,List.length_take];omega)
     obtain⟨hul,hli⟩:=HMJ.out.list eqR.good (Nat.le_refl _)
     rw [List.take_of_length_le (Nat.le_refl _)] at hul hli
     subst hul
     have s0:=HMF.out.c
     obtain⟨s1,s2⟩:=HYJ.out
     have HEL:Hid (dEdgeE.InS wr (fun k=>wo.heap.size≤k) (ua,es.length,uc) es):=jh (by
      obtain⟨X,h1,h2,h3⟩:=HMJ.out.ex
      rw [List.take_of_length_le (Nat.le_refl _)] at h2 h3
      have hXe:X=es:=List.ext_getElem h2 (fun j hx hl=>h3 j _ _ (List.getElem?_eq_getElem hx) (List.getElem?_eq_getElem hl))
      subst hXe
      obtain⟨a',g,c',e1,e2,e3,e4⟩:=h1.at'
      injection e1 with e1 e5 e6
      subst e1 e6
      exact⟨rfl,e2,g,0,e3,fun hp=>⟨(e4 hp).1,by have:=(e4 hp).2;have:=HBS.out;omega⟩⟩)
     have HOKS:Hid (∀ x∈[((k,(ua,es.length,uc),(ta,ds.length,tc)):Int × Sl × Sl)],dStE.ok x):=jh (fun x hx=>by
      rw [List.mem_singleton.1 hx];exact HRE.out.1)
     have HSS:Hid (∀ X,Chg (fun _=>False) wr X→pR (fun k=>S k∨w.heap.size≤k) dStR X (fun q=>(q≠bo∧q≠br)∧(Value.slice va vl vc).ownBlock≠some q) (k,(ua,es.length,uc),(ta,ds.length,tc)) (k,es,ds)):=jh (fun X hx=>by
      have hB:=HBN.out
      have hBo:=HBO.out
      refine⟨rfl,HRE.out.1,(HEL.out.chg hx (fun _ _ h=>h)).mono (fun q _ hq=>⟨⟨⟨by omega,by omega⟩,fun e=>?_⟩,.inr (by omega)⟩),((HRE.out.2.2.chg HCJ.out.fresh (fun _ _ h=>h)).chg hx (fun _ _ h=>h)).mono (fun q _ hq=>⟨⟨⟨by have:=hq.1;omega,by have:=hq.1;omega⟩,fun e=>?_⟩,.inl hq.2⟩)⟩
      ·obtain⟨Y',g1,-⟩:=HM.out.ex
       have:=(g1.blk e).2;omega
      ·obtain⟨Y',g1,-⟩:=HM.out.ex
       have h0:=hq.1
       have:=(g1.blk e).1;omega)
     clear y1 y2 y3 hli mz q1 q3
     go_wp2_with (at_builtin;refine Elt.wpList_append2 dStE rfl _ _ 38 38 rfl rfl (bo+1) (.slice va vl vc) Y [((k,(ua,es.length,uc),(ta,ds.length,tc)):Int × Sl × Sl)] (.slice (some ⟨wr.heap.size,0,none⟩) 1 1) rfl rfl (HOY.out.chg ((Chg.refl (fun _=>False) _).alloc _) (fun _ _ _ h=>h)) (by have:=HBY.out;simp;omega) (Elt.srcLit dStE (w:=wr) (Y:=[((k,(ua,es.length,uc),(ta,ds.length,tc)):Int × Sl × Sl)]) (e:=121) 1 HOKS.out) HOKS.out (by have:=HYL.out;simp;omega) ?_;intro v' wb HO2 HC4 HB2;obtain⟨va',vl',vc',hv'⟩:=HO2.out.shape3;subst hv';obtain⟨⟨k1,k2⟩,hf1,hf2,hf3⟩:=Mk.step (pR.good dStR.good) (d:=((k,es,ds):StD)) HMF.out HLY.out HRY.out (fun q hq=>by have:=HOY.out.blk hq;omega) ((Chg.refl (fun _=>False) wr).alloc _) (HSS.out _ ((Chg.refl (fun _=>False) wr).alloc _)) HO2.out HB2.out.1 HB2.out.2;have HFF:=jh hf1;have HCG:=jh hf2;have HYY:=jh hf3;clear hf1 hf2 hf3)
     have HOF:=jh (fun (j:Nat) (u:Value) (hu:([.slice none 0 0,.slice aa n.s.length ac,.slice pa n.p.length pc,.slice qa n.q.length qc,.slice da n.d.length dc]:List Value)[j]?=some u) (hj:j≠0)=>HYY.out j u hj (HCJ.out.fresh.cellS (HO.out j u hu hj) (fun h=>h)))
     have HCF2:=jh ((HC.out.trans2 HCJ.out (fun k hk e=>by have:=HC.out.size;omega)).trans2 HCG.out (fun q hq e=>by
      rcases e with e|e
      ·omega
      ·have:=(HOY.out.blk e).1;omega))
     clear s0 s1 s2 q0 q2 m1
     go_wp2
     go_roundw
     case rel=>exact⟨i+1,_,by omega,by go_num,by rw [List.take_add_one,HX.out];exact HFF.out,HOF.out,HCF2.out⟩
     case measure=>simp [intOf];omega
  ·obtain rfl:i=n.st.length:=by omega
   have hb9:decide ((n.st.length:Int)<(n.st.length:Int))=false:=by simp
   have HMF:=HM.out
   rw [List.take_of_length_le (Nat.le_refl _)] at HMF
   obtain⟨hul,hli⟩:=HMF.inP dStR.good (fun k hk=>.inr (by have:=HBN.out;omega)) (by have:=HBN.out;omega)
   subst hul
   have s0:=HMF.c
   have s1:=HO.out 1 _ rfl (by decide)
   have s2:=HO.out 2 _ rfl (by decide)
   have s3:=HO.out 3 _ rfl (by decide)
   have s4:=HO.out 4 _ rfl (by decide)
   have HLI:=jh hli
   have hr:∀ j,j<5→wo.cell? ⟨br,j,none⟩=some (.slice none 0 0):=fun j hj=>HC.out.cellS (HR0.out j hj) (by have:=HBN.out;show ¬ bo≤br;omega)
   have hz:∀ j,wo.frozen? ⟨br,j,none⟩=false:=fun j=>(HC.out.frozen (p:=⟨br,j,none⟩) (by have:=World.block_lt_of_cell? _ _ (HR0.out 0 (by decide));exact this) (by have:=HBN.out;show ¬ bo≤br;omega)).trans (HRZ.out j)
   have u0:=hr 0 (by decide);have u1:=hr 1 (by decide);have u2:=hr 2 (by decide);have u3:=hr 3 (by decide);have u4:=hr 4 (by decide)
   have z0:=hz 0;have z1:=hz 1;have z2:=hz 2;have z3:=hz 3;have z4:=hz 4
   obtain⟨wf,hwf⟩:∃ X,X=setAll br 0 [.slice va n.st.length vc,.slice aa n.s.length ac,.slice pa n.p.length pc,.slice qa n.q.length qc,.slice da n.d.length dc] wo:=⟨_,rfl⟩
   obtain⟨t1,-,t3,-⟩:=setAll_spec br [.slice va n.st.length vc,.slice aa n.s.length ac,.slice pa n.p.length pc,.slice qa n.q.length qc,.slice da n.d.length dc] 0 wo (fun j hj=>by
    rw [Nat.zero_add,hr j hj];rfl)
   rw [← hwf] at t1 t3
   have HCF:Hid (Chg (fun k=>w.heap.size≤k) w wf):=jh (HCW.out.trans (t3.mono (fun k _ e=>by have:=HBN.out;omega)))
   have HDI:Hid (DNetIn wf (fun k=>S k∨w.heap.size≤k) ⟨(va,n.st.length,vc),(aa,n.s.length,ac),(pa,n.p.length,pc),(qa,n.q.length,qc),(da,n.d.length,dc)⟩ n):=jh (by
    have hI:=HIN.out wf HCF.out
    exact⟨(ListR.good dStR.good).mono ((ListR.good dStR.good).chg HLI.out t3 (fun g hg e=>hg.2.2 e)) (fun _ _ h=>h.1),hI.s.mono (fun _ _ h=>.inl h.2),hI.p.mono (fun _ _ h=>.inl h.2),hI.q.mono (fun _ _ h=>.inl h.2),hI.d.mono (fun _ _ h=>.inl h.2)⟩)
   have v0:=t1 0 _ rfl
   have v1:=t1 1 _ rfl
   have v2:=t1 2 _ rfl
   have v3:=t1 3 _ rfl
   have v4:=t1 4 _ rfl
   simp only [Nat.zero_add] at v0 v1 v2 v3 v4
   simp only [setAll,Nat.zero_add,Nat.reduceAdd] at hwf
   have HWF:=jh hwf
   clear hwf t1 t3 hr hz hli HMF
   go_wp2
   rw [← HWF.out]
   exact bodyPost_ret (v:=.agg #[.slice va n.st.length vc,.slice aa n.s.length ac,.slice pa n.p.length pc,.slice qa n.q.length qc,.slice da n.d.length dc]) (by simp [results,Tryz.results23,go_sem,v0,v1,v2,v3,v4]) rfl ⟨⟨(va,n.st.length,vc),(aa,n.s.length,ac),(pa,n.p.length,pc),(qa,n.q.length,qc),(da,n.d.length,dc)⟩,rfl,HDI.out,HCF.out.fresh⟩
end Go.Proofs.YtgnpmceimpjheaaGreat
namespace Go.Proofs.YtgnpmceimpjheaaGreat
open Go.RowKit
section
variable {β δ:Type} {E:Elt β} {R:Rp β δ}
def bR' (B:Nat) (R:Rp β δ):Rp β δ:=fun w S x d=>R w (fun k=>S k∧B≤k) x d
theorem bR'.good {B:Nat} (hR:Good R):Good (bR' B R):=⟨fun h hc hs=>hR.chg h hc (fun g hg=>hs g hg.1),fun h hs=>hR.mono h (fun g hg hg2=>⟨hs g hg hg2.1,hg2.2⟩)⟩
theorem Mk.fresh {B bx bo off:Nat} {w:World} {a:Option Addr} {n c:Nat} {acc:List δ} (h:Mk E (bR' B R) bx bo off w (.slice a n c) acc) (hR:Good R) (hB:B≤bo) (hbx:bx≤bo):n=acc.length∧ListR E R w (fun k=>B≤k∧k≠bo∧k≠bx) (a,n,c) acc:=by
 obtain⟨X,h1,h2,h3⟩:=h.ex
 obtain⟨a',g,c',e1,e2,e3,e4⟩:=h1.at'
 injection e1 with e1 e5 e6
 subst e1 e5 e6
 refine⟨h2,X,⟨rfl,e2,g,0,e3,fun hp=>⟨(e4 hp).1,by have:=(e4 hp).2;exact⟨by omega,by omega,by omega⟩⟩⟩,h2,fun j x d hx hd=>hR.mono (h3 j x d hx hd) (fun k _ hk=>⟨hk.2,hk.1.1⟩)⟩
end
structure LsNew (wo x:World) (bs:Nat) (k:Int) (ca:Option Addr) (cc:Nat) (ds:List Int):Prop where
 lo:wo.heap.size≤bs
 c0:x.cell? ⟨bs,0,none⟩=some (.int .i64 k)
 c1:x.cell? ⟨bs,1,none⟩=some (.slice ca ds.length cc)
 c2:x.cell? ⟨bs,2,none⟩=some (.slice none 0 0)
 z2:x.frozen? ⟨bs,2,none⟩=false
 al:intE.InS x (fun q=>wo.heap.size≤q∧q≠bs) (ca,ds.length,cc) ds
 ch:Chg (fun _=>False) wo x
theorem LsNew.of {wo x x':World} {bs:Nat} {k:Int} {ca:Option Addr} {cc:Nat} {ds:List Int} (hc:Chg (fun _=>False) wo x) (hlo:wo.heap.size≤bs) (y0:x.cell? ⟨bs,0,none⟩=some (.int .i64 0)) (y1:x.cell? ⟨bs,1,none⟩=some (.slice none 0 0)) (y2:x.cell? ⟨bs,2,none⟩=some (.slice none 0 0)) (z:∀ j,x.frozen? ⟨bs,j,none⟩=false)
  (ho:intE.InS x (fun q=>wo.heap.size≤q∧q≠bs) (ca,ds.length,cc) ds) (hx:x'=setAll bs 0 [.int .i64 k,.slice ca ds.length cc,.slice none 0 0] x):LsNew wo x' bs k ca cc ds:=by
 obtain⟨k1,-,k3,k4⟩:=setAll_spec bs [.int .i64 k,.slice ca ds.length cc,.slice none 0 0] 0 x (fun j hj=>by
  simp only [List.length_cons,List.length_nil] at hj
  rcases (by omega:j=0∨j=1∨j=2) with rfl|rfl|rfl
  ·rw [y0];rfl
  ·rw [y1];rfl
  ·rw [y2];rfl)
 rw [← hx] at k1 k3 k4
 exact⟨hlo,k1 0 _ rfl,k1 1 _ rfl,k1 2 _ rfl,(k4 _).trans (z 2),ho.chg k3 (fun g hg e=>hg.2 e),hc.trans2 k3 (fun k hk e=>by omega)⟩
theorem otherLook_any (A:List LsD) (sa:Option Addr) (sc:Nat) (S:Nat→Prop) (w:World) (h:autoR w S (sa,A.length,sc) A) (hA:A.length≤1000000000) (hb:∀ d∈A,lsB d) :
  Calls Tryz.prog 24 #[.agg #[.slice sa A.length sc]] w fun e w'=>∃ s:Sl,e=.returned (.agg #[slV s])∧dAutoR w' (fun k=>w.heap.size≤k) s A∧Chg (fun _=>False) w w':=by
 have h':=autoR.good.mono h (S':=(·<w.heap.size)) (fun _ hg _=>hg)
 clear h
 have HF:=jh hb
 obtain⟨w0,hw0⟩:∃ W,W=(w.alloc (.cells #[.slice sa A.length sc] 63)).alloc (.cells #[.slice none 0 0] 79):=⟨_,rfl⟩
 obtain⟨w1,hw1⟩:∃ W,W=w0.alloc (.cells #[.slice none 0 0] 79):=⟨_,rfl⟩
 have hC0:Chg (fun _=>False) w w0:=by rw [hw0];exact ((Chg.refl _ w).alloc _).alloc _
 have hC1:Chg (fun _=>False) w0 w1:=by rw [hw1];exact (Chg.refl _ w0).alloc _
 have hs0:w0.heap.size=w.heap.size+2:=by rw [hw0];simp
 obtain⟨br,hbr⟩:∃ b,b=w.heap.size+1:=⟨_,rfl⟩
 obtain⟨bo,hbo⟩:∃ b,b=w.heap.size+1+1:=⟨_,rfl⟩
 have HBN:Hid (br=w.heap.size+1∧bo=w.heap.size+2):=jh ⟨hbr,hbo⟩
 have HN0:Hid (w0.cell? ⟨w.heap.size,0,none⟩=some (.slice sa A.length sc)):=jh (by rw [hw0];exact allocOld _ (allocAt _ rfl rfl))
 have HR0:Hid (w1.cell? ⟨br,0,none⟩=some (.slice none 0 0)):=jh (hC1.cellS (by rw [hw0,hbr];exact allocAt _ (by simp) rfl) (fun h=>h))
 have HRZ:Hid (w1.frozen? ⟨br,0,none⟩=false):=jh ((hC1.frozen (p:=⟨br,0,none⟩) (by show br<w0.heap.size;omega) (fun h=>h)).trans (by
  have e:br=(w.alloc (.cells #[.slice sa A.length sc] 63)).heap.size:=by rw [hbr];simp
  rw [hw0,e]
  exact World.frozen?_alloc_new _ _ _ _))
 have HM1:Hid (Mk dLsE (bR' w.heap.size dLsR) br bo 0 w1 (.slice none 0 0) []):=jh ⟨by rw [hw1];exact allocAt _ (by rw [hs0,hbo]) rfl,by
  have e:bo=w0.heap.size:=by rw [hs0,hbo]
  rw [hw1,e]
  exact World.frozen?_alloc_new _ _ _ _,[],.nil _ _,rfl,fun j x d hx=>by simp at hx⟩
 have HC1:=jh (hC0.trans hC1)
 have HN1:=jh (hC1.cellS HN0.out (fun h=>h))
 have HIN:Hid (∀ X,Chg (fun k=>w.heap.size≤k) w X→autoR X (·<w.heap.size) (sa,A.length,sc) A):=jh (fun X hx=>autoR.good.chg h' hx (fun g hg e=>by omega))
 have HAL:Hid (A.length≤1000000000):=jh hA
 have d0:=HN0.out
 clear h' hb
 go_enter Tryz.func24,Tryz.ntmps24
 go_upto_region 1 with (fail)
 rw [← hw0]
 have hw1':=hw1
 clear hw0 hw1
 go_upto_region 3 with (fail)
 rw [← hw1',← hbo,← hbr]
 clear hw1' hbo hbr d0 hC0 hC1 hs0
 go_loopw [4] (fun q wr=>∃ (i:Nat) (v:Value),i≤A.length∧q=.int .i64 i∧Mk dLsE (bR' w.heap.size dLsR) br bo 0 wr v (A.take i)∧Chg (fun k=>bo≤k) w1 wr) (fun q _=>A.length-(intOf q).toNat)
 case atStart=>exact⟨0,_,by omega,rfl,HM1.out,Chg.refl _ _⟩
 case round =>
  clear HM1
  obtain⟨i,v,hi,rfl,hm,hc⟩:=hrel
  obtain⟨wo,rfl⟩:∃ wo:World,wo=wr:=⟨_,rfl⟩
  have HM:=jh hm
  have HC:=jh hc
  have HCW:Hid (Chg (fun k=>w.heap.size≤k) w wo):=jh (HC1.out.any.trans (hc.mono (fun k _ e=>by have:=HBN.out;omega)))
  obtain⟨va,vl,vc,rfl⟩:=hm.own
  have HBO:Hid (bo<wo.heap.size):=jh hm.lt
  have n0:=hc.cellS HN1.out (by have:=HBN.out;show ¬ bo≤w.heap.size;omega)
  clear hm hc
  by_cases hil:i<A.length
  ·have hb9:decide ((i:Int)<(A.length:Int))=true:=by simp;omega
   obtain⟨⟨k,⟨ca,cn,cc⟩,⟨ea,en,ec⟩⟩,⟨kd,ds,es⟩,gx,ox,hx,⟨r1,r2,r3,r4⟩,rfl,hgx,-,-,hcells⟩:=ListR.get3 (f:=encLs) (HIN.out _ HCW.out) rfl hil rfl
   simp only at r1 r2 r3 r4
   subst r1
   obtain⟨rfl,-⟩:=r3.len
   obtain⟨rfl,-⟩:=r4.len
   have HX:=jh hx
   obtain⟨lb1,lb2⟩:=HF.out _ (List.mem_of_getElem? hx)
   simp only at lb1 lb2
   obtain⟨x0,x1,x2⟩:=hcells _ _ _ rfl
   simp only [slV] at x1 x2
   have HCF:Hid (∀ X,Chg (fun k=>wo.heap.size≤k) wo X→X.cell? ⟨w.heap.size,0,none⟩=some (.slice (some ⟨gx,ox,none⟩) A.length sc)∧X.cell? ⟨gx,ox+i * 3,none⟩=some (.int .u8 k)∧X.cell? ⟨gx,ox+i * 3+1,none⟩=some (.slice ca ds.length cc)∧X.cell? ⟨gx,ox+i * 3+2,none⟩=some (.slice ea es.length ec)):=jh (fun X hx =>
    ⟨hx.fresh.cellS n0 (fun h=>h),hx.fresh.cellS x0 (fun h=>h),hx.fresh.cellS x1 (fun h=>h),hx.fresh.cellS x2 (fun h=>h)⟩)
   have HRE:Hid (U8 k∧intE.InS wo (·<w.heap.size) (ca,ds.length,cc) ds∧ledgeE.InS wo (·<w.heap.size) (ea,es.length,ec) es):=jh ⟨r2,r3,r4⟩
   obtain⟨hk1,hk2⟩:=r2
   clear hx hcells r3 r4
   go_upto_region 5 with (fail)
   have hwk:IntKind.i64.wrap k=k:=by rw [IntKind.wrap_i64];omega
   clear x0 x1 x2 n0
   go_cut [5] from 7 to 71 (fun s5 w'=>∃ (bs:Nat) (ca':Option Addr) (cc':Nat),s5=.pointer (some ⟨bs,0,none⟩)∧LsNew wo w' bs k ca' cc' ds)
   case first =>
    obtain⟨wd,hwd⟩:∃ X,wo.drew=X:=⟨_,rfl⟩
    have HWD:Hid (Chg (fun _=>False) wo wd):=jh (by rw [← hwd];exact (Chg.refl _ _).drew)
    have HSD:Hid (wd.heap.size=wo.heap.size):=jh (by rw [← hwd];rfl)
    refine wp_region_late (fun x=>Chg (fun _=>False) wd x) (fun i=>decide (i=16)) (by kernel_rfl) ?_
    show wpAnyL _ _ _ _ _ _ 17 (Array.replicate 17 false) _ wo.drew
    rw [hwd]
    clear hwd
    have HSS:Hid (Chg (fun _=>False) wd wd):=jh (Chg.refl _ _)
    have HQ:Hid (∀ x,Chg (fun _=>False) wd x→Chg (fun k=>wo.heap.size≤k) wo x):=jh (fun x hx=>(HWD.out.trans hx).any)
    (refine lrd 0 HSS.out fun K hK=>?_;apply ei;intro w' hC;(go_simp;try with_reducible rfl);(try go_simp);refine hK _ ?_;clear hK K)
    (refine lrd 1 HSS.out fun K hK=>?_;apply ei;intro w' hC;((obtain⟨q0,q1,q2,q3⟩:=HCF.out _ (HQ.out _ hC));go_simp;try with_reducible rfl);(try go_simp);refine hK _ ?_;clear hK K)
    (refine lrd 2 HSS.out fun K hK=>?_;apply ei;intro w' hC;(go_simp;try with_reducible rfl);(try go_simp);refine hK _ ?_;clear hK K)
    (refine lrd 3 HSS.out fun K hK=>?_;apply ei;intro w' hC;(go_simp;try with_reducible rfl);(try go_simp);refine hK _ ?_;clear hK K)
    (refine lrd 4 HSS.out fun K hK=>?_;apply ei;intro w' hC;(go_simp;try with_reducible rfl);(try go_simp);refine hK _ ?_;clear hK K)
    (refine lrd 5 HSS.out fun K hK=>?_;apply ei;intro w' hC;((obtain⟨q0,q1,q2,q3⟩:=HCF.out _ (HQ.out _ hC));go_simp;try with_reducible rfl);(try go_simp);refine hK _ ?_;clear hK K)
    (refine lrd 6 HSS.out fun K hK=>?_;apply ei;intro w' hC;(go_simp;try with_reducible rfl);(try go_simp);refine hK _ ?_;clear hK K)
    (refine lrd 7 HSS.out fun K hK=>?_;apply ei;intro w' hC;(go_simp;try with_reducible rfl);(try go_simp);refine hK _ ?_;clear hK K)
    (refine lrd 8 HSS.out fun K hK=>?_;apply ei;intro w' hC;((obtain⟨q0,q1,q2,q3⟩:=HCF.out _ (HQ.out _ hC));go_simp;try with_reducible rfl);(try go_simp);refine hK _ ?_;clear hK K)
    (refine lrd 9 HSS.out fun K hK=>?_;apply ei;intro w' hC;(go_simp;try with_reducible rfl);(try go_simp);refine hK _ ?_;clear hK K)
    (refine lrd 10 HSS.out fun K hK=>?_;apply ei;intro w' hC;(go_simp;try with_reducible rfl);(try go_simp);refine hK _ ?_;clear hK K)
    (refine lrd 11 HSS.out fun K hK=>?_;apply ei;intro w' hC;(go_simp;try with_reducible rfl);(try go_simp);refine hK _ ?_;clear hK K)
    (refine lrd 12 HSS.out fun K hK=>?_;apply ei;intro w' hC;((obtain⟨q0,q1,q2,q3⟩:=HCF.out _ (HQ.out _ hC));go_simp;try with_reducible rfl);(try go_simp);refine hK _ ?_;clear hK K)
    have HAPP:Hid (∀ x ty,Chg (fun _=>False) wo x→∃ v' w'',(Builtin.append_ #[25,25] ty #[.slice none 0 0,.slice ca ds.length cc]).run Tryz.prog x=.ok v' w''∧intE.Own w'' x.heap.size v' ds∧Chg (fun _=>False) x w''):=jh (fun x ty hx=>by
     have hi:intE.InS x (·<w.heap.size) (ca,ds.length,cc) ds:=HRE.out.2.1.chg hx (fun _ _ h=>h)
     obtain⟨-,-,g,o,h3,h4⟩:=hi
     obtain⟨v',w'',g1,g2,-,g4,-⟩:=(Elt.Own.nil (E:=intE) x x.heap.size).append (Nat.le_refl _) 25 (.slice ca ds.length cc) ds (h3.src (fun hp=>(h4 hp).1)) h3.ok (by simp;omega) ty
     exact⟨v',w'',g1,g2,g4.1.mono (fun _ _ h=>by cases h)⟩)
    refine late_append_or (i:=13) (j:=15) (by kernel_rfl) rfl rfl rfl rfl (.const (.slice none 0 0)) (.tmp 26) 25 25 rfl (.slice none 0 0) (.slice ca ds.length cc) rfl rfl (fun v' x1=>intE.Own x1 wd.heap.size v' ds∧Chg (fun _=>False) wd x1) ?_ ?_ ?_
    ·obtain⟨v',x1,g1,g2,g3⟩:=HAPP.out wd 25 HWD.out
     exact⟨v',x1,g1,fun _=>g3,g2,g3⟩
    ·rintro v' x1 hs ⟨ho,hc⟩ K hK
     obtain⟨a0,k0,rfl,hk0,-⟩:=ho.clip
     have HO:=jh ho
     have HX:=jh hc
     clear ho hc hs
     (try go_simp)
     refine hK _ ?_
     clear hK K
     have HSS:=HX
     (refine lrd 14 HSS.out fun K hK=>?_;apply ei;intro w' hC;(go_simp;try with_reducible rfl);(try go_simp);refine hK _ ?_;clear hK K)
     (refine late_turn (i:=15) (by kernel_rfl) rfl rfl fun K hK=>?_;apply Exists.intro;apply Exists.intro;refine⟨?_,?_,?_⟩;(go_simp;try first|with_reducible rfl|exact⟨rfl,rfl⟩);(exact fun _=>HX.out.alloc _);(try go_simp);refine hK _ _ ?_;clear hK K)
     obtain⟨x2,hn⟩:∃ x,x1.alloc (.cells #[.int .i64 0,.slice none 0 0,.slice none 0 0] 145)=x:=⟨_,rfl⟩
     have hc2:Chg (fun _=>False) x1 x2:=by rw [← hn];exact (Chg.refl _ _).alloc _
     obtain⟨y0,y1,y2,y3⟩:x2.cell? ⟨x1.heap.size,0,none⟩=some (.int .i64 0)∧x2.cell? ⟨x1.heap.size,1,none⟩=some (.slice none 0 0)∧x2.cell? ⟨x1.heap.size,2,none⟩=some (.slice none 0 0)∧∀ j,x2.frozen? ⟨x1.heap.size,j,none⟩=false:=by
      rw [← hn]
      exact⟨allocAt _ rfl rfl,allocAt _ rfl rfl,allocAt _ rfl rfl,fun j=>World.frozen?_alloc_new _ _ _ _⟩
     rw [hn]
     clear hn
     obtain⟨bs,hbs⟩:∃ b,b=x1.heap.size:=⟨_,rfl⟩
     rw [← hbs]
     rw [← hbs] at y0 y1 y2 y3
     have z0:=y3 0
     have z1:=y3 1
     have z2:=y3 2
     obtain⟨x3,hx3⟩:∃ x,x=setAll bs 0 [.int .i64 k,.slice a0 ds.length k0,.slice none 0 0] x2:=⟨_,rfl⟩
     have HLN:Hid (LsNew wo x3 bs k a0 k0 ds):=jh (LsNew.of ((HWD.out.trans HX.out).trans hc2) (by have:=HX.out.size;have:=HWD.out.size;omega) y0 y1 y2 y3 (by
      obtain⟨a',g,c',e1,e2,e3,e4⟩:=(HO.out.chg hc2 (fun _ _ _ h=>h)).at'
      injection e1 with e1 e5 e6
      subst e1 e6
      exact⟨rfl,e2,g,0,e3,fun hp=>⟨(e4 hp).1,by
       have h1:=(e4 hp).2
       have h2:=HO.out.blk (g:=g) (by rw [(e4 hp).1];rfl)
       have h3:=HWD.out.size
       exact⟨by omega,by omega⟩⟩⟩) hx3)
     simp only [setAll,Nat.zero_add,Nat.reduceAdd] at hx3
     have HX3:=jh hx3
     have HBS:=jh hbs
     clear hx3 y3 hc2 hbs
     (refine late_store (i:=16) (by kernel_rfl) rfl rfl fun K hK=>?_;apply Exists.intro;refine⟨?_,(fun h=>absurd h (by decide)),?_⟩;(go_simp;try first|with_reducible rfl|exact⟨rfl,rfl⟩);(try go_simp);refine hK _ _ ?_;clear hK K)
     refine late_done (by kernel_rfl) ?_ _
     rw [← HX3.out]
     clear y0 y1 y2 z0 z1 z2
     go_wp2
     go_meet
     exact⟨_,_,_,rfl,HLN.out⟩
    ·intro K hK
     apply Exists.intro
     apply Exists.intro
     refine⟨?_,?_,?_⟩
     (go_simp;try first|with_reducible rfl|exact⟨rfl,rfl⟩)
     exact fun _=>(Chg.refl _ _).alloc _
     (try go_simp)
     refine hK _ _ ?_
     clear hK K
     obtain⟨x1,hn⟩:∃ x,wd.alloc (.cells #[.int .i64 0,.slice none 0 0,.slice none 0 0] 145)=x:=⟨_,rfl⟩
     have HC2:Hid (Chg (fun _=>False) wd x1∧x1.heap.size=wd.heap.size+1):=jh (by rw [← hn];exact⟨(Chg.refl _ _).alloc _,by simp⟩)
     have HY:Hid (x1.cell? ⟨wd.heap.size,0,none⟩=some (.int .i64 0)∧x1.cell? ⟨wd.heap.size,1,none⟩=some (.slice none 0 0)∧x1.cell? ⟨wd.heap.size,2,none⟩=some (.slice none 0 0)∧∀ j,x1.frozen? ⟨wd.heap.size,j,none⟩=false):=jh (by
      rw [← hn]
      exact⟨allocAt _ rfl rfl,allocAt _ rfl rfl,allocAt _ rfl rfl,fun j=>World.frozen?_alloc_new _ _ _ _⟩)
     rw [hn]
     clear hn
     refine late_append (i:=13) (by kernel_rfl) rfl rfl (.const (.slice none 0 0)) (.tmp 26) 25 25 rfl (.slice none 0 0) (.slice ca ds.length cc) rfl rfl (fun v' x2=>intE.Own x2 x1.heap.size v' ds∧Chg (fun _=>False) x1 x2) ?_ ?_
     ·obtain⟨v',x2,g1,g2,g3⟩:=HAPP.out x1 25 (HWD.out.trans HC2.out.1)
      exact⟨v',x2,g1,fun _=>HC2.out.1.trans g3,g2,g3⟩
     rintro v' x2 hs ⟨ho,hc2⟩ K hK
     obtain⟨a0,k0,rfl,hk0,-⟩:=ho.clip
     have HO:=jh ho
     have HX:Hid (Chg (fun _=>False) wd x2):=jh (HC2.out.1.trans hc2)
     obtain⟨y0,y1,y2,y3⟩:x2.cell? ⟨wd.heap.size,0,none⟩=some (.int .i64 0)∧x2.cell? ⟨wd.heap.size,1,none⟩=some (.slice none 0 0)∧x2.cell? ⟨wd.heap.size,2,none⟩=some (.slice none 0 0)∧∀ j,x2.frozen? ⟨wd.heap.size,j,none⟩=false :=
      ⟨hc2.cellS HY.out.1 (fun h=>h),hc2.cellS HY.out.2.1 (fun h=>h),hc2.cellS HY.out.2.2.1 (fun h=>h),fun j=>(hc2.frozen (p:=⟨wd.heap.size,j,none⟩) (by have:=HC2.out.2;show wd.heap.size<x1.heap.size;omega) (fun h=>h)).trans (HY.out.2.2.2 j)⟩
     clear ho hs hc2
     (try go_simp)
     refine hK _ ?_
     clear hK K
     obtain⟨bs,hbs⟩:∃ b,b=wd.heap.size:=⟨_,rfl⟩
     rw [← hbs]
     rw [← hbs] at y0 y1 y2 y3
     have z0:=y3 0
     have z1:=y3 1
     have z2:=y3 2
     obtain⟨x3,hx3⟩:∃ x,x=setAll bs 0 [.int .i64 k,.slice a0 ds.length k0,.slice none 0 0] x2:=⟨_,rfl⟩
     have HLN:Hid (LsNew wo x3 bs k a0 k0 ds):=jh (LsNew.of (HWD.out.trans HX.out) (by have:=HWD.out.size;omega) y0 y1 y2 y3 (by
      obtain⟨a',g,c',e1,e2,e3,e4⟩:=HO.out.at'
      injection e1 with e1 e5 e6
      subst e1 e6
      exact⟨rfl,e2,g,0,e3,fun hp=>⟨(e4 hp).1,by
       have h1:=(e4 hp).2
       have h3:=HWD.out.size
       have h4:=HC2.out.2
       exact⟨by omega,by omega⟩⟩⟩) hx3)
     simp only [setAll,Nat.zero_add,Nat.reduceAdd] at hx3
     have HX3:=jh hx3
     have HBS:=jh hbs
     clear hx3 y3 hbs
     have HSS:=HX
     (refine lrd 14 HSS.out fun K hK=>?_;apply ei;intro w' hC;(go_simp;try with_reducible rfl);(try go_simp);refine hK _ ?_;clear hK K)
     (refine late_store (i:=16) (by kernel_rfl) rfl rfl fun K hK=>?_;apply Exists.intro;refine⟨?_,(fun h=>absurd h (by decide)),?_⟩;(go_simp;try first|with_reducible rfl|exact⟨rfl,rfl⟩);(try go_simp);refine hK _ _ ?_;clear hK K)
     refine late_done (by kernel_rfl) ?_ _
     rw [← HX3.out]
     clear y0 y1 y2 z0 z1 z2
     go_wp2
     go_meet
     exact⟨_,_,_,rfl,HLN.out⟩
   case rest =>
    obtain⟨bs,ca',cc',rfl,hln⟩:=hcut
    have HLN:=jh hln
    have HBS:Hid (wo.heap.size≤bs∧bs<wc.heap.size):=jh ⟨hln.lo,World.block_lt_of_cell? _ _ hln.c0⟩
    have HC5:Hid (Chg (fun _=>False) wo wc):=jh hln.ch
    have HM5:Hid (Mk dLeE eqR bs bs 2 wc (.slice none 0 0) []):=jh ⟨hln.c2,hln.z2,[],.nil _ _,rfl,fun j x d hx=>by simp at hx⟩
    have HY5:Hid (wc.cell? ⟨bs,0,none⟩=some (.int .i64 k)∧wc.cell? ⟨bs,1,none⟩=some (.slice ca' ds.length cc')):=jh ⟨hln.c0,hln.c1⟩
    clear hln hwk
    obtain⟨q0,q1,q2,q3⟩:=HCF.out wc HC5.out.any
    go_upto_region 7 with (fail)
    go_loopw [6] (fun q wr=>∃ (j:Nat) (v:Value),j≤es.length∧q=.int .i64 j∧Mk dLeE eqR bs bs 2 wr v (es.take j)∧(wr.cell? ⟨bs,0,none⟩=some (.int .i64 k)∧wr.cell? ⟨bs,1,none⟩=some (.slice ca' ds.length cc'))∧(∀ q,v.ownBlock=some q→wc.heap.size≤q)∧Chg (fun k=>k=bs∨wc.heap.size≤k) wc wr) (fun q _=>es.length-(intOf q).toNat)
    case atStart=>exact⟨0,_,by omega,rfl,HM5.out,HY5.out,fun q hq=>(by cases hq),Chg.refl _ _⟩
    case round =>
     clear HM5 HY5 q0 q1 q2 q3
     obtain⟨j,v,hj,rfl,hm,hy,hob,hc⟩:=hrel
     have HMJ:=jh hm
     have HYJ:=jh hy
     have HOB:=jh hob
     have HCJ:=jh hc
     obtain⟨ua,ul,uc,rfl⟩:=hm.own
     have HCX:Hid (Chg (fun k=>wo.heap.size≤k) wo wr):=jh (HC5.out.any.trans (hc.mono (fun k _ e=>by have:=HBS.out;omega)))
     obtain⟨q0,q1,q2,q3⟩:=HCF.out wr HCX.out
     have HEW:Hid (ledgeE.InS wr (·<w.heap.size) (ea,es.length,ec) es):=jh (HRE.out.2.2.chg HCX.out.fresh (fun _ _ h=>h))
     clear hm hy hc hob
     by_cases hjl:j<es.length
     ·have hb10:decide ((j:Int)<(es.length:Int))=true:=by simp;omega
      obtain⟨⟨t1,t2⟩,f1,gl,ol,hx,hr1,rfl,hgl,-,hek,hcells⟩:=(ListR.of HEW.out).get2 (f:=encPair) rfl hjl rfl
      obtain rfl:(t1,t2)=f1:=hr1
      have HXE:=jh hx
      have HOKE:Hid (∀ x∈[((t1,t2):Int × Int)],dLeE.ok x):=jh (fun x hx=>by
       rw [List.mem_singleton.1 hx]
       exact hek)
      obtain⟨x0,x1⟩:=hcells _ _ rfl
      have HE2:Hid (wr.cell? ⟨gl,ol+j * 2,none⟩=some (.int .i64 t1)∧wr.cell? ⟨gl,ol+j * 2+1,none⟩=some (.int .i64 t2)∧gl<w.heap.size):=jh ⟨x0,x1,hgl⟩
      clear hx hcells x0 x1 hek hgl
      go_upto_region 9 with (fail)
      clear q0 q1 q2 q3
      obtain⟨wd,hwd⟩:∃ X,wr.drew=X:=⟨_,rfl⟩
      have HWD:Hid (Chg (fun _=>False) wr wd):=jh (by rw [← hwd];exact (Chg.refl _ _).drew)
      refine wp_region_late (fun x=>Chg (fun q=>(Value.slice ua ul uc).ownBlock=some q) wd x) (fun i=>decide (i=26)) (by kernel_rfl) ?_
      show wpAnyL _ _ _ _ _ _ 27 (Array.replicate 27 false) _ wr.drew
      rw [hwd]
      clear hwd
      have HSS:Hid (Chg (fun q=>(Value.slice ua ul uc).ownBlock=some q) wd wd):=jh (Chg.refl _ _)
      have HMD:=jh (HMJ.out.chg eqR.good HWD.out (fun _ h=>h.elim))
      obtain⟨X,h1,h2,h3⟩:=HMD.out.ex
      have HO1:=jh h1
      have HL1:=jh h2
      have HR1:=jh h3
      have HXL:Hid (X.length≤1000000000):=jh (by rw [h2,List.length_take];omega)
      clear h1 h2 h3
      have HQ:Hid (∀ x,Chg (fun q=>(Value.slice ua ul uc).ownBlock=some q) wd x→(x.cell? ⟨w.heap.size,0,none⟩=some (.slice (some ⟨gx,ox,none⟩) A.length sc)∧x.cell? ⟨gx,ox+i * 3+2,none⟩=some (.slice (some ⟨gl,ol,none⟩) es.length ec))∧(x.cell? ⟨gl,ol+j * 2,none⟩=some (.int .i64 t1)∧x.cell? ⟨gl,ol+j * 2+1,none⟩=some (.int .i64 t2))∧x.cell? ⟨bs,2,none⟩=some (.slice ua ul uc)):=jh (fun x hx=>by
       have h1:Chg (fun q=>wc.heap.size≤q) wr x:=HWD.out.any.trans (hx.mono (fun q _ e=>HOB.out q e))
       obtain⟨g1,-,-,g2⟩:=HCF.out x (HCX.out.trans (h1.mono (fun q _ e=>by have:=HBS.out;omega)))
       have hgl:=HE2.out.2.2
       have hb:=HBS.out
       have hwo:=HCW.out.size
       exact⟨⟨g1,g2⟩,⟨h1.cellS HE2.out.1 (by show ¬ wc.heap.size≤gl;omega),h1.cellS HE2.out.2.1 (by show ¬ wc.heap.size≤gl;omega)⟩,h1.cellS HMJ.out.c (by show ¬ wc.heap.size≤bs;omega)⟩)
      (refine lrd 0 HSS.out fun K hK=>?_;apply ei;intro w' hC;(go_simp;try with_reducible rfl);(try go_simp);refine hK _ ?_;clear hK K)
      (refine lrd 1 HSS.out fun K hK=>?_;apply ei;intro w' hC;((obtain⟨⟨z1,z2⟩,⟨z3,z4⟩,z5⟩:=HQ.out _ hC);go_simp;try with_reducible rfl);(try go_simp);refine hK _ ?_;clear hK K)
      (refine lrd 2 HSS.out fun K hK=>?_;apply ei;intro w' hC;(go_simp;try with_reducible rfl);(try go_simp);refine hK _ ?_;clear hK K)
      (refine lrd 3 HSS.out fun K hK=>?_;apply ei;intro w' hC;((obtain⟨⟨z1,z2⟩,⟨z3,z4⟩,z5⟩:=HQ.out _ hC);go_simp;try with_reducible rfl);(try go_simp);refine hK _ ?_;clear hK K)
      (refine lrd 4 HSS.out fun K hK=>?_;apply ei;intro w' hC;(go_simp;try with_reducible rfl);(try go_simp);refine hK _ ?_;clear hK K)
      (refine lrd 5 HSS.out fun K hK=>?_;apply ei;intro w' hC;(go_simp;try with_reducible rfl);(try go_simp);refine hK _ ?_;clear hK K)
      (refine lrd 6 HSS.out fun K hK=>?_;apply ei;intro w' hC;(go_simp;try with_reducible rfl);(try go_simp);refine hK _ ?_;clear hK K)
      (refine lrd 7 HSS.out fun K hK=>?_;apply ei;intro w' hC;((obtain⟨⟨z1,z2⟩,⟨z3,z4⟩,z5⟩:=HQ.out _ hC);go_simp;try with_reducible rfl);(try go_simp);refine hK _ ?_;clear hK K)
      (refine lrd 8 HSS.out fun K hK=>?_;apply ei;intro w' hC;(go_simp;try with_reducible rfl);(try go_simp);refine hK _ ?_;clear hK K)
      (refine lrd 9 HSS.out fun K hK=>?_;apply ei;intro w' hC;(go_simp;try with_reducible rfl);(try go_simp);refine hK _ ?_;clear hK K)
      (refine lrd 10 HSS.out fun K hK=>?_;apply ei;intro w' hC;(go_simp;try with_reducible rfl);(try go_simp);refine hK _ ?_;clear hK K)
      (refine lrd 11 HSS.out fun K hK=>?_;apply ei;intro w' hC;((obtain⟨⟨z1,z2⟩,⟨z3,z4⟩,z5⟩:=HQ.out _ hC);go_simp;try with_reducible rfl);(try go_simp);refine hK _ ?_;clear hK K)
      (refine lrd 12 HSS.out fun K hK=>?_;apply ei;intro w' hC;(go_simp;try with_reducible rfl);(try go_simp);refine hK _ ?_;clear hK K)
      (refine lrd 13 HSS.out fun K hK=>?_;apply ei;intro w' hC;((obtain⟨⟨z1,z2⟩,⟨z3,z4⟩,z5⟩:=HQ.out _ hC);go_simp;try with_reducible rfl);(try go_simp);refine hK _ ?_;clear hK K)
      (refine lrd 14 HSS.out fun K hK=>?_;apply ei;intro w' hC;(go_simp;try with_reducible rfl);(try go_simp);refine hK _ ?_;clear hK K)
      (refine lrd 15 HSS.out fun K hK=>?_;apply ei;intro w' hC;(go_simp;try with_reducible rfl);(try go_simp);refine hK _ ?_;clear hK K)
      (refine lrd 16 HSS.out fun K hK=>?_;apply ei;intro w' hC;(go_simp;try with_reducible rfl);(try go_simp);refine hK _ ?_;clear hK K)
      (refine lrd 17 HSS.out fun K hK=>?_;apply ei;intro w' hC;((obtain⟨⟨z1,z2⟩,⟨z3,z4⟩,z5⟩:=HQ.out _ hC);go_simp;try with_reducible rfl);(try go_simp);refine hK _ ?_;clear hK K)
      (refine lrd 18 HSS.out fun K hK=>?_;apply ei;intro w' hC;(go_simp;try with_reducible rfl);(try go_simp);refine hK _ ?_;clear hK K)
      (refine lrd 19 HSS.out fun K hK=>?_;apply ei;intro w' hC;(go_simp;try with_reducible rfl);(try go_simp);refine hK _ ?_;clear hK K)
      (refine lrd 20 HSS.out fun K hK=>?_;apply ei;intro w' hC;(go_simp;try with_reducible rfl);(try go_simp);refine hK _ ?_;clear hK K)
      (refine lrd 21 HSS.out fun K hK=>?_;apply ei;intro w' hC;((obtain⟨⟨z1,z2⟩,⟨z3,z4⟩,z5⟩:=HQ.out _ hC);go_simp;try with_reducible rfl);(try go_simp);refine hK _ ?_;clear hK K)
      (refine lrd 22 HSS.out fun K hK=>?_;apply ei;intro w' hC;(go_simp;try with_reducible rfl);(try go_simp);refine hK _ ?_;clear hK K)
      (refine late_turn (i:=23) (by kernel_rfl) rfl rfl fun K hK=>?_;apply Exists.intro;apply Exists.intro;refine⟨?_,?_,?_⟩;(go_simp;try first|with_reducible rfl|exact⟨rfl,rfl⟩);(exact fun _=>(Chg.refl _ _).alloc _);(try go_simp);refine hK _ _ ?_;clear hK K)
      obtain⟨we,hwe⟩:∃ X,X=wd.alloc (.cells #[.int .i64 t1,.int .i64 t2] 147):=⟨_,rfl⟩
      have HWE:Hid (Chg (fun _=>False) wd we):=jh (by rw [hwe];exact (Chg.refl _ _).alloc _)
      have HSRC:Hid (Src Tryz.prog dLeE.sz dLeE.sl (.slice (some ⟨wd.heap.size,0,none⟩) 1 1) 1 (dLeE.encs [((t1,t2):Int × Int)]) we):=jh (by rw [hwe];exact dLeE.srcLit (Y:=[((t1,t2):Int × Int)]) 1 HOKE.out)
      have HME:=jh (HMD.out.chg eqR.good HWE.out (fun _ h=>h.elim))
      have HOE:=jh (HO1.out.chg HWE.out (fun _ _ _ h=>h))
      have HB1:Hid (bs+1≤we.heap.size):=jh HME.out.lt
      rw [← hwe]
      clear hwe
      refine late_append (i:=24) (by kernel_rfl) rfl rfl (.tmp 41) (.tmp 63) 143 143 rfl (.slice ua ul uc) (.slice (some ⟨wd.heap.size,0,none⟩) 1 1) rfl rfl (fun v' wb=>dLeE.Own wb (bs+1) v' (X++[((t1,t2):Int × Int)])∧(Chg (fun k=>(Value.slice ua ul uc).ownBlock=some k) we wb∧(v'.ownBlock=(Value.slice ua ul uc).ownBlock∨v'.ownBlock=some we.heap.size))) ?_ ?_
      ·obtain⟨v',wb,hrun,h1,-,h4,-⟩:=HOE.out.append HB1.out 143 (.slice (some ⟨wd.heap.size,0,none⟩) 1 1) [((t1,t2):Int × Int)] HSRC.out HOKE.out (by have:=HXL.out;simp;omega) 143
       exact⟨v',wb,hrun,fun _=>HWE.out.any.trans h4.1,h1,h4⟩
      rintro v' wb hs ⟨o1,o2,o3⟩ K hK
      obtain⟨va',vl',vc',hv'⟩:=o1.shape3
      subst hv'
      obtain⟨⟨k1,k2⟩,hf1,hf2,hf3⟩:=Mk.step eqR.good (d:=((t1,t2):Int × Int)) HME.out HL1.out (fun j x d hx hd=>eqR.good.chg (HR1.out j x d hx hd) HWE.out (fun _ _ h=>h)) (fun k hk=>by have:=HOE.out.blk hk;omega) (Chg.refl (fun _=>False) we) rfl o1 o2 o3
      have HFF:=jh hf1
      have HYF:=jh (show _∧_ from ⟨hf3 0 _ (by decide) (HWE.out.cellS (HWD.out.cellS HYJ.out.1 (fun h=>h)) (fun h=>h)),hf3 1 _ (by decide) (HWE.out.cellS (HWD.out.cellS HYJ.out.2 (fun h=>h)) (fun h=>h))⟩)
      have HOBF:Hid (∀ q,(Value.slice va' vl' vc').ownBlock=some q→wc.heap.size≤q):=jh (fun q hq=>by
       rcases o3 with e|e
       ·exact HOB.out q (e ▸ hq)
       ·rw [e] at hq
        have:=Option.some.inj hq
        have h1:=HCJ.out.size
        have h2:=HWD.out.size
        have h3:=HWE.out.size
        omega)
      have HCGF:=jh ((HCJ.out.trans (HWD.out.any.trans HWE.out.any)).trans (hf2.mono (T:=fun k=>k=bs∨wc.heap.size≤k) (fun k _ e=>e.imp id (fun e=>HOB.out k e))))
      have HSL:=jh (hs (by decide))
      clear hf1 hf2 hf3 o1 o2 o3 hs
      (try go_simp)
      refine hK _ ?_
      clear hK K
      (refine late_turn (i:=25) (by kernel_rfl) rfl rfl fun K hK=>?_;apply Exists.intro;apply Exists.intro;refine⟨?_,?_,?_⟩;(go_simp;try first|with_reducible rfl|exact⟨rfl,rfl⟩);(exact fun _=>HSL.out);(try go_simp);refine hK _ _ ?_;clear hK K)
      (refine late_store (i:=26) (by kernel_rfl) rfl rfl fun K hK=>?_;apply Exists.intro;refine⟨?_,(fun h=>absurd h (by decide)),?_⟩;(go_simp;try first|with_reducible rfl|exact⟨rfl,rfl⟩);(try go_simp);refine hK _ _ ?_;clear hK K)
      refine late_done (by kernel_rfl) ?_ _
      clear k1 k2
      go_wp2
      go_roundw
      case rel=>exact⟨j+1,_,by omega,by go_num,by rw [List.take_add_one,HXE.out];exact HFF.out,HYF.out,HOBF.out,HCGF.out⟩
      case measure=>simp [intOf];omega
     ·obtain rfl:j=es.length:=by omega
      have hb10:decide ((es.length:Int)<(es.length:Int))=false:=by simp
      have HMF:Hid (Mk dLsE (bR' w.heap.size dLsR) br bo 0 wr (.slice va vl vc) (A.take i)):=jh (HM.out.chg (bR'.good dLsR.good) HCX.out (fun _ h=>h))
      obtain⟨Y,y1,y2,y3⟩:=HMF.out.ex
      have HOY:=jh y1
      have HLY:=jh y2
      have HRY:=jh y3
      have HBY:Hid (bo+1≤wr.heap.size):=jh HMF.out.lt
      have HYL:Hid (Y.length≤1000000000):=jh (by have:=HAL.out;rw [y2,List.length_take];omega)
      obtain⟨hul,hli⟩:=HMJ.out.list eqR.good (Nat.le_refl _)
      rw [List.take_of_length_le (Nat.le_refl _)] at hul hli
      subst hul
      have s0:=HMF.out.c
      have sj:=HMJ.out.c
      obtain⟨s1,s2⟩:=HYJ.out
      have HEL:Hid (dLeE.InS wr (fun k=>wo.heap.size≤k) (ua,es.length,uc) es):=jh (by
       obtain⟨X,h1,h2,h3⟩:=HMJ.out.ex
       rw [List.take_of_length_le (Nat.le_refl _)] at h2 h3
       have hXe:X=es:=List.ext_getElem h2 (fun j hx hl=>h3 j _ _ (List.getElem?_eq_getElem hx) (List.getElem?_eq_getElem hl))
       subst hXe
       obtain⟨a',g,c',e1,e2,e3,e4⟩:=h1.at'
       injection e1 with e1 e5 e6
       subst e1 e6
       exact⟨rfl,e2,g,0,e3,fun hp=>⟨(e4 hp).1,by have:=(e4 hp).2;have:=HBS.out;omega⟩⟩)
      have HDL:Hid (intE.InS wr (fun k=>wo.heap.size≤k) (ca',ds.length,cc') ds):=jh (by
       obtain⟨h1,h2,g,o,h3,h4⟩:=HLN.out.al
       have hx:intE.InS wr (fun k=>wo.heap.size≤k∧k≠bs∧k<wc.heap.size) (ca',ds.length,cc') ds:=by
        refine Elt.InS.chg ⟨h1,h2,g,o,h3,fun hp=>⟨(h4 hp).1,(h4 hp).2.1,(h4 hp).2.2,h3.lt (List.length_pos_iff.1 hp)⟩⟩ HCJ.out (fun g hg e=>?_)
        rcases e with e|e
        ·exact hg.2.1 e
        ·omega
       exact hx.mono (fun _ _ h=>h.1))
      have HRB:Hid (I.Byte k):=jh (by obtain⟨h1,h2⟩:=HRE.out.1;exact⟨by show -9223372036854775808≤k;omega,by show k≤9223372036854775807;omega⟩)
      have HOKS:Hid (∀ x∈[((k,(ca',ds.length,cc'),(ua,es.length,uc)):Int × Sl × Sl)],dLsE.ok x):=jh (fun x hx=>by
       rw [List.mem_singleton.1 hx];exact HRB.out)
      have HSS:Hid (∀ X,Chg (fun _=>False) wr X→bR' w.heap.size dLsR X (fun q=>(q≠bo∧q≠br)∧(Value.slice va vl vc).ownBlock≠some q) (k,(ca',ds.length,cc'),(ua,es.length,uc)) (k,ds,es)):=jh (fun X hx=>by
       have hB:=HBN.out
       have hBo:=HBO.out
       refine⟨rfl,HRB.out,(HDL.out.chg hx (fun _ _ h=>h)).mono (fun q _ hq=>⟨⟨⟨by omega,by omega⟩,fun e=>?_⟩,by omega⟩),(HEL.out.chg hx (fun _ _ h=>h)).mono (fun q _ hq=>⟨⟨⟨by omega,by omega⟩,fun e=>?_⟩,by omega⟩)⟩
       ·obtain⟨Y',g1,-⟩:=HM.out.ex
        have:=(g1.blk e).2;omega
       ·obtain⟨Y',g1,-⟩:=HM.out.ex
        have:=(g1.blk e).2;omega)
      clear y1 y2 y3 hli q1 q2
      go_wp2_with (at_builtin;refine Elt.wpList_append2 dLsE rfl _ _ 77 77 rfl rfl (bo+1) (.slice va vl vc) Y [((k,(ca',ds.length,cc'),(ua,es.length,uc)):Int × Sl × Sl)] (.slice (some ⟨wr.heap.size,0,none⟩) 1 1) rfl rfl (HOY.out.chg ((Chg.refl (fun _=>False) _).alloc _) (fun _ _ _ h=>h)) (by have:=HBY.out;simp;omega) (Elt.srcLit dLsE (w:=wr) (Y:=[((k,(ca',ds.length,cc'),(ua,es.length,uc)):Int × Sl × Sl)]) (e:=145) 1 HOKS.out) HOKS.out (by have:=HYL.out;simp;omega) ?_;intro v' wb HO2 HC4 HB2;obtain⟨va',vl',vc',hv'⟩:=HO2.out.shape3;subst hv';obtain⟨⟨k1,k2⟩,hf1,hf2,hf3⟩:=Mk.step (bR'.good dLsR.good) (d:=((k,ds,es):LsD)) HMF.out HLY.out HRY.out (fun q hq=>by have:=HOY.out.blk hq;omega) ((Chg.refl (fun _=>False) wr).alloc _) (HSS.out _ ((Chg.refl (fun _=>False) wr).alloc _)) HO2.out HB2.out.1 HB2.out.2;have HFF:=jh hf1;have HCG:=jh hf2;clear hf1 hf2 hf3)
      have HCF2:=jh ((HC.out.trans (HCX.out.mono (T:=fun k=>bo≤k) (fun k _ e=>by have:=HBO.out;omega))).trans2 HCG.out (fun q hq e=>by
       rcases e with e|e
       ·omega
       ·have:=(HOY.out.blk e).1;omega))
      clear s0 s1 s2 sj q0 q3
      go_wp2
      go_roundw
      case rel=>exact⟨i+1,_,by omega,by go_num,by rw [List.take_add_one,HX.out];exact HFF.out,HCF2.out⟩
      case measure=>simp [intOf];omega
  ·obtain rfl:i=A.length:=by omega
   have hb9:decide ((A.length:Int)<(A.length:Int))=false:=by simp
   have HMF:=HM.out
   rw [List.take_of_length_le (Nat.le_refl _)] at HMF
   obtain⟨hul,hli⟩:=HMF.fresh dLsR.good (by have:=HBN.out;omega) (by have:=HBN.out;omega)
   subst hul
   have s0:=HMF.c
   have HLI:=jh hli
   have u0:wo.cell? ⟨br,0,none⟩=some (.slice none 0 0):=HC.out.cellS HR0.out (by have:=HBN.out;show ¬ bo≤br;omega)
   have z0:wo.frozen? ⟨br,0,none⟩=false:=(HC.out.frozen (p:=⟨br,0,none⟩) (by have:=World.block_lt_of_cell? _ _ HR0.out;exact this) (by have:=HBN.out;show ¬ bo≤br;omega)).trans HRZ.out
   obtain⟨wf,hwf⟩:∃ X,X=wo.setCell ⟨br,0,none⟩ (.slice va A.length vc):=⟨_,rfl⟩
   have t3:Chg (·=br) wo wf:=by rw [hwf];exact setCellChg _ _ _ _
   have v0:wf.cell? ⟨br,0,none⟩=some (.slice va A.length vc):=by rw [hwf];exact World.cell?_setCell_same _ _ _ u0
   have HCF:Hid (Chg (fun k=>w.heap.size≤k) w wf):=jh (HCW.out.trans (t3.mono (fun k _ e=>by have:=HBN.out;omega)))
   have HDI:Hid (dAutoR wf (fun k=>w.heap.size≤k) (va,A.length,vc) A):=jh ((ListR.good dLsR.good).mono ((ListR.good dLsR.good).chg HLI.out t3 (fun g hg e=>hg.2.2 e)) (fun g _ hg=>hg.1))
   have HWF:=jh hwf
   clear hwf t3 hli HMF
   go_wp2
   rw [← HWF.out]
   exact bodyPost_ret (v:=.agg #[.slice va A.length vc]) (by simp [results,Tryz.results24,go_sem,v0]) rfl ⟨(va,A.length,vc),rfl,HDI.out,HCF.out.fresh⟩
end Go.Proofs.YtgnpmceimpjheaaGreat
