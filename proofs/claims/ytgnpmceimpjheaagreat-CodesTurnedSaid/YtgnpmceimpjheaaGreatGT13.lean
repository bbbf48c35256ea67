/- A part of the proof: OthD GreN OpenB OpenI OpenT9 GreT EncD. -/
import Derived.Test.YtgnpmceimpjheaaGreatGT12
import Derived.Test.YtgnpmceimpjheaaGreatGT11
import Derived.Test.YtgnpmceimpjheaaGreatGT1
import Derived.Test.YtgnpmceimpjheaaGreatGT3
import Derived.Test.YtgnpmceimpjheaaGreatGT4
import Derived.ProofKit
import Derived.OpenShut
import Derived.ShutString
import Derived.ChangeOld
import Derived.Deep.Slices
import Derived.Deep.Fields
import Derived.SizedLaws
import Derived.Deep.Matrix
set_option maxRecDepth 100000
set_option maxHeartbeats 16000000
namespace Go.Proofs.YtgnpmceimpjheaaGreat
open Go.RowKit
structure DocNew (w0 x:World) (bo:Nat) (L:List Value) (mn:NetS) (n:NetD):Prop where
 lo:w0.heap.size≤bo
 c:∀ j v,L[j]?=some v→x.cell? ⟨bo,j,none⟩=some v
 z:x.frozen? ⟨bo,12,none⟩=false
 nt:DNetIn x (fun q=>q≠bo∧q+1≠w0.heap.size) mn n
 ch:Chg (fun _=>False) w0 x
theorem DocNew.of {w0 x x':World} {bo:Nat} {L:List Value} {mn:NetS} {n:NetD} (hL:L.length=13) (hc:Chg (fun _=>False) w0 x) (hlo:w0.heap.size≤bo) (y:∀ j,j<13→x.cell? ⟨bo,j,none⟩=some (.slice none 0 0)) (z:∀ j,x.frozen? ⟨bo,j,none⟩=false) (hn:DNetIn x (fun q=>q≠bo∧q+1≠w0.heap.size) mn n)
  (hx:x'=setAll bo 0 L x):DocNew w0 x' bo L mn n:=by
 obtain⟨k1,-,k3,k4⟩:=setAll_spec bo L 0 x (fun j hj=>by
  rw [Nat.zero_add,y j (by omega)];rfl)
 rw [← hx] at k1 k3 k4
 exact⟨hlo,fun j v hv=>by have:=k1 j v hv;rwa [Nat.zero_add] at this,(k4 _).trans (z 12),DNetIn.good.chg hn k3 (fun g hg e=>hg.1 e),hc.trans2 k3 (fun k hk e=>by omega)⟩
theorem DNetIn.len {w:World} {S:Nat→Prop} {m:NetS} {n:NetD} (h:DNetIn w S m n):∃ b7 d7 b8 d8 b9 d9 b10 d10 b11 d11,m=⟨(b7,n.st.length,d7),(b8,n.s.length,d8),(b9,n.p.length,d9),(b10,n.q.length,d10),(b11,n.d.length,d11)⟩:=by
 obtain⟨⟨b7,k7,d7⟩,⟨b8,k8,d8⟩,⟨b9,k9,d9⟩,⟨b10,k10,d10⟩,⟨b11,k11,d11⟩⟩:=m
 obtain⟨h1,h2,h3,h4,h5⟩:=h
 obtain⟨rfl,-⟩:=h1.len
 obtain⟨rfl,-⟩:=h2.len
 obtain⟨rfl,-⟩:=h3.len
 obtain⟨rfl,-⟩:=h4.len
 obtain⟨rfl,-⟩:=h5.len
 exact⟨_,_,_,_,_,_,_,_,_,_,rfl⟩
theorem other_tabs (t:TabsD) (m:TabsS) (S:Nat→Prop) (w:World) (h:TabsIn w S m t) (hf:FairTabs t) :
  Calls Tryz.prog 9 #[tabsV m] w fun e w'=>∃ m',e=.returned (tabsV m')∧DocIn w' (fun _=>True) m' t∧Chg (fun _=>False) w w':=by
 obtain⟨⟨a0,n0,c0⟩,⟨a1,n1,c1⟩,⟨a2,n2,c2⟩,⟨⟨a3,n3,c3⟩,⟨a4,n4,c4⟩,⟨a5,n5,c5⟩,⟨a6,n6,c6⟩⟩,⟨⟨a7,n7,c7⟩,⟨a8,n8,c8⟩,⟨a9,n9,c9⟩,⟨a10,n10,c10⟩,⟨a11,n11,c11⟩⟩,⟨a12,n12,c12⟩⟩:=m
 have h':=TabsIn.good.mono h (S':=(·<w.heap.size)) (fun _ hg _=>hg)
 obtain⟨h0,h1,h2,⟨h3,h4,h5,h6⟩,⟨h7,h8,h9,h10,h11⟩,h12⟩:=h
 obtain⟨rfl,-⟩:=h0.len
 obtain⟨rfl,-⟩:=h1.len
 obtain⟨rfl,-⟩:=h2.len
 obtain⟨rfl,-⟩:=h3.len
 obtain⟨rfl,-⟩:=h4.len
 obtain⟨rfl,-⟩:=h5.len
 obtain⟨rfl,-⟩:=h6.len
 obtain⟨rfl,-⟩:=h7.len
 obtain⟨rfl,-⟩:=h8.len
 obtain⟨rfl,-⟩:=h9.len
 obtain⟨rfl,-⟩:=h10.len
 obtain⟨rfl,-⟩:=h11.len
 obtain⟨rfl,-⟩:=h12.len
 clear h0 h1 h2 h3 h4 h5 h6 h7 h8 h9 h10 h11 h12
 have HF:=jh hf
 have HAL:Hid (t.lk.length≤1000000000):=jh hf.lk
 obtain⟨w0,hw0⟩:∃ W,W=(w.alloc (.cells #[.slice a0 t.rl.length c0,.slice a1 t.tk.length c1,.slice a2 t.dr.length c2,.slice a3 t.lx.r.length c3,.slice a4 t.lx.c.length c4,.slice a5 t.lx.n.length c5,.slice a6 t.lx.e.length c6,.slice a7 t.nt.st.length c7,.slice a8 t.nt.s.length c8,.slice a9 t.nt.p.length c9,.slice a10 t.nt.q.length c10,.slice a11 t.nt.d.length c11,.slice a12 t.lk.length c12] 34)).alloc (.cells #[.slice none 0 0,.slice none 0 0,.slice none 0 0,.slice none 0 0,.slice none 0 0,.slice none 0 0,.slice none 0 0,.slice none 0 0,.slice none 0 0,.slice none 0 0,.slice none 0 0,.slice none 0 0,.slice none 0 0] 43):=⟨_,rfl⟩
 have hC0:Chg (fun _=>False) w w0:=by rw [hw0];exact ((Chg.refl _ w).alloc _).alloc _
 have hs0:w0.heap.size=w.heap.size+2:=by rw [hw0];simp
 obtain⟨br,hbr⟩:∃ b,b=w.heap.size+1:=⟨_,rfl⟩
 have HBN:Hid (br=w.heap.size+1∧w0.heap.size=w.heap.size+2):=jh ⟨hbr,hs0⟩
 have HN0:Hid (∀ j v,([.slice a0 t.rl.length c0,.slice a1 t.tk.length c1,.slice a2 t.dr.length c2,.slice a3 t.lx.r.length c3,.slice a4 t.lx.c.length c4,.slice a5 t.lx.n.length c5,.slice a6 t.lx.e.length c6,.slice a7 t.nt.st.length c7,.slice a8 t.nt.s.length c8,.slice a9 t.nt.p.length c9,.slice a10 t.nt.q.length c10,.slice a11 t.nt.d.length c11,.slice a12 t.lk.length c12]:List Value)[j]?=some v→w0.cell? ⟨w.heap.size,j,none⟩=some v):=jh (fun j v hv=>by
  rw [hw0];exact allocOld _ (allocAt _ rfl (by rw [← Array.getElem?_toList];exact hv)))
 have HR0:Hid (∀ j,j<13→w0.cell? ⟨br,j,none⟩=some (.slice none 0 0)):=jh (fun j hj=>by
  rw [hw0,hbr]
  exact allocAt _ (by simp) (by rcases (by omega:j=0∨j=1∨j=2∨j=3∨j=4∨j=5∨j=6∨j=7∨j=8∨j=9∨j=10∨j=11∨j=12) with rfl|rfl|rfl|rfl|rfl|rfl|rfl|rfl|rfl|rfl|rfl|rfl|rfl <;> rfl))
 have HRZ:Hid (∀ j,w0.frozen? ⟨br,j,none⟩=false):=jh (fun j=>by
  have e:br=(w.alloc (.cells #[.slice a0 t.rl.length c0,.slice a1 t.tk.length c1,.slice a2 t.dr.length c2,.slice a3 t.lx.r.length c3,.slice a4 t.lx.c.length c4,.slice a5 t.lx.n.length c5,.slice a6 t.lx.e.length c6,.slice a7 t.nt.st.length c7,.slice a8 t.nt.s.length c8,.slice a9 t.nt.p.length c9,.slice a10 t.nt.q.length c10,.slice a11 t.nt.d.length c11,.slice a12 t.lk.length c12] 34)).heap.size:=by rw [hbr];simp
  rw [hw0,e]
  exact World.frozen?_alloc_new _ _ _ _)
 have HC0:=jh hC0
 have HIN:Hid (∀ X,Chg (fun k=>w.heap.size≤k) w X→TabsIn X (·<w.heap.size) ⟨(a0,t.rl.length,c0),(a1,t.tk.length,c1),(a2,t.dr.length,c2),⟨(a3,t.lx.r.length,c3),(a4,t.lx.c.length,c4),(a5,t.lx.n.length,c5),(a6,t.lx.e.length,c6)⟩,⟨(a7,t.nt.st.length,c7),(a8,t.nt.s.length,c8),(a9,t.nt.p.length,c9),(a10,t.nt.q.length,c10),(a11,t.nt.d.length,c11)⟩,(a12,t.lk.length,c12)⟩ t):=jh (fun X hx=>TabsIn.good.chg h' hx (fun g hg e=>by omega))
 clear h' hf
 show Calls Tryz.prog 9 #[.agg #[.slice a0 t.rl.length c0,.slice a1 t.tk.length c1,.slice a2 t.dr.length c2,.slice a3 t.lx.r.length c3,.slice a4 t.lx.c.length c4,.slice a5 t.lx.n.length c5,.slice a6 t.lx.e.length c6,.slice a7 t.nt.st.length c7,.slice a8 t.nt.s.length c8,.slice a9 t.nt.p.length c9,.slice a10 t.nt.q.length c10,.slice a11 t.nt.d.length c11,.slice a12 t.lk.length c12]] w _
 go_enter Tryz.func9,Tryz.ntmps9
 go_upto_region 1 with (fail)
 rw [← hw0,← hbr]
 clear hw0 hbr hC0 hs0
 go_cut [3] (fun s3 w'=>∃ (bo:Nat) (b7:Option Addr) (d7:Nat) (b8:Option Addr) (d8:Nat) (b9:Option Addr) (d9:Nat) (b10:Option Addr) (d10:Nat) (b11:Option Addr) (d11:Nat),s3=.pointer (some ⟨bo,0,none⟩)∧DocNew w0 w' bo [.slice a0 t.rl.length c0,.slice a1 t.tk.length c1,.slice a2 t.dr.length c2,.slice a3 t.lx.r.length c3,.slice a4 t.lx.c.length c4,.slice a5 t.lx.n.length c5,.slice a6 t.lx.e.length c6,.slice b7 t.nt.st.length d7,.slice b8 t.nt.s.length d8,.slice b9 t.nt.p.length d9,.slice b10 t.nt.q.length d10,.slice b11 t.nt.d.length d11,.slice none 0 0] ⟨(b7,t.nt.st.length,d7),(b8,t.nt.s.length,d8),(b9,t.nt.p.length,d9),(b10,t.nt.q.length,d10),(b11,t.nt.d.length,d11)⟩ t.nt)
 case first =>
  obtain⟨wd,hwd⟩:∃ X,w0.drew=X:=⟨_,rfl⟩
  have HWD:Hid (Chg (fun _=>False) w0 wd):=jh (by rw [← hwd];exact (Chg.refl _ _).drew)
  refine wp_region_late (fun x=>Chg (fun _=>False) wd x) (fun i=>decide (i=14)) (by kernel_rfl) ?_
  show wpAnyL _ _ _ _ _ _ 15 (Array.replicate 15 false) _ w0.drew
  rw [hwd]
  clear hwd
  have HSS:Hid (Chg (fun _=>False) wd wd):=jh (Chg.refl _ _)
  have HQ:Hid (∀ x,Chg (fun _=>False) wd x→∀ j v,([.slice a0 t.rl.length c0,.slice a1 t.tk.length c1,.slice a2 t.dr.length c2,.slice a3 t.lx.r.length c3,.slice a4 t.lx.c.length c4,.slice a5 t.lx.n.length c5,.slice a6 t.lx.e.length c6,.slice a7 t.nt.st.length c7,.slice a8 t.nt.s.length c8,.slice a9 t.nt.p.length c9,.slice a10 t.nt.q.length c10,.slice a11 t.nt.d.length c11,.slice a12 t.lk.length c12]:List Value)[j]?=some v→x.cell? ⟨w.heap.size,j,none⟩=some v):=jh (fun x hx j v hv=>(HWD.out.trans hx).cellS (HN0.out j v hv) (fun h=>h))
  have HINX:Hid (∀ x,Chg (fun _=>False) wd x→NetIn x (·<w.heap.size) ⟨(a7,t.nt.st.length,c7),(a8,t.nt.s.length,c8),(a9,t.nt.p.length,c9),(a10,t.nt.q.length,c10),(a11,t.nt.d.length,c11)⟩ t.nt):=jh (fun x hx=>(HIN.out x ((HC0.out.trans HWD.out).trans hx).any).nt)
  have HFN:Hid (FairN t.nt):=jh HF.out.nt
  have HLEX:Hid (∀ x,Calls Tryz.prog 22 #[.agg #[.slice a3 t.lx.r.length c3,.slice a4 t.lx.c.length c4,.slice a5 t.lx.n.length c5,.slice a6 t.lx.e.length c6]] x fun e w'=>e=.returned (.agg #[.slice a3 t.lx.r.length c3,.slice a4 t.lx.c.length c4,.slice a5 t.lx.n.length c5,.slice a6 t.lx.e.length c6])∧Chg (fun _=>False) x w'):=jh (fun x=>otherLex_any _ _ _ _ _ _ _ _ _ _ _ _ x)
  have HNET:Hid (∀ x,Chg (fun _=>False) wd x→Calls Tryz.prog 23 #[.agg #[.slice a7 t.nt.st.length c7,.slice a8 t.nt.s.length c8,.slice a9 t.nt.p.length c9,.slice a10 t.nt.q.length c10,.slice a11 t.nt.d.length c11]] x fun e w'=>∃ b7 d7 b8 d8 b9 d9 b10 d10 b11 d11,e=.returned (.agg #[.slice b7 t.nt.st.length d7,.slice b8 t.nt.s.length d8,.slice b9 t.nt.p.length d9,.slice b10 t.nt.q.length d10,.slice b11 t.nt.d.length d11])∧DNetIn w' (fun k=>k<w.heap.size∨x.heap.size≤k) ⟨(b7,t.nt.st.length,d7),(b8,t.nt.s.length,d8),(b9,t.nt.p.length,d9),(b10,t.nt.q.length,d10),(b11,t.nt.d.length,d11)⟩ t.nt∧Chg (fun _=>False) x w'):=jh (fun x hx=>(otherNet_any t.nt ⟨(a7,t.nt.st.length,c7),(a8,t.nt.s.length,c8),(a9,t.nt.p.length,c9),(a10,t.nt.q.length,c10),(a11,t.nt.d.length,c11)⟩ (·<w.heap.size) x (HINX.out x hx) HFN.out).mono (by
   rintro e w' ⟨m',rfl,hd,hc⟩
   obtain⟨b7,d7,b8,d8,b9,d9,b10,d10,b11,d11,rfl⟩:=hd.len
   exact⟨b7,d7,b8,d8,b9,d9,b10,d10,b11,d11,rfl,hd,hc⟩))
  (refine lrd 0 HSS.out fun K hK=>?_;apply ei;intro w' hC;(go_simp;try with_reducible rfl);(try go_simp);refine hK _ ?_;clear hK K)
  (refine lrd 1 HSS.out fun K hK=>?_;apply ei;intro w' hC;((have r0:=HQ.out _ hC 0 _ rfl);go_simp;try with_reducible rfl);(try go_simp);refine hK _ ?_;clear hK K)
  (refine lrd 2 HSS.out fun K hK=>?_;apply ei;intro w' hC;(go_simp;try with_reducible rfl);(try go_simp);refine hK _ ?_;clear hK K)
  (refine lrd 3 HSS.out fun K hK=>?_;apply ei;intro w' hC;((have r1:=HQ.out _ hC 1 _ rfl);go_simp;try with_reducible rfl);(try go_simp);refine hK _ ?_;clear hK K)
  (refine lrd 4 HSS.out fun K hK=>?_;apply ei;intro w' hC;(go_simp;try with_reducible rfl);(try go_simp);refine hK _ ?_;clear hK K)
  (refine lrd 5 HSS.out fun K hK=>?_;apply ei;intro w' hC;((have r2:=HQ.out _ hC 2 _ rfl);go_simp;try with_reducible rfl);(try go_simp);refine hK _ ?_;clear hK K)
  (refine lrd 6 HSS.out fun K hK=>?_;apply ei;intro w' hC;(go_simp;try with_reducible rfl);(try go_simp);refine hK _ ?_;clear hK K)
  (refine lrd 7 HSS.out fun K hK=>?_;apply ei;intro w' hC;((have r3:=HQ.out _ hC 3 _ rfl;have r4:=HQ.out _ hC 4 _ rfl;have r5:=HQ.out _ hC 5 _ rfl;have r6:=HQ.out _ hC 6 _ rfl);go_simp;try with_reducible rfl);(try go_simp);refine hK _ ?_;clear hK K)
  (refine lrd 9 HSS.out fun K hK=>?_;apply ei;intro w' hC;(go_simp;try with_reducible rfl);(try go_simp);refine hK _ ?_;clear hK K)
  (refine lrd 10 HSS.out fun K hK=>?_;apply ei;intro w' hC;((have r7:=HQ.out _ hC 7 _ rfl;have r8:=HQ.out _ hC 8 _ rfl;have r9:=HQ.out _ hC 9 _ rfl;have r10:=HQ.out _ hC 10 _ rfl;have r11:=HQ.out _ hC 11 _ rfl);go_simp;try with_reducible rfl);(try go_simp);refine hK _ ?_;clear hK K)
  refine late_call_or (i:=8) (j:=13) (by kernel_rfl) rfl rfl rfl rfl 22 #[.agg #[.slice a3 t.lx.r.length c3,.slice a4 t.lx.c.length c4,.slice a5 t.lx.n.length c5,.slice a6 t.lx.e.length c6]] (fun v x'=>v=.agg #[.slice a3 t.lx.r.length c3,.slice a4 t.lx.c.length c4,.slice a5 t.lx.n.length c5,.slice a6 t.lx.e.length c6]∧Chg (fun _=>False) wd x') (by go_simp) ?_ ?_ ?_
  ·exact (HLEX.out wd).mono (by rintro e x' ⟨rfl,hc⟩;exact⟨_,rfl,fun _=>hc,rfl,hc⟩)
  ·rintro v x1 hs ⟨rfl,hc⟩ K hK
   have HX1:=jh hc
   clear hc hs
   (try go_simp)
   refine hK _ ?_
   clear hK K
   have HSS:=HX1
   refine late_call_or (i:=11) (j:=13) (by kernel_rfl) rfl rfl rfl rfl 23 #[.agg #[.slice a7 t.nt.st.length c7,.slice a8 t.nt.s.length c8,.slice a9 t.nt.p.length c9,.slice a10 t.nt.q.length c10,.slice a11 t.nt.d.length c11]] (fun v x'=>∃ b7 d7 b8 d8 b9 d9 b10 d10 b11 d11,v=.agg #[.slice b7 t.nt.st.length d7,.slice b8 t.nt.s.length d8,.slice b9 t.nt.p.length d9,.slice b10 t.nt.q.length d10,.slice b11 t.nt.d.length d11]∧DNetIn x' (fun k=>k<w.heap.size∨x1.heap.size≤k) ⟨(b7,t.nt.st.length,d7),(b8,t.nt.s.length,d8),(b9,t.nt.p.length,d9),(b10,t.nt.q.length,d10),(b11,t.nt.d.length,d11)⟩ t.nt∧Chg (fun _=>False) x1 x') (by go_simp) ?_ ?_ ?_
   ·exact (HNET.out x1 HX1.out).mono (by rintro e x' ⟨b7,d7,b8,d8,b9,d9,b10,d10,b11,d11,rfl,hd,hc⟩;exact⟨_,rfl,fun _=>HX1.out.trans hc,b7,d7,b8,d8,b9,d9,b10,d10,b11,d11,rfl,hd,hc⟩)
   ·rintro v x2 hs ⟨b7,d7,b8,d8,b9,d9,b10,d10,b11,d11,rfl,hd,hc⟩ K hK
    have H2D:=jh hd
    have H2C:=jh hc
    have H2X:Hid (Chg (fun _=>False) wd x2):=jh (HX1.out.trans hc)
    clear hd hc hs
    (try go_simp)
    refine hK _ ?_
    clear hK K
    have HSS:=H2X
    (refine lrd 12 HSS.out fun K hK=>?_;apply ei;intro w' hC;(go_simp;try with_reducible rfl);(try go_simp);refine hK _ ?_;clear hK K)
    (refine late_turn (i:=13) (by kernel_rfl) rfl rfl fun K hK=>?_;apply Exists.intro;apply Exists.intro;refine⟨?_,?_,?_⟩;(go_simp;try first|with_reducible rfl|exact⟨rfl,rfl⟩);(exact fun _=>H2X.out.alloc _);(try go_simp);refine hK _ _ ?_;clear hK K)
    obtain⟨x3,hn⟩:∃ X,x2.alloc (.cells #[.slice none 0 0,.slice none 0 0,.slice none 0 0,.slice none 0 0,.slice none 0 0,.slice none 0 0,.slice none 0 0,.slice none 0 0,.slice none 0 0,.slice none 0 0,.slice none 0 0,.slice none 0 0,.slice none 0 0] 43)=X:=⟨_,rfl⟩
    have H3:Hid (Chg (fun _=>False) wd x3∧x3.heap.size=x2.heap.size+1):=jh (by rw [← hn];exact⟨H2X.out.alloc _,by simp⟩)
    have H3N:Hid (Chg (fun q=>x2.heap.size≤q) x2 x3):=jh (by rw [← hn];exact (Chg.refl _ _).alloc _)
    obtain⟨bo,hbo⟩:∃ b,b=x2.heap.size:=⟨_,rfl⟩
    have HBO:Hid (bo=x2.heap.size∧wd.heap.size≤bo):=jh ⟨hbo,by have:=H2X.out.size;omega⟩
    have HYY:Hid ((∀ j,j<13→x3.cell? ⟨bo,j,none⟩=some (.slice none 0 0))∧∀ j,x3.frozen? ⟨bo,j,none⟩=false):=jh (by
     rw [← hn,hbo]
     exact⟨fun j hj=>allocAt _ rfl (by rcases (by omega:j=0∨j=1∨j=2∨j=3∨j=4∨j=5∨j=6∨j=7∨j=8∨j=9∨j=10∨j=11∨j=12) with rfl|rfl|rfl|rfl|rfl|rfl|rfl|rfl|rfl|rfl|rfl|rfl|rfl <;> rfl),fun j=>World.frozen?_alloc_new _ _ _ _⟩)
    rw [hn,← hbo]
    clear hn hbo
    have hy:=HYY.out.1
    have hz:=HYY.out.2
    have HDN:Hid (DNetIn x3 (fun q=>q≠bo∧q+1≠w0.heap.size) ⟨(b7,t.nt.st.length,d7),(b8,t.nt.s.length,d8),(b9,t.nt.p.length,d9),(b10,t.nt.q.length,d10),(b11,t.nt.d.length,d11)⟩ t.nt):=jh (by
     have h1:=DNetIn.good.mono H2D.out (S':=fun q=>q<x2.heap.size∧q+1≠w0.heap.size) (fun g hg hs=>⟨hg,by have:=HBN.out;have:=HWD.out.size;have:=HX1.out.size;omega⟩)
     have h2:=DNetIn.good.chg h1 (T:=fun q=>x2.heap.size≤q) (w':=x3) (by have:=H3N.out;exact this) (fun g hg e=>by omega)
     exact DNetIn.good.mono h2 (fun g _ hg=>by have:=HBO.out.1;omega))
    obtain⟨xf,hxf⟩:∃ X,X=setAll bo 0 [.slice a0 t.rl.length c0,.slice a1 t.tk.length c1,.slice a2 t.dr.length c2,.slice a3 t.lx.r.length c3,.slice a4 t.lx.c.length c4,.slice a5 t.lx.n.length c5,.slice a6 t.lx.e.length c6,.slice b7 t.nt.st.length d7,.slice b8 t.nt.s.length d8,.slice b9 t.nt.p.length d9,.slice b10 t.nt.q.length d10,.slice b11 t.nt.d.length d11,.slice none 0 0] x3:=⟨_,rfl⟩
    have HLN:Hid (DocNew w0 xf bo [.slice a0 t.rl.length c0,.slice a1 t.tk.length c1,.slice a2 t.dr.length c2,.slice a3 t.lx.r.length c3,.slice a4 t.lx.c.length c4,.slice a5 t.lx.n.length c5,.slice a6 t.lx.e.length c6,.slice b7 t.nt.st.length d7,.slice b8 t.nt.s.length d8,.slice b9 t.nt.p.length d9,.slice b10 t.nt.q.length d10,.slice b11 t.nt.d.length d11,.slice none 0 0] ⟨(b7,t.nt.st.length,d7),(b8,t.nt.s.length,d8),(b9,t.nt.p.length,d9),(b10,t.nt.q.length,d10),(b11,t.nt.d.length,d11)⟩ t.nt):=jh (DocNew.of rfl (HWD.out.trans H3.out.1) (by have:=HWD.out.size;have:=HBO.out;omega) hy hz HDN.out hxf)
    simp only [setAll,Nat.zero_add,Nat.reduceAdd] at hxf
    have HXF:=jh hxf
    have y0:=hy 0 (by decide)
    have z0:=hz 0
    have y1:=hy 1 (by decide)
    have z1:=hz 1
    have y2:=hy 2 (by decide)
    have z2:=hz 2
    have y3:=hy 3 (by decide)
    have z3:=hz 3
    have y4:=hy 4 (by decide)
    have z4:=hz 4
    have y5:=hy 5 (by decide)
    have z5:=hz 5
    have y6:=hy 6 (by decide)
    have z6:=hz 6
    have y7:=hy 7 (by decide)
    have z7:=hz 7
    have y8:=hy 8 (by decide)
    have z8:=hz 8
    have y9:=hy 9 (by decide)
    have z9:=hz 9
    have y10:=hy 10 (by decide)
    have z10:=hz 10
    have y11:=hy 11 (by decide)
    have z11:=hz 11
    have y12:=hy 12 (by decide)
    have z12:=hz 12
    clear hxf hy hz
    (refine late_store (i:=14) (by kernel_rfl) rfl rfl fun K hK=>?_;apply Exists.intro;refine⟨?_,(fun h=>absurd h (by decide)),?_⟩;(go_simp;try first|with_reducible rfl|exact⟨rfl,rfl⟩);(try go_simp);refine hK _ _ ?_;clear hK K)
    refine late_done (by kernel_rfl) ?_ _
    rw [← HXF.out]
    clear y0 z0 y1 z1 y2 z2 y3 z3 y4 z4 y5 z5 y6 z6 y7 z7 y8 z8 y9 z9 y10 z10 y11 z11 y12 z12
    go_wp2
    go_meet
    exact⟨bo,b7,d7,b8,d8,b9,d9,b10,d10,b11,d11,rfl,HLN.out⟩
   ·intro K hK
    apply Exists.intro
    apply Exists.intro
    refine⟨?_,?_,?_⟩
    (go_simp;try first|with_reducible rfl|exact⟨rfl,rfl⟩)
    exact fun _=>HX1.out.alloc _
    (try go_simp)
    refine hK _ _ ?_
    clear hK K
    obtain⟨x2,hn⟩:∃ X,x1.alloc (.cells #[.slice none 0 0,.slice none 0 0,.slice none 0 0,.slice none 0 0,.slice none 0 0,.slice none 0 0,.slice none 0 0,.slice none 0 0,.slice none 0 0,.slice none 0 0,.slice none 0 0,.slice none 0 0,.slice none 0 0] 43)=X:=⟨_,rfl⟩
    have H2:Hid (Chg (fun _=>False) wd x2∧x2.heap.size=x1.heap.size+1):=jh (by rw [← hn];exact⟨HX1.out.alloc _,by simp⟩)
    obtain⟨bo,hbo⟩:∃ b,b=x1.heap.size:=⟨_,rfl⟩
    have HBO:Hid (bo=x1.heap.size∧wd.heap.size≤bo):=jh ⟨hbo,by have:=HX1.out.size;omega⟩
    have HYY:Hid ((∀ j,j<13→x2.cell? ⟨bo,j,none⟩=some (.slice none 0 0))∧∀ j,x2.frozen? ⟨bo,j,none⟩=false):=jh (by
     rw [← hn,hbo]
     exact⟨fun j hj=>allocAt _ rfl (by rcases (by omega:j=0∨j=1∨j=2∨j=3∨j=4∨j=5∨j=6∨j=7∨j=8∨j=9∨j=10∨j=11∨j=12) with rfl|rfl|rfl|rfl|rfl|rfl|rfl|rfl|rfl|rfl|rfl|rfl|rfl <;> rfl),fun j=>World.frozen?_alloc_new _ _ _ _⟩)
    rw [hn,← hbo]
    clear hn hbo
    have HSS:Hid (Chg (fun _=>False) wd x2):=jh H2.out.1
    refine late_call (i:=11) (by kernel_rfl) rfl rfl 23 #[.agg #[.slice a7 t.nt.st.length c7,.slice a8 t.nt.s.length c8,.slice a9 t.nt.p.length c9,.slice a10 t.nt.q.length c10,.slice a11 t.nt.d.length c11]] (fun v x'=>∃ b7 d7 b8 d8 b9 d9 b10 d10 b11 d11,v=.agg #[.slice b7 t.nt.st.length d7,.slice b8 t.nt.s.length d8,.slice b9 t.nt.p.length d9,.slice b10 t.nt.q.length d10,.slice b11 t.nt.d.length d11]∧DNetIn x' (fun k=>k<w.heap.size∨x2.heap.size≤k) ⟨(b7,t.nt.st.length,d7),(b8,t.nt.s.length,d8),(b9,t.nt.p.length,d9),(b10,t.nt.q.length,d10),(b11,t.nt.d.length,d11)⟩ t.nt∧Chg (fun _=>False) x2 x') (by go_simp) ?_ ?_
    ·exact (HNET.out x2 H2.out.1).mono (by rintro e x' ⟨b7,d7,b8,d8,b9,d9,b10,d10,b11,d11,rfl,hd,hc⟩;exact⟨_,rfl,fun _=>H2.out.1.trans hc,b7,d7,b8,d8,b9,d9,b10,d10,b11,d11,rfl,hd,hc⟩)
    rintro v x3 hs ⟨b7,d7,b8,d8,b9,d9,b10,d10,b11,d11,rfl,hd,hc⟩ K hK
    have H3D:=jh hd
    have H3C:=jh hc
    have H3X:Hid (Chg (fun _=>False) wd x3):=jh (H2.out.1.trans hc)
    clear hd hc hs
    (try go_simp)
    refine hK _ ?_
    clear hK K
    have hy:∀ j,j<13→x3.cell? ⟨bo,j,none⟩=some (.slice none 0 0):=fun j hj=>(H3C.out).cellS (HYY.out.1 j hj) (fun h=>h)
    have hz:∀ j,x3.frozen? ⟨bo,j,none⟩=false:=fun j=>((H3C.out).frozen (p:=⟨bo,j,none⟩) (by have:=World.block_lt_of_cell? _ _ (HYY.out.1 0 (by decide));exact this) (fun h=>h)).trans (HYY.out.2 j)
    have HDN:Hid (DNetIn x3 (fun q=>q≠bo∧q+1≠w0.heap.size) ⟨(b7,t.nt.st.length,d7),(b8,t.nt.s.length,d8),(b9,t.nt.p.length,d9),(b10,t.nt.q.length,d10),(b11,t.nt.d.length,d11)⟩ t.nt):=jh (DNetIn.good.mono H3D.out (fun g _ hg=>by have:=HBO.out;have:=H2.out.2;have:=HWD.out.size;have:=HBN.out;omega))
    have HSS:=H3X
    (refine lrd 12 HSS.out fun K hK=>?_;apply ei;intro w' hC;(go_simp;try with_reducible rfl);(try go_simp);refine hK _ ?_;clear hK K)
    obtain⟨xf,hxf⟩:∃ X,X=setAll bo 0 [.slice a0 t.rl.length c0,.slice a1 t.tk.length c1,.slice a2 t.dr.length c2,.slice a3 t.lx.r.length c3,.slice a4 t.lx.c.length c4,.slice a5 t.lx.n.length c5,.slice a6 t.lx.e.length c6,.slice b7 t.nt.st.length d7,.slice b8 t.nt.s.length d8,.slice b9 t.nt.p.length d9,.slice b10 t.nt.q.length d10,.slice b11 t.nt.d.length d11,.slice none 0 0] x3:=⟨_,rfl⟩
    have HLN:Hid (DocNew w0 xf bo [.slice a0 t.rl.length c0,.slice a1 t.tk.length c1,.slice a2 t.dr.length c2,.slice a3 t.lx.r.length c3,.slice a4 t.lx.c.length c4,.slice a5 t.lx.n.length c5,.slice a6 t.lx.e.length c6,.slice b7 t.nt.st.length d7,.slice b8 t.nt.s.length d8,.slice b9 t.nt.p.length d9,.slice b10 t.nt.q.length d10,.slice b11 t.nt.d.length d11,.slice none 0 0] ⟨(b7,t.nt.st.length,d7),(b8,t.nt.s.length,d8),(b9,t.nt.p.length,d9),(b10,t.nt.q.length,d10),(b11,t.nt.d.length,d11)⟩ t.nt):=jh (DocNew.of rfl (HWD.out.trans H3X.out) (by have:=HWD.out.size;have:=HBO.out;omega) hy hz HDN.out hxf)
    simp only [setAll,Nat.zero_add,Nat.reduceAdd] at hxf
    have HXF:=jh hxf
    have y0:=hy 0 (by decide)
    have z0:=hz 0
    have y1:=hy 1 (by decide)
    have z1:=hz 1
    have y2:=hy 2 (by decide)
    have z2:=hz 2
    have y3:=hy 3 (by decide)
    have z3:=hz 3
    have y4:=hy 4 (by decide)
    have z4:=hz 4
    have y5:=hy 5 (by decide)
    have z5:=hz 5
    have y6:=hy 6 (by decide)
    have z6:=hz 6
    have y7:=hy 7 (by decide)
    have z7:=hz 7
    have y8:=hy 8 (by decide)
    have z8:=hz 8
    have y9:=hy 9 (by decide)
    have z9:=hz 9
    have y10:=hy 10 (by decide)
    have z10:=hz 10
    have y11:=hy 11 (by decide)
    have z11:=hz 11
    have y12:=hy 12 (by decide)
    have z12:=hz 12
    clear hxf hy hz
    (refine late_store (i:=14) (by kernel_rfl) rfl rfl fun K hK=>?_;apply Exists.intro;refine⟨?_,(fun h=>absurd h (by decide)),?_⟩;(go_simp;try first|with_reducible rfl|exact⟨rfl,rfl⟩);(try go_simp);refine hK _ _ ?_;clear hK K)
    refine late_done (by kernel_rfl) ?_ _
    rw [← HXF.out]
    clear y0 z0 y1 z1 y2 z2 y3 z3 y4 z4 y5 z5 y6 z6 y7 z7 y8 z8 y9 z9 y10 z10 y11 z11 y12 z12
    go_wp2
    go_meet
    exact⟨bo,b7,d7,b8,d8,b9,d9,b10,d10,b11,d11,rfl,HLN.out⟩
  ·intro K hK
   apply Exists.intro
   apply Exists.intro
   refine⟨?_,?_,?_⟩
   (go_simp;try first|with_reducible rfl|exact⟨rfl,rfl⟩)
   exact fun _=>(Chg.refl _ _).alloc _
   (try go_simp)
   refine hK _ _ ?_
   clear hK K
   obtain⟨x1,hn⟩:∃ X,wd.alloc (.cells #[.slice none 0 0,.slice none 0 0,.slice none 0 0,.slice none 0 0,.slice none 0 0,.slice none 0 0,.slice none 0 0,.slice none 0 0,.slice none 0 0,.slice none 0 0,.slice none 0 0,.slice none 0 0,.slice none 0 0] 43)=X:=⟨_,rfl⟩
   have H1:Hid (Chg (fun _=>False) wd x1∧x1.heap.size=wd.heap.size+1):=jh (by rw [← hn];exact⟨(Chg.refl (fun _=>False) wd).alloc _,by simp⟩)
   obtain⟨bo,hbo⟩:∃ b,b=wd.heap.size:=⟨_,rfl⟩
   have HBO:Hid (bo=wd.heap.size∧wd.heap.size≤bo):=jh ⟨hbo,by have:=(Chg.refl (fun _=>False) wd).size;omega⟩
   have HYY:Hid ((∀ j,j<13→x1.cell? ⟨bo,j,none⟩=some (.slice none 0 0))∧∀ j,x1.frozen? ⟨bo,j,none⟩=false):=jh (by
    rw [← hn,hbo]
    exact⟨fun j hj=>allocAt _ rfl (by rcases (by omega:j=0∨j=1∨j=2∨j=3∨j=4∨j=5∨j=6∨j=7∨j=8∨j=9∨j=10∨j=11∨j=12) with rfl|rfl|rfl|rfl|rfl|rfl|rfl|rfl|rfl|rfl|rfl|rfl|rfl <;> rfl),fun j=>World.frozen?_alloc_new _ _ _ _⟩)
   rw [hn,← hbo]
   clear hn hbo
   refine late_call (i:=8) (by kernel_rfl) rfl rfl 22 #[.agg #[.slice a3 t.lx.r.length c3,.slice a4 t.lx.c.length c4,.slice a5 t.lx.n.length c5,.slice a6 t.lx.e.length c6]] (fun v x'=>v=.agg #[.slice a3 t.lx.r.length c3,.slice a4 t.lx.c.length c4,.slice a5 t.lx.n.length c5,.slice a6 t.lx.e.length c6]∧Chg (fun _=>False) x1 x') (by go_simp) ?_ ?_
   ·exact (HLEX.out x1).mono (by rintro e x' ⟨rfl,hc⟩;exact⟨_,rfl,fun _=>H1.out.1.trans hc,rfl,hc⟩)
   rintro v x2 hs ⟨rfl,hc⟩ K hK
   have H2X:Hid (Chg (fun _=>False) wd x2):=jh (H1.out.1.trans hc)
   have H2C:=jh hc
   clear hc hs
   (try go_simp)
   refine hK _ ?_
   clear hK K
   have HSS:=H2X
   refine late_call (i:=11) (by kernel_rfl) rfl rfl 23 #[.agg #[.slice a7 t.nt.st.length c7,.slice a8 t.nt.s.length c8,.slice a9 t.nt.p.length c9,.slice a10 t.nt.q.length c10,.slice a11 t.nt.d.length c11]] (fun v x'=>∃ b7 d7 b8 d8 b9 d9 b10 d10 b11 d11,v=.agg #[.slice b7 t.nt.st.length d7,.slice b8 t.nt.s.length d8,.slice b9 t.nt.p.length d9,.slice b10 t.nt.q.length d10,.slice b11 t.nt.d.length d11]∧DNetIn x' (fun k=>k<w.heap.size∨x2.heap.size≤k) ⟨(b7,t.nt.st.length,d7),(b8,t.nt.s.length,d8),(b9,t.nt.p.length,d9),(b10,t.nt.q.length,d10),(b11,t.nt.d.length,d11)⟩ t.nt∧Chg (fun _=>False) x2 x') (by go_simp) ?_ ?_
   ·exact (HNET.out x2 H2X.out).mono (by rintro e x' ⟨b7,d7,b8,d8,b9,d9,b10,d10,b11,d11,rfl,hd,hc⟩;exact⟨_,rfl,fun _=>H2X.out.trans hc,b7,d7,b8,d8,b9,d9,b10,d10,b11,d11,rfl,hd,hc⟩)
   rintro v x3 hs ⟨b7,d7,b8,d8,b9,d9,b10,d10,b11,d11,rfl,hd,hc⟩ K hK
   have H3D:=jh hd
   have H3C:=jh hc
   have H3X:Hid (Chg (fun _=>False) wd x3):=jh (H2X.out.trans hc)
   clear hd hc hs
   (try go_simp)
   refine hK _ ?_
   clear hK K
   have hy:∀ j,j<13→x3.cell? ⟨bo,j,none⟩=some (.slice none 0 0):=fun j hj=>(H2C.out.trans H3C.out).cellS (HYY.out.1 j hj) (fun h=>h)
   have hz:∀ j,x3.frozen? ⟨bo,j,none⟩=false:=fun j=>((H2C.out.trans H3C.out).frozen (p:=⟨bo,j,none⟩) (by have:=World.block_lt_of_cell? _ _ (HYY.out.1 0 (by decide));exact this) (fun h=>h)).trans (HYY.out.2 j)
   have HDN:Hid (DNetIn x3 (fun q=>q≠bo∧q+1≠w0.heap.size) ⟨(b7,t.nt.st.length,d7),(b8,t.nt.s.length,d8),(b9,t.nt.p.length,d9),(b10,t.nt.q.length,d10),(b11,t.nt.d.length,d11)⟩ t.nt):=jh (DNetIn.good.mono H3D.out (fun g _ hg=>by have:=HBO.out;have:=H1.out.2;have:=H2C.out.size;have:=HWD.out.size;have:=HBN.out;omega))
   have HSS:=H3X
   (refine lrd 12 HSS.out fun K hK=>?_;apply ei;intro w' hC;(go_simp;try with_reducible rfl);(try go_simp);refine hK _ ?_;clear hK K)
   obtain⟨xf,hxf⟩:∃ X,X=setAll bo 0 [.slice a0 t.rl.length c0,.slice a1 t.tk.length c1,.slice a2 t.dr.length c2,.slice a3 t.lx.r.length c3,.slice a4 t.lx.c.length c4,.slice a5 t.lx.n.length c5,.slice a6 t.lx.e.length c6,.slice b7 t.nt.st.length d7,.slice b8 t.nt.s.length d8,.slice b9 t.nt.p.length d9,.slice b10 t.nt.q.length d10,.slice b11 t.nt.d.length d11,.slice none 0 0] x3:=⟨_,rfl⟩
   have HLN:Hid (DocNew w0 xf bo [.slice a0 t.rl.length c0,.slice a1 t.tk.length c1,.slice a2 t.dr.length c2,.slice a3 t.lx.r.length c3,.slice a4 t.lx.c.length c4,.slice a5 t.lx.n.length c5,.slice a6 t.lx.e.length c6,.slice b7 t.nt.st.length d7,.slice b8 t.nt.s.length d8,.slice b9 t.nt.p.length d9,.slice b10 t.nt.q.length d10,.slice b11 t.nt.d.length d11,.slice none 0 0] ⟨(b7,t.nt.st.length,d7),(b8,t.nt.s.length,d8),(b9,t.nt.p.length,d9),(b10,t.nt.q.length,d10),(b11,t.nt.d.length,d11)⟩ t.nt):=jh (DocNew.of rfl (HWD.out.trans H3X.out) (by have:=HWD.out.size;have:=HBO.out;omega) hy hz HDN.out hxf)
   simp only [setAll,Nat.zero_add,Nat.reduceAdd] at hxf
   have HXF:=jh hxf
   have y0:=hy 0 (by decide)
   have z0:=hz 0
   have y1:=hy 1 (by decide)
   have z1:=hz 1
   have y2:=hy 2 (by decide)
   have z2:=hz 2
   have y3:=hy 3 (by decide)
   have z3:=hz 3
   have y4:=hy 4 (by decide)
   have z4:=hz 4
   have y5:=hy 5 (by decide)
   have z5:=hz 5
   have y6:=hy 6 (by decide)
   have z6:=hz 6
   have y7:=hy 7 (by decide)
   have z7:=hz 7
   have y8:=hy 8 (by decide)
   have z8:=hz 8
   have y9:=hy 9 (by decide)
   have z9:=hz 9
   have y10:=hy 10 (by decide)
   have z10:=hz 10
   have y11:=hy 11 (by decide)
   have z11:=hz 11
   have y12:=hy 12 (by decide)
   have z12:=hz 12
   clear hxf hy hz
   (refine late_store (i:=14) (by kernel_rfl) rfl rfl fun K hK=>?_;apply Exists.intro;refine⟨?_,(fun h=>absurd h (by decide)),?_⟩;(go_simp;try first|with_reducible rfl|exact⟨rfl,rfl⟩);(try go_simp);refine hK _ _ ?_;clear hK K)
   refine late_done (by kernel_rfl) ?_ _
   rw [← HXF.out]
   clear y0 z0 y1 z1 y2 z2 y3 z3 y4 z4 y5 z5 y6 z6 y7 z7 y8 z8 y9 z9 y10 z10 y11 z11 y12 z12
   go_wp2
   go_meet
   exact⟨bo,b7,d7,b8,d8,b9,d9,b10,d10,b11,d11,rfl,HLN.out⟩
 case rest =>
  obtain⟨bo,b7,d7,b8,d8,b9,d9,b10,d10,b11,d11,rfl,hln⟩:=hcut
  have HLN:=jh hln
  have HBO:Hid (w0.heap.size≤bo∧bo<wc.heap.size):=jh ⟨hln.lo,World.block_lt_of_cell? _ _ (hln.c 0 _ rfl)⟩
  have HCW:Hid (Chg (fun _=>False) w wc):=jh (HC0.out.trans hln.ch)
  have HM0:Hid (Mk dAutoE dAutoR br bo 12 wc (.slice none 0 0) []):=jh ⟨hln.c 12 _ rfl,hln.z,[],.nil _ _,rfl,fun j x d hx=>by simp at hx⟩
  have HP:Hid (∀ X,Chg (fun k=>k=bo∨wc.heap.size≤k) wc X→X.cell? ⟨w.heap.size,12,none⟩=some (.slice a12 t.lk.length c12)):=jh (fun X hx=>hx.cellS (HLN.out.ch.cellS (HN0.out 12 _ rfl) (fun h=>h)) (by
   have h1:=HBO.out;have h2:=HBN.out;have h3:=HLN.out.ch.size
   rintro (e|e)
   ·have e:w.heap.size=bo:=e
    omega
   ·have e:wc.heap.size≤w.heap.size:=e
    omega))
  clear hln
  go_upto_region 3 with (fail)
  go_loopw [4] (fun q wr=>∃ (i:Nat) (v:Value),i≤t.lk.length∧q=.int .i64 i∧Mk dAutoE dAutoR br bo 12 wr v (t.lk.take i)∧(∀ j u,([.slice a0 t.rl.length c0,.slice a1 t.tk.length c1,.slice a2 t.dr.length c2,.slice a3 t.lx.r.length c3,.slice a4 t.lx.c.length c4,.slice a5 t.lx.n.length c5,.slice a6 t.lx.e.length c6,.slice b7 t.nt.st.length d7,.slice b8 t.nt.s.length d8,.slice b9 t.nt.p.length d9,.slice b10 t.nt.q.length d10,.slice b11 t.nt.d.length d11,.slice none 0 0]:List Value)[j]?=some u→j≠12→wr.cell? ⟨bo,j,none⟩=some u)∧(∀ q,v.ownBlock=some q→wc.heap.size≤q)∧Chg (fun k=>k=bo∨wc.heap.size≤k) wc wr) (fun q _=>t.lk.length-(intOf q).toNat)
  case atStart=>exact⟨0,_,by omega,rfl,HM0.out,fun j u hu _=>HLN.out.c j u hu,fun q hq=>(by cases hq),Chg.refl _ _⟩
  case round =>
   clear HM0
   obtain⟨i,v,hi,rfl,hm,ho,hob,hc⟩:=hrel
   have HM:=jh hm
   have HO:=jh ho
   have HOB:=jh hob
   have HC:=jh hc
   obtain⟨va,vl,vc,rfl⟩:=hm.own
   have HCX:Hid (Chg (fun k=>w.heap.size≤k) w wr):=jh (HCW.out.any.trans (hc.mono (fun k _ e=>by have:=HBO.out;have:=HBN.out;have:=HCW.out.size;omega)))
   have p0:=HP.out wr hc
   have f_lk:=HAL.out
   clear hm ho hob hc
   by_cases hil:i<t.lk.length
   ·have hb9:decide ((i:Int)<(t.lk.length:Int))=true:=by simp;omega
    obtain⟨⟨ua,un,uc⟩,A,gx,ox,hx,har,rfl,hgx,-,cx⟩:=(HIN.out _ HCX.out).lk.get1 (f:=slV) rfl hil (fun _=>rfl)
    obtain⟨rfl,-⟩:un=A.length∧un≤uc:=by obtain⟨X,h1,h2,-⟩:=har;exact⟨by have:=h1.1;simp only at this;omega,h1.2.1⟩
    simp only [slV] at cx
    have HX:=jh hx
    have HAR:=jh har
    have HFA:=jh (HF.out.la A (List.mem_of_getElem? hx))
    have HCX0:Hid (wr.cell? ⟨gx,ox+i,none⟩=some (.slice ua A.length uc)∧gx<w.heap.size):=jh ⟨cx,hgx⟩
    clear hx har hgx cx
    go_upto_region 5 with (fail)
    clear p0
    obtain⟨wd,hwd⟩:∃ X,wr.drew=X:=⟨_,rfl⟩
    have HWD:Hid (Chg (fun _=>False) wr wd):=jh (by rw [← hwd];exact (Chg.refl _ _).drew)
    refine wp_region_late (fun x=>Chg (fun q=>(Value.slice va vl vc).ownBlock=some q) wd x) (fun i=>decide (i=11)) (by kernel_rfl) ?_
    show wpAnyL _ _ _ _ _ _ 12 (Array.replicate 12 false) _ wr.drew
    rw [hwd]
    clear hwd
    have HSS:Hid (Chg (fun q=>(Value.slice va vl vc).ownBlock=some q) wd wd):=jh (Chg.refl _ _)
    have HMD:=jh (HM.out.chg dAutoR.good HWD.out (fun _ h=>h.elim))
    obtain⟨X,h1,h2,h3⟩:=HMD.out.ex
    have HO1:=jh h1
    have HL1:=jh h2
    have HR1:=jh h3
    have HXL:Hid (X.length≤1000000000):=jh (by have:=HAL.out;rw [h2,List.length_take];omega)
    clear h1 h2 h3
    have HQ:Hid (∀ x,Chg (fun q=>(Value.slice va vl vc).ownBlock=some q) wd x→x.cell? ⟨w.heap.size,12,none⟩=some (.slice (some ⟨gx,ox,none⟩) t.lk.length c12)∧x.cell? ⟨gx,ox+i,none⟩=some (.slice ua A.length uc)∧x.cell? ⟨bo,12,none⟩=some (.slice va vl vc)):=jh (fun x hx=>by
     have h1:Chg (fun q=>wc.heap.size≤q) wr x:=HWD.out.any.trans (hx.mono (fun q _ e=>HOB.out q e))
     have hgx:=HCX0.out.2
     have hb:=HBO.out
     have hw:=HCW.out.size
     exact⟨HP.out x (HC.out.trans (h1.mono (fun q _ e=>.inr e))),h1.cellS HCX0.out.1 (by show ¬ wc.heap.size≤gx;omega),h1.cellS HM.out.c (by show ¬ wc.heap.size≤bo;omega)⟩)
    (refine lrd 0 HSS.out fun K hK=>?_;apply ei;intro w' hC;(go_simp;try with_reducible rfl);(try go_simp);refine hK _ ?_;clear hK K)
    (refine lrd 1 HSS.out fun K hK=>?_;apply ei;intro w' hC;((obtain⟨z1,z2,z3⟩:=HQ.out _ hC);go_simp;try with_reducible rfl);(try go_simp);refine hK _ ?_;clear hK K)
    (refine lrd 2 HSS.out fun K hK=>?_;apply ei;intro w' hC;(go_simp;try with_reducible rfl);(try go_simp);refine hK _ ?_;clear hK K)
    (refine lrd 3 HSS.out fun K hK=>?_;apply ei;intro w' hC;((obtain⟨z1,z2,z3⟩:=HQ.out _ hC);go_simp;try with_reducible rfl);(try go_simp);refine hK _ ?_;clear hK K)
    (refine lrd 4 HSS.out fun K hK=>?_;apply ei;intro w' hC;(go_simp;try with_reducible rfl);(try go_simp);refine hK _ ?_;clear hK K)
    (refine lrd 5 HSS.out fun K hK=>?_;apply ei;intro w' hC;(go_simp;try with_reducible rfl);(try go_simp);refine hK _ ?_;clear hK K)
    (refine lrd 6 HSS.out fun K hK=>?_;apply ei;intro w' hC;((obtain⟨z1,z2,z3⟩:=HQ.out _ hC);go_simp;try with_reducible rfl);(try go_simp);refine hK _ ?_;clear hK K)
    have HCALL:Hid (Calls Tryz.prog 24 #[.agg #[.slice ua A.length uc]] wd fun e w'=>∃ a n c,e=.returned (.agg #[.slice a n c])∧dAutoR w' (fun k=>wd.heap.size≤k) (a,n,c) A∧Chg (fun _=>False) wd w'):=jh ((otherLook_any A ua uc (·<w.heap.size) wd (autoR.good.chg HAR.out HWD.out (fun _ _ h=>h)) HFA.out.1 HFA.out.2).mono (by
     rintro e w' ⟨⟨a,n,c⟩,rfl,h1,h2⟩
     exact⟨a,n,c,rfl,h1,h2⟩))
    refine late_call (i:=7) (by kernel_rfl) rfl rfl 24 #[.agg #[.slice ua A.length uc]] (fun v w'=>∃ a n c,v=.agg #[.slice a n c]∧dAutoR w' (fun k=>wd.heap.size≤k) (a,n,c) A∧Chg (fun _=>False) wd w') (by go_simp) ?_ ?_
    ·exact HCALL.out.mono (by rintro e x' ⟨a,n,c,rfl,h1,h2⟩;exact⟨_,rfl,fun _=>h2.any,a,n,c,rfl,h1,h2⟩)
    rintro v x1 hs ⟨sa,sn,sc,rfl,hd,hc⟩ K hK
    have HD:=jh hd
    have HX1:=jh hc
    clear hd hc hs
    (try go_simp)
    refine hK _ ?_
    clear hK K
    (refine late_turn (i:=8) (by kernel_rfl) rfl rfl fun K hK=>?_;apply Exists.intro;apply Exists.intro;refine⟨?_,?_,?_⟩;(go_simp;try first|with_reducible rfl|exact⟨rfl,rfl⟩);(exact fun _=>(HX1.out.any).alloc _);(try go_simp);refine hK _ _ ?_;clear hK K)
    obtain⟨we,hwe⟩:∃ X,X=x1.alloc (.cells #[.slice sa sn sc] 79):=⟨_,rfl⟩
    have HWE:Hid (Chg (fun _=>False) wd we∧Chg (fun _=>False) x1 we):=jh (by rw [hwe];exact⟨HX1.out.alloc _,(Chg.refl _ _).alloc _⟩)
    have HSRC:Hid (Src Tryz.prog dAutoE.sz dAutoE.sl (.slice (some ⟨x1.heap.size,0,none⟩) 1 1) 1 (dAutoE.encs [((sa,sn,sc):Sl)]) we):=jh (by rw [hwe];exact dAutoE.srcLit (Y:=[((sa,sn,sc):Sl)]) 1 (fun _ _=>trivial))
    have HME:=jh (HMD.out.chg dAutoR.good HWE.out.1 (fun _ h=>h.elim))
    have HOE:=jh (HO1.out.chg HWE.out.1 (fun _ _ _ h=>h))
    have HB1:Hid (bo+1≤we.heap.size):=jh HME.out.lt
    have HRD:Hid (dAutoR we (fun q=>(q≠bo∧q≠br)∧(Value.slice va vl vc).ownBlock≠some q) (sa,sn,sc) A):=jh (dAutoR.good.mono (dAutoR.good.chg HD.out HWE.out.2 (fun _ _ h=>h)) (fun g _ hg=>by
     have h1:=HMD.out.lt
     have h2:=HBO.out
     have h3:=HBN.out
     refine⟨⟨by omega,by omega⟩,fun e=>?_⟩
     have:=(HO1.out.blk e).2
     omega))
    rw [← hwe]
    clear hwe
    refine late_append (i:=9) (by kernel_rfl) rfl rfl (.tmp 26) (.tmp 33) 41 41 rfl (.slice va vl vc) (.slice (some ⟨x1.heap.size,0,none⟩) 1 1) rfl rfl (fun v' wb=>dAutoE.Own wb (bo+1) v' (X++[((sa,sn,sc):Sl)])∧(Chg (fun k=>(Value.slice va vl vc).ownBlock=some k) we wb∧(v'.ownBlock=(Value.slice va vl vc).ownBlock∨v'.ownBlock=some we.heap.size))) ?_ ?_
    ·obtain⟨v',wb,hrun,h1,-,h4,-⟩:=HOE.out.append HB1.out 41 (.slice (some ⟨x1.heap.size,0,none⟩) 1 1) [((sa,sn,sc):Sl)] HSRC.out (fun _ _=>trivial) (by have:=HXL.out;simp;omega) 41
     exact⟨v',wb,hrun,fun _=>HWE.out.1.any.trans h4.1,h1,h4⟩
    rintro v' wb hs ⟨o1,o2,o3⟩ K hK
    obtain⟨va',vl',vc',hv'⟩:=o1.shape3
    subst hv'
    obtain⟨⟨k1,k2⟩,hf1,hf2,hf3⟩:=Mk.step dAutoR.good (d:=(A:List LsD)) HME.out HL1.out (fun j x d hx hd=>dAutoR.good.chg (HR1.out j x d hx hd) HWE.out.1 (fun _ _ h=>h)) (fun k hk=>by have:=HOE.out.blk hk;omega) (Chg.refl (fun _=>False) we) HRD.out o1 o2 o3
    have HFF:=jh hf1
    have HOF:=jh (fun (j:Nat) (u:Value) (hu:([.slice a0 t.rl.length c0,.slice a1 t.tk.length c1,.slice a2 t.dr.length c2,.slice a3 t.lx.r.length c3,.slice a4 t.lx.c.length c4,.slice a5 t.lx.n.length c5,.slice a6 t.lx.e.length c6,.slice b7 t.nt.st.length d7,.slice b8 t.nt.s.length d8,.slice b9 t.nt.p.length d9,.slice b10 t.nt.q.length d10,.slice b11 t.nt.d.length d11,.slice none 0 0]:List Value)[j]?=some u) (hj:j≠12)=>hf3 j u hj (HWE.out.1.cellS (HWD.out.cellS (HO.out j u hu hj) (fun h=>h)) (fun h=>h)))
    have HOBF:Hid (∀ q,(Value.slice va' vl' vc').ownBlock=some q→wc.heap.size≤q):=jh (fun q hq=>by
     rcases o3 with e|e
     ·exact HOB.out q (e ▸ hq)
     ·rw [e] at hq
      have:=Option.some.inj hq
      have h1:=HC.out.size
      have h2:=HWD.out.size
      have h3:=HWE.out.1.size
      omega)
    have HCGF:=jh ((HC.out.trans (HWD.out.any.trans HWE.out.1.any)).trans (hf2.mono (T:=fun k=>k=bo∨wc.heap.size≤k) (fun k _ e=>e.imp id (fun e=>HOB.out k e))))
    have HSL:=jh (hs (by decide))
    clear hf1 hf2 hf3 o1 o2 o3 hs
    (try go_simp)
    refine hK _ ?_
    clear hK K
    (refine late_turn (i:=10) (by kernel_rfl) rfl rfl fun K hK=>?_;apply Exists.intro;apply Exists.intro;refine⟨?_,?_,?_⟩;(go_simp;try first|with_reducible rfl|exact⟨rfl,rfl⟩);(exact fun _=>HSL.out);(try go_simp);refine hK _ _ ?_;clear hK K)
    (refine late_store (i:=11) (by kernel_rfl) rfl rfl fun K hK=>?_;apply Exists.intro;refine⟨?_,(fun h=>absurd h (by decide)),?_⟩;(go_simp;try first|with_reducible rfl|exact⟨rfl,rfl⟩);(try go_simp);refine hK _ _ ?_;clear hK K)
    refine late_done (by kernel_rfl) ?_ _
    clear k1 k2
    go_wp2
    go_roundw
    case rel=>exact⟨i+1,_,by omega,by go_num,by rw [List.take_add_one,HX.out];exact HFF.out,HOF.out,HOBF.out,HCGF.out⟩
    case measure=>simp [intOf];omega
   ·obtain rfl:i=t.lk.length:=by omega
    have hb9:decide ((t.lk.length:Int)<(t.lk.length:Int))=false:=by simp
    have HMF:=HM.out
    rw [List.take_of_length_le (Nat.le_refl _)] at HMF
    obtain⟨hul,hli⟩:=HMF.list dAutoR.good (by have:=HBN.out;have:=HBO.out;omega)
    subst hul
    have s12:=HMF.c
    have HLI:=jh hli
    have s0:=HO.out 0 _ rfl (by decide)
    have s1:=HO.out 1 _ rfl (by decide)
    have s2:=HO.out 2 _ rfl (by decide)
    have s3:=HO.out 3 _ rfl (by decide)
    have s4:=HO.out 4 _ rfl (by decide)
    have s5:=HO.out 5 _ rfl (by decide)
    have s6:=HO.out 6 _ rfl (by decide)
    have s7:=HO.out 7 _ rfl (by decide)
    have s8:=HO.out 8 _ rfl (by decide)
    have s9:=HO.out 9 _ rfl (by decide)
    have s10:=HO.out 10 _ rfl (by decide)
    have s11:=HO.out 11 _ rfl (by decide)
    have hr:∀ j,j<13→wr.cell? ⟨br,j,none⟩=some (.slice none 0 0):=fun j hj=>HC.out.cellS (HLN.out.ch.cellS (HR0.out j hj) (fun h=>h)) (by
     have h1:=HBO.out;have h2:=HBN.out;have h3:=HLN.out.ch.size
     rintro (e|e)
     ·have e:br=bo:=e
      omega
     ·have e:wc.heap.size≤br:=e
      omega)
    have hz:∀ j,wr.frozen? ⟨br,j,none⟩=false:=fun j=>(HC.out.frozen (p:=⟨br,j,none⟩) (by have h2:=HBN.out;have h3:=HLN.out.ch.size;show br<wc.heap.size;omega) (by
     have h1:=HBO.out;have h2:=HBN.out;have h3:=HLN.out.ch.size
     rintro (e|e)
     ·have e:br=bo:=e
      omega
     ·have e:wc.heap.size≤br:=e
      omega)).trans ((HLN.out.ch.frozen (p:=⟨br,j,none⟩) (by have h2:=HBN.out;show br<w0.heap.size;omega) (fun h=>h)).trans (HRZ.out j))
    have u0:=hr 0 (by decide)
    have z0:=hz 0
    have u1:=hr 1 (by decide)
    have z1:=hz 1
    have u2:=hr 2 (by decide)
    have z2:=hz 2
    have u3:=hr 3 (by decide)
    have z3:=hz 3
    have u4:=hr 4 (by decide)
    have z4:=hz 4
    have u5:=hr 5 (by decide)
    have z5:=hz 5
    have u6:=hr 6 (by decide)
    have z6:=hz 6
    have u7:=hr 7 (by decide)
    have z7:=hz 7
    have u8:=hr 8 (by decide)
    have z8:=hz 8
    have u9:=hr 9 (by decide)
    have z9:=hz 9
    have u10:=hr 10 (by decide)
    have z10:=hz 10
    have u11:=hr 11 (by decide)
    have z11:=hz 11
    have u12:=hr 12 (by decide)
    have z12:=hz 12
    obtain⟨wf,hwf⟩:∃ X,X=setAll br 0 [.slice a0 t.rl.length c0,.slice a1 t.tk.length c1,.slice a2 t.dr.length c2,.slice a3 t.lx.r.length c3,.slice a4 t.lx.c.length c4,.slice a5 t.lx.n.length c5,.slice a6 t.lx.e.length c6,.slice b7 t.nt.st.length d7,.slice b8 t.nt.s.length d8,.slice b9 t.nt.p.length d9,.slice b10 t.nt.q.length d10,.slice b11 t.nt.d.length d11,.slice va t.lk.length vc] wr:=⟨_,rfl⟩
    obtain⟨t1,-,t3,-⟩:=setAll_spec br [.slice a0 t.rl.length c0,.slice a1 t.tk.length c1,.slice a2 t.dr.length c2,.slice a3 t.lx.r.length c3,.slice a4 t.lx.c.length c4,.slice a5 t.lx.n.length c5,.slice a6 t.lx.e.length c6,.slice b7 t.nt.st.length d7,.slice b8 t.nt.s.length d8,.slice b9 t.nt.p.length d9,.slice b10 t.nt.q.length d10,.slice b11 t.nt.d.length d11,.slice va t.lk.length vc] 0 wr (fun j hj=>by
     rw [Nat.zero_add,hr j hj];rfl)
    rw [← hwf] at t1 t3
    have HCF:Hid (Chg (fun k=>w.heap.size≤k) w wf):=jh (HCX.out.trans (t3.mono (fun k _ e=>by have:=HBN.out;omega)))
    have HDI:Hid (DocIn wf (fun _=>True) ⟨(a0,t.rl.length,c0),(a1,t.tk.length,c1),(a2,t.dr.length,c2),⟨(a3,t.lx.r.length,c3),(a4,t.lx.c.length,c4),(a5,t.lx.n.length,c5),(a6,t.lx.e.length,c6)⟩,⟨(b7,t.nt.st.length,d7),(b8,t.nt.s.length,d8),(b9,t.nt.p.length,d9),(b10,t.nt.q.length,d10),(b11,t.nt.d.length,d11)⟩,(va,t.lk.length,vc)⟩ t):=jh (by
     have hI:=HIN.out wf HCF.out
     have hN:=DNetIn.good.mono HLN.out.nt (S':=fun g=>(g≠bo∧g+1≠w0.heap.size)∧g<wc.heap.size) (fun g h1 h2=>⟨h2,h1⟩)
     have hN2:=DNetIn.good.chg hN HC.out (fun g hg e=>by omega)
     have hNb:DNetIn wr (fun g=>g≠br) ⟨(b7,t.nt.st.length,d7),(b8,t.nt.s.length,d8),(b9,t.nt.p.length,d9),(b10,t.nt.q.length,d10),(b11,t.nt.d.length,d11)⟩ t.nt:=DNetIn.good.mono hN2 (fun g _ hg=>by have:=HBN.out;omega)
     exact⟨hI.rl.mono (fun _ _ _=>trivial),hI.tk.mono (fun _ _ _=>trivial),hI.dr.mono (fun _ _ _=>trivial),LexIn.good.mono hI.lx (fun _ _ _=>trivial),DNetIn.good.mono (DNetIn.good.chg hNb t3 (fun g hg e=>hg e)) (fun _ _ _=>trivial),(ListR.good dAutoR.good).mono ((ListR.good dAutoR.good).chg HLI.out t3 (fun g hg e=>hg.2 e)) (fun _ _ _=>trivial)⟩)
    have v0:=t1 0 _ rfl
    have v1:=t1 1 _ rfl
    have v2:=t1 2 _ rfl
    have v3:=t1 3 _ rfl
    have v4:=t1 4 _ rfl
    have v5:=t1 5 _ rfl
    have v6:=t1 6 _ rfl
    have v7:=t1 7 _ rfl
    have v8:=t1 8 _ rfl
    have v9:=t1 9 _ rfl
    have v10:=t1 10 _ rfl
    have v11:=t1 11 _ rfl
    have v12:=t1 12 _ rfl
    simp only [Nat.zero_add] at v0 v1 v2 v3 v4 v5 v6 v7 v8 v9 v10 v11 v12
    simp only [setAll,Nat.zero_add,Nat.reduceAdd] at hwf
    have HWF:=jh hwf
    clear hwf t1 t3 hr hz hli HMF
    go_wp2
    rw [← HWF.out]
    exact bodyPost_ret (v:=.agg #[.slice a0 t.rl.length c0,.slice a1 t.tk.length c1,.slice a2 t.dr.length c2,.slice a3 t.lx.r.length c3,.slice a4 t.lx.c.length c4,.slice a5 t.lx.n.length c5,.slice a6 t.lx.e.length c6,.slice b7 t.nt.st.length d7,.slice b8 t.nt.s.length d8,.slice b9 t.nt.p.length d9,.slice b10 t.nt.q.length d10,.slice b11 t.nt.d.length d11,.slice va t.lk.length vc]) (by simp [results,Tryz.results9,go_sem,v0,v1,v2,v3,v4,v5,v6,v7,v8,v9,v10,v11,v12]) rfl ⟨⟨(a0,t.rl.length,c0),(a1,t.tk.length,c1),(a2,t.dr.length,c2),⟨(a3,t.lx.r.length,c3),(a4,t.lx.c.length,c4),(a5,t.lx.n.length,c5),(a6,t.lx.e.length,c6)⟩,⟨(b7,t.nt.st.length,d7),(b8,t.nt.s.length,d8),(b9,t.nt.p.length,d9),(b10,t.nt.q.length,d10),(b11,t.nt.d.length,d11)⟩,(va,t.lk.length,vc)⟩,rfl,HDI.out,HCF.out.fresh⟩
end Go.Proofs.YtgnpmceimpjheaaGreat
namespace Go.Proofs.YtgnpmceimpjheaaGreat
open Go.RowKit
def gN (n:NetD) (k:Nat):Nat:=n.st.length+n.s.length+n.p.length+n.q.length+n.d.length+((n.st.take k).map fun s=>s.2.1.length+s.2.2.length).sum
theorem gN_zero (n:NetD):gN n 0=n.st.length+n.s.length+n.p.length+n.q.length+n.d.length:=by simp [gN]
theorem gN_step {n:NetD} {k:Nat} {s:StD} (h:n.st[k]?=some s):gN n (k+1)=gN n k+s.2.1.length+s.2.2.length:=by
 unfold gN
 rw [List.take_add_one,h]
 simp
 omega
structure VastN (n:NetD):Prop where
 st:n.st.length≤100000000000000
 s:n.s.length≤100000000000000
 p:n.p.length≤100000000000000
 q:n.q.length≤100000000000000
 d:n.d.length≤100000000000000
 e:∀ s∈n.st,s.2.1.length≤100000000000000∧s.2.2.length≤100000000000000
theorem greatN_any (n:NetD) (m:NetS) (S:Nat→Prop) (w:World) (h:NetIn w S m n) (hv:VastN n) :
  Calls Tryz.prog 21 #[netV m] w fun e w'=>∃ g,e=.returned (.bool g)∧(g=false→gN n n.st.length≤700)∧Chg (fun _=>False) w w':=by
 obtain⟨⟨sa,sn,sc⟩,⟨aa,an,ac⟩,⟨pa,pn,pc⟩,⟨qa,qn,qc⟩,⟨da,dn,dc⟩⟩:=m
 have hN:∀ X,Chg (fun _=>False) w X→NetIn X S _ n:=fun X hx=>NetIn.good.chg h hx (fun _ _ h=>h)
 obtain⟨h1,h2,h3,h4,h5⟩:=h
 obtain⟨rfl,-⟩:=h1.len
 obtain⟨rfl,-⟩:=h2.len
 obtain⟨rfl,-⟩:=h3.len
 obtain⟨rfl,-⟩:=h4.len
 obtain⟨rfl,-⟩:=h5.len
 have HN:=jh hN
 obtain⟨v1,v2,v3,v4,v5,v6⟩:=hv
 have HV:=jh v6
 have HZ:Hid (gN n 0=n.st.length+n.s.length+n.p.length+n.q.length+n.d.length):=jh (gN_zero n)
 clear h1 h2 h3 h4 h5 hN v6
 obtain⟨wa,hwa⟩:∃ x,x=w.alloc (.cells #[.slice sa n.st.length sc,.slice aa n.s.length ac,.slice pa n.p.length pc,.slice qa n.q.length qc,.slice da n.d.length dc] 31):=⟨_,rfl⟩
 have HCA:Hid (Chg (fun _=>False) w wa):=jh (by rw [hwa];exact (Chg.refl _ _).alloc _)
 have hq:∀ j v,([.slice sa n.st.length sc,.slice aa n.s.length ac,.slice pa n.p.length pc,.slice qa n.q.length qc,.slice da n.d.length dc]:List Value)[j]?=some v→wa.cell? ⟨w.heap.size,j,none⟩=some v:=fun j v hv=>by
  rw [hwa];exact allocAt _ rfl (by rw [← Array.getElem?_toList];exact hv)
 have q0:=hq 0 _ rfl
 have q1:=hq 1 _ rfl
 have q2:=hq 2 _ rfl
 have q3:=hq 3 _ rfl
 have q4:=hq 4 _ rfl
 have HQ:=jh q0
 clear hq
 show Calls Tryz.prog 21 #[.agg #[.slice sa n.st.length sc,.slice aa n.s.length ac,.slice pa n.p.length pc,.slice qa n.q.length qc,.slice da n.d.length dc]] w _
 go_enter Tryz.func21,Tryz.ntmps21
 go_upto_region 1 with (fail)
 rw [← hwa]
 clear hwa
 go_upto_region 3 with (fail)
 clear q0 q1 q2 q3 q4
 go_loopw [3,4] (fun nv q wr=>∃ k:Nat,k≤n.st.length∧q=.int .i64 k∧nv=.int .i64 (gN n k)∧gN n k≤500000000000000∧Chg (fun _=>False) wa wr) (fun _ q _=>n.st.length-(intOf q).toNat)
 case atStart=>exact⟨0,by omega,rfl,by rw [HZ.out];go_num,by rw [HZ.out];omega,Chg.refl _ _⟩
 case round =>
  obtain⟨k,hk,rfl,rfl,hx,hc⟩:=hrel
  have HC:=jh hc
  have q0:=hc.cellS HQ.out (fun h=>h)
  clear hc
  by_cases hkl:k<n.st.length
  ·have b1:decide ((k:Int)<(n.st.length:Int))=true:=by simp;omega
   by_cases hgt:gN n k≤700
   ·have d1:decide ((gN n k:Int)≤700)=true:=by simp;omega
    obtain⟨⟨x0,⟨ea,en,ec⟩,⟨ta,tn,tc⟩⟩,⟨kd,es,ds⟩,gx,ox,hx2,⟨r1,r2,r3,r4⟩,rfl,hgx,-,-,hcells⟩:=(HN.out _ (HCA.out.trans HC.out)).st.get3 (f:=encSt) rfl hkl rfl
    simp only at r1 r2 r3 r4
    subst r1
    obtain⟨rfl,-⟩:=r3.len
    obtain⟨rfl,-⟩:=r4.len
    obtain⟨g1,g2⟩:=HV.out _ (List.mem_of_getElem? hx2)
    simp only at g1 g2
    have HST:Hid (gN n (k+1)=gN n k+es.length+ds.length):=jh (gN_step hx2)
    obtain⟨-,c1,c2⟩:=hcells _ _ _ rfl
    simp only [slV] at c1 c2
    have HCC:Hid (wr.cell? ⟨gx,ox+k * 3+1,none⟩=some (.slice ea es.length ec)∧wr.cell? ⟨gx,ox+k * 3+2,none⟩=some (.slice ta ds.length tc)∧wr.cell? ⟨w.heap.size,0,none⟩=some (.slice (some ⟨gx,ox,none⟩) n.st.length sc)):=jh ⟨c1,c2,q0⟩
    clear hcells hx2 r2 r3 r4 c1 c2
    go_upto_region 5 with (fail)
    clear q0
    have hw1:IntKind.i64.wrap ((gN n k:Int)+(es.length:Int))=(gN n k:Int)+(es.length:Int):=by rw [IntKind.wrap_i64];omega
    have hw2:IntKind.i64.wrap ((gN n k:Int)+(es.length:Int)+(ds.length:Int))=(gN n k:Int)+(es.length:Int)+(ds.length:Int):=by rw [IntKind.wrap_i64];omega
    refine wp_region_same (fun x=>Chg (fun _=>False) wr x) (by kernel_rfl) (by kernel_rfl) ?_ ?_
    ·exact (Chg.refl _ _).drew
    (refine rdC fun K hK=>?_;apply ei;intro _ w' _ hC;(go_simp;try with_reducible rfl);(try go_simp);refine hK _ ?_;clear hK K);(refine rdC fun K hK=>?_;apply ei;intro _ w' _ hC;(go_simp;try with_reducible rfl);(try go_simp);refine hK _ ?_;clear hK K);(refine rdC fun K hK=>?_;apply ei;intro _ w' _ hC;((have s0:=hC.cellS HCC.out.2.2 (fun h=>h);have s1:=hC.cellS HCC.out.1 (fun h=>h);have s2:=hC.cellS HCC.out.2.1 (fun h=>h));go_simp;try with_reducible rfl);(try go_simp);refine hK _ ?_;clear hK K);(refine rdC fun K hK=>?_;apply ei;intro _ w' _ hC;(go_simp;try with_reducible rfl);(try go_simp);refine hK _ ?_;clear hK K);(refine rdC fun K hK=>?_;apply ei;intro _ w' _ hC;(go_simp;try with_reducible rfl);(try go_simp);refine hK _ ?_;clear hK K);(refine rdC fun K hK=>?_;apply ei;intro _ w' _ hC;(go_simp;try with_reducible rfl);(try go_simp);refine hK _ ?_;clear hK K);(refine rdC fun K hK=>?_;apply ei;intro _ w' _ hC;((have s0:=hC.cellS HCC.out.2.2 (fun h=>h);have s1:=hC.cellS HCC.out.1 (fun h=>h);have s2:=hC.cellS HCC.out.2.1 (fun h=>h));go_simp;try with_reducible rfl);(try go_simp);refine hK _ ?_;clear hK K);(refine rdC fun K hK=>?_;apply ei;intro _ w' _ hC;(go_simp;try with_reducible rfl);(try go_simp);refine hK _ ?_;clear hK K);(refine rdC fun K hK=>?_;apply ei;intro _ w' _ hC;(go_simp;try with_reducible rfl);(try go_simp);refine hK _ ?_;clear hK K);(refine rdC fun K hK=>?_;apply ei;intro _ w' _ hC;(go_simp;try with_reducible rfl);(try go_simp);refine hK _ ?_;clear hK K);(refine rdC fun K hK=>?_;apply ei;intro _ w' _ hC;((have s0:=hC.cellS HCC.out.2.2 (fun h=>h);have s1:=hC.cellS HCC.out.1 (fun h=>h);have s2:=hC.cellS HCC.out.2.1 (fun h=>h));go_simp;try with_reducible rfl);(try go_simp);refine hK _ ?_;clear hK K);(refine rdC fun K hK=>?_;apply ei;intro _ w' _ hC;(go_simp;try with_reducible rfl);(try go_simp);refine hK _ ?_;clear hK K);(refine rdC fun K hK=>?_;apply ei;intro _ w' _ hC;(go_simp;try with_reducible rfl);(try go_simp);refine hK _ ?_;clear hK K);(refine rdC fun K hK=>?_;apply ei;intro _ w' _ hC;(go_simp;try with_reducible rfl);(try go_simp);refine hK _ ?_;clear hK K);(refine rdC fun K hK=>?_;apply ei;intro _ w' _ hC;((have s0:=hC.cellS HCC.out.2.2 (fun h=>h);have s1:=hC.cellS HCC.out.1 (fun h=>h);have s2:=hC.cellS HCC.out.2.1 (fun h=>h));go_simp;try with_reducible rfl);(try go_simp);refine hK _ ?_;clear hK K);(refine rdC fun K hK=>?_;apply ei;intro _ w' _ hC;(go_simp;try with_reducible rfl);(try go_simp);refine hK _ ?_;clear hK K);(refine rdC fun K hK=>?_;apply ei;intro _ w' _ hC;(go_simp;try with_reducible rfl);(try go_simp);refine hK _ ?_;clear hK K);(refine rdC fun K hK=>?_;apply ei;intro _ w' _ hC;(go_simp;try with_reducible rfl);(try go_simp);refine hK _ ?_;clear hK K)
    refine wpC_nil ?_
    intro w6 hc6
    have HC6:=jh (HC.out.trans hc6)
    clear hc6 hw1 hw2
    go_wp2
    go_roundw
    case rel=>exact⟨k+1,by omega,by go_num,by rw [HST.out];go_num,by rw [HST.out];omega,HC6.out⟩
    case measure=>simp [intOf];omega
   ·have d1:decide ((gN n k:Int)≤700)=false:=by simp;omega
    have d2:decide (700<(gN n k:Int))=true:=by simp;omega
    go_wp2
    go_ret
    exact⟨_,rfl,fun h=>(by cases h),HCA.out.trans HC.out⟩
  ·obtain rfl:k=n.st.length:=by omega
   have b1:decide ((n.st.length:Int)<(n.st.length:Int))=false:=by simp
   obtain⟨r,hr⟩:∃ r,decide (700<(gN n n.st.length:Int))=r:=⟨_,rfl⟩
   have HR:Hid (r=false→gN n n.st.length≤700):=jh (fun h=>by rw [h] at hr;simp at hr;omega)
   go_wp2
   go_ret
   exact⟨r,rfl,HR.out,HCA.out.trans HC.out⟩
end Go.Proofs.YtgnpmceimpjheaaGreat
namespace Go.Proofs.YtgnpmceimpjheaaGreat
open Go.ChangeShapes Go.WideShapes Go.ChangeAt Go.RowKit Go.Deep Go.WideMaps
section
variable {H:Type} {enc:TypeId × Value→H} {W:World}
end
end Go.Proofs.YtgnpmceimpjheaaGreat
namespace Go.Proofs.YtgnpmceimpjheaaGreat
open Go.ChangeShapes Go.WideShapes Go.ChangeAt Go.RowKit Go.Deep Go.WideMaps
section
variable {H:Type} {enc:TypeId × Value→H} {W:World}
end
end Go.Proofs.YtgnpmceimpjheaaGreat
namespace Go.Proofs.YtgnpmceimpjheaaGreat
open Go.ChangeShapes Go.WideShapes Go.ChangeAt Go.RowKit Go.Deep Go.WideMaps
section
variable {H:Type} {enc:TypeId × Value→H} {W:World} {α:Type} {E:Elt α}
theorem Elt.encs_get {L:List α} {j:Nat} {u:Value} (h:(E.encs L)[j]?=some u):∃ x,L[j / E.sz]?=some x∧(E.enc x)[j % E.sz]?=some u:=by
 have h1:=(List.getElem?_eq_some_iff.1 h).1
 rw [E.encs_length] at h1
 have h2:j / E.sz<L.length:=Nat.div_lt_of_lt_mul (by rw [Nat.mul_comm];exact h1)
 have h3:j % E.sz<(E.enc L[j / E.sz]).length:=by rw [E.len];exact Nat.mod_lt _ E.pos
 refine⟨L[j / E.sz],List.getElem?_eq_getElem h2,?_⟩
 have h4:=E.encs_at (List.getElem?_eq_getElem h2) (List.getElem?_eq_getElem h3)
 rw [Nat.div_add_mod' j E.sz,h] at h4
 rw [List.getElem?_eq_getElem h3]
 exact h4.symm
theorem weightsAll_memG {P:Program} {e:TypeId} {d:DataW H} {n:Nat} (hn:n∈d.weights P e):∀ {ds:List (DataW H)},d∈ds→n∈DataW.weightsAll P e ds
 | [],h=>by cases h
 | d' :: ds,h=>by
  simp only [DataW.weightsAll,List.mem_append]
  rcases List.mem_cons.1 h with rfl|h
  ·exact .inl hn
  ·exact .inr (weightsAll_memG hn h)
theorem weights_agg {P:Program} {t:TypeId} {fs:Array Field} (hu:P.underlying t=some (.struct fs)) {i:Nat} {f:Field} {d:DataW H} {parts:List (DataW H)} (hf:fs[i]?=some f) (hd:parts[i]?=some d) {n:Nat} (hn:n∈d.weights P f.type):n∈(DataW.agg parts).weights P t:=by
 simp only [DataW.weights,hu]
 refine DataW.weights_mem_each (j:=i) ?_ hd n hn
 rw [List.getElem?_map,Array.getElem?_toList,hf]
 rfl
theorem open_list (E:Elt α) (hsz:Tryz.prog.cellsOf E.e=E.sz) (hbs:Tryz.prog.bytesOf E.e=E.bs) (Q:α→Prop) {fuel:Nat} {cs:List Value} {d:DataW H} {p:List MemPlace} (h:DataW.trod enc Tryz.prog W 0 (fun _=>true) true fuel E.sl cs=some (d,p)) (hz:∀ n∈d.weights Tryz.prog E.sl,n≤reachBytes)
  (hel:∀ fuel cs' d' pl,DataW.trod enc Tryz.prog W 0 (fun _=>true) true fuel E.e cs'=some (d',pl)→cs'.length=E.sz→(∀ n∈d'.weights Tryz.prog E.e,n≤reachBytes)→∃ x,cs'=E.enc x∧E.ok x∧Q x) :
  ∃ (a:Option Addr) (c:Nat) (L:List α),cs=[.slice a L.length c]∧E.In W 0 (a,L.length,c) L∧(∀ x∈L,Q x)∧L.length * E.bs≤reachBytes:=by
 rcases open_slice E.und h with ⟨rfl,_⟩|⟨a,len,cap,m,n,D,Pl,rfl,_,hl,_,hm,hx,hi⟩
 ·exact⟨none,0,[],rfl,.nil _ _ _,(fun x hx=>by cases hx),by simp⟩
 ·simp only [if_true] at hm
  subst hm
  simp only [Prod.mk.injEq] at hx
  obtain⟨rfl,-⟩:=hx
  simp only [DataW.weights,E.und,hbs,List.mem_cons,List.mem_append,List.length_map,List.length_range] at hz
  have hlen:=hz _ (.inl rfl)
  have each:∀ i,i<len→∃ x:α,(∀ k,k<E.sz→W.cell? (a.add (i * E.sz+k))=(E.enc x)[k]?)∧E.ok x∧Q x:=by
   intro i hil
   obtain⟨cs',hc,ht⟩:=hi i (by omega)
   rw [hsz] at hc
   obtain⟨_,hcl,hat⟩:=World.cells?_some hc
   obtain⟨x,rfl,h1,h2⟩:=hel _ _ _ _ ht hcl (fun n hn=>hz n (.inr (.inl (weightsAll_memG hn (List.mem_map.2 ⟨i,List.mem_range.2 hil,rfl⟩)))))
   exact⟨x,fun k hk=>by rw [← hat k hk,Go.Deep.add_add],h1,h2⟩
  haveI:Inhabited α:=⟨E.z⟩
  obtain⟨f,hf⟩:=choose_lt each
  have hL:((List.range len).map f).length=len:=by simp
  have hget:∀ k x,((List.range len).map f)[k]?=some x→k<len∧x=f k:=by
   intro k x hx
   have h1:=(List.getElem?_eq_some_iff.1 hx).1
   simp at h1
   simp [h1] at hx
   exact⟨h1,hx.symm⟩
  have hmem:∀ x∈(List.range len).map f,∃ k,k<len∧x=f k:=by
   intro x hx
   obtain⟨k,hk⟩:=List.getElem?_of_mem hx
   exact⟨k,hget k x hk⟩
  obtain⟨b,o,sp⟩:=a
  have hfst:0<len→∃ u,W.cell? ((⟨b,o,sp⟩:Addr).add 0)=some u:=fun h0=>by
   have h1:=(hf 0 h0).1 0 E.pos
   rw [Nat.zero_mul,Nat.zero_add,List.getElem?_eq_getElem (by rw [E.len];exact E.pos)] at h1
   exact⟨_,h1⟩
  have hsp:0<len→sp=none:=fun h0=>by
   obtain⟨u,hu⟩:=hfst h0
   have:=World.cell?_spot hu
   simpa [Addr.add] using this
  refine⟨some ⟨b,o,sp⟩,m,(List.range len).map f,by rw [hL],⟨rfl,by show ((List.range len).map f).length≤m;rw [hL];exact hl,b,o,⟨fun j u hj=>?_,fun x hx=>?_,fun hne=>?_⟩,fun h0=>?_⟩,fun x hx=>?_,?_⟩
  ·obtain⟨x,h1,h2⟩:=Elt.encs_get hj
   obtain⟨h3,rfl⟩:=hget _ _ h1
   obtain rfl:=hsp (Nat.lt_of_le_of_lt (Nat.zero_le _) h3)
   have h4:=(hf _ h3).1 (j % E.sz) (Nat.mod_lt _ E.pos)
   rw [Nat.div_add_mod' j E.sz,h2,Addr.add_lit] at h4
   exact h4
  ·obtain⟨k,h1,rfl⟩:=hmem x hx
   exact (hf k h1).2.1
  ·have h0:0<len:=by
    rcases Nat.eq_zero_or_pos len with h|h
    ·subst h;simp at hne
    ·exact h
   obtain⟨u,hu⟩:=hfst h0
   have:=World.block_lt_of_cell? _ _ hu
   simpa [Addr.add] using this
  ·rw [hL] at h0
   obtain rfl:=hsp h0
   exact⟨rfl,Nat.zero_le _⟩
  ·obtain⟨k,h1,rfl⟩:=hmem x hx
   exact (hf k h1).2.2
  ·rw [hL]
   exact Nat.le_trans (Nat.mul_le_mul_right _ (by omega)) hlen
theorem bounds_i32 {x:Int} (h:(Lit.int .i32 x).wf=true):I32 x:=by
 have e1:IntKind.i32.min=-2147483648:=rfl
 have e2:IntKind.i32.max=2147483647:=rfl
 simp [Lit.wf,e1,e2] at h
 exact h
structure Vast (t:LexD):Prop where
 r:t.r.length≤100000000000000
 c:t.c.length≤100000000000000
 n:t.n.length≤100000000000000
 e:t.e.length≤100000000000000
 l:∀ l∈t.n,l.length≤100000000000000
theorem i32Cells:Tryz.prog.cellsOf 21=1:=by kernel_rfl
theorem open_intE {fuel:Nat} {cs:List Value} {d:DataW H} {p:List MemPlace} (h:DataW.trod enc Tryz.prog W 0 (fun _=>true) true fuel 25 cs=some (d,p)) (hz:∀ n∈d.weights Tryz.prog 25,n≤reachBytes) :
  ∃ (a:Option Addr) (c:Nat) (L:List Int),cs=[.slice a L.length c]∧intE.In W 0 (a,L.length,c) L∧L.length≤100000000000000:=by
 obtain⟨a,c,L,h1,h2,-,h4⟩:=open_list intE (by kernel_rfl) (by kernel_rfl) (fun _=>True) h hz (fun fuel cs' d' pl ht hl _=>by
  obtain⟨x,e,_,w⟩:=DataW.trod_int Tryz.underlying3 ht
  exact⟨x,e,bounds_i64 w,trivial⟩)
 exact⟨a,c,L,h1,h2,by have hrb:reachBytes=140737488351232:=rfl;have:intE.bs=8:=rfl;rw [this] at h4;omega⟩
end
end Go.Proofs.YtgnpmceimpjheaaGreat
namespace Go.Proofs.YtgnpmceimpjheaaGreat
open Go.RowKit
def gA (t:TabsD) (k:Nat):Nat:=t.rl.length+t.tk.length+t.dr.length+t.lx.r.length+t.lx.c.length+t.lx.e.length+t.lk.length+((t.lx.n.take k).map fun l=>l.length+1).sum
def gL (A:List LsD) (j:Nat):Nat:=((A.take j).map fun s=>s.2.1.length+s.2.2.length+1).sum
def gB (t:TabsD) (i:Nat):Nat:=gA t t.lx.n.length+((t.lk.take i).map fun A=>gL A A.length).sum
def gC (t:TabsD) (k:Nat):Nat:=gB t t.lk.length+(((t.rl++t.tk).take k).map fun s=>s.size / 50).sum
theorem gA_zero (t:TabsD):gA t 0=t.rl.length+t.tk.length+t.dr.length+t.lx.r.length+t.lx.c.length+t.lx.e.length+t.lk.length:=by simp [gA]
theorem gA_step {t:TabsD} {k:Nat} {l:List Int} (h:t.lx.n[k]?=some l):gA t (k+1)=gA t k+1+l.length:=by
 unfold gA
 rw [List.take_add_one,h]
 simp
 omega
theorem gL_step {A:List LsD} {j:Nat} {s:LsD} (h:A[j]?=some s):gL A (j+1)=gL A j+1+s.2.1.length+s.2.2.length:=by
 unfold gL
 rw [List.take_add_one,h]
 simp
 omega
theorem gB_step {t:TabsD} {i:Nat} {A:List LsD} (h:t.lk[i]?=some A):gB t (i+1)=gB t i+gL A A.length:=by
 unfold gB
 rw [List.take_add_one,h]
 simp
 omega
theorem gC_step {t:TabsD} {k:Nat} {s:Str} (h:(t.rl++t.tk)[k]?=some s):gC t (k+1)=gC t k+s.size / 50:=by
 unfold gC
 rw [List.take_add_one,h]
 simp
 omega
structure VastT (t:TabsD):Prop where
 rl:t.rl.length≤100000000000000
 tk:t.tk.length≤100000000000000
 dr:t.dr.length≤200000000000000
 rs:∀ s∈t.rl,s.size≤1000000000000000
 ts:∀ s∈t.tk,s.size≤1000000000000000
 lx:Vast t.lx
 nt:VastN t.nt
 lk:t.lk.length≤100000000000000
 la:∀ A∈t.lk,A.length≤100000000000000∧∀ s∈A,s.2.1.length≤100000000000000∧s.2.2.length≤100000000000000
theorem greatT_any (t:TabsD) (m:TabsS) (S:Nat→Prop) (w:World) (h:TabsIn w S m t) (hv:VastT t) :
  Calls Tryz.prog 7 #[tabsV m] w fun e w'=>∃ g,e=.returned (.bool g)∧(g=false→gC t (t.rl.length+t.tk.length)≤2000∧gN t.nt t.nt.st.length≤700)∧Chg (fun _=>False) w w':=by
 obtain⟨⟨a0,n0,c0⟩,⟨a1,n1,c1⟩,⟨a2,n2,c2⟩,⟨⟨a3,n3,c3⟩,⟨a4,n4,c4⟩,⟨a5,n5,c5⟩,⟨a6,n6,c6⟩⟩,⟨⟨a7,n7,c7⟩,⟨a8,n8,c8⟩,⟨a9,n9,c9⟩,⟨a10,n10,c10⟩,⟨a11,n11,c11⟩⟩,⟨a12,n12,c12⟩⟩:=m
 have HT0:=jh h
 obtain⟨h0,h1,h2,⟨h3,h4,h5,h6⟩,⟨h7,h8,h9,h10,h11⟩,h12⟩:=h
 obtain⟨rfl,-⟩:=h0.len
 obtain⟨rfl,-⟩:=h1.len
 obtain⟨rfl,-⟩:=h2.len
 obtain⟨rfl,-⟩:=h3.len
 obtain⟨rfl,-⟩:=h4.len
 obtain⟨rfl,-⟩:=h5.len
 obtain⟨rfl,-⟩:=h6.len
 obtain⟨rfl,-⟩:=h7.len
 obtain⟨rfl,-⟩:=h8.len
 obtain⟨rfl,-⟩:=h9.len
 obtain⟨rfl,-⟩:=h10.len
 obtain⟨rfl,-⟩:=h11.len
 obtain⟨rfl,-⟩:=h12.len
 clear h0 h1 h2 h3 h4 h5 h6 h7 h8 h9 h10 h11 h12
 obtain⟨v0,v1,v2,v3,v4,⟨x3,x4,x5,x6,x7⟩,v5,v6,v7⟩:=hv
 have HRS:=jh v3
 have HTS:=jh v4
 have HXL:=jh x7
 have HVN:=jh v5
 have HVL:=jh v7
 have HZ:Hid (gA t 0=t.rl.length+t.tk.length+t.dr.length+t.lx.r.length+t.lx.c.length+t.lx.e.length+t.lk.length):=jh (gA_zero t)
 clear v3 v4 x7 v5 v7
 obtain⟨wa,hwa⟩:∃ W,W=w.alloc (.cells #[.slice a0 t.rl.length c0,.slice a1 t.tk.length c1,.slice a2 t.dr.length c2,.slice a3 t.lx.r.length c3,.slice a4 t.lx.c.length c4,.slice a5 t.lx.n.length c5,.slice a6 t.lx.e.length c6,.slice a7 t.nt.st.length c7,.slice a8 t.nt.s.length c8,.slice a9 t.nt.p.length c9,.slice a10 t.nt.q.length c10,.slice a11 t.nt.d.length c11,.slice a12 t.lk.length c12] 34):=⟨_,rfl⟩
 have HCA:Hid (Chg (fun _=>False) w wa):=jh (by rw [hwa];exact (Chg.refl _ w).alloc _)
 have HN0:Hid (∀ X,Chg (fun _=>False) wa X→∀ j v,([.slice a0 t.rl.length c0,.slice a1 t.tk.length c1,.slice a2 t.dr.length c2,.slice a3 t.lx.r.length c3,.slice a4 t.lx.c.length c4,.slice a5 t.lx.n.length c5,.slice a6 t.lx.e.length c6,.slice a7 t.nt.st.length c7,.slice a8 t.nt.s.length c8,.slice a9 t.nt.p.length c9,.slice a10 t.nt.q.length c10,.slice a11 t.nt.d.length c11,.slice a12 t.lk.length c12]:List Value)[j]?=some v→X.cell? ⟨w.heap.size,j,none⟩=some v):=jh (fun X hx j v hv=>hx.cellS (by
  rw [hwa];exact allocAt _ rfl (by rw [← Array.getElem?_toList];exact hv)) (fun h=>h))
 have HIN:Hid (∀ X,Chg (fun _=>False) wa X→TabsIn X S ⟨(a0,t.rl.length,c0),(a1,t.tk.length,c1),(a2,t.dr.length,c2),⟨(a3,t.lx.r.length,c3),(a4,t.lx.c.length,c4),(a5,t.lx.n.length,c5),(a6,t.lx.e.length,c6)⟩,⟨(a7,t.nt.st.length,c7),(a8,t.nt.s.length,c8),(a9,t.nt.p.length,c9),(a10,t.nt.q.length,c10),(a11,t.nt.d.length,c11)⟩,(a12,t.lk.length,c12)⟩ t):=jh (fun X hx=>TabsIn.good.chg HT0.out (HCA.out.trans hx) (fun _ _ h=>h))
 clear HT0
 have HZB:Hid (t.rl.length+t.tk.length+t.dr.length+t.lx.r.length+t.lx.c.length+t.lx.e.length+t.lk.length≤1000000000000000):=jh (by omega)
 have q0:=HN0.out wa (Chg.refl _ _) 0 _ rfl
 have q1:=HN0.out wa (Chg.refl _ _) 1 _ rfl
 have q2:=HN0.out wa (Chg.refl _ _) 2 _ rfl
 have q3:=HN0.out wa (Chg.refl _ _) 3 _ rfl
 have q4:=HN0.out wa (Chg.refl _ _) 4 _ rfl
 have q5:=HN0.out wa (Chg.refl _ _) 5 _ rfl
 have q6:=HN0.out wa (Chg.refl _ _) 6 _ rfl
 have q7:=HN0.out wa (Chg.refl _ _) 7 _ rfl
 have q8:=HN0.out wa (Chg.refl _ _) 8 _ rfl
 have q9:=HN0.out wa (Chg.refl _ _) 9 _ rfl
 have q10:=HN0.out wa (Chg.refl _ _) 10 _ rfl
 have q11:=HN0.out wa (Chg.refl _ _) 11 _ rfl
 have q12:=HN0.out wa (Chg.refl _ _) 12 _ rfl
 show Calls Tryz.prog 7 #[.agg #[.slice a0 t.rl.length c0,.slice a1 t.tk.length c1,.slice a2 t.dr.length c2,.slice a3 t.lx.r.length c3,.slice a4 t.lx.c.length c4,.slice a5 t.lx.n.length c5,.slice a6 t.lx.e.length c6,.slice a7 t.nt.st.length c7,.slice a8 t.nt.s.length c8,.slice a9 t.nt.p.length c9,.slice a10 t.nt.q.length c10,.slice a11 t.nt.d.length c11,.slice a12 t.lk.length c12]] w _
 go_enter Tryz.func7,Tryz.ntmps7
 go_upto_region 1 with (fail)
 rw [← hwa]
 clear hwa
 have HVS:=jh (show t.rl.length≤100000000000000∧t.tk.length≤100000000000000∧t.lk.length≤100000000000000∧t.lx.n.length≤100000000000000 from ⟨by assumption,by assumption,by assumption,by assumption⟩)
 go_upto_block 0 with (fail)
 clear q0 q1 q2 q3 q4 q5 q6 q7 q8 q9 q10 q11 q12
 go_cut [3,4] from 38 to 59 (fun nv _ w'=>∃ x:Nat,nv=.int .i64 x∧x≤1000000000000000∧(2000<x∨x=gA t t.lx.n.length)∧Chg (fun _=>False) wa w')
 case first =>
  have hlen:=HVS.out
  go_wp2_with fail
  go_loopw [3,4] (fun nv q wr=>∃ k:Nat,k≤t.lx.n.length∧q=.int .i64 k∧nv=.int .i64 (gA t k)∧gA t k≤1000000000000000∧Chg (fun _=>False) wa wr) (fun _ q _=>t.lx.n.length-(intOf q).toNat)
  case atStart=>exact⟨0,by omega,rfl,by rw [HZ.out];go_num,by rw [HZ.out];exact HZB.out,Chg.refl _ _⟩
  case round =>
   obtain⟨k,hk,rfl,rfl,hx,hc⟩:=hrel
   have HC:=jh hc
   have q5:=HN0.out wr hc 5 _ rfl
   clear hc
   by_cases hkl:k<t.lx.n.length
   ·have b1:decide ((k:Int)<(t.lx.n.length:Int))=true:=by simp;omega
    by_cases hgt:gA t k≤2000
    ·have d1:decide ((gA t k:Int)≤2000)=true:=by simp;omega
     obtain⟨⟨ua,un,uc⟩,l,gx,ox,hx2,hr2,rfl,hgx,-,cx⟩:=(HIN.out _ HC.out).lx.n.get1 (f:=slV) rfl hkl (fun _=>rfl)
     obtain⟨rfl,-⟩:=Elt.InS.len hr2
     have hll:l.length≤100000000000000:=HXL.out l (List.mem_of_getElem? hx2)
     have HST:Hid (gA t (k+1)=gA t k+1+l.length):=jh (gA_step hx2)
     simp only [slV] at cx
     clear hx2 hr2
     go_wp2
     go_roundw
     case rel=>exact⟨k+1,by omega,by go_num,by rw [HST.out];go_num,by rw [HST.out];omega,HC.out⟩
     case measure=>simp [intOf];omega
    ·have d1:decide ((gA t k:Int)≤2000)=false:=by simp;omega
     go_wp2
     go_meet
     exact⟨_,rfl,hx,.inl (by omega),HC.out⟩
   ·obtain rfl:k=t.lx.n.length:=by omega
    have b1:decide ((t.lx.n.length:Int)<(t.lx.n.length:Int))=false:=by simp
    go_wp2
    go_meet
    exact⟨_,rfl,hx,.inr rfl,HC.out⟩
 case rest =>
  obtain⟨x0,rfl,hx0,hx0g,hc0⟩:=hcut
  obtain⟨wb,rfl⟩:∃ wb:World,wb=wc:=⟨_,rfl⟩
  have HC0:=jh hc0
  have HX0:=jh hx0g
  have HB0:Hid (gB t 0=gA t t.lx.n.length):=jh (by simp [gB])
  have q12:=HN0.out wb hc0 12 _ rfl
  clear hc0 hx0g
  go_upto_block 2 with (fail)
  clear q12
  go_cut [3,5] from 60 to 111 (fun nv _ w'=>∃ x:Nat,nv=.int .i64 x∧x≤1000000000000000∧(2000<x∨x=gB t t.lk.length)∧Chg (fun _=>False) wa w')
  case first =>
   have hlen:=HVS.out
   go_wp2_with fail
   go_loopw [3,5] (fun nv q wr=>∃ (i x:Nat),i≤t.lk.length∧q=.int .i64 i∧nv=.int .i64 x∧x≤1000000000000000∧(2000<x∨x=gB t i)∧Chg (fun _=>False) wa wr) (fun _ q _=>t.lk.length-(intOf q).toNat)
   case atStart=>exact⟨0,x0,by omega,rfl,rfl,hx0,by rw [HB0.out];exact HX0.out,HC0.out⟩
   case round =>
    obtain⟨i,x,hi,rfl,rfl,hx,hxg,hc⟩:=hrel
    obtain⟨wo,rfl⟩:∃ wo:World,wo=wr:=⟨_,rfl⟩
    have HC:=jh hc
    have HXG:=jh hxg
    have q12:=HN0.out wo hc 12 _ rfl
    clear hc hxg
    by_cases hil:i<t.lk.length
    ·have b1:decide ((i:Int)<(t.lk.length:Int))=true:=by simp;omega
     by_cases hgt:x≤2000
     ·have d1:decide ((x:Int)≤2000)=true:=by simp;omega
      have HXI:Hid (x=gB t i):=jh (by rcases HXG.out with h|h <;> omega)
      obtain⟨⟨ua,un,uc⟩,A,gx,ox,hx2,hr2,rfl,hgx,-,cx⟩:=(HIN.out _ HC.out).lk.get1 (f:=slV) rfl hil (fun _=>rfl)
      obtain⟨rfl,-⟩:un=A.length∧un≤uc:=by obtain⟨X,h1,h2,-⟩:=hr2;exact⟨by have:=h1.1;simp only at this;omega,h1.2.1⟩
      simp only [slV] at cx
      obtain⟨hal,hsl⟩:=HVL.out A (List.mem_of_getElem? hx2)
      have HSL:=jh hsl
      have HBS:Hid (gB t (i+1)=gB t i+gL A A.length):=jh (gB_step hx2)
      have HAR:Hid (∀ X,Chg (fun _=>False) wo X→autoR X S (ua,A.length,uc) A):=jh (fun X hx=>autoR.good.chg hr2 hx (fun _ _ h=>h))
      have HCX:Hid (∀ X,Chg (fun _=>False) wo X→X.cell? ⟨w.heap.size,12,none⟩=some (.slice (some ⟨gx,ox,none⟩) t.lk.length c12)∧X.cell? ⟨gx,ox+i,none⟩=some (.slice ua A.length uc)):=jh (fun X hx=>⟨hx.cellS q12 (fun h=>h),hx.cellS cx (fun h=>h)⟩)
      clear hx2 hr2 hsl
      go_upto_block 3 with (fail)
      clear q12 cx
      go_cut [3,6] from 60 to 111 (fun nv _ w'=>∃ y:Nat,nv=.int .i64 y∧y≤1000000000000000∧(2000<y∨y=x+gL A A.length)∧Chg (fun _=>False) wo w')
      case first =>
       obtain⟨q12,cx⟩:=HCX.out wo (Chg.refl _ _)
       go_wp2_with fail
       clear q12 cx
       go_loopw [3,6] (fun nv q wr=>∃ (j y:Nat),j≤A.length∧q=.int .i64 j∧nv=.int .i64 y∧y≤1000000000000000∧(y=x+gL A j)∧Chg (fun _=>False) wo wr) (fun _ q _=>A.length-(intOf q).toNat)
       case atStart=>exact⟨0,x,by omega,rfl,rfl,by omega,by simp [gL],Chg.refl _ _⟩
       case round =>
        obtain⟨j,y,hj,rfl,rfl,hy,hyg,hc⟩:=hrel
        have HCJ:=jh hc
        have HYJ:=jh hyg
        obtain⟨q12,cx⟩:=HCX.out wr hc
        clear hc hyg
        by_cases hjl:j<A.length
        ·have b2:decide ((j:Int)<(A.length:Int))=true:=by simp;omega
         by_cases hgy:y≤2000
         ·have d2:decide ((y:Int)≤2000)=true:=by simp;omega
          obtain⟨⟨k,⟨ca,cn,cc⟩,⟨ea,en,ec⟩⟩,⟨kd,ds,es⟩,g2,o2,hx2,⟨r1,r2,r3,r4⟩,rfl,hg2,-,-,hcells⟩:=ListR.get3 (f:=encLs) (HAR.out _ HCJ.out) rfl hjl rfl
          simp only at r1 r2 r3 r4
          subst r1
          obtain⟨rfl,-⟩:=r3.len
          obtain⟨rfl,-⟩:=r4.len
          obtain⟨f1,f2⟩:=HSL.out _ (List.mem_of_getElem? hx2)
          simp only at f1 f2
          have HST:Hid (gL A (j+1)=gL A j+1+ds.length+es.length):=jh (gL_step hx2)
          obtain⟨-,e1,e2⟩:=hcells _ _ _ rfl
          simp only [slV] at e1 e2
          have HCC:Hid (wr.cell? ⟨w.heap.size,12,none⟩=some (.slice (some ⟨gx,ox,none⟩) t.lk.length c12)∧wr.cell? ⟨gx,ox+i,none⟩=some (.slice (some ⟨g2,o2,none⟩) A.length uc)∧wr.cell? ⟨g2,o2+j * 3+1,none⟩=some (.slice ca ds.length cc)∧wr.cell? ⟨g2,o2+j * 3+2,none⟩=some (.slice ea es.length ec)):=jh ⟨q12,cx,e1,e2⟩
          clear hcells hx2 r2 r3 r4 e1 e2
          go_upto_region 12 with (fail)
          clear q12 cx
          have hw0:IntKind.i64.wrap ((y:Int)+1)=(y:Int)+1:=by rw [IntKind.wrap_i64];omega
          have hw1:IntKind.i64.wrap ((y:Int)+1+(ds.length:Int))=(y:Int)+1+(ds.length:Int):=by rw [IntKind.wrap_i64];omega
          have hw2:IntKind.i64.wrap ((y:Int)+1+(ds.length:Int)+(es.length:Int))=(y:Int)+1+(ds.length:Int)+(es.length:Int):=by rw [IntKind.wrap_i64];omega
          refine wp_region_same (fun x=>Chg (fun _=>False) wr x) (by kernel_rfl) (by kernel_rfl) ?_ ?_
          ·exact (Chg.refl _ _).drew
          (refine rdC fun K hK=>?_;apply ei;intro _ w' _ hC;(go_simp;try with_reducible rfl);(try go_simp);refine hK _ ?_;clear hK K);(refine rdC fun K hK=>?_;apply ei;intro _ w' _ hC;(go_simp;try with_reducible rfl);(try go_simp);refine hK _ ?_;clear hK K);(refine rdC fun K hK=>?_;apply ei;intro _ w' _ hC;(go_simp;try with_reducible rfl);(try go_simp);refine hK _ ?_;clear hK K);(refine rdC fun K hK=>?_;apply ei;intro _ w' _ hC;((have s0:=hC.cellS HCC.out.1 (fun h=>h);have s1:=hC.cellS HCC.out.2.1 (fun h=>h);have s2:=hC.cellS HCC.out.2.2.1 (fun h=>h);have s3:=hC.cellS HCC.out.2.2.2 (fun h=>h));go_simp;try with_reducible rfl);(try go_simp);refine hK _ ?_;clear hK K);(refine rdC fun K hK=>?_;apply ei;intro _ w' _ hC;(go_simp;try with_reducible rfl);(try go_simp);refine hK _ ?_;clear hK K);(refine rdC fun K hK=>?_;apply ei;intro _ w' _ hC;(go_simp;try with_reducible rfl);(try go_simp);refine hK _ ?_;clear hK K);(refine rdC fun K hK=>?_;apply ei;intro _ w' _ hC;(go_simp;try with_reducible rfl);(try go_simp);refine hK _ ?_;clear hK K);(refine rdC fun K hK=>?_;apply ei;intro _ w' _ hC;((have s0:=hC.cellS HCC.out.1 (fun h=>h);have s1:=hC.cellS HCC.out.2.1 (fun h=>h);have s2:=hC.cellS HCC.out.2.2.1 (fun h=>h);have s3:=hC.cellS HCC.out.2.2.2 (fun h=>h));go_simp;try with_reducible rfl);(try go_simp);refine hK _ ?_;clear hK K);(refine rdC fun K hK=>?_;apply ei;intro _ w' _ hC;(go_simp;try with_reducible rfl);(try go_simp);refine hK _ ?_;clear hK K);(refine rdC fun K hK=>?_;apply ei;intro _ w' _ hC;(go_simp;try with_reducible rfl);(try go_simp);refine hK _ ?_;clear hK K);(refine rdC fun K hK=>?_;apply ei;intro _ w' _ hC;(go_simp;try with_reducible rfl);(try go_simp);refine hK _ ?_;clear hK K);(refine rdC fun K hK=>?_;apply ei;intro _ w' _ hC;((have s0:=hC.cellS HCC.out.1 (fun h=>h);have s1:=hC.cellS HCC.out.2.1 (fun h=>h);have s2:=hC.cellS HCC.out.2.2.1 (fun h=>h);have s3:=hC.cellS HCC.out.2.2.2 (fun h=>h));go_simp;try with_reducible rfl);(try go_simp);refine hK _ ?_;clear hK K);(refine rdC fun K hK=>?_;apply ei;intro _ w' _ hC;(go_simp;try with_reducible rfl);(try go_simp);refine hK _ ?_;clear hK K);(refine rdC fun K hK=>?_;apply ei;intro _ w' _ hC;(go_simp;try with_reducible rfl);(try go_simp);refine hK _ ?_;clear hK K);(refine rdC fun K hK=>?_;apply ei;intro _ w' _ hC;(go_simp;try with_reducible rfl);(try go_simp);refine hK _ ?_;clear hK K);(refine rdC fun K hK=>?_;apply ei;intro _ w' _ hC;((have s0:=hC.cellS HCC.out.1 (fun h=>h);have s1:=hC.cellS HCC.out.2.1 (fun h=>h);have s2:=hC.cellS HCC.out.2.2.1 (fun h=>h);have s3:=hC.cellS HCC.out.2.2.2 (fun h=>h));go_simp;try with_reducible rfl);(try go_simp);refine hK _ ?_;clear hK K);(refine rdC fun K hK=>?_;apply ei;intro _ w' _ hC;(go_simp;try with_reducible rfl);(try go_simp);refine hK _ ?_;clear hK K);(refine rdC fun K hK=>?_;apply ei;intro _ w' _ hC;(go_simp;try with_reducible rfl);(try go_simp);refine hK _ ?_;clear hK K);(refine rdC fun K hK=>?_;apply ei;intro _ w' _ hC;(go_simp;try with_reducible rfl);(try go_simp);refine hK _ ?_;clear hK K);(refine rdC fun K hK=>?_;apply ei;intro _ w' _ hC;((have s0:=hC.cellS HCC.out.1 (fun h=>h);have s1:=hC.cellS HCC.out.2.1 (fun h=>h);have s2:=hC.cellS HCC.out.2.2.1 (fun h=>h);have s3:=hC.cellS HCC.out.2.2.2 (fun h=>h));go_simp;try with_reducible rfl);(try go_simp);refine hK _ ?_;clear hK K);(refine rdC fun K hK=>?_;apply ei;intro _ w' _ hC;(go_simp;try with_reducible rfl);(try go_simp);refine hK _ ?_;clear hK K);(refine rdC fun K hK=>?_;apply ei;intro _ w' _ hC;(go_simp;try with_reducible rfl);(try go_simp);refine hK _ ?_;clear hK K);(refine rdC fun K hK=>?_;apply ei;intro _ w' _ hC;(go_simp;try with_reducible rfl);(try go_simp);refine hK _ ?_;clear hK K);(refine rdC fun K hK=>?_;apply ei;intro _ w' _ hC;((have s0:=hC.cellS HCC.out.1 (fun h=>h);have s1:=hC.cellS HCC.out.2.1 (fun h=>h);have s2:=hC.cellS HCC.out.2.2.1 (fun h=>h);have s3:=hC.cellS HCC.out.2.2.2 (fun h=>h));go_simp;try with_reducible rfl);(try go_simp);refine hK _ ?_;clear hK K);(refine rdC fun K hK=>?_;apply ei;intro _ w' _ hC;(go_simp;try with_reducible rfl);(try go_simp);refine hK _ ?_;clear hK K);(refine rdC fun K hK=>?_;apply ei;intro _ w' _ hC;(go_simp;try with_reducible rfl);(try go_simp);refine hK _ ?_;clear hK K);(refine rdC fun K hK=>?_;apply ei;intro _ w' _ hC;(go_simp;try with_reducible rfl);(try go_simp);refine hK _ ?_;clear hK K)
          refine wpC_nil ?_
          intro w6 hc6
          have HC6:=jh (HCJ.out.trans hc6)
          clear hc6 hw0 hw1 hw2
          go_wp2
          go_roundw
          case rel=>exact⟨j+1,y+1+ds.length+es.length,by omega,by go_num,by go_num,by omega,by rw [HST.out,HYJ.out];omega,HC6.out⟩
          case measure=>simp [intOf];omega
         ·have d2:decide ((y:Int)≤2000)=false:=by simp;omega
          go_wp2
          go_meet
          exact⟨y,rfl,hy,.inl (by omega),HCJ.out⟩
        ·obtain rfl:j=A.length:=by omega
         have b2:decide ((A.length:Int)<(A.length:Int))=false:=by simp
         go_wp2
         go_meet
         exact⟨y,rfl,hy,.inr HYJ.out,HCJ.out⟩
      case rest =>
       obtain⟨y,rfl,hy,hyg,hcy⟩:=hcut
       have HCY:=jh (HC.out.trans hcy)
       have HYG:Hid (2000<y∨y=gB t (i+1)):=jh (hyg.imp id (fun h=>by rw [HBS.out,← HXI.out];exact h))
       clear hcy hyg
       go_wp2
       go_roundw
       case rel=>exact⟨i+1,y,by omega,by go_num,rfl,hy,HYG.out,HCY.out⟩
       case measure=>simp [intOf];omega
     ·have d1:decide ((x:Int)≤2000)=false:=by simp;omega
      go_wp2
      go_meet
      exact⟨x,rfl,hx,.inl (by omega),HC.out⟩
    ·obtain rfl:i=t.lk.length:=by omega
     have b1:decide ((t.lk.length:Int)<(t.lk.length:Int))=false:=by simp
     go_wp2
     go_meet
     exact⟨x,rfl,hx,HXG.out,HC.out⟩
  case rest =>
   obtain⟨x1,rfl,hx1,hx1g,hc1⟩:=hcut
   obtain⟨wb2,rfl⟩:∃ wb2:World,wb2=wc:=⟨_,rfl⟩
   have HC1:=jh hc1
   have HX1:=jh hx1g
   have HCZ:Hid (gC t 0=gB t t.lk.length):=jh (by simp [gC])
   clear hc1 hx1g
   go_upto_block 6 with (fail)
   go_cut [3,7] from 112 to 153 (fun nv _ w'=>∃ x:Nat,nv=.int .i64 x∧x≤1000000000000000∧(2000<x∨x=gC t (t.rl.length+t.tk.length))∧Chg (fun _=>False) wa w')
   case first =>
    have hlen:=HVS.out
    go_wp2_with fail
    go_loopw [3,7] (fun nv q wr=>∃ (i x:Nat),i≤t.rl.length+t.tk.length∧q=.int .i64 i∧nv=.int .i64 x∧x≤1000000000000000∧(2000<x∨x=gC t i)∧Chg (fun _=>False) wa wr) (fun _ q _=>t.rl.length+t.tk.length-(intOf q).toNat)
    case atStart=>exact⟨0,x1,by omega,rfl,rfl,hx1,by rw [HCZ.out];exact HX1.out,HC1.out⟩
    case round =>
     obtain⟨i,x,hi,rfl,rfl,hx,hxg,hc⟩:=hrel
     have HC:=jh hc
     have HXG:=jh hxg
     have q0:=HN0.out wr hc 0 _ rfl
     have q1:=HN0.out wr hc 1 _ rfl
     clear hc hxg
     by_cases hil:i<t.rl.length+t.tk.length
     ·have b1:decide ((i:Int)<(t.rl.length:Int)+(t.tk.length:Int))=true:=by simp;omega
      by_cases hgt:x≤2000
      ·have d1:decide ((x:Int)≤2000)=true:=by simp;omega
       have HXI:Hid (x=gC t i):=jh (by rcases HXG.out with h|h <;> omega)
       by_cases hir:i<t.rl.length
       ·have b2:decide ((i:Int)<(t.rl.length:Int))=true:=by simp;omega
        obtain⟨s,d,gx,ox,hx2,hr2,rfl,-,-,-,cx⟩:=(ListR.of (HIN.out _ HC.out).rl).get1' (f:=encStr) rfl hir rfl
        obtain rfl:s=d:=hr2
        have c0:=cx _ rfl
        have hsz:s.size≤1000000000000000:=HRS.out s (List.mem_of_getElem? hx2)
        have hq:(s.size:Int).tdiv 50=((s.size / 50:Nat):Int):=by rw [Int.tdiv_eq_ediv_of_nonneg (by omega)];omega
        have HST:Hid (gC t (i+1)=gC t i+s.size / 50):=jh (gC_step (by rw [List.getElem?_append_left hir];exact hx2))
        clear hx2 cx
        go_wp2
        go_roundw
        case rel=>exact⟨i+1,x+s.size / 50,by omega,by go_num,by go_num,by omega,.inr (by rw [HST.out,← HXI.out]),HC.out⟩
        case measure=>simp [intOf];omega
       ·have b2:decide ((i:Int)<(t.rl.length:Int))=false:=by simp;omega
        obtain⟨m,rfl⟩:∃ m,i=t.rl.length+m:=⟨i-t.rl.length,by omega⟩
        have hmk:m<t.tk.length:=by omega
        obtain⟨s,d,gx,ox,hx2,hr2,rfl,-,-,-,cx⟩:=(ListR.of (HIN.out _ HC.out).tk).get1' (f:=encStr) rfl hmk rfl
        obtain rfl:s=d:=hr2
        have c0:=cx _ rfl
        have hsub:((t.rl.length+m:Nat):Int)-(t.rl.length:Int)=(m:Int):=by omega
        have hsz:s.size≤1000000000000000:=HTS.out s (List.mem_of_getElem? hx2)
        have hq:(s.size:Int).tdiv 50=((s.size / 50:Nat):Int):=by rw [Int.tdiv_eq_ediv_of_nonneg (by omega)];omega
        have HST:Hid (gC t (t.rl.length+m+1)=gC t (t.rl.length+m)+s.size / 50):=jh (gC_step (by rw [List.getElem?_append_right (by omega),show t.rl.length+m-t.rl.length=m by omega];exact hx2))
        clear hx2 cx
        go_wp2
        go_roundw
        case rel=>exact⟨t.rl.length+m+1,x+s.size / 50,by omega,by go_num,by go_num,by omega,.inr (by rw [HST.out,← HXI.out]),HC.out⟩
        case measure=>simp [intOf];omega
      ·have d1:decide ((x:Int)≤2000)=false:=by simp;omega
       go_wp2
       go_meet
       exact⟨x,rfl,hx,.inl (by omega),HC.out⟩
     ·obtain rfl:i=t.rl.length+t.tk.length:=by omega
      have b1:decide (((t.rl.length+t.tk.length:Nat):Int)<(t.rl.length:Int)+(t.tk.length:Int))=false:=by simp
      go_wp2
      go_meet
      exact⟨x,rfl,hx,HXG.out,HC.out⟩
   case rest =>
    obtain⟨x2,rfl,hx2,hx2g,hc2⟩:=hcut
    have HC2:=jh hc2
    have HX2:=jh hx2g
    clear hc2 hx2g
    by_cases hgt:2000<x2
    ·have d1:decide (2000<(x2:Int))=true:=by simp;omega
     go_wp2
     go_ret
     exact⟨_,rfl,fun h=>(by cases h),HCA.out.trans HC2.out⟩
    ·have d1:decide (2000<(x2:Int))=false:=by simp;omega
     have HXF:Hid (gC t (t.rl.length+t.tk.length)≤2000):=jh (by rcases HX2.out with h|h <;> omega)
     have q7:=HN0.out wc HC2.out 7 _ rfl
     have q8:=HN0.out wc HC2.out 8 _ rfl
     have q9:=HN0.out wc HC2.out 9 _ rfl
     have q10:=HN0.out wc HC2.out 10 _ rfl
     have q11:=HN0.out wc HC2.out 11 _ rfl
     go_wp2_with fail
     refine (greatN_any t.nt ⟨(a7,t.nt.st.length,c7),(a8,t.nt.s.length,c8),(a9,t.nt.p.length,c9),(a10,t.nt.q.length,c10),(a11,t.nt.d.length,c11)⟩ S wc (HIN.out _ HC2.out).nt HVN.out).mono ?_
     rintro e w3 ⟨g,rfl,hg,hc3⟩
     have HG:=jh hg
     have HC3:=jh ((HCA.out.trans HC2.out).trans hc3)
     clear hg hc3 q7 q8 q9 q10 q11
     go_wp2
     go_ret
     exact⟨g,rfl,fun h=>⟨HXF.out,HG.out h⟩,HC3.out⟩
end Go.Proofs.YtgnpmceimpjheaaGreat
namespace Go.Proofs.YtgnpmceimpjheaaGreat
open Go.RowKit
def ptInt (z:Int):List Int:=putL z.toNat
def ptText (s:Str):List Int:=putL s.size++strB s
def ptList {α:Type} (enc:α→List Int) (L:List α):List Int:=putL L.length++L.flatMap enc
def ptEdge (e:EdgeD):List Int:=ptInt e.1++(ptInt e.2.1++ptInt e.2.2)
def ptState (s:StD):List Int:=ptInt s.1++(ptList ptEdge s.2.1++ptList ptInt s.2.2)
def ptTable (W:Int) (LL:List (List Int)):List Int:=putTab (W,(makeL LL).1,(makeL LL).2)
def ptRc (x:(Int × Int) × Int):List Int:=ptInt x.1.1++(ptInt x.1.2++ptInt x.2)
def ptEnd (e:Int):List Int:=ptInt (e+1)
def ptLex (t:LexD):List Int:=ptList ptRc (t.r.zip t.c)++(ptTable (colsL t.c) t.n++t.e.flatMap ptEnd)
def ptNet (n:NetD):List Int:=ptList ptState n.st++(ptList ptInt n.s++(ptList ptInt n.p++ptList ptInt n.q))
def ptLs (s:Int × List Int):List Int:=ptInt s.1++ptList ptInt s.2
def lookRow (tk:Nat) (es:List (Int × Int)):List Int:=es.foldl (fun l e=>l.set (e.1+1).toNat e.2) (List.replicate (tk+1) (-1))
def ptLook (tk:Nat) (A:List LsD):List Int:=ptList ptLs (A.map (fun s=>(s.1,s.2.1)))++ptTable ((tk:Int)+1) (A.map (fun s=>lookRow tk s.2.2))
def ptTok (x:Str × Bool):List Int:=ptText x.1++ptInt (if x.2 then 1 else 0)
def ptBody (t:TabsD):List Int:=ptList ptText t.rl++(ptList ptTok (t.tk.zip t.dr)++(ptLex t.lx++(ptNet t.nt++t.lk.flatMap (ptLook t.tk.length))))
def ptTabs (t:TabsD):List Int:=headL++ptBody t
end Go.Proofs.YtgnpmceimpjheaaGreat
