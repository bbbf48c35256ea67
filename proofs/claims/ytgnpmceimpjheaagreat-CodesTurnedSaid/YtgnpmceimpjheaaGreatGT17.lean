/- A part of the proof: CodZ OpenS GetW GetX SameA. -/
import Derived.Test.YtgnpmceimpjheaaGreatGT15
import Derived.Test.YtgnpmceimpjheaaGreatGT16
import Derived.Test.YtgnpmceimpjheaaGreatGT6
import Derived.Test.YtgnpmceimpjheaaGreatGT3
import Derived.Test.YtgnpmceimpjheaaGreatGT10
set_option maxRecDepth 100000
set_option maxHeartbeats 16000000
namespace Go.Proofs.YtgnpmceimpjheaaGreat
open Go.RowKit
def TablesPost (pg:Nat) (w:World) (Z:List Int) (e:Ending) (w':World):Prop :=
 Chg (·=pg) w w'∧((tabsG Z=none∧e=strangeP)∨∃ t m,tabsG Z=some t∧e=.returned (tabsV m)∧TabsIn w' (fun k=>w.heap.size≤k) m t)
theorem head_ne {Y:List Int} (hY:∀ a∈Y,Byte a) (h:Y≠headL):((strOfNums Y).toList == [72,66,84,49])=false:=by
 rw [beq_eq_false_iff_ne]
 intro e
 rw [ByteArray.toList_eq] at e
 refine h (str_inj hY (by decide) ?_)
 rw [strHead]
 exact ByteArray.ext (Array.toList_inj.1 e)
theorem setAll_out (b:Nat):∀ (vs:List Value) (o:Nat) (W:World) (j:Nat),(j<o∨o+vs.length≤j)→(setAll b o vs W).cell? ⟨b,j,none⟩=W.cell? ⟨b,j,none⟩
 | [],_,_,_,_=>rfl
 | v :: vs,o,W,j,h=>by
  rw [show setAll b o (v :: vs) W=setAll b (o+1) vs (W.setCell ⟨b,o,none⟩ v) from rfl,setAll_out b vs (o+1) _ j (by simp only [List.length_cons] at h;omega)]
  exact World.cell?_setCell_other _ _ _ _ (by intro e;injection e with _ e;simp only [List.length_cons] at h;omega)
theorem tokList {w:World} {S:Nat→Prop} {s:Sl} {L:List (Str × Bool)} (h:ListR strE tokR w S s L):strE.InS w S s (L.map (·.1)):=by
 obtain⟨X,h1,h2,h3⟩:=h
 have:X=L.map (·.1):=List.ext_getElem (by rw [List.length_map];exact h2) (fun j hx hl=>by
  rw [List.length_map] at hl
  have:=h3 j _ _ (List.getElem?_eq_getElem hx) (List.getElem?_eq_getElem hl)
  rw [List.getElem_map]
  exact this)
 rw [← this];exact h1
theorem tables_any {pg gb:Nat} (w:World) (Z:List Int) (h:GetSt pg gb w Z) (hl4:4≤Z.length):Calls Tryz.prog 55 #[.pointer (some ⟨pg,0,none⟩)] w (TablesPost pg w Z):=by
 have HG:=jh h
 obtain⟨o,cc,h1,h2,h3⟩:=h.c
 have hzl:=h.len
 have hmf:∀ (fn:Fn) (first cap:Array Value) (w:World),(Instr.makeFunc fn first cap).run Tryz.prog w=.ok (.func fn first cap) w:=fun _ _ _ _=>rfl
 have b1:decide (4≤Z.length)=true:=decide_eq_true hl4
 have b1':decide ((4:Int)≤(Z.length:Int))=true:=decide_eq_true (by omega)
 obtain⟨w0,hw0⟩:∃ W,W=(w.alloc (.cells #[.pointer (some ⟨pg,0,none⟩)] 132)).alloc (.cells #[.slice none 0 0,.slice none 0 0,.slice none 0 0,.slice none 0 0,.slice none 0 0,.slice none 0 0,.slice none 0 0,.slice none 0 0,.slice none 0 0,.slice none 0 0,.slice none 0 0,.slice none 0 0,.slice none 0 0] 34):=⟨_,rfl⟩
 have HC0:Hid (Chg (fun _=>False) w w0):=jh (by rw [hw0];exact ((Chg.refl _ w).alloc _).alloc _)
 have HS0:Hid (w0.heap.size=w.heap.size+2):=jh (by rw [hw0];simp)
 have q0:w0.cell? ⟨w.heap.size,0,none⟩=some (.pointer (some ⟨pg,0,none⟩)):=by rw [hw0];exact allocOld _ (allocNew _ _ rfl)
 have HZ0:Hid (∀ j,w0.frozen? ⟨w.heap.size+1,j,none⟩=false):=jh (fun j=>by
  have e:w.heap.size+1=(w.alloc (.cells #[.pointer (some ⟨pg,0,none⟩)] 132)).heap.size:=by simp
  rw [hw0,e]
  exact World.frozen?_alloc_new _ _ _ _)
 have HT0:Hid (∀ j,j<13→w0.cell? ⟨w.heap.size+1,j,none⟩=some (.slice none 0 0)∧w0.frozen? ⟨w.heap.size+1,j,none⟩=false):=jh (fun j hj=>by
  rw [hw0]
  refine⟨allocAt _ (by simp) ?_,?_⟩
  ·rcases (by omega:j=0∨j=1∨j=2∨j=3∨j=4∨j=5∨j=6∨j=7∨j=8∨j=9∨j=10∨j=11∨j=12) with rfl|rfl|rfl|rfl|rfl|rfl|rfl|rfl|rfl|rfl|rfl|rfl|rfl <;> rfl
  ·have e:w.heap.size+1=(w.alloc (.cells #[.pointer (some ⟨pg,0,none⟩)] 132)).heap.size:=by simp
   rw [e]
   exact World.frozen?_alloc_new _ _ _ _)
 have q1:=HC0.out.cellS h1 (fun h=>h)
 have HQ0:=jh q0
 have HB:Hid (BytesAt w0 gb o Z):=jh (h3.chg HC0.out (fun _ h=>h))
 have HB4:Hid (BytesAt w0 gb o (Z.take 4)):=jh ⟨fun j x hj=>HB.out.c j x (by rw [List.getElem?_take_of_lt (by have:=(List.getElem?_eq_some_iff.1 hj).1;rw [List.length_take] at this;omega)] at hj;exact hj),fun _=>Nat.lt_of_lt_of_le HG.out.lb HC0.out.size⟩
 have hcv:=conv8 cc HB4.out (a:=some ⟨gb,o,none⟩) (fun _=>rfl)
 rw [List.length_take,Nat.min_eq_left hl4] at hcv
 have HZC:Hid (Z.length≤cc):=jh h2
 have hcc4:4≤cc:=by omega
 obtain⟨tb,htb⟩:∃ b,b=w.heap.size+1:=⟨_,rfl⟩
 have HTB:Hid (tb=w.heap.size+1):=jh htb
 rw [← htb] at HT0 HZ0
 clear h h1 h2 h3
 go_enter Tryz.func55,Tryz.ntmps55
 go_upto_region 1 with (fail)
 rw [← hw0,← htb]
 clear hw0 htb
 by_cases hhd:Z.take 4=headL
 ·rw [hhd,strHead] at hcv
  go_wp2_with fail
  refine (must_ok _).mono ?_
  rintro e w1 ⟨rfl,rfl⟩
  clear hcv b1 b1' q0
  have HTG:Hid (tabsG Z=match bodyG (Z.drop 4) with
   | none=>none
   | some (t,r)=>if r=[]∧mayTabs t=true then some t else none):=jh (by unfold tabsG;rw [if_pos hhd];rfl)
  clear hhd
  go_upto_region 2 with (fail)
  obtain⟨wd,hwd⟩:∃ W,w1.drew=W:=⟨_,rfl⟩
  have HDD:Hid (Chg (fun _=>False) w1 wd):=jh (by rw [← hwd];exact (Chg.refl _ _).drew)
  refine wp_region_late (fun x=>x=wd) (fun i=>decide (8≤i)) (by kernel_rfl) ?_
  show wpAnyL _ _ _ _ _ _ 9 (Array.replicate 9 false) _ w1.drew
  rw [hwd]
  clear hwd
  have HBX:Hid (wd.cell? ⟨w.heap.size,0,none⟩=some (.pointer (some ⟨pg,0,none⟩))):=jh (HDD.out.cellS HQ0.out (fun h=>h))
  have HPC:Hid (wd.cell? ⟨pg,0,none⟩=some (.slice (some ⟨gb,o,none⟩) Z.length cc)):=jh (HDD.out.cellS q1 (fun h=>h))
  have HSS:Hid (wd=wd):=jh rfl
  (refine lrd 0 HSS.out fun K hK=>?_;apply ei;intro w' hC;((subst hC;have q:=HBX.out);go_simp;try with_reducible rfl);(try go_simp);refine hK _ ?_;clear hK K)
  (refine lrd 1 HSS.out fun K hK=>?_;apply ei;intro w' hC;((subst hC;have q:=HBX.out);go_simp;try with_reducible rfl);(try go_simp);refine hK _ ?_;clear hK K)
  (refine lrd 2 HSS.out fun K hK=>?_;apply ei;intro w' hC;(go_simp;try with_reducible rfl);(try go_simp);refine hK _ ?_;clear hK K)
  (refine lrd 3 HSS.out fun K hK=>?_;apply ei;intro w' hC;(go_simp;try with_reducible rfl);(try go_simp);refine hK _ ?_;clear hK K)
  (refine lrd 4 HSS.out fun K hK=>?_;apply ei;intro w' hC;((subst hC;have q:=HPC.out);go_simp;try with_reducible rfl);(try go_simp);refine hK _ ?_;clear hK K)
  have hz4:(4:Int)≤(Z.length:Int):=by omega
  (refine lrd 5 HSS.out fun K hK=>?_;apply ei;intro w' hC;(go_simp;try with_reducible rfl);(try go_simp);refine hK _ ?_;clear hK K)
  obtain⟨A,hA⟩:∃ A:Option Addr,(if cc=4 then some ⟨gb,o,none⟩ else some ⟨gb,o+4,none⟩)=A:=⟨_,rfl⟩
  rw [hA]
  (refine lrd 6 HSS.out fun K hK=>?_;apply ei;intro w' hC;(go_simp;try with_reducible rfl);(try go_simp);refine hK _ ?_;clear hK K)
  (refine lrd 7 HSS.out fun K hK=>?_;apply ei;intro w' hC;(go_simp;try with_reducible rfl);(try go_simp);refine hK _ ?_;clear hK K)
  have HCUT:Hid (GetSt pg gb (wd.setCell ⟨pg,0,none⟩ (.slice A (Z.length-4) (cc-4))) (Z.drop 4)):=jh (by
   have h1:=(HG.out.fresh (HC0.out.trans HDD.out)).cut HPC.out HZC.out (HB.out.chg HDD.out (fun _ h=>h)) hl4
   unfold cutV at h1
   by_cases hck:cc=4
   ·rw [if_pos hck] at h1 hA
    rw [← hA]
    have e1:Z.length-4=0:=by have:=HZC.out;omega
    rw [e1,hck]
    exact h1
   ·rw [if_neg hck] at h1 hA
    rw [← hA]
    exact h1)
  have k1:=HPC.out
  have k2:wd.frozen? ⟨pg,0,none⟩=false:=(HG.out.fresh (HC0.out.trans HDD.out)).z
  (refine late_store (i:=8) (by kernel_rfl) rfl rfl fun K hK=>?_;apply Exists.intro;refine⟨?_,(fun h=>absurd h (by decide)),?_⟩;(go_simp;try first|with_reducible rfl|exact⟨rfl,rfl⟩);(try go_simp);refine hK _ _ ?_;clear hK K)
  refine late_done (by kernel_rfl) ?_ _
  obtain⟨w2,hw2⟩:∃ W,W=wd.setCell ⟨pg,0,none⟩ (.slice A (Z.length-4) (cc-4)):=⟨_,rfl⟩
  rw [← hw2] at HCUT ⊢
  have HC2:Hid (Chg (·=pg) w1 w2):=jh (by rw [hw2];exact HDD.out.any.trans (setCellChg _ _ _ _))
  have HPG:Hid (pg<w.heap.size∧gb<w.heap.size):=jh ⟨HG.out.lt,HG.out.lb⟩
  have HSB2:Hid (GetSb pg gb w.heap.size w2 (Z.drop 4)):=jh ⟨HCUT.out,HC2.out.cellS HQ0.out (by have:=HPG.out;show ¬ w.heap.size=pg;omega),by have:=HPG.out;omega⟩
  have HT2:Hid (∀ j,j<13→w2.cell? ⟨tb,j,none⟩=some (.slice none 0 0)∧w2.frozen? ⟨tb,j,none⟩=false):=jh (fun j hj=>by
   have hn:¬ tb=pg:=by have:=HPG.out;have:=HTB.out;omega
   exact⟨HC2.out.cellS (HT0.out j hj).1 hn,(HC2.out.frozen (p:=⟨tb,j,none⟩) (World.block_lt_of_cell? _ _ (HT0.out j hj).1) hn).trans (HT0.out j hj).2⟩)
  have htl:tb<w1.heap.size:=World.block_lt_of_cell? _ _ (HT0.out 0 (by omega)).1
  have HZ2:Hid (∀ j,w2.frozen? ⟨tb,j,none⟩=false):=jh (fun j=>(HC2.out.frozen (p:=⟨tb,j,none⟩) htl (by have:=HPG.out;have:=HTB.out;show ¬ tb=pg;omega)).trans (HZ0.out j))
  clear htl hw2 hA k1 k2 hz4 q1 HPC HBX HSS hcc4
  have q0:=HSB2.out.c
  go_wp2_with fail
  refine (texts_any w2 _ HSB2.out.g).mono ?_
  rintro e w3 ⟨hc3,⟨h3,rfl⟩|⟨rl,r3,a3,h3,rfl,hR3,hg3,hn3⟩⟩
  ·refine⟨rfl,HC0.out.any.trans (HC2.out.trans hc3),.inl ⟨?_,rfl⟩⟩
   rw [HTG.out]
   simp only [bodyG,h3]
  obtain⟨n3,hn⟩:∃ n,rl.length=n:=⟨_,rfl⟩
  rw [hn] at hR3 hn3
  simp only [hn]
  have HN3:=jh hn
  have H3:=jh h3
  have hn':¬ tb=pg:=by have:=HPG.out;have:=HTB.out;omega
  have hT3:∀ j,j<13→w3.cell? ⟨tb,j,none⟩=some (.slice none 0 0)∧w3.frozen? ⟨tb,j,none⟩=false:=fun j hj =>
   ⟨hc3.cellS (HT2.out j hj).1 hn',(hc3.frozen (p:=⟨tb,j,none⟩) (World.block_lt_of_cell? _ _ (HT2.out j hj).1) hn').trans (HT2.out j hj).2⟩
  have c0:=(hT3 0 (by omega)).1
  have z0:=(hT3 0 (by omega)).2
  obtain⟨w4,hw4⟩:∃ W,W=w3.setCell ⟨tb,0,none⟩ (.slice a3 n3 n3):=⟨_,rfl⟩
  have hs4:Chg (·=tb) w3 w4:=by rw [hw4];exact setCellChg _ _ _ _
  have hoth4:∀ j,1≤j→j<13→w4.cell? ⟨tb,j,none⟩=some (.slice none 0 0):=fun j h1 h2=>by
   rw [hw4,World.cell?_setCell_other _ _ _ _ (by intro e;injection e with _ e;omega)]
   exact (hT3 j h2).1
  have HC4:Hid (w4.cell? ⟨tb,0,none⟩=some (.slice a3 n3 n3)∧∀ j,1≤j→j<13→w4.cell? ⟨tb,j,none⟩=some (.slice none 0 0)):=jh ⟨by rw [hw4];exact World.cell?_setCell_same _ _ _ c0,hoth4⟩
  have HTK4:Hid (TokSt pg gb w.heap.size tb w4 w4 [] r3):=jh (by
   have hp:=HPG.out
   have ht:=HTB.out
   have hlt:=World.block_lt_of_cell? _ _ c0
   have hz:∀ j,w4.frozen? ⟨tb,j,none⟩=false:=fun j=>by
    rw [hw4]
    have htl2:tb<w2.heap.size:=World.block_lt_of_cell? _ _ (HT2.out 0 (by omega)).1
    refine (World.frozen?_setCell _ _ _ _).trans ((hc3.frozen (p:=⟨tb,j,none⟩) htl2 hn').trans ?_)
    exact HZ2.out j
   exact⟨(HSB2.out.go hg3 hc3).chg hs4 (by omega) (by omega) (by omega),by omega,⟨_,hoth4 2 (by omega) (by omega),hz 2,.nil _ _⟩,fun j u _ hu=>hu,hz⟩)
  have HR4:Hid (strE.InS w4 (fun k=>w2.heap.size≤k∧k<w4.heap.size) (a3,n3,n3) rl):=jh ((hR3.to.chg hs4 (fun g hg e=>by have:=World.block_lt_of_cell? _ _ (HT2.out 0 (by omega)).1;simp only at this;omega)).mono (fun g hg hh=>⟨hh,hg⟩))
  have HC14:Hid (Chg (·=pg) w w4):=jh ((HC0.out.any.trans (HC2.out.trans hc3)).trans2 hs4 (fun g hg e=>by have:=HTB.out;omega))
  have HW24:Hid (w.heap.size+2≤w2.heap.size∧w2.heap.size≤w4.heap.size):=jh ⟨by have:=HC2.out.size;have:=HS0.out;omega,Nat.le_trans hc3.size hs4.size⟩
  clear hc3 h3 hR3 hg3 hn3 hn hT3 hs4 hoth4 q0 HC2 HSB2 HT2
  go_upto_region 4 with (fail)
  rw [← hw4]
  clear hw4 c0 z0
  have q0:=HTK4.out.g.c
  go_wp2_with fail
  refine (toks_any w4 r3 HTK4.out).mono ?_
  rintro e w5 ⟨hc5,⟨h5,rfl⟩|⟨L,r5,a5,h5,rfl,hL5,hst5,hl5,-,-,-⟩⟩
  ·refine⟨rfl,HC14.out.trans2 hc5 (fun g hg e=>?_),.inl ⟨?_,rfl⟩⟩
   ·rcases e with e|e|⟨v,hv,e⟩
    ·exact e
    ·have:=HTB.out;omega
    ·rw [HC4.out.2 2 (by omega) (by omega)] at hv
     obtain rfl:=Option.some.inj hv
     cases e
   ·rw [HTG.out]
    simp only [bodyG,H3.out,h5]
  obtain⟨n5,hn⟩:∃ n,L.length=n:=⟨_,rfl⟩
  rw [hn] at hL5 hl5
  simp only [hn]
  have HN5:=jh hn
  have H5:=jh h5
  have hc5':Chg (fun k=>k=pg∨k=tb) w4 w5:=hc5.mono (fun g hg e=>by
   rcases e with e|e|⟨v,hv,e⟩
   ·exact .inl e
   ·exact .inr e
   ·rw [HC4.out.2 2 (by omega) (by omega)] at hv
    obtain rfl:=Option.some.inj hv
    cases e)
  obtain⟨dv,hdv⟩:=hst5.f
  obtain⟨da,dn,dc,rfl⟩:=hdv.own.shape3
  have c1:=hst5.o 1 _ (by omega) (HC4.out.2 1 (by omega) (by omega))
  have z1:=hst5.z 1
  obtain⟨w6,hw6⟩:∃ W,W=w5.setCell ⟨tb,1,none⟩ (.slice a5 n5 n5):=⟨_,rfl⟩
  have hs6:Chg (·=tb) w5 w6:=by rw [hw6];exact setCellChg _ _ _ _
  have hoth6:∀ j u,j≠1→w5.cell? ⟨tb,j,none⟩=some u→w6.cell? ⟨tb,j,none⟩=some u:=fun j u hj hu=>by
   rw [hw6,World.cell?_setCell_other _ _ _ _ (by intro e;injection e with _ e;exact hj e.symm)]
   exact hu
  have HC6:Hid (w6.cell? ⟨tb,0,none⟩=some (.slice a3 n3 n3)∧w6.cell? ⟨tb,1,none⟩=some (.slice a5 n5 n5)∧w6.cell? ⟨tb,2,none⟩=some (.slice da dn dc)∧∀ j,3≤j→j<13→w6.cell? ⟨tb,j,none⟩=some (.slice none 0 0)):=jh
   ⟨hoth6 0 _ (by omega) (hst5.o 0 _ (by omega) HC4.out.1),by rw [hw6];exact World.cell?_setCell_same _ _ _ c1,hoth6 2 _ (by omega) hdv.c,fun j h1 h2=>hoth6 j _ (by omega) (hst5.o j _ (by omega) (HC4.out.2 j (by omega) h2))⟩
  have HZ6:Hid (∀ j,w6.frozen? ⟨tb,j,none⟩=false):=jh (fun j=>by rw [hw6];exact (World.frozen?_setCell _ _ _ _).trans (hst5.z j))
  have HTW:Hid (tb<w6.heap.size):=jh (World.block_lt_of_cell? _ _ HC6.out.1)
  have HSB6:Hid (GetSb pg gb w.heap.size w6 r5):=jh (by
   have hp:=HPG.out
   have ht:=HTB.out
   exact hst5.g.chg hs6 (by omega) (by omega) (by omega))
  have HD6:Hid (boolE.Own w6 (tb+1) (.slice da dn dc) (L.map (·.2))):=jh (hdv.own.chg hs6 (fun g hg _ e=>by omega))
  have HR6:Hid (strE.InS w6 (fun k=>w.heap.size+2≤k∧k<w6.heap.size) (a3,n3,n3) rl∧strE.InS w6 (fun k=>w.heap.size+2≤k∧k<w6.heap.size) (a5,n5,n5) (L.map (·.1))):=jh (by
   have hp:=HPG.out
   have ht:=HTB.out
   have h24:=HW24.out
   exact⟨((HR4.out.chg hc5' (fun g hg e=>by omega)).chg hs6 (fun g hg e=>by omega)).mono (fun g hg hh=>⟨by omega,hg⟩),((tokList hL5).chg hs6 (fun g hg e=>by omega)).mono (fun g hg hh=>⟨by omega,hg⟩)⟩)
  have HC16:Hid (Chg (·=pg) w w6):=jh ((HC14.out.trans2 hc5' (fun g hg e=>by have:=HTB.out;omega)).trans2 hs6 (fun g hg e=>by have:=HTB.out;omega))
  have HW6:Hid (w.heap.size+2≤w6.heap.size):=jh (by have:=HW24.out;have:=hc5.size;have:=hs6.size;omega)
  clear hc5 hc5' h5 hL5 hst5 hn hdv hs6 hoth6 q0 HTK4 HR4 HC4 HC14
  go_upto_region 5 with (fail)
  rw [← hw6]
  clear hw6 c1 z1
  obtain⟨wd,hwd⟩:∃ W,w6.drew=W:=⟨_,rfl⟩
  have HD:Hid (Chg (fun _=>False) w6 wd):=jh (by rw [← hwd];exact (Chg.refl _ _).drew)
  have HSD:=jh (HSB6.out.fresh HD.out)
  refine wp_region_late (fun x=>Chg (·=pg) wd x) (fun i=>decide (5≤i)) (by kernel_rfl) ?_
  show wpAnyL _ _ _ _ _ _ 8 (Array.replicate 8 false) _ w6.drew
  rw [hwd]
  clear hwd
  have HSS:Hid (Chg (·=pg) wd wd):=jh (Chg.refl _ _)
  (refine lrd 0 HSS.out fun K hK=>?_;apply ei;intro w' hC;((have q:=hC.cellS HSD.out.c HSD.out.ne);go_simp;try with_reducible rfl);(try go_simp);refine hK _ ?_;clear hK K)
  (refine lrd 2 HSS.out fun K hK=>?_;apply ei;intro w' hC;((have q:=hC.cellS HSD.out.c HSD.out.ne);go_simp;try with_reducible rfl);(try go_simp);refine hK _ ?_;clear hK K)
  refine late_call_p (i:=1) (by kernel_rfl) rfl rfl 107 #[.pointer (some ⟨pg,0,none⟩)] (fun v w''=>∃ (lx:LexD) (r:List Int) (m:LexS),lexG r5=some (lx,r)∧v=lexV' m∧LexIn w'' (fun k=>wd.heap.size≤k) m lx∧GetSt pg gb w'' r∧Chg (·=pg) wd w'') (by go_simp) ?_ ?_
  ·refine (lexer_any wd r5 HSD.out.g).mono ?_
   rintro e w7 ⟨hc7,⟨h7,rfl⟩|⟨lx,r7,m7,h7,rfl,hL7,hg7,-,-,-⟩⟩
   ·refine .inr ⟨_,rfl,rfl,HC16.out.trans (HD.out.any.trans hc7),.inl ⟨?_,rfl⟩⟩
    rw [HTG.out]
    simp only [bodyG,H3.out,H5.out,h7]
   ·exact .inl ⟨_,rfl,fun _=>hc7,lx,r7,m7,h7,rfl,hL7,hg7,hc7⟩
  rintro v w7-⟨lx,r7,m7,h7,rfl,hL7,hg7,hc7⟩ K hK
  (try go_simp)
  refine hK _ ?_
  clear hK K HSS
  have H7:=jh h7
  have HC7:=jh hc7
  have HL7:=jh hL7
  have HG7:=jh hg7
  have HSS:Hid (Chg (·=pg) wd w7):=HC7
  clear h7 hL7 hg7 hc7
  (refine lrd 4 HSS.out fun K hK=>?_;apply ei;intro w' hC;(go_simp;try with_reducible rfl);(try go_simp);refine hK _ ?_;clear hK K)
  refine late_call_p (i:=3) (by kernel_rfl) rfl rfl 108 #[.pointer (some ⟨pg,0,none⟩)] (fun v w''=>∃ (nt:NetD) (r:List Int) (m:NetS),netG r7=some (nt,r)∧v=netV m∧NetIn w'' (fun k=>w7.heap.size≤k) m nt∧GetSt pg gb w'' r∧Chg (·=pg) w7 w''∧nt.d.length≤16777215) (by go_simp) ?_ ?_
  ·refine (net_any w7 r7 HG7.out).mono ?_
   rintro e w8 ⟨hc8,⟨h8,rfl⟩|⟨nt,r8,m8,h8,rfl,hN8,hg8,hnl⟩⟩
   ·refine .inr ⟨_,rfl,rfl,HC16.out.trans (HD.out.any.trans (HC7.out.trans hc8)),.inl ⟨?_,rfl⟩⟩
    rw [HTG.out]
    simp only [bodyG,H3.out,H5.out,H7.out,h8]
   ·exact .inl ⟨_,rfl,fun _=>HC7.out.trans hc8,nt,r8,m8,h8,rfl,hN8,hg8,hc8,hnl⟩
  rintro v w8-⟨nt,r8,m8,h8,rfl,hN8,hg8,hc8,hnl⟩ K hK
  (try go_simp)
  refine hK _ ?_
  clear hK K HSS
  have H8:=jh h8
  have HC8:Hid (Chg (·=pg) w6 w8):=jh (HD.out.any.trans (HC7.out.trans hc8))
  have HS78:Hid (w6.heap.size≤wd.heap.size∧wd.heap.size≤w7.heap.size∧w7.heap.size≤w8.heap.size):=jh ⟨HD.out.size,HC7.out.size,hc8.size⟩
  have HL8:Hid (LexIn w8 (fun k=>w6.heap.size≤k∧k<w8.heap.size) m7 lx):=jh (LexIn.good.mono (LexIn.good.chg HL7.out hc8 (fun g hg e=>by have:=HPG.out;have:=HW6.out;have:=HS78.out;omega)) (fun g hg hh=>⟨by have:=HS78.out;omega,hg⟩))
  have HN8:Hid (NetIn w8 (fun k=>w6.heap.size≤k∧k<w8.heap.size) m8 nt):=jh (NetIn.good.mono hN8 (fun g hg hh=>⟨by have:=HS78.out;omega,hg⟩))
  have HG8:=jh hg8
  have HNL:=jh hnl
  clear h8 hN8 hg8 hc8 hnl HL7 HG7
  obtain⟨⟨p0,p1,p2⟩,⟨p3,p4,p5⟩,⟨p6,p7,p8⟩,⟨p9,p10,p11⟩⟩:=m7
  obtain⟨⟨u0,u1,u2⟩,⟨u3,u4,u5⟩,⟨u6,u7,u8⟩,⟨u9,u10,u11⟩,⟨u12,u13,u14⟩⟩:=m8
  simp only [lexV',netV,slV]
  have hnb:¬ tb=pg:=by have:=HPG.out;have:=HTB.out;omega
  have HC8T:Hid (∀ j,3≤j→j<13→w8.cell? ⟨tb,j,none⟩=some (.slice none 0 0)):=jh (fun j h1 h2=>HC8.out.cellS (HC6.out.2.2.2 j h1 h2) hnb)
  have HZ8:Hid (∀ j,w8.frozen? ⟨tb,j,none⟩=false):=jh (fun j=>(HC8.out.frozen (p:=⟨tb,j,none⟩) HTW.out hnb).trans (HZ6.out j))
  have k3:=HC8T.out 3 (by omega) (by omega)
  have k4:=HC8T.out 4 (by omega) (by omega)
  have k5:=HC8T.out 5 (by omega) (by omega)
  have k6:=HC8T.out 6 (by omega) (by omega)
  have z3:=HZ8.out 3
  have z4:=HZ8.out 4
  have z5:=HZ8.out 5
  have z6:=HZ8.out 6
  (refine late_store (i:=5) (by kernel_rfl) rfl rfl fun K hK=>?_;apply Exists.intro;refine⟨?_,(fun h=>absurd h (by decide)),?_⟩;(go_simp;try first|with_reducible rfl|exact⟨rfl,rfl⟩);(try go_simp);refine hK _ _ ?_;clear hK K)
  clear k3 k4 k5 k6 z3 z4 z5 z6
  obtain⟨w9,hw9⟩:∃ W,W=setAll tb 3 [.slice p0 p1 p2,.slice p3 p4 p5,.slice p6 p7 p8,.slice p9 p10 p11] w8:=⟨_,rfl⟩
  have HS9:Hid ((w9.cell? ⟨tb,3,none⟩=some (.slice p0 p1 p2)∧w9.cell? ⟨tb,4,none⟩=some (.slice p3 p4 p5)∧w9.cell? ⟨tb,5,none⟩=some (.slice p6 p7 p8)∧w9.cell? ⟨tb,6,none⟩=some (.slice p9 p10 p11))∧(∀ j,j<3∨7≤j→w9.cell? ⟨tb,j,none⟩=w8.cell? ⟨tb,j,none⟩)∧Chg (·=tb) w8 w9∧∀ j,w9.frozen? ⟨tb,j,none⟩=false):=jh (by
   obtain⟨s1,-,s3,s4⟩:=setAll_spec tb [.slice p0 p1 p2,.slice p3 p4 p5,.slice p6 p7 p8,.slice p9 p10 p11] 3 w8 (fun j hj=>by
    simp only [List.length_cons,List.length_nil] at hj
    rw [HC8T.out (3+j) (by omega) (by omega)];rfl)
   rw [hw9]
   exact⟨⟨s1 0 _ rfl,s1 1 _ rfl,s1 2 _ rfl,s1 3 _ rfl⟩,fun j hj=>setAll_out tb _ 3 w8 j (by simpa using hj),s3,fun j=>(s4 _).trans (HZ8.out j)⟩)
  simp only [setAll] at hw9
  rw [← hw9]
  clear hw9
  (refine late_turn (i:=6) (by kernel_rfl) rfl rfl fun K hK=>?_;apply Exists.intro;apply Exists.intro;refine⟨?_,?_,?_⟩;(go_simp;try first|with_reducible rfl|exact⟨rfl,rfl⟩);(exact fun h=>absurd h (by decide));(try go_simp);refine hK _ _ ?_;clear hK K)
  have k7:=(HS9.out.2.1 7 (by omega)).trans (HC8T.out 7 (by omega) (by omega))
  have k8:=(HS9.out.2.1 8 (by omega)).trans (HC8T.out 8 (by omega) (by omega))
  have k9:=(HS9.out.2.1 9 (by omega)).trans (HC8T.out 9 (by omega) (by omega))
  have k10:=(HS9.out.2.1 10 (by omega)).trans (HC8T.out 10 (by omega) (by omega))
  have k11:=(HS9.out.2.1 11 (by omega)).trans (HC8T.out 11 (by omega) (by omega))
  have z7:=HS9.out.2.2.2 7
  have z8:=HS9.out.2.2.2 8
  have z9:=HS9.out.2.2.2 9
  have z10:=HS9.out.2.2.2 10
  have z11:=HS9.out.2.2.2 11
  (refine late_store (i:=7) (by kernel_rfl) rfl rfl fun K hK=>?_;apply Exists.intro;refine⟨?_,(fun h=>absurd h (by decide)),?_⟩;(go_simp;try first|with_reducible rfl|exact⟨rfl,rfl⟩);(try go_simp);refine hK _ _ ?_;clear hK K)
  refine late_done (by kernel_rfl) ?_ _
  clear k7 k8 k9 k10 k11 z7 z8 z9 z10 z11
  obtain⟨wt,hwt⟩:∃ W,W=setAll tb 7 [.slice u0 u1 u2,.slice u3 u4 u5,.slice u6 u7 u8,.slice u9 u10 u11,.slice u12 u13 u14] w9:=⟨_,rfl⟩
  have HT:Hid ((wt.cell? ⟨tb,0,none⟩=some (.slice a3 n3 n3)∧wt.cell? ⟨tb,1,none⟩=some (.slice a5 n5 n5)∧wt.cell? ⟨tb,2,none⟩=some (.slice da dn dc)∧wt.cell? ⟨tb,3,none⟩=some (.slice p0 p1 p2)∧wt.cell? ⟨tb,4,none⟩=some (.slice p3 p4 p5)∧wt.cell? ⟨tb,5,none⟩=some (.slice p6 p7 p8)∧wt.cell? ⟨tb,6,none⟩=some (.slice p9 p10 p11)∧wt.cell? ⟨tb,7,none⟩=some (.slice u0 u1 u2)∧wt.cell? ⟨tb,8,none⟩=some (.slice u3 u4 u5)∧wt.cell? ⟨tb,9,none⟩=some (.slice u6 u7 u8)∧wt.cell? ⟨tb,10,none⟩=some (.slice u9 u10 u11)∧wt.cell? ⟨tb,11,none⟩=some (.slice u12 u13 u14)∧wt.cell? ⟨tb,12,none⟩=some (.slice none 0 0))∧Chg (·=tb) w8 wt∧∀ j,wt.frozen? ⟨tb,j,none⟩=false):=jh (by
   have f9:=HS9.out
   obtain⟨s1,-,s3,s4⟩:=setAll_spec tb [.slice u0 u1 u2,.slice u3 u4 u5,.slice u6 u7 u8,.slice u9 u10 u11,.slice u12 u13 u14] 7 w9 (fun j hj=>by
    simp only [List.length_cons,List.length_nil] at hj
    rw [f9.2.1 (7+j) (by omega),HC8T.out (7+j) (by omega) (by omega)];rfl)
   have so:=fun j hj=>setAll_out tb [.slice u0 u1 u2,.slice u3 u4 u5,.slice u6 u7 u8,.slice u9 u10 u11,.slice u12 u13 u14] 7 w9 j hj
   simp only [List.length_cons,List.length_nil] at so
   rw [hwt]
   have e8:∀ j u,w6.cell? ⟨tb,j,none⟩=some u→w8.cell? ⟨tb,j,none⟩=some u:=fun j u hu=>HC8.out.cellS hu hnb
   exact⟨⟨(so 0 (by omega)).trans ((f9.2.1 0 (by omega)).trans (e8 0 _ HC6.out.1)),(so 1 (by omega)).trans ((f9.2.1 1 (by omega)).trans (e8 1 _ HC6.out.2.1)),(so 2 (by omega)).trans ((f9.2.1 2 (by omega)).trans (e8 2 _ HC6.out.2.2.1)),(so 3 (by omega)).trans f9.1.1,(so 4 (by omega)).trans f9.1.2.1,(so 5 (by omega)).trans f9.1.2.2.1,(so 6 (by omega)).trans f9.1.2.2.2,s1 0 _ rfl,s1 1 _ rfl,s1 2 _ rfl,s1 3 _ rfl,s1 4 _ rfl,(so 12 (by omega)).trans ((f9.2.1 12 (by omega)).trans (HC8T.out 12 (by omega) (by omega)))⟩,f9.2.2.1.trans s3,fun j=>(s4 _).trans (f9.2.2.2 j)⟩)
  simp only [setAll] at hwt
  go_upto_region 6 with (fail)
  rw [← hwt]
  clear hwt HS9
  obtain⟨rfl,-⟩:=HN8.out.d.len
  have HQT:Hid (QSt pg gb w.heap.size tb wt wt r8):=jh (by
   have hp:=HPG.out
   have ht:=HTB.out
   have h8w:tb<w8.heap.size:=Nat.lt_of_lt_of_le HTW.out HC8.out.size
   exact⟨⟨HG8.out.chg HT.out.2.1 (by omega) (by omega),HT.out.2.1.cellS (HC8.out.cellS HSB6.out.c HSB6.out.ne) (show ¬ w.heap.size=tb by omega),HSB6.out.ne⟩,⟨by omega,by omega,by omega,Nat.lt_of_lt_of_le h8w HT.out.2.1.size⟩,fun j u _ hu=>hu,HT.out.2.2⟩)
  have HIT:Hid ((strE.InS wt (fun k=>w.heap.size+2≤k∧k<wt.heap.size) (a3,n3,n3) rl∧strE.InS wt (fun k=>w.heap.size+2≤k∧k<wt.heap.size) (a5,n5,n5) (L.map (·.1)))∧boolE.Own wt (tb+1) (.slice da dn dc) (L.map (·.2))∧LexIn wt (fun k=>w.heap.size+2≤k∧k<wt.heap.size) ⟨(p0,p1,p2),(p3,p4,p5),(p6,p7,p8),(p9,p10,p11)⟩ lx∧NetIn wt (fun k=>w.heap.size+2≤k∧k<wt.heap.size) ⟨(u0,u1,u2),(u3,u4,u5),(u6,u7,u8),(u9,u10,u11),(u12,nt.d.length,u14)⟩ nt):=jh (by
   have hp:=HPG.out
   have ht:=HTB.out
   have hw6:=HW6.out
   have h8:=HC8.out
   have h9:=HT.out.2.1
   refine⟨⟨((HR6.out.1.chg h8 (fun g hg e=>by omega)).chg h9 (fun g hg e=>by omega)).mono (fun g hg hh=>⟨hh.1,hg⟩),((HR6.out.2.chg h8 (fun g hg e=>by omega)).chg h9 (fun g hg e=>by omega)).mono (fun g hg hh=>⟨hh.1,hg⟩)⟩,(HD6.out.chg h8 (fun g hg _ e=>by omega)).chg h9 (fun g hg _ e=>by omega),LexIn.good.mono (LexIn.good.chg HL8.out h9 (fun g hg e=>by omega)) (fun g hg hh=>⟨by omega,hg⟩),NetIn.good.mono (NetIn.good.chg HN8.out h9 (fun g hg e=>by omega)) (fun g hg hh=>⟨by omega,hg⟩)⟩)
  have HCT:Hid (Chg (·=pg) w wt):=jh ((HC16.out.trans HC8.out).trans2 HT.out.2.1 (fun g hg e=>by have:=HTB.out;omega))
  have HLT0:Hid (LSt autoE autoR (Cq pg tb) (Tq pg gb w.heap.size tb) (fun w' (_:List (List LsD)) Z'=>QSt pg gb w.heap.size tb wt w' Z') wt wt (.slice none 0 0) [] r8 []):=jh (LSt.start (sideQ pg gb w.heap.size tb wt) HQT.out HQT.out.g.g (Chg.refl _ _))
  have HCE:=jh HT.out.1
  have HBD:Hid (bodyG (Z.drop 4)=match repG (lookG n5) nt.d.length [] r8 with
   | none=>none
   | some (lk,b5)=>some (⟨rl,L.map (·.1),L.map (·.2),lx,nt,lk⟩,b5)):=jh (by
   rw [← HN5.out]
   simp only [bodyG,H3.out,H5.out,H7.out,H8.out]
   cases repG (lookG L.length) nt.d.length [] r8 <;> rfl)
  clear HR6 HD6 HL8 HN8 HG8 HSB6 HC6 HZ6 HC8T HZ8 HSD HC7 HS78 HD HT HC8
  have q11:=HCE.out.2.2.2.2.2.2.2.2.2.2.2.1
  go_wp2
  clear q11
  go_loopw [46] (fun q wr=>∃ (i:Nat) (v0:Value) (acc:List (List LsD)) (Zi:List Int) (X:List Sl),i≤nt.d.length∧q=.int .i64 i∧acc.length=i∧repG (lookG n5) (nt.d.length-i) acc Zi=repG (lookG n5) nt.d.length [] r8∧LSt autoE autoR (Cq pg tb) (Tq pg gb w.heap.size tb) (fun w' (_:List (List LsD)) Z'=>QSt pg gb w.heap.size tb wt w' Z') wt wr v0 acc Zi X∧wr.cell? ⟨tb,12,none⟩=some v0) (fun q _=>nt.d.length-(intOf q).toNat)
  case atStart=>exact⟨0,_,[],r8,[],by omega,rfl,rfl,rfl,HLT0.out,HCE.out.2.2.2.2.2.2.2.2.2.2.2.2⟩
  case round =>
   clear HLT0
   obtain⟨i,v,acc,Zi,X,hi,rfl,hal,hrep,hls,h12⟩:=hrel
   obtain⟨va,vn,vc,rfl⟩:=hls.own.shape3
   have HL:=jh hls
   have HRP:=jh hrep
   have HAL:=jh hal
   have H12:=jh h12
   clear hls hrep hal h12
   by_cases hil:i<nt.d.length
   ·have b9:decide ((i:Int)<(nt.d.length:Int))=true:=by simp;omega
    have hib:i<16777215:=by have:=HNL.out;omega
    obtain⟨k,hk⟩:∃ k,nt.d.length-i=k+1:=⟨nt.d.length-i-1,by omega⟩
    have HKK:Hid (nt.d.length-i=k+1∧nt.d.length-(i+1)=k):=jh ⟨hk,by omega⟩
    clear hk
    go_upto_region 8 with (fail)
    obtain⟨wd,hwd⟩:∃ W,wr.drew=W:=⟨_,rfl⟩
    have HDD:Hid (Chg (fun _=>False) wr wd):=jh (by rw [← hwd];exact (Chg.refl _ _).drew)
    have HQD:Hid (QSt pg gb w.heap.size tb wt wd Zi):=jh (HL.out.st.chg HDD.out (fun h=>h) (fun h=>h) (fun h=>h) (fun h=>h))
    have h12d:=HDD.out.cellS H12.out (fun h=>h)
    have H12D:=jh h12d
    have HCL:Hid (Chg (·=pg) w wd):=jh (HCT.out.trans2 (HL.out.chg.trans HDD.out.any) (fun g hg e=>by rcases e with e|e;exact e;have:=HTB.out;omega))
    have hnb:¬ tb=pg:=by have:=HPG.out;have:=HTB.out;omega
    refine wp_region_late (fun x=>Chg (·=pg) wd x) (fun i=>decide (8≤i)) (by kernel_rfl) ?_
    show wpAnyL _ _ _ _ _ _ 11 (Array.replicate 11 false) _ wr.drew
    rw [hwd]
    clear hwd h12d
    have HSS:Hid (Chg (·=pg) wd wd):=jh (Chg.refl _ _)
    (refine lrd 0 HSS.out fun K hK=>?_;apply ei;intro w' hC;(go_simp;try with_reducible rfl);(try go_simp);refine hK _ ?_;clear hK K)
    (refine lrd 1 HSS.out fun K hK=>?_;apply ei;intro w' hC;((have q:=hC.cellS H12D.out hnb);go_simp;try with_reducible rfl);(try go_simp);refine hK _ ?_;clear hK K)
    (refine lrd 2 HSS.out fun K hK=>?_;apply ei;intro w' hC;((have q:=hC.cellS HQD.out.g.c HQD.out.g.ne);go_simp;try with_reducible rfl);(try go_simp);refine hK _ ?_;clear hK K)
    (refine lrd 3 HSS.out fun K hK=>?_;apply ei;intro w' hC;(go_simp;try with_reducible rfl);(try go_simp);refine hK _ ?_;clear hK K)
    (refine lrd 4 HSS.out fun K hK=>?_;apply ei;intro w' hC;((have q:=hC.cellS (HQD.out.o 1 _ (by omega) HCE.out.2.1) hnb);go_simp;try with_reducible rfl);(try go_simp);refine hK _ ?_;clear hK K)
    (refine lrd 5 HSS.out fun K hK=>?_;apply ei;intro w' hC;(go_simp;try with_reducible rfl);(try go_simp);refine hK _ ?_;clear hK K)
    refine late_call_p (i:=6) (by kernel_rfl) rfl rfl 109 #[.pointer (some ⟨pg,0,none⟩),.int .i64 n5] (fun v w''=>∃ (A:List LsD) (r:List Int) (ya:Option Addr),lookG n5 Zi=some (A,r)∧v=.agg #[.slice ya A.length A.length]∧autoR w'' (fun k=>wd.heap.size≤k) (ya,A.length,A.length) A∧GetSt pg gb w'' r∧Chg (·=pg) wd w'') (by go_simp) ?_ ?_
    ·refine (look_any hl5 wd Zi HQD.out.g.g).mono ?_
     rintro e w2 ⟨hc2,⟨h2,rfl⟩|⟨A,r,ya,h2,rfl,hA,hg2⟩⟩
     ·refine .inr ⟨_,rfl,rfl,HCL.out.trans hc2,.inl ⟨?_,rfl⟩⟩
      rw [HTG.out,HBD.out,← HRP.out,HKK.out.1]
      simp only [repG,h2]
     ·exact .inl ⟨_,rfl,fun _=>hc2,A,r,ya,h2,rfl,hA,hg2,hc2⟩
    rintro v w2-⟨A,r,ya,h2,rfl,hA,hg2,hc2⟩ K hK
    (try go_simp)
    refine hK _ ?_
    clear hK K HSS
    have HA2:=jh hA
    have HG2:=jh hg2
    have HC2:=jh hc2
    have HREP:Hid (repG (lookG n5) (nt.d.length-(i+1)) (acc++[A]) r=repG (lookG n5) nt.d.length [] r8):=jh (by
     rw [HKK.out.2,← HRP.out,HKK.out.1]
     conv=>rhs;unfold repG
     rw [h2])
    clear h2 hA hg2 hc2
    have HCR2:Hid (Chg (·=pg) wr w2):=jh (HDD.out.any.trans HC2.out)
    (refine late_turn (i:=7) (by kernel_rfl) rfl rfl fun K hK=>?_;apply Exists.intro;apply Exists.intro;refine⟨?_,?_,?_⟩;(go_simp;try first|with_reducible rfl|exact⟨rfl,rfl⟩);(exact fun _=>HC2.out.alloc _);(try go_simp);refine hK _ _ ?_;clear hK K)
    obtain⟨O3,hO3⟩:∃ O,O=Obj.cells #[.slice ya A.length A.length] 63:=⟨_,rfl⟩
    obtain⟨w3,hw3⟩:∃ W,W=w2.alloc O3:=⟨_,rfl⟩
    have HC3:Hid (Chg (fun _=>False) w2 w3):=jh (by rw [hw3];exact (Chg.refl _ _).alloc _)
    have HSRC:Hid (Src Tryz.prog autoE.sz autoE.sl (.slice (some ⟨w2.heap.size,0,none⟩) 1 1) 1 (autoE.encs [(ya,A.length,A.length)]) w3):=jh (by rw [hw3,hO3];exact autoE.srcLit (Y:=[(ya,A.length,A.length)]) 1 (fun _ _=>trivial))
    rw [← hO3,← hw3]
    have HOW:Hid (autoE.Own w3 wt.heap.size (.slice va vn vc) X):=jh ((HL.out.own.chgB HCR2.out (fun g hg e=>HL.out.ob g hg (.inl e))).chg HC3.out (fun _ _ _ h=>h))
    have HB3:Hid (wt.heap.size≤w3.heap.size):=jh (Nat.le_trans HL.out.chg.size (Nat.le_trans HCR2.out.size HC3.out.size))
    have HXL:Hid (X.length≤16777215):=jh (by rw [HL.out.len,HAL.out];omega)
    have HW3:=jh hw3
    clear hw3 hO3
    refine late_append (i:=8) (by kernel_rfl) rfl rfl (.tmp 49) (.tmp 55) 32 32 rfl (.slice va vn vc) (.slice (some ⟨w2.heap.size,0,none⟩) 1 1) rfl rfl (fun v' w4=>autoE.Own w4 wt.heap.size v' (X++[(ya,A.length,A.length)])∧(Chg (fun k=>(Value.slice va vn vc).ownBlock=some k) w3 w4∧(v'.ownBlock=(Value.slice va vn vc).ownBlock∨v'.ownBlock=some w3.heap.size))∧∃ a n c,v'=.slice a n c) ?_ ?_
    ·obtain⟨v',w4,hrun,h1,h2,⟨h3,h4⟩,-⟩:=HOW.out.append HB3.out 32 (.slice (some ⟨w2.heap.size,0,none⟩) 1 1) [(ya,A.length,A.length)] HSRC.out (fun _ _=>trivial) (by have:=HXL.out;simp;omega) 32
     exact⟨v',w4,hrun,(fun h=>absurd h (by decide)),h1,⟨h3,h4⟩,h1.shape3⟩
    rintro v' w4-⟨o1,o2,na,nn,nc,rfl⟩ K hK
    have HL4:Hid (LSt autoE autoR (Cq pg tb) (Tq pg gb w.heap.size tb) (fun w' (_:List (List LsD)) Z'=>QSt pg gb w.heap.size tb wt w' Z') wt w4 (.slice na nn nc) (acc++[A]) r (X++[(ya,A.length,A.length)])):=jh (by
     have hp:=HPG.out
     have hq:=HL.out.st.lt
     have hsz:=HL.out.chg.size
     have hdz:=HDD.out.size
     refine LSt.step (ListR.good lsR.good) (sideQ pg gb w.heap.size tb wt) O3 HL.out (ListR.good lsR.good |>.mono HA2.out (fun k _ hk=>⟨by omega,fun ht=>by rcases ht with h|h|h|h <;> omega⟩)) (HQD.out.go HG2.out HC2.out) (HCR2.out.mono (fun k _ e=>.inl e)) (fun k h=>.inl h) (fun k h=>.inl h) o1 (by rw [← HW3.out];exact o2))
    have H124:Hid (w4.cell? ⟨tb,12,none⟩=some (.slice va vn vc)):=jh (o2.1.cellS (HC3.out.cellS (HC2.out.cellS H12D.out hnb) (fun h=>h)) (fun e=>HL.out.ob _ e (.inr (.inr (.inr rfl)))))
    (try go_simp)
    refine hK _ ?_
    clear hK K o1 o2
    have k12:=H124.out
    have z12:=HL4.out.st.z 12
    (refine late_turn (i:=9) (by kernel_rfl) rfl rfl fun K hK=>?_;apply Exists.intro;apply Exists.intro;refine⟨?_,?_,?_⟩;(go_simp;try first|with_reducible rfl|exact⟨rfl,rfl⟩);(exact fun h=>absurd h (by decide));(try go_simp);refine hK _ _ ?_;clear hK K)
    (refine late_store (i:=10) (by kernel_rfl) rfl rfl fun K hK=>?_;apply Exists.intro;refine⟨?_,(fun h=>absurd h (by decide)),?_⟩;(go_simp;try first|with_reducible rfl|exact⟨rfl,rfl⟩);(try go_simp);refine hK _ _ ?_;clear hK K)
    refine late_done (by kernel_rfl) ?_ _
    have HL5:Hid (LSt autoE autoR (Cq pg tb) (Tq pg gb w.heap.size tb) (fun w' (_:List (List LsD)) Z'=>QSt pg gb w.heap.size tb wt w' Z') wt (w4.setCell ⟨tb,12,none⟩ (.slice na nn nc)) (.slice na nn nc) (acc++[A]) r (X++[(ya,A.length,A.length)])):=jh (by
     exact LSt.store (S:=(·=tb)) (ListR.good lsR.good) HL4.out (setCellChg _ _ _ _) (fun k e=>.inr e) (HL4.out.st.set _) (fun k h=>h) (fun k h=>h) (fun k h=>by rcases h with h|h;exact .inl h;exact .inr (.inr (.inr h))))
    have H125:Hid ((w4.setCell ⟨tb,12,none⟩ (.slice na nn nc)).cell? ⟨tb,12,none⟩=some (.slice na nn nc)):=jh (World.cell?_setCell_same _ _ _ H124.out)
    clear k12 z12
    go_wp2
    go_roundw
    case rel=>exact⟨i+1,_,acc++[A],r,X++[(ya,A.length,A.length)],by omega,by go_num,by simp [HAL.out],HREP.out,HL5.out,H125.out⟩
    case measure=>simp [intOf];omega
   ·obtain rfl:i=nt.d.length:=by omega
    have b9:decide ((nt.d.length:Int)<(nt.d.length:Int))=false:=by simp
    obtain⟨_,_,hv,hvc,hlk⟩:=HL.out.final (ListR.good lsR.good)
    injection hv with e1 e2 e3
    subst e1 e2 e3
    have HLK:=jh hlk
    obtain⟨_,_,hv,hdc,hdo⟩:=HIT.out.2.1.clip
    injection hv with e1 e2 e3
    subst e1 e2 e3
    obtain⟨dn,hdn⟩:∃ n,(L.map (·.2)).length=n:=⟨_,rfl⟩
    rw [hdn] at hdc hdo HCE HIT
    have HDO:=jh hdo
    obtain⟨t,htt⟩:∃ t:TabsD,t=⟨rl,L.map (·.1),L.map (·.2),lx,nt,acc⟩:=⟨_,rfl⟩
    obtain⟨m,hm⟩:∃ m:TabsS,m=⟨(a3,n3,n3),(a5,n5,n5),(da,dn,dn),⟨(p0,p1,p2),(p3,p4,p5),(p6,p7,p8),(p9,p10,p11)⟩,⟨(u0,u1,u2),(u3,u4,u5),(u6,u7,u8),(u9,u10,u11),(u12,nt.d.length,u14)⟩,(va,acc.length,acc.length)⟩:=⟨_,rfl⟩
    have HV:Hid (tabsV m=.agg #[.slice a3 n3 n3,.slice a5 n5 n5,.slice da dn dn,.slice p0 p1 p2,.slice p3 p4 p5,.slice p6 p7 p8,.slice p9 p10 p11,.slice u0 u1 u2,.slice u3 u4 u5,.slice u6 u7 u8,.slice u9 u10 u11,.slice u12 nt.d.length u14,.slice va acc.length acc.length]):=jh (by rw [hm];rfl)
    have HRB:Hid (bodyG (Z.drop 4)=some (t,Zi)):=jh (by
     rw [HBD.out,← HRP.out,Nat.sub_self,htt];rfl)
    have HFR:=jh (fair_body HRB.out)
    have HTN:Hid (tabsG Z=if Zi=[]∧mayTabs t=true then some t else none):=jh (by rw [HTG.out,HRB.out])
    clear hlk hdo hdn HTG HBD HRP H3 H5 H7 H8
    go_upto_region 10 with (fail)
    have hnb:¬ tb=pg:=by have:=HPG.out;have:=HTB.out;omega
    obtain⟨wd,hwd⟩:∃ W,wr.drew=W:=⟨_,rfl⟩
    have HDD:Hid (Chg (fun _=>False) wr wd):=jh (by rw [← hwd];exact (Chg.refl _ _).drew)
    have HQD:Hid (QSt pg gb w.heap.size tb wt wd Zi):=jh (HL.out.st.chg HDD.out (fun h=>h) (fun h=>h) (fun h=>h) (fun h=>h))
    have H2D:Hid (wd.cell? ⟨tb,2,none⟩=some (.slice da dn dc)):=jh (HQD.out.o 2 _ (by omega) HCE.out.2.2.1)
    have H12D:Hid (wd.cell? ⟨tb,12,none⟩=some (.slice va acc.length vc)):=jh (HDD.out.cellS H12.out (fun h=>h))
    refine wp_region_late (fun x=>x=wd) (fun i=>decide (7≤i)) (by kernel_rfl) ?_
    show wpAnyL _ _ _ _ _ _ 10 (Array.replicate 10 false) _ wr.drew
    rw [hwd]
    clear hwd
    have HSS:Hid (wd=wd):=jh rfl
    (refine lrd 0 HSS.out fun K hK=>?_;apply ei;intro w' hC;(go_simp;try with_reducible rfl);(try go_simp);refine hK _ ?_;clear hK K)
    (refine lrd 1 HSS.out fun K hK=>?_;apply ei;intro w' hC;((subst hC;have q:=H2D.out);go_simp;try with_reducible rfl);(try go_simp);refine hK _ ?_;clear hK K)
    (refine lrd 3 HSS.out fun K hK=>?_;apply ei;intro w' hC;(go_simp;try with_reducible rfl);(try go_simp);refine hK _ ?_;clear hK K)
    (refine lrd 4 HSS.out fun K hK=>?_;apply ei;intro w' hC;((subst hC;have q:=H12D.out);go_simp;try with_reducible rfl);(try go_simp);refine hK _ ?_;clear hK K)
    refine late_call (i:=2) (by kernel_rfl) rfl rfl 110 #[.slice da dn dc] (fun q w''=>q=.slice da dn dn∧wd=w'') (by go_simp) ?_ ?_
    ·refine (clipBool wd da dn dc hdc).mono ?_
     rintro e w2 ⟨rfl,rfl⟩
     exact⟨_,rfl,fun _=>rfl,rfl,rfl⟩
    rintro q w''-⟨rfl,rfl⟩ K hK
    (try go_simp)
    refine hK _ ?_
    clear hK K
    (refine lrd 6 HSS.out fun K hK=>?_;apply ei;intro w' hC;(go_simp;try with_reducible rfl);(try go_simp);refine hK _ ?_;clear hK K)
    refine late_call (i:=5) (by kernel_rfl) rfl rfl 111 #[.slice va acc.length vc] (fun q w''=>q=.slice va acc.length acc.length∧wd=w'') (by go_simp) ?_ ?_
    ·refine (clipAuto wd va acc.length vc hvc).mono ?_
     rintro e w2 ⟨rfl,rfl⟩
     exact⟨_,rfl,fun _=>rfl,rfl,rfl⟩
    rintro q w''-⟨rfl,rfl⟩ K hK
    (try go_simp)
    refine hK _ ?_
    clear hK K
    have k2:=H2D.out
    have k12:=H12D.out
    have z2:=HQD.out.z 2
    have z12:=HQD.out.z 12
    (refine late_store (i:=7) (by kernel_rfl) rfl rfl fun K hK=>?_;apply Exists.intro;refine⟨?_,(fun h=>absurd h (by decide)),?_⟩;(go_simp;try first|with_reducible rfl|exact⟨rfl,rfl⟩);(try go_simp);refine hK _ _ ?_;clear hK K)
    (refine late_turn (i:=8) (by kernel_rfl) rfl rfl fun K hK=>?_;apply Exists.intro;apply Exists.intro;refine⟨?_,?_,?_⟩;(go_simp;try first|with_reducible rfl|exact⟨rfl,rfl⟩);(exact fun h=>absurd h (by decide));(try go_simp);refine hK _ _ ?_;clear hK K)
    (refine late_store (i:=9) (by kernel_rfl) rfl rfl fun K hK=>?_;apply Exists.intro;refine⟨?_,(fun h=>absurd h (by decide)),?_⟩;(go_simp;try first|with_reducible rfl|exact⟨rfl,rfl⟩);(try go_simp);refine hK _ _ ?_;clear hK K)
    refine late_done (by kernel_rfl) ?_ _
    clear k2 k12 z2 z12
    obtain⟨we,hwe⟩:∃ W,W=(wd.setCell ⟨tb,2,none⟩ (.slice da dn dn)).setCell ⟨tb,12,none⟩ (.slice va acc.length acc.length):=⟨_,rfl⟩
    have HCDE:Hid (Chg (·=tb) wd we):=jh (by rw [hwe];exact (setCellChg _ _ _ _).trans (setCellChg _ _ _ _))
    have HZE:Hid (∀ j,we.frozen? ⟨tb,j,none⟩=false):=jh (fun j=>by rw [hwe];exact (World.frozen?_setCell _ _ _ _).trans ((World.frozen?_setCell _ _ _ _).trans (HQD.out.z j)))
    have HEE:Hid (∀ w',Chg (fun _=>False) we w'→w'.cell? ⟨tb,0,none⟩=some (.slice a3 n3 n3)∧w'.cell? ⟨tb,1,none⟩=some (.slice a5 n5 n5)∧w'.cell? ⟨tb,2,none⟩=some (.slice da dn dn)∧w'.cell? ⟨tb,3,none⟩=some (.slice p0 p1 p2)∧w'.cell? ⟨tb,4,none⟩=some (.slice p3 p4 p5)∧w'.cell? ⟨tb,5,none⟩=some (.slice p6 p7 p8)∧w'.cell? ⟨tb,6,none⟩=some (.slice p9 p10 p11)∧w'.cell? ⟨tb,7,none⟩=some (.slice u0 u1 u2)∧w'.cell? ⟨tb,8,none⟩=some (.slice u3 u4 u5)∧w'.cell? ⟨tb,9,none⟩=some (.slice u6 u7 u8)∧w'.cell? ⟨tb,10,none⟩=some (.slice u9 u10 u11)∧w'.cell? ⟨tb,11,none⟩=some (.slice u12 nt.d.length u14)∧w'.cell? ⟨tb,12,none⟩=some (.slice va acc.length acc.length)):=jh (fun w' hc=>by
     have hne:∀ j u,j≠2→j<12→wt.cell? ⟨tb,j,none⟩=some u→w'.cell? ⟨tb,j,none⟩=some u:=fun j u h1 h2 hu=>by
      refine hc.cellS ?_ (fun h=>h)
      rw [hwe,World.cell?_setCell_other _ _ _ _ (by intro e;injection e with _ e;omega),World.cell?_setCell_other _ _ _ _ (by intro e;injection e with _ e;omega)]
      exact HQD.out.o j u h2 hu
     obtain⟨f0,f1,-,f3,f4,f5,f6,f7,f8,f9,f10,f11,-⟩:=HCE.out
     refine⟨hne 0 _ (by omega) (by omega) f0,hne 1 _ (by omega) (by omega) f1,hc.cellS ?_ (fun h=>h),hne 3 _ (by omega) (by omega) f3,hne 4 _ (by omega) (by omega) f4,hne 5 _ (by omega) (by omega) f5,hne 6 _ (by omega) (by omega) f6,hne 7 _ (by omega) (by omega) f7,hne 8 _ (by omega) (by omega) f8,hne 9 _ (by omega) (by omega) f9,hne 10 _ (by omega) (by omega) f10,hne 11 _ (by omega) (by omega) f11,hc.cellS ?_ (fun h=>h)⟩
     ·rw [hwe,World.cell?_setCell_other _ _ _ _ (by intro e;injection e with _ e;omega)]
      exact World.cell?_setCell_same _ _ _ H2D.out
     ·rw [hwe]
      refine World.cell?_setCell_same _ _ _ (u:=.slice va acc.length vc) ?_
      rw [World.cell?_setCell_other _ _ _ _ (by intro e;injection e with _ e;omega)]
      exact H12D.out)
    have HTE:Hid (Chg (fun k=>k=pg∨k=tb) wt we):=jh (((HL.out.chg.mono (fun k _ e=>e)).trans HDD.out.any).trans (HCDE.out.mono (fun k _ e=>.inr e)))
    have HINE:Hid (TabsIn we (fun k=>w.heap.size≤k∧k≠tb) m t):=jh (by
     have hp:=HPG.out
     have ht:=HTB.out
     have hte:=HTE.out
     have hzt:=HL.out.chg.size
     obtain⟨⟨i1,i2⟩,i3,i4,i5⟩:=HIT.out
     rw [hm,htt]
     refine⟨(i1.chg hte (fun g hg e=>by omega)).mono (fun g _ hg=>⟨by omega,by omega⟩),(i2.chg hte (fun g hg e=>by omega)).mono (fun g _ hg=>⟨by omega,by omega⟩),?_,LexIn.good.mono (LexIn.good.chg i4 hte (fun g hg e=>by omega)) (fun g _ hg=>⟨by omega,by omega⟩),NetIn.good.mono (NetIn.good.chg i5 hte (fun g hg e=>by omega)) (fun g _ hg=>⟨by omega,by omega⟩),?_⟩
     ·exact (((HDO.out.chg hte (fun g hg _ e=>by omega)).in' (c':=dn) (Nat.le_refl _)).inS).mono (fun g _ hg=>⟨by omega,by omega⟩)
     ·have g2:=(ListR.good autoR.good).chg ((ListR.good autoR.good).chg HLK.out HDD.out (fun _ _ h=>h)) HCDE.out (fun g hg e=>hg.2 (.inr (.inr (.inr e))))
      exact (ListR.good autoR.good).mono g2 (fun g _ hg=>⟨Nat.le_trans HCT.out.size hg.1,fun e=>hg.2 (.inr (.inr (.inr e)))⟩))
    have HGE:Hid (GetSb pg gb w.heap.size we Zi):=jh (by
     have hp:=HPG.out
     have ht:=HTB.out
     exact HQD.out.g.chg HCDE.out (by omega) (by omega) (by omega))
    have HCWE:Hid (Chg (·=pg) w we):=jh (HCT.out.trans2 HTE.out (fun g hg e=>by have:=HTB.out;omega))
    clear hm htt
    go_upto_region 11 with (fail)
    rw [← hwe]
    clear hwe HIT HCE HLK HDO HQD H2D H12D HTE HCDE HL H12 HCT HQT
    obtain⟨yo,yc,hy1,-,-⟩:=HGE.out.g.c
    have g0:=HGE.out.c
    by_cases hz:Zi=[]
    ·have b5:((Zi.length:Int) == 0)=true:=by rw [hz];rfl
     have b5':(Zi.length == 0)=true:=by rw [hz];rfl
     obtain⟨q0,q1,q2,q3,q4,q5,q6,q7,q8,q9,q10,q11,q12⟩:=HEE.out we (Chg.refl _ _)
     have HMAY:Hid (Calls Tryz.prog 12 #[.agg #[.slice a3 n3 n3,.slice a5 n5 n5,.slice da dn dn,.slice p0 p1 p2,.slice p3 p4 p5,.slice p6 p7 p8,.slice p9 p10 p11,.slice u0 u1 u2,.slice u3 u4 u5,.slice u6 u7 u8,.slice u9 u10 u11,.slice u12 nt.d.length u14,.slice va acc.length acc.length]] we fun e w'=>e=.returned (.bool (mayTabs t))∧Chg (fun _=>False) we w'):=jh (by rw [← HV.out];exact may_tabs t m _ we HINE.out HFR.out)
     go_wp2_with fail
     refine HMAY.out.mono ?_
     rintro e w6 ⟨rfl,hc6⟩
     have HC6:=jh hc6
     clear hc6 HMAY q0 q1 q2 q3 q4 q5 q6 q7 q8 q9 q10 q11 q12
     cases hmt:mayTabs t with
     | false =>
      have HF:Hid (tabsG Z=none):=jh (by rw [HTN.out,hmt];simp)
      clear hmt
      go_wp2_with fail
      refine (must_no _).mono ?_
      rintro e w7 ⟨rfl,rfl⟩
      exact⟨rfl,HCWE.out.trans HC6.out.any,.inl ⟨HF.out,rfl⟩⟩
     | true =>
      have HF:Hid (tabsG Z=some t):=jh (by rw [HTN.out,hmt,if_pos ⟨hz,rfl⟩])
      clear hmt
      go_wp2_with fail
      refine (must_ok _).mono ?_
      rintro e w7 ⟨rfl,rfl⟩
      obtain⟨q0,q1,q2,q3,q4,q5,q6,q7,q8,q9,q10,q11,q12⟩:=HEE.out w7 HC6.out
      have htl:tb<we.heap.size:=World.block_lt_of_cell? _ _ (HEE.out we (Chg.refl _ _)).1
      have hz6:∀ j,w7.frozen? ⟨tb,j,none⟩=false:=fun j=>(HC6.out.frozen (p:=⟨tb,j,none⟩) htl (fun h=>h)).trans (HZE.out j)
      have z0:=hz6 0;have z1:=hz6 1;have z2:=hz6 2;have z3:=hz6 3;have z4:=hz6 4;have z5:=hz6 5;have z6:=hz6 6;have z7:=hz6 7;have z8:=hz6 8;have z9:=hz6 9;have z10:=hz6 10;have z11:=hz6 11;have z12:=hz6 12
      obtain⟨y1,-,y3,-⟩:=setAll_spec tb [.slice a3 n3 n3,.slice a5 n5 n5,.slice da dn dn,.slice p0 p1 p2,.slice p3 p4 p5,.slice p6 p7 p8,.slice p9 p10 p11,.slice u0 u1 u2,.slice u3 u4 u5,.slice u6 u7 u8,.slice u9 u10 u11,.slice u12 nt.d.length u14,.slice va acc.length acc.length] 0 w7 (fun j hj=>by
       simp only [List.length_cons,List.length_nil] at hj
       rcases (by omega:j=0∨j=1∨j=2∨j=3∨j=4∨j=5∨j=6∨j=7∨j=8∨j=9∨j=10∨j=11∨j=12) with rfl|rfl|rfl|rfl|rfl|rfl|rfl|rfl|rfl|rfl|rfl|rfl|rfl
       ·rw [q0];rfl
       ·rw [q1];rfl
       ·rw [q2];rfl
       ·rw [q3];rfl
       ·rw [q4];rfl
       ·rw [q5];rfl
       ·rw [q6];rfl
       ·rw [q7];rfl
       ·rw [q8];rfl
       ·rw [q9];rfl
       ·rw [q10];rfl
       ·rw [q11];rfl
       ·rw [q12];rfl)
      have s0:=y1 0 _ rfl;have s1:=y1 1 _ rfl;have s2:=y1 2 _ rfl;have s3:=y1 3 _ rfl;have s4:=y1 4 _ rfl;have s5:=y1 5 _ rfl;have s6:=y1 6 _ rfl;have s7:=y1 7 _ rfl;have s8:=y1 8 _ rfl;have s9:=y1 9 _ rfl;have s10:=y1 10 _ rfl;have s11:=y1 11 _ rfl;have s12:=y1 12 _ rfl
      have HFIN:Hid (TablesPost pg w Z (.returned (tabsV m)) (setAll tb 0 [.slice a3 n3 n3,.slice a5 n5 n5,.slice da dn dn,.slice p0 p1 p2,.slice p3 p4 p5,.slice p6 p7 p8,.slice p9 p10 p11,.slice u0 u1 u2,.slice u3 u4 u5,.slice u6 u7 u8,.slice u9 u10 u11,.slice u12 nt.d.length u14,.slice va acc.length acc.length] w7)):=jh (by
       refine⟨(HCWE.out.trans HC6.out.any).trans2 y3 (fun g hg e=>by have:=HTB.out;omega),.inr ⟨_,_,HF.out,rfl,?_⟩⟩
       exact TabsIn.good.mono (TabsIn.good.chg (TabsIn.good.chg HINE.out HC6.out (fun _ _ h=>h)) y3 (fun g hg e=>hg.2 e)) (fun g _ hg=>hg.1))
      rw [HV.out] at HFIN
      simp only [setAll,Nat.zero_add] at s0 s1 s2 s3 s4 s5 s6 s7 s8 s9 s10 s11 s12 HFIN
      clear y1 y3 hz6
      go_wp2
      exact bodyPost_ret (v:=.agg #[.slice a3 n3 n3,.slice a5 n5 n5,.slice da dn dn,.slice p0 p1 p2,.slice p3 p4 p5,.slice p6 p7 p8,.slice p9 p10 p11,.slice u0 u1 u2,.slice u3 u4 u5,.slice u6 u7 u8,.slice u9 u10 u11,.slice u12 nt.d.length u14,.slice va acc.length acc.length]) (by simp [results,Tryz.results55,go_sem,s0,s1,s2,s3,s4,s5,s6,s7,s8,s9,s10,s11,s12]) rfl HFIN.out
    ·have HF:Hid (tabsG Z=none):=jh (by rw [HTN.out,if_neg (fun h=>hz h.1)])
     have b5:((Zi.length:Int) == 0)=false:=by simpa using hz
     have b5':(Zi.length == 0)=false:=by simpa using hz
     go_wp2_with fail
     refine (must_no _).mono ?_
     rintro e w7 ⟨rfl,rfl⟩
     exact⟨rfl,HCWE.out,.inl ⟨HF.out,rfl⟩⟩
 ·have HF:Hid (tabsG Z=none):=jh (by unfold tabsG;rw [if_neg hhd])
  have hne:=head_ne (fun a ha=>HG.out.byte a (List.mem_of_mem_take ha)) hhd
  obtain⟨S4,hS4⟩:∃ s,strOfNums (Z.take 4)=s:=⟨_,rfl⟩
  rw [hS4] at hcv hne
  clear hS4 hhd
  go_wp2_with fail
  refine (must_no _).mono ?_
  rintro e w3 ⟨rfl,rfl⟩
  exact⟨rfl,HC0.out.any,.inl ⟨HF.out,rfl⟩⟩
end Go.Proofs.YtgnpmceimpjheaaGreat
namespace Go.Proofs.YtgnpmceimpjheaaGreat
open Go.RowKit
structure Fresh (w0 w:World) (v:Value) (X:List Int) (pg:Option Nat):Prop where
 val:v=.slice (pg.map fun g=>⟨g,0,none⟩) X.length X.length
 own:∀ g,pg=some g→w0.heap.size≤g∧Row w g X
 nil:pg=none→X=[]
theorem clip_own (w0 w:World) (v:Value) (X:List Int) (h:Own w w0.heap.size v X) :
  Calls Tryz.prog 73 #[v] w fun e w'=>∃ v' pg,e=.returned v'∧w'=w∧Fresh w0 w v' X pg:=by
 rcases h with ⟨rfl,rfl⟩|⟨g,C,rfl,hg,hR,hp,hm⟩
 ·go_enter Tryz.func73,Tryz.ntmps73
  go_wp2
  go_ret
  exact⟨_,none,rfl,rfl,rfl,(fun g hg=>by cases hg),fun _=>rfl⟩
 ·refine (clip_any w g _ _ hp.length_le).mono fun e w' ⟨he,hw⟩=>?_
  subst hw
  exact⟨_,some g,he,rfl,rfl,fun g' hg'=>by
   obtain rfl:=Option.some.inj hg'
   exact⟨hg,fun k x hk=>by have:=(hR.bytes hp).c k x hk;rw [Nat.zero_add] at this;exact this.1,hR.z,hR.lt,fun x hx=>hR.byte x (hp.subset hx)⟩,fun h=>by cases h⟩
theorem open_short (sv:Value) (Z:List Int) (a:Option Addr) (c:Nat) (w:World) (hl:Z.length<4) :
  Calls Tryz.prog 54 #[sv,.slice a Z.length c] w fun e w'=>e=.returned (.tuple #[.slice none 0 0,.int .i64 4])∧w'=w:=by
 have h1:(Z.length:Int)-4<0:=by omega
 go_enter Tryz.func54,Tryz.ntmps54
 go_wp2
 go_ret2
 exact⟨rfl,rfl⟩
theorem open_long (b:Nat) (Z:List Int) (A:Nat) (g o c:Nat) (w:World) (hs:SumsSt w b) (hz:BytesAt w g o Z) (hgb:g≠b) (hl:Z.length≤20000000) (hA:Z.length=A+4) (hc:Z.length≤c) :
  Calls Tryz.prog 54 #[.pointer (some ⟨b,0,none⟩),.slice (some ⟨g,o,none⟩) Z.length c] w fun e w'=>SumsSt w' b∧Chg (·=b) w w'∧((Z.drop A=fourL (ofI (Z.take A))∧∃ v pg,e=.returned (.tuple #[v,.int .i64 0])∧Fresh w w' v (Z.take A) pg)∨(Z.drop A≠fourL (ofI (Z.take A))∧e=.returned (.tuple #[.slice none 0 0,.int .i64 5]))):=by
 have hTl:(Z.take A).length=A:=by rw [List.length_take];omega
 have hDl:(Z.drop A).length=4:=by rw [List.length_drop];omega
 have HZ:=jh hz
 have HB1:Hid (∀ w',Chg (·=b) w w'→BytesAt w' g o (Z.take A)):=jh (fun w' hc=>⟨fun j x hj=>(hz.chg hc (fun _=>hgb)).c j x (by rw [List.getElem?_take_of_lt (by have:=(List.getElem?_eq_some_iff.1 hj).1;omega)] at hj;exact hj),fun _=>(hz.chg hc (fun _=>hgb)).lt (by intro e;rw [e] at hA;simp at hA)⟩)
 have HB2:Hid (∀ w',Chg (·=b) w w'→BytesAt w' g (o+A) (Z.drop A)):=jh (fun w' hc=>⟨fun j x hj=>by
  have:=(hz.chg hc (fun _=>hgb)).c (A+j) x (by rw [List.getElem?_drop] at hj;exact hj)
  rw [Nat.add_assoc]
  exact this,fun _=>(hz.chg hc (fun _=>hgb)).lt (by intro e;rw [e] at hA;simp at hA)⟩)
 have HOF:=jh (fun w' hs'=>of_any b (Z.take A) (some ⟨g,o,none⟩) g o c w' hs')
 have HS:=jh hs
 obtain⟨r0,r1⟩:=ofI_range (Z.take A)
 obtain⟨N,hN⟩:∃ N,ofI (Z.take A)=N:=⟨_,rfl⟩
 rw [hN] at HOF r0 r1 ⊢
 rw [hTl] at HOF
 have hi:(Z.length:Int)-4=A:=by omega
 have hi2:(A:Int)≤(Z.length:Int):=by omega
 have hi3:(Z.length:Int)≤(c:Int):=by omega
 have hi4:¬ ((A:Int)<0):=by omega
 have hi5:Z.length-A=4:=by omega
 have hi6:A≤Z.length:=by omega
 have hi7:A≤c:=by omega
 have hi8:(A:Int)≤(A:Int)+4:=by omega
 have hi9:¬ c=A:=by omega
 have HSS:Hid True:=jh trivial
 clear hz hs hN
 go_enter Tryz.func54,Tryz.ntmps54
 go_upto_region 4 with (fail)
 refine wp_region_held (S:=fun _=>True) (by kernel_rfl) ?_
 show wpAnyH _ _ _ _ _ 12 (Array.replicate 12 false) _ w.drew
 (refine held_read (i:=0) rfl (by kernel_rfl) (by kernel_rfl) (by kernel_rfl) (fun _ _ _ _ h=>h) rfl HSS.out fun K hK=>?_;apply ei;intro w' hC;(go_simp;try with_reducible rfl);(try go_simp);refine hK _ ?_;clear hK K)
 (refine held_read (i:=1) rfl (by kernel_rfl) (by kernel_rfl) (by kernel_rfl) (fun _ _ _ _ h=>h) rfl HSS.out fun K hK=>?_;apply ei;intro w' hC;(go_simp;try with_reducible rfl);(try go_simp);refine hK _ ?_;clear hK K)
 (refine held_read (i:=2) rfl (by kernel_rfl) (by kernel_rfl) (by kernel_rfl) (fun _ _ _ _ h=>h) rfl HSS.out fun K hK=>?_;apply ei;intro w' hC;(go_simp;try with_reducible rfl);(try go_simp);refine hK _ ?_;clear hK K)
 (refine held_read (i:=3) rfl (by kernel_rfl) (by kernel_rfl) (by kernel_rfl) (fun _ _ _ _ h=>h) rfl HSS.out fun K hK=>?_;apply ei;intro w' hC;(go_simp;try with_reducible rfl);(try go_simp);refine hK _ ?_;clear hK K)
 (refine held_read (i:=4) rfl (by kernel_rfl) (by kernel_rfl) (by kernel_rfl) (fun _ _ _ _ h=>h) rfl HSS.out fun K hK=>?_;apply ei;intro w' hC;(go_simp;try with_reducible rfl);(try go_simp);refine hK _ ?_;clear hK K)
 (refine held_read (i:=5) rfl (by kernel_rfl) (by kernel_rfl) (by kernel_rfl) (fun _ _ _ _ h=>h) rfl HSS.out fun K hK=>?_;apply ei;intro w' hC;(go_simp;try with_reducible rfl);(try go_simp);refine hK _ ?_;clear hK K)
 (refine held_read (i:=6) rfl (by kernel_rfl) (by kernel_rfl) (by kernel_rfl) (fun _ _ _ _ h=>h) rfl HSS.out fun K hK=>?_;apply ei;intro w' hC;(go_simp;try with_reducible rfl);(try go_simp);refine hK _ ?_;clear hK K)
 refine held_call (i:=7) (by kernel_rfl) rfl rfl 76 #[.pointer (some ⟨b,0,none⟩),.slice (some ⟨g,o,none⟩) A c] (fun v w''=>v=.int .u32 N∧SumsSt w'' b∧Chg (·=b) w w'') (by go_simp) ?_ ?_
 ·refine (HOF.out w.drew (HS.out.chg (Chg.refl (fun _=>False) w).drew (fun h=>h)) ((HB1.out w (Chg.refl _ _)).chg (Chg.refl (fun _=>False) w).drew (fun _ h=>h)) (fun _=>hgb) (fun _=>rfl) (by omega)).mono ?_
  rintro e w1 ⟨rfl,h1,h2⟩
  exact⟨_,rfl,trivial,rfl,h1,(Chg.refl _ _).drew.trans h2⟩
 rintro v w1-⟨rfl,hs1,hc1⟩ K hK
 have HS1:=jh hs1
 have HC1:=jh hc1
 clear hs1 hc1 HOF
 (try go_simp)
 refine hK _ ?_
 clear hK K
 refine held_call (i:=8) (by kernel_rfl) rfl rfl 75 #[.int .u32 N] (fun v w''=>∃ h4,v=.slice (some ⟨h4,0,none⟩) 4 4∧Row w'' h4 (fourL N)∧Chg (fun _=>False) w1 w'') (by go_simp) ?_ ?_
 ·refine (four_any N w1 r0 r1).mono ?_
  rintro e w2 ⟨h4,rfl,_,h1,h2⟩
  exact⟨_,rfl,trivial,h4,rfl,h1,h2⟩
 rintro v w2-⟨h4,rfl,hr4,hc2⟩ K hK
 have HR4:=jh hr4
 have HC2:=jh hc2
 clear hr4 hc2
 (try go_simp)
 refine hK _ ?_
 clear hK K
 have HEQ:=jh (equal_any (Z.drop A) (fourL N) (some ⟨g,o+A,none⟩) (some ⟨h4,0,none⟩) g (o+A) h4 0 (c-A) 4 w2 ((HB2.out w1 HC1.out).chg HC2.out (fun _ h=>h)) (fun _=>rfl) (HR4.out.bytes (List.prefix_refl _)) (fun _=>rfl) (by omega))
 rw [hDl] at HEQ
 obtain⟨B,hB⟩:∃ B,decide (Z.drop A=fourL N)=B:=⟨_,rfl⟩
 have HBB:=jh hB
 rw [hB] at HEQ
 clear hB
 refine held_call (i:=9) (by kernel_rfl) rfl rfl 100 #[.slice (some ⟨g,o+A,none⟩) 4 (c-A),.slice (some ⟨h4,0,none⟩) 4 4] (fun v w''=>v=.bool B∧Chg (fun _=>False) w2 w'') (by go_simp) ?_ ?_
 ·refine HEQ.out.mono ?_
  rintro e w3 ⟨rfl,h1⟩
  exact⟨_,rfl,trivial,rfl,h1⟩
 rintro v w3-⟨rfl,hc3⟩ K hK
 have HC3:=jh (HC1.out.trans (HC2.out.trans hc3).any)
 have HS3:=jh (HS1.out.chg (HC2.out.trans hc3) (fun h=>h))
 clear hc3 HEQ HC2 HR4 HC1 HS1
 (try go_simp)
 refine hK _ ?_
 clear hK K
 (refine held_one (i:=10) (by kernel_rfl) rfl rfl HSS.out fun K hK=>?_;apply Exists.intro;refine⟨?_,?_⟩;(go_simp;try with_reducible rfl);(try go_simp);refine hK _ ?_;clear hK K)
 (refine held_one (i:=11) (by kernel_rfl) rfl rfl HSS.out fun K hK=>?_;apply Exists.intro;refine⟨?_,?_⟩;(go_simp;try with_reducible rfl);(try go_simp);refine hK _ ?_;clear hK K)
 refine wpAnyH_done (by kernel_rfl) ?_ _
 have HCL:=jh (clone_any (Z.take A) (some ⟨g,o,none⟩) g o c w3 (HB1.out w3 HC3.out) (fun _=>rfl) (by omega))
 rw [hTl] at HCL
 cases B with
 | false =>
  go_wp2
  go_ret2
  exact⟨HS3.out,HC3.out,.inr ⟨of_decide_eq_false HBB.out,rfl⟩⟩
 | true =>
  go_wp2_with fail
  refine HCL.out.mono ?_
  rintro e w4 ⟨v4,rfl,ho4,hc4⟩
  have HO4:=jh ho4
  have HC4:=jh hc4
  clear ho4 hc4 HCL
  go_wp2_with fail
  refine (clip_own w w4 v4 (Z.take A) (HO4.out.lower (by have:=HC3.out.size;omega))).mono ?_
  rintro e w5 ⟨v5,pg,rfl,rfl,hf⟩
  have HF:=jh hf
  have HC5:=jh (HC3.out.trans HC4.out.any)
  have HS5:=jh (HS3.out.chg HC4.out (fun h=>h))
  clear hf HC3 HC4 HS3 HO4
  go_wp2
  go_ret2
  exact⟨HS5.out,HC5.out,.inl ⟨of_decide_eq_true HBB.out,v5,pg,rfl,HF.out⟩⟩
end Go.Proofs.YtgnpmceimpjheaaGreat
namespace Go.Proofs.YtgnpmceimpjheaaGreat
open Go.RowKit
def getB:Option TabsD→Int × Option TabsD
 | none=>(4,none)
 | some t=>(0,some t)
def getR (Z:List Int):Int × Option TabsD :=
 if Z.length<4 then (4,none) else if Z.drop (Z.length-4)=fourL (ofI (Z.take (Z.length-4))) then getB (tabsG (Z.take (Z.length-4))) else (5,none)
def nilT:TabsS:=⟨(none,0,0),(none,0,0),(none,0,0),⟨(none,0,0),(none,0,0),(none,0,0),(none,0,0)⟩,⟨(none,0,0),(none,0,0),(none,0,0),(none,0,0),(none,0,0)⟩,(none,0,0)⟩
def GetPost (w:World) (Z:List Int) (e:Ending) (w':World):Prop :=
 Chg (fun _=>False) w w'∧∃ m,e=.returned (.tuple #[tabsV m,.int .i64 (getR Z).1])∧(((getR Z).2=none∧m=nilT)∨∃ t,(getR Z).2=some t∧TabsIn w' (fun k=>w.heap.size≤k) m t)
structure ResAt (tb eb:Nat) (w:World) (vs:List Value) (e:Int):Prop where
 c:∀ j v,vs[j]?=some v→w.cell? ⟨tb,j,none⟩=some v
 e:w.cell? ⟨eb,0,none⟩=some (.int .i64 e)
 z:∀ j,w.frozen? ⟨tb,j,none⟩=false
 z1:w.frozen? ⟨eb,0,none⟩=false
theorem ResAt.chg {S:Nat→Prop} {tb eb:Nat} {w w':World} {vs:List Value} {e:Int} (h:ResAt tb eb w vs e) (hc:Chg S w w') (h0:tb<w.heap.size) (hs:∀ k,S k→k≠tb∧k≠eb):ResAt tb eb w' vs e:=by
 have n0:¬ S tb:=fun e=>(hs _ e).1 rfl
 have n1:¬ S eb:=fun e=>(hs _ e).2 rfl
 exact⟨fun j v hv=>hc.cellS (h.c j v hv) n0,hc.cellS h.e n1,fun j=>(hc.frozen (p:=⟨tb,j,none⟩) h0 n0).trans (h.z j),(hc.frozen (p:=⟨eb,0,none⟩) (World.block_lt_of_cell? _ _ h.e) n1).trans h.z1⟩
theorem ResAt.set {tb eb:Nat} {w:World} {vs:List Value} {e:Int} (h:ResAt tb eb w vs e) (hte:tb≠eb) (us:List Value) (hl:us.length=vs.length) (e':Int):ResAt tb eb ((setAll tb 0 us w).setCell ⟨eb,0,none⟩ (.int .i64 e')) us e'∧Chg (fun k=>k=tb∨k=eb) w ((setAll tb 0 us w).setCell ⟨eb,0,none⟩ (.int .i64 e')):=by
 obtain⟨s1,-,s3,s4⟩:=setAll_spec tb us 0 w (fun j hj=>by
  rw [Nat.zero_add,h.c j _ (List.getElem?_eq_getElem (by omega))];rfl)
 have hne:∀ j,(⟨eb,0,none⟩:Addr)≠⟨tb,j,none⟩:=fun j e=>by injection e with e _;exact hte e.symm
 have c1:=s3.cellS h.e (by show ¬ eb=tb;exact fun e=>hte e.symm)
 refine⟨⟨fun j v hv=>?_,World.cell?_setCell_same _ _ _ c1,fun j=>(World.frozen?_setCell _ _ _ _).trans ((s4 _).trans (h.z j)),(World.frozen?_setCell _ _ _ _).trans ((s4 _).trans h.z1)⟩,(s3.mono (fun k _ e=>.inl e)).trans ((setCellChg _ _ _ _).mono (fun k _ e=>.inr e))⟩
 rw [World.cell?_setCell_other _ _ _ _ (hne j)]
 have:=s1 j v hv
 rwa [Nat.zero_add] at this
theorem Fresh.st {w0 w:World} {v:Value} {X:List Int} {pg:Option Nat} (h:Fresh w0 w v X pg) (hx:X≠[]):∃ g,pg=some g∧v=.slice (some ⟨g,0,none⟩) X.length X.length∧w0.heap.size≤g∧Row w g X:=by
 obtain⟨h1,h2,h3⟩:=h
 cases pg with
 | none=>exact absurd (h3 rfl) hx
 | some g=>exact⟨g,rfl,h1,(h2 g rfl).1,(h2 g rfl).2⟩
end Go.Proofs.YtgnpmceimpjheaaGreat
namespace Go.Proofs.YtgnpmceimpjheaaGreat
open Go.RowKit
theorem get_any (Z:List Int) (a:Option Addr) (g o c:Nat) (w:World) (hz:BytesAt w g o Z) (ha:0<Z.length→a=some ⟨g,o,none⟩) (hc:Z.length≤c) (hl:Z.length≤10000000) :
  Calls Tryz.prog 18 #[.slice a Z.length c] w (GetPost w Z):=by
 have hmf:∀ (fn:Fn) (first cap:Array Value) (w:World),(Instr.makeFunc fn first cap).run Tryz.prog w=.ok (.func fn first cap) w:=fun _ _ _ _=>rfl
 have HZ:=jh hz
 have hzs:=zeroSums
 obtain⟨w0,hw0⟩:∃ W,W=((w.alloc (.cells #[.slice none 0 0,.slice none 0 0,.slice none 0 0,.slice none 0 0,.slice none 0 0,.slice none 0 0,.slice none 0 0,.slice none 0 0,.slice none 0 0,.slice none 0 0,.slice none 0 0,.slice none 0 0,.slice none 0 0] 34)).alloc (.cells #[.int .i64 0] 46)):=⟨_,rfl⟩
 obtain⟨w1,hw1⟩:∃ W,W=w0.alloc (.cells zerosS 104):=⟨_,rfl⟩
 have hC0:Chg (fun _=>False) w w0:=by rw [hw0];exact ((Chg.refl _ w).alloc _).alloc _
 have hC1:Chg (fun _=>False) w0 w1:=by rw [hw1];exact (Chg.refl _ _).alloc _
 have hS0:w0.heap.size=w.heap.size+2:=by rw [hw0];simp
 have hS1:w1.heap.size=w.heap.size+3:=by rw [hw1];simp [hS0]
 have HS:Hid (SumsSt w1 (w.heap.size+2)):=jh (by rw [hw1,← hS0];exact⟨0,_,SumsAt.made w0 _,.inl rfl⟩)
 have HR0:ResAt w.heap.size (w.heap.size+1) w0 zero13 0:=by
  refine⟨fun j v hv=>?_,by rw [hw0];exact allocAt _ (by simp) rfl,fun j=>?_,?_⟩
  ·rw [hw0,zero13] at *
   exact allocOld _ (allocAt _ rfl (by rw [← Array.getElem?_toList];exact hv))
  ·rw [hw0]
   exact (((Chg.refl (fun _=>False) _).alloc _).frozen (p:=⟨w.heap.size,j,none⟩) (by simp) (fun h=>h)).trans (World.frozen?_alloc_new _ _ _ _)
  ·rw [hw0]
   have e:w.heap.size+1=(w.alloc (.cells #[.slice none 0 0,.slice none 0 0,.slice none 0 0,.slice none 0 0,.slice none 0 0,.slice none 0 0,.slice none 0 0,.slice none 0 0,.slice none 0 0,.slice none 0 0,.slice none 0 0,.slice none 0 0,.slice none 0 0] 34)).heap.size:=by simp
   rw [e]
   exact World.frozen?_alloc_new _ _ _ _
 have HR1:=jh (HR0.chg hC1 (by omega) (fun _ h=>h.elim))
 go_enter_defers Tryz.func18,Tryz.ntmps18
 go_upto_region 3 with (fail)
 rw [← hw0,← hw1]
 obtain⟨tb,htb⟩:∃ b,b=w.heap.size:=⟨_,rfl⟩
 have hsz:w.heap.size=tb:=htb.symm
 rw [hsz] at HR1 HS hS0 hS1 ⊢
 obtain⟨sb,hsb⟩:∃ b,b=tb+1+1:=⟨_,rfl⟩
 rw [← hsb]
 obtain⟨eb,heb⟩:∃ b,b=tb+1:=⟨_,rfl⟩
 rw [← heb]
 rw [show tb+2=sb by omega] at HS
 rw [← heb] at HR1
 have HB:Hid (sb=tb+2∧eb=tb+1∧w1.heap.size=tb+3∧w.heap.size=tb):=jh ⟨by omega,heb,hS1,hsz⟩
 have HC1:=jh (hC0.trans hC1)
 have HOPEN:Hid (Calls Tryz.prog 54 #[.pointer (some ⟨sb,0,none⟩),.slice a Z.length c] w1 fun e w'=>Chg (·=sb) w1 w'∧((∃ code,(code=4∨code=5)∧e=.returned (.tuple #[.slice none 0 0,.int .i64 code])∧getR Z=(code,none)) ∨
   (4≤Z.length∧∃ v pg,e=.returned (.tuple #[v,.int .i64 0])∧Fresh w1 w' v (Z.take (Z.length-4)) pg∧getR Z=getB (tabsG (Z.take (Z.length-4)))))):=jh (by
  by_cases h4:Z.length<4
  ·refine (open_short _ Z a c w1 h4).mono ?_
   rintro e w' ⟨rfl,rfl⟩
   exact⟨Chg.refl _ _,.inl ⟨4,.inl rfl,rfl,by unfold getR;rw [if_pos h4]⟩⟩
  ·obtain rfl:=ha (by omega)
   refine (open_long sb Z (Z.length-4) g o c w1 HS.out (HZ.out.chg HC1.out (fun _ h=>h)) (by have:=hz.lt (by intro e;rw [e] at h4;simp at h4);have:=HB.out;omega) (by omega) (by omega) hc).mono ?_
   rintro e w' ⟨-,hcg,⟨h5,v,pg,rfl,hf⟩|⟨h5,rfl⟩⟩
   ·exact⟨hcg,.inr ⟨by omega,v,pg,rfl,hf,by unfold getR;rw [if_neg h4,if_pos h5]⟩⟩
   ·exact⟨hcg,.inl ⟨5,.inr rfl,rfl,by unfold getR;rw [if_neg h4,if_neg h5]⟩⟩)
 clear hz ha hc hw0 hw1 hC0 hC1 hS0 hS1 HR0 htb hsz hsb heb hzs
 go_wp2_with fail
 refine HOPEN.out.mono ?_
 rintro e w2 ⟨hc2,⟨code,hcode,rfl,hg⟩|⟨h4,v,pg,rfl,hf,hg⟩⟩
 ·have HG:=jh hg
  have HC2:=jh hc2
  have HR2:=jh (HR1.out.chg hc2 (by have:=HB.out;omega) (fun k hk=>by have:=HB.out;omega))
  have bcode:(code != 0)=true:=by rcases hcode with rfl|rfl <;> rfl
  clear hc2 hg HOPEN hcode
  obtain⟨w3,hw3⟩:∃ X,X=w2.setCell ⟨eb,0,none⟩ (.int .i64 code):=⟨_,rfl⟩
  have HNE:Hid (tb≠eb):=jh (by have:=HB.out;omega)
  have hR3:ResAt tb eb w3 zero13 code:=by
   have hc3:=setCellChg w2 eb 0 (.int .i64 code)
   have hn:=HNE.out
   rw [hw3]
   refine⟨fun j v hv=>?_,World.cell?_setCell_same _ _ _ HR2.out.e,fun j=>(World.frozen?_setCell _ _ _ _).trans (HR2.out.z j),(World.frozen?_setCell _ _ _ _).trans HR2.out.z1⟩
   exact hc3.cellS (HR2.out.c j v hv) hn
  have HR3:=jh hR3
  have HC3:Hid (Chg (fun k=>tb≤k) w1 w3):=jh ((HC2.out.mono (fun k _ e=>by have:=HB.out;omega)).trans (by rw [hw3];exact (setCellChg w2 eb 0 _).mono (fun k _ e=>by have:=HB.out;omega)))
  have re2:=HR2.out.e
  have rz2:=HR2.out.z1
  have hW3:=jh hw3
  clear hw3 hR3
  go_upto_region 4 with (fail)
  rw [← hW3.out]
  clear re2 rz2
  have k0:=HR3.out.e
  go_upto_region 5 with (fail)
  clear k0
  have hne:=HNE.out
  have hne2:¬ eb=tb:=fun h=>hne h.symm
  have hne3:¬ tb=eb:=hne
  obtain⟨rc,re,rz,rz1⟩:=HR3.out
  have k0:=rc 0 _ rfl;have z0:=rz 0
  have k1:=rc 1 _ rfl;have z1:=rz 1
  have k2:=rc 2 _ rfl;have z2:=rz 2
  have k3:=rc 3 _ rfl;have z3:=rz 3
  have k4:=rc 4 _ rfl;have z4:=rz 4
  have k5:=rc 5 _ rfl;have z5:=rz 5
  have k6:=rc 6 _ rfl;have z6:=rz 6
  have k7:=rc 7 _ rfl;have z7:=rz 7
  have k8:=rc 8 _ rfl;have z8:=rz 8
  have k9:=rc 9 _ rfl;have z9:=rz 9
  have k10:=rc 10 _ rfl;have z10:=rz 10
  have k11:=rc 11 _ rfl;have z11:=rz 11
  have k12:=rc 12 _ rfl;have z12:=rz 12
  clear rc rz
  go_region
  obtain⟨w4,hw4⟩:∃ X,X=((setAll tb 0 zero13 w3).setCell ⟨eb,0,none⟩ (.int .i64 code)).drew:=⟨_,rfl⟩
  have hR4:=HR3.out.set HNE.out zero13 rfl code
  have hC4:=(Chg.refl (fun _=>False) ((setAll tb 0 zero13 w3).setCell ⟨eb,0,none⟩ (.int .i64 code))).drew
  rw [← hw4] at hC4
  have HC4:Hid (Chg (fun _=>False) w w4):=jh (HC1.out.trans2 (HC3.out.trans ((hR4.2.mono (T:=fun k=>tb≤k) (fun k _ e=>by have:=HB.out;omega)).trans hC4.any)) (fun k hk e=>by have:=HB.out;omega))
  have hR5:=hR4.1.chg hC4 (World.block_lt_of_cell? _ _ (hR4.1.c 0 _ rfl)) (fun _ h=>h.elim)
  have HR5:=jh (hR5.chg ((Chg.refl (fun _=>False) w4).alloc (.cells #[] 129)) (World.block_lt_of_cell? _ _ (hR5.c 0 _ rfl)) (fun _ h=>h.elim))
  simp only [setAll,zero13,Nat.zero_add,Nat.reduceAdd] at hw4
  rw [← hw4]
  clear hw4 hR4 hC4 hR5
  clear k0 z0 k1 z1 k2 z2 k3 z3 k4 z4 k5 z5 k6 z6 k7 z7 k8 z8 k9 z9 k10 z10 k11 z11 k12 z12 re rz1
  go_wp2
  refine leaves_cons (f:=53) (args:=#[.pointer (some ⟨tb,0,none⟩),.pointer (some ⟨eb,0,none⟩)]) (by simp) (by simp [go_sem]) ?_
  refine (catch_none tb eb w4).mono ?_
  rintro e u' w5 ⟨rfl,rfl,rfl⟩
  obtain⟨rc,re,-,-⟩:=HR5.out
  have s0:=rc 0 _ rfl
  have s1:=rc 1 _ rfl
  have s2:=rc 2 _ rfl
  have s3:=rc 3 _ rfl
  have s4:=rc 4 _ rfl
  have s5:=rc 5 _ rfl
  have s6:=rc 6 _ rfl
  have s7:=rc 7 _ rfl
  have s8:=rc 8 _ rfl
  have s9:=rc 9 _ rfl
  have s10:=rc 10 _ rfl
  have s11:=rc 11 _ rfl
  have s12:=rc 12 _ rfl
  simp only [Leaves,settle,results,Tryz.results18]
  refine⟨_,by simp [go_sem,s0,s1,s2,s3,s4,s5,s6,s7,s8,s9,s10,s11,s12,re];rfl,HC4.out.alloc _,nilT,?_,.inl ⟨by rw [HG.out],rfl⟩⟩
  rw [HG.out]
  rfl
 ·obtain⟨X,hX⟩:∃ X,Z.take (Z.length-4)=X:=⟨_,rfl⟩
  rw [hX] at hf hg
  have HX:Hid (X.length≤10000000∧∀ a∈X,Byte a):=jh ⟨by rw [← hX,List.length_take];omega,fun a ha=>HZ.out.byte a (by rw [← hX] at ha;exact List.mem_of_mem_take ha)⟩
  have HG:=jh hg
  have HF:=jh hf
  have HNE:Hid (tb≠eb):=jh (by have:=HB.out;omega)
  obtain⟨w3,hw3⟩:∃ X,X=w2.setCell ⟨eb,0,none⟩ (.int .i64 0):=⟨_,rfl⟩
  have HR2:=jh (HR1.out.chg hc2 (by have:=HB.out;omega) (fun k hk=>by have:=HB.out;omega))
  have hR3:ResAt tb eb w3 zero13 0:=by
   have hc3:=setCellChg w2 eb 0 (.int .i64 0)
   have hn:=HNE.out
   rw [hw3]
   refine⟨fun j v hv=>?_,World.cell?_setCell_same _ _ _ HR2.out.e,fun j=>(World.frozen?_setCell _ _ _ _).trans (HR2.out.z j),(World.frozen?_setCell _ _ _ _).trans HR2.out.z1⟩
   exact hc3.cellS (HR2.out.c j v hv) hn
  have h23:Chg (·=eb) w2 w3:=by rw [hw3];exact setCellChg w2 eb 0 _
  have HC3:Hid (Chg (fun k=>tb≤k) w1 w3):=jh ((hc2.mono (fun k _ e=>by have:=HB.out;omega)).trans (h23.mono (fun k _ e=>by have:=HB.out;omega)))
  have HSZ3:Hid (tb+3≤w3.heap.size):=jh (by have:=HC3.out.size;have:=HB.out;omega)
  obtain⟨va,vl,vc,hv⟩:∃ va vl vc,v=.slice va vl vc:=⟨_,_,_,hf.val⟩
  subst hv
  obtain⟨pgx,hpgx⟩:∃ b,b=w3.heap.size:=⟨_,rfl⟩
  have HPG:Hid (pgx=w3.heap.size∧tb+3≤pgx):=jh ⟨hpgx,by rw [hpgx];exact HSZ3.out⟩
  obtain⟨w4,hw4⟩:∃ X,X=w3.alloc (.cells #[.slice va vl vc] 133):=⟨_,rfl⟩
  have h34:Chg (fun _=>False) w3 w4:=by rw [hw4];exact (Chg.refl _ _).alloc _
  have c4:w4.cell? ⟨pgx,0,none⟩=some (.slice va vl vc):=by rw [hw4,hpgx];exact allocNew _ _ rfl
  have z4:w4.frozen? ⟨pgx,0,none⟩=false:=by rw [hw4,hpgx];exact World.frozen?_alloc_new _ _ _ _
  have HSZ4:Hid (w4.heap.size=pgx+1):=jh (by rw [hw4,hpgx];simp)
  have HR4:=jh (hR3.chg h34 (by have:=HSZ3.out;omega) (fun _ h=>h.elim))
  have HT:Hid (Calls Tryz.prog 55 #[.pointer (some ⟨pgx,0,none⟩)] w4 (TablesPost pgx w4 X)):=jh (by
   by_cases h4x:X.length<4
   ·have hl:vl=X.length:=by have:=hf.val;injection this
    refine (tables_short w4 c4 (by omega)).mono ?_
    rintro e w' ⟨rfl,hc⟩
    refine⟨hc.any,.inl ⟨?_,rfl⟩⟩
    unfold tabsG
    rw [if_neg (fun e=>by have:=congrArg List.length e;rw [List.length_take] at this;simp only [headL,List.length_cons,List.length_nil] at this;omega)]
   ·obtain⟨gx,-,hv,hge,hrow⟩:=hf.st (by intro e;rw [e] at h4x;simp at h4x)
    have h24:=h23.trans (h34.any)
    have hgs:gx<w2.heap.size:=hrow.lt
    have hw1s:=HB.out
    have hrow4:Row w4 gx X:=hrow.chg h24 (by show ¬ gx=eb;omega)
    refine tables_any w4 X ⟨⟨0,X.length,by rw [c4,hv],Nat.le_refl _,hrow4.bytes (List.prefix_refl _)⟩,z4,World.block_lt_of_cell? _ _ c4,hrow4.lt,?_,HX.out.1,HX.out.2⟩ (by omega)
    have:=h23.size
    omega)
  have HW3:=jh hw3
  have HW4:=jh hw4
  have re2:=HR2.out.e
  have rz2:=HR2.out.z1
  clear hw3 hw4 hR3 h23 h34 c4 z4 hX hf hg hc2 hpgx
  go_upto_region 4 with (fail)
  rw [← HW3.out]
  clear re2 rz2
  have re3:=(show w3.cell? ⟨eb,0,none⟩=some (.int .i64 0) by rw [HW3.out];exact World.cell?_setCell_same _ _ _ HR2.out.e)
  go_upto_region 7 with (fail)
  rw [← HW4.out,← HPG.out.1]
  clear re3
  go_wp2_with fail
  refine HT.out.mono ?_
  rintro e w6 ⟨hc6,⟨hn,rfl⟩|⟨t,m,ht,rfl,hin⟩⟩
  ·have HR6:=jh (HR4.out.chg hc6 (by have:=HPG.out;have:=HSZ4.out;omega) (fun k hk=>by have:=HPG.out;have:=HB.out;omega))
   have HC6:Hid (Chg (fun _=>False) w w6):=jh (HC1.out.trans2 ((HC3.out.trans (by rw [HW4.out];exact (Chg.refl _ _).alloc _)).trans (hc6.mono (T:=fun k=>tb≤k) (fun k _ e=>by have:=HPG.out;omega))) (fun k hk e=>by have:=HB.out;omega))
   have HGN:Hid (getR Z=(4,none)):=jh (by rw [HG.out,hn];rfl)
   clear hc6 hn
   refine leaves_cons (f:=53) (args:=#[.pointer (some ⟨tb,0,none⟩),.pointer (some ⟨eb,0,none⟩)]) (by simp) (by simp [go_sem]) ?_
   refine (catch_strange tb eb w6 (fun _=>.slice none 0 0) 0 HNE.out (fun j hj=>HR6.out.c j _ ?_) HR6.out.z HR6.out.e HR6.out.z1).mono ?_
   ·rcases (by omega:j=0∨j=1∨j=2∨j=3∨j=4∨j=5∨j=6∨j=7∨j=8∨j=9∨j=10∨j=11∨j=12) with rfl|rfl|rfl|rfl|rfl|rfl|rfl|rfl|rfl|rfl|rfl|rfl|rfl <;> rfl
   rintro e u' w7 ⟨rfl,rfl,hw7⟩
   have hR6a:=HR6.out.chg ((Chg.refl (fun _=>False) w6).alloc (.cells #[] 129)) (World.block_lt_of_cell? _ _ (HR6.out.c 0 _ rfl)) (fun _ h=>h.elim)
   have hR7:=hR6a.set HNE.out zero13 rfl 4
   rw [← hw7] at hR7
   have HC7:Hid (Chg (fun _=>False) w w7):=jh ((HC6.out.alloc _).trans2 hR7.2 (fun k hk e=>by have:=HB.out;omega))
   obtain⟨hR7,-⟩:=hR7
   obtain⟨rc,re,-,-⟩:=hR7
   have s0:=rc 0 _ rfl
   have s1:=rc 1 _ rfl
   have s2:=rc 2 _ rfl
   have s3:=rc 3 _ rfl
   have s4:=rc 4 _ rfl
   have s5:=rc 5 _ rfl
   have s6:=rc 6 _ rfl
   have s7:=rc 7 _ rfl
   have s8:=rc 8 _ rfl
   have s9:=rc 9 _ rfl
   have s10:=rc 10 _ rfl
   have s11:=rc 11 _ rfl
   have s12:=rc 12 _ rfl
   show Leaves Tryz.prog _ _ _ [] FrameMode.returning _
   simp only [Leaves,results,Tryz.results18]
   refine⟨_,by simp [go_sem,s0,s1,s2,s3,s4,s5,s6,s7,s8,s9,s10,s11,s12,re];rfl,HC7.out,nilT,?_,.inl ⟨by rw [HGN.out],rfl⟩⟩
   rw [HGN.out]
   rfl
  ·have HR6:=jh (HR4.out.chg hc6 (by have:=HPG.out;have:=HSZ4.out;omega) (fun k hk=>by have:=HPG.out;have:=HB.out;omega))
   have HC6:Hid (Chg (fun _=>False) w w6):=jh (HC1.out.trans2 ((HC3.out.trans (by rw [HW4.out];exact (Chg.refl _ _).alloc _)).trans (hc6.mono (T:=fun k=>tb≤k) (fun k _ e=>by have:=HPG.out;omega))) (fun k hk e=>by have:=HB.out;omega))
   have HGN:Hid (getR Z=(0,some t)):=jh (by rw [HG.out,ht];rfl)
   have HIN:=jh hin
   obtain⟨⟨p0,p1,p2⟩,⟨p3,p4,p5⟩,⟨p6,p7,p8⟩,⟨⟨p9,p10,p11⟩,⟨p12,p13,p14⟩,⟨p15,p16,p17⟩,⟨p18,p19,p20⟩⟩,⟨⟨p21,p22,p23⟩,⟨p24,p25,p26⟩,⟨p27,p28,p29⟩,⟨p30,p31,p32⟩,⟨p33,p34,p35⟩⟩,⟨p36,p37,p38⟩⟩:=m
   obtain⟨w7,hw7⟩:∃ X,X=(setAll tb 0 [.slice p0 p1 p2,.slice p3 p4 p5,.slice p6 p7 p8,.slice p9 p10 p11,.slice p12 p13 p14,.slice p15 p16 p17,.slice p18 p19 p20,.slice p21 p22 p23,.slice p24 p25 p26,.slice p27 p28 p29,.slice p30 p31 p32,.slice p33 p34 p35,.slice p36 p37 p38] w6).setCell ⟨eb,0,none⟩ (.int .i64 0):=⟨_,rfl⟩
   have hR7:=HR6.out.set HNE.out [.slice p0 p1 p2,.slice p3 p4 p5,.slice p6 p7 p8,.slice p9 p10 p11,.slice p12 p13 p14,.slice p15 p16 p17,.slice p18 p19 p20,.slice p21 p22 p23,.slice p24 p25 p26,.slice p27 p28 p29,.slice p30 p31 p32,.slice p33 p34 p35,.slice p36 p37 p38] rfl 0
   rw [← hw7] at hR7
   have HC7:Hid (Chg (fun k=>k=tb∨k=eb) w6 w7):=jh hR7.2
   have HR8:=jh (hR7.1.chg ((Chg.refl (fun _=>False) w7).alloc (.cells #[] 129)) (World.block_lt_of_cell? _ _ (hR7.1.c 0 _ rfl)) (fun _ h=>h.elim))
   simp only [setAll,Nat.zero_add,Nat.reduceAdd] at hw7
   have HW7:=jh hw7
   simp only [tabsV,slV]
   clear hc6 ht hin hw7 hR7
   have hne:=HNE.out
   have hne2:¬ eb=tb:=fun h=>hne h.symm
   have hne3:¬ tb=eb:=hne
   obtain⟨rc,re,rz,rz1⟩:=HR6.out
   have k0:=rc 0 _ rfl;have z0:=rz 0
   have k1:=rc 1 _ rfl;have z1:=rz 1
   have k2:=rc 2 _ rfl;have z2:=rz 2
   have k3:=rc 3 _ rfl;have z3:=rz 3
   have k4:=rc 4 _ rfl;have z4:=rz 4
   have k5:=rc 5 _ rfl;have z5:=rz 5
   have k6:=rc 6 _ rfl;have z6:=rz 6
   have k7:=rc 7 _ rfl;have z7:=rz 7
   have k8:=rc 8 _ rfl;have z8:=rz 8
   have k9:=rc 9 _ rfl;have z9:=rz 9
   have k10:=rc 10 _ rfl;have z10:=rz 10
   have k11:=rc 11 _ rfl;have z11:=rz 11
   have k12:=rc 12 _ rfl;have z12:=rz 12
   clear rc rz
   go_wp2
   rw [← HW7.out]
   clear k0 z0 k1 z1 k2 z2 k3 z3 k4 z4 k5 z5 k6 z6 k7 z7 k8 z8 k9 z9 k10 z10 k11 z11 k12 z12 re rz1
   refine leaves_cons (f:=53) (args:=#[.pointer (some ⟨tb,0,none⟩),.pointer (some ⟨eb,0,none⟩)]) (by simp) (by simp [go_sem]) ?_
   refine (catch_none tb eb w7).mono ?_
   rintro e u' w8 ⟨rfl,rfl,rfl⟩
   obtain⟨rc,re,-,-⟩:=HR8.out
   have s0:=rc 0 _ rfl
   have s1:=rc 1 _ rfl
   have s2:=rc 2 _ rfl
   have s3:=rc 3 _ rfl
   have s4:=rc 4 _ rfl
   have s5:=rc 5 _ rfl
   have s6:=rc 6 _ rfl
   have s7:=rc 7 _ rfl
   have s8:=rc 8 _ rfl
   have s9:=rc 9 _ rfl
   have s10:=rc 10 _ rfl
   have s11:=rc 11 _ rfl
   have s12:=rc 12 _ rfl
   simp only [Leaves,settle,results,Tryz.results18]
   refine⟨_,by simp [go_sem,s0,s1,s2,s3,s4,s5,s6,s7,s8,s9,s10,s11,s12,re];rfl,(HC6.out.trans2 HC7.out (fun k hk e=>by have:=HB.out;omega)).alloc _,⟨(p0,p1,p2),(p3,p4,p5),(p6,p7,p8),⟨(p9,p10,p11),(p12,p13,p14),(p15,p16,p17),(p18,p19,p20)⟩,⟨(p21,p22,p23),(p24,p25,p26),(p27,p28,p29),(p30,p31,p32),(p33,p34,p35)⟩,(p36,p37,p38)⟩,?_,.inr ⟨t,by rw [HGN.out],?_⟩⟩
   ·rw [HGN.out]
    rfl
   ·have i1:=TabsIn.good.chg HIN.out HC7.out (fun g hg e=>by have:=HSZ4.out;have:=HPG.out;have:=HB.out;omega)
    have i2:=TabsIn.good.chg i1 ((Chg.refl (fun _=>False) w7).alloc (.cells #[] 129)) (fun _ _ h=>h)
    exact TabsIn.good.mono i2 (fun g _ hg=>by have:=HSZ4.out;have:=HPG.out;have:=HB.out;omega)
end Go.Proofs.YtgnpmceimpjheaaGreat
namespace Go.Proofs.YtgnpmceimpjheaaGreat
open Go.RowKit
theorem sameNums_yes (L:List Int) (a b:Option Addr) (c d:Nat) (S S':Nat→Prop) (w:World) (h:intE.InS w S (a,L.length,c) L) (k:intE.InS w S' (b,L.length,d) L) (hl:L.length≤1000000000) :
  Calls Tryz.prog 50 #[.slice a L.length c,.slice b L.length d] w fun e w'=>e=.returned (.bool true)∧Chg (fun _=>False) w w':=by
 obtain⟨g,o,h1,h2⟩:=h.bytes
 obtain⟨g',o',k1,k2⟩:=k.bytes
 have HS:=jh (I.same_any L L a b g o g' o' c d w h1 h2 k1 k2 (by omega))
 clear h k h1 h2 k1 k2
 go_enter Tryz.func50,Tryz.ntmps50
 go_wp2_with fail
 refine HS.out.mono ?_
 rintro e w1 ⟨rfl,hc⟩
 have HC:=jh hc
 clear hc
 go_wp2
 go_ret
 exact⟨by simp,HC.out⟩
theorem texts_yes (L:List Str) (a b:Option Addr) (c d:Nat) (S S':Nat→Prop) (w:World) (h:strE.InS w S (a,L.length,c) L) (k:strE.InS w S' (b,L.length,d) L) (hl:L.length≤1000000000) :
  Calls Tryz.prog 49 #[.slice a L.length c,.slice b L.length d] w fun e w'=>e=.returned (.bool true)∧Chg (fun _=>False) w w':=by
 have H1:=jh h
 have H2:=jh k
 clear h k
 go_enter Tryz.func49,Tryz.ntmps49
 go_wp2
 go_loopw [5] (fun q wr=>∃ k:Nat,k≤L.length∧q=.int .i64 k∧Chg (fun _=>False) w wr) (fun q _=>L.length-(intOf q).toNat)
 case atStart=>exact⟨0,by omega,rfl,Chg.refl _ _⟩
 case round =>
  obtain⟨k,hk,rfl,hc⟩:=hrel
  have HC:=jh hc
  clear hc
  by_cases hkl:k<L.length
  ·have b9:decide ((k:Int)<(L.length:Int))=true:=by simp;omega
   obtain⟨s,d1,g,o,e1,e2,rfl,-,-,-,e4⟩:=(ListR.of (H1.out.chg HC.out (fun _ _ h=>h))).get1' (f:=encStr) rfl hkl rfl
   obtain⟨s',d2,g',o',f1,f2,rfl,-,-,-,f4⟩:=(ListR.of (H2.out.chg HC.out (fun _ _ h=>h))).get1' (f:=encStr) rfl hkl rfl
   obtain rfl:s=d1:=e2
   obtain rfl:s'=d2:=f2
   rw [e1] at f1
   obtain rfl:=Option.some.inj f1
   have c0:=e4 _ rfl
   have c1:=f4 _ rfl
   have HCF:Hid (∀ X,Chg (fun _=>False) wr X→X.cell? ⟨g,o+k,none⟩=some (.string s)∧X.cell? ⟨g',o'+k,none⟩=some (.string s)):=jh (fun X hx=>⟨hx.cellS c0 (fun h=>h),hx.cellS c1 (fun h=>h)⟩)
   have bss:(s.toList == s.toList)=true:=by simp
   clear e1 e4 f1 f4 c0 c1
   go_upto_region 6 with (fail)
   refine wp_region_same (fun x=>Chg (fun _=>False) wr x) (by kernel_rfl) (by kernel_rfl) ?_ ?_
   ·exact (Chg.refl _ _).drew
   (refine rdC fun K hK=>?_;apply ei;intro _ w' _ hC;(go_simp;try with_reducible rfl);(try go_simp);refine hK _ ?_;clear hK K)
   (refine rdC fun K hK=>?_;apply ei;intro _ w' _ hC;(go_simp;try with_reducible rfl);(try go_simp);refine hK _ ?_;clear hK K)
   (refine rdC fun K hK=>?_;apply ei;intro _ w' _ hC;(go_simp;try with_reducible rfl);(try go_simp);refine hK _ ?_;clear hK K)
   (refine rdC fun K hK=>?_;apply ei;intro _ w' _ hC;((obtain⟨q0,q1⟩:=HCF.out w' hC);go_simp;try with_reducible rfl);(try go_simp);refine hK _ ?_;clear hK K)
   (refine rdC fun K hK=>?_;apply ei;intro _ w' _ hC;(go_simp;try with_reducible rfl);(try go_simp);refine hK _ ?_;clear hK K)
   (refine rdC fun K hK=>?_;apply ei;intro _ w' _ hC;(go_simp;try with_reducible rfl);(try go_simp);refine hK _ ?_;clear hK K)
   (refine rdC fun K hK=>?_;apply ei;intro _ w' _ hC;(go_simp;try with_reducible rfl);(try go_simp);refine hK _ ?_;clear hK K)
   (refine rdC fun K hK=>?_;apply ei;intro _ w' _ hC;((obtain⟨q0,q1⟩:=HCF.out w' hC);go_simp;try with_reducible rfl);(try go_simp);refine hK _ ?_;clear hK K)
   (refine rdC fun K hK=>?_;apply ei;intro _ w' _ hC;(go_simp;try with_reducible rfl);(try go_simp);refine hK _ ?_;clear hK K)
   refine wpC_nil ?_
   intro w2 hc2
   have HC2:=jh (HC.out.trans hc2)
   clear hc2
   go_wp2
   go_roundw
   case rel=>exact⟨k+1,by omega,by go_num,HC2.out⟩
   case measure=>simp [intOf];omega
  ·obtain rfl:k=L.length:=by omega
   have b9:decide ((L.length:Int)<(L.length:Int))=false:=by simp
   go_wp2
   go_ret
   exact⟨rfl,HC.out⟩
end Go.Proofs.YtgnpmceimpjheaaGreat
