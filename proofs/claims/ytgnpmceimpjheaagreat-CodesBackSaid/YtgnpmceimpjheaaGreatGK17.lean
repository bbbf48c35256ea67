/- A part of the proof: OpenS GetW GetX SameA SameB. -/
import Derived.Test.YtgnpmceimpjheaaGreatGK16
import Derived.Test.YtgnpmceimpjheaaGreatGK6
import Derived.Test.YtgnpmceimpjheaaGreatGK3
import Derived.Test.YtgnpmceimpjheaaGreatGK11
namespace Go.Proofs.YtgnpmceimpjheaaGreat
open Go.RowKit
structure Fresh (w0 w:World) (v:Value) (X:List Int) (pg:Option Nat):Prop where
 val:v=.slice (pg.map fun g=>⟨g,0,none⟩) X.length X.length
 own:∀ g,pg=some g→w0.heap.size≤g∧Row w g X
 nil:pg=none→X=[]
theorem clip_own (w0 w:World) (v:Value) (X:List Int) (h:Own w w0.heap.size v X) :
  Calls Tryz.prog 73 #[v] w fun e w'=>∃ v' pg,e=.returned v'∧w'=w∧Fresh w0 w v' X pg:=by
 rcases h with ⟨rfl,rfl⟩ | ⟨g,C,rfl,hg,hR,hp,hm⟩
 ·go_enter Tryz.func73,Tryz.ntmps73
  go_wp2
  go_ret
  exact ⟨_,none,rfl,rfl,rfl,(fun g hg=>by cases hg),fun _=>rfl⟩
 ·refine (clip_any w g _ _ hp.length_le).mono fun e w' ⟨he,hw⟩=>?_
  subst hw
  exact ⟨_,some g,he,rfl,rfl,fun g' hg'=>by
   obtain rfl:=Option.some.inj hg'
   exact ⟨hg,fun k x hk=>by have:=(hR.bytes hp).c k x hk;rw [Nat.zero_add] at this;exact this.1,hR.z,hR.lt,fun x hx=>hR.byte x (hp.subset hx)⟩,fun h=>by cases h⟩
set_option maxRecDepth 100000 in
set_option maxHeartbeats 2000000 in
theorem open_short (sv:Value) (Z:List Int) (a:Option Addr) (c:Nat) (w:World) (hl:Z.length < 4) :
  Calls Tryz.prog 54 #[sv,.slice a Z.length c] w fun e w'=>e=.returned (.tuple #[.slice none 0 0,.int .i64 4])∧w'=w:=by
 have h1:(Z.length:Int) - 4 < 0:=by omega
 go_enter Tryz.func54,Tryz.ntmps54
 go_wp2
 go_ret2
 exact ⟨rfl,rfl⟩
set_option maxRecDepth 100000 in
set_option maxHeartbeats 4000000 in
theorem open_long (b:Nat) (Z:List Int) (A:Nat) (g o c:Nat) (w:World) (hs:SumsSt w b) (hz:BytesAt w g o Z) (hgb:g≠b) (hl:Z.length≤20000000) (hA:Z.length=A+4) (hc:Z.length≤c) :
  Calls Tryz.prog 54 #[.pointer (some ⟨b,0,none⟩),.slice (some ⟨g,o,none⟩) Z.length c] w fun e w'=>SumsSt w' b∧Chg (·=b) w w'∧((Z.drop A=fourL (ofI (Z.take A))∧∃ v pg,e=.returned (.tuple #[v,.int .i64 0])∧Fresh w w' v (Z.take A) pg)∨(Z.drop A≠fourL (ofI (Z.take A))∧e=.returned (.tuple #[.slice none 0 0,.int .i64 5]))):=by
 have hTl:(Z.take A).length=A:=by rw [List.length_take];omega
 have hDl:(Z.drop A).length=4:=by rw [List.length_drop];omega
 have HZ:=jh hz
 have HB1:Hid (∀ w',Chg (·=b) w w'→BytesAt w' g o (Z.take A)):=jh (fun w' hc=>⟨fun j x hj=>(hz.chg hc (fun _=>hgb)).c j x (by rw [List.getElem?_take_of_lt (by have:=(List.getElem?_eq_some_iff.1 hj).1;omega)] at hj;exact hj),fun _=>(hz.chg hc (fun _=>hgb)).lt (by intro e;rw [e] at hA;simp at hA)⟩)
 have HB2:Hid (∀ w',Chg (·=b) w w'→BytesAt w' g (o+A) (Z.drop A)):=jh (fun w' hc=>⟨fun j x hj=>by
  have:=(hz.chg hc (fun _=>hgb)).c (A+j) x (by rw [List.getElem?_drop] at hj;exact hj)
  rw [Nat.add_assoc]
  exact this,fun _=>(hz.chg hc (fun _=>hgb)).lt (by intro e;rw [e] at hA;simp at hA)⟩)
 have HOF:=jh (fun w' hs'=>of_any b (Z.take A) (some ⟨g,o,none⟩) g o c w' hs')
 have HS:=jh hs
 obtain ⟨r0,r1⟩:=ofI_range (Z.take A)
 obtain ⟨N,hN⟩:∃ N,ofI (Z.take A)=N:=⟨_,rfl⟩
 rw [hN] at HOF r0 r1 ⊢
 rw [hTl] at HOF
 have hi:(Z.length:Int) - 4=A:=by omega
 have hi2:(A:Int)≤(Z.length:Int):=by omega
 have hi3:(Z.length:Int)≤(c:Int):=by omega
 have hi4:¬ ((A:Int) < 0):=by omega
 have hi5:Z.length - A=4:=by omega
 have hi6:A≤Z.length:=by omega
 have hi7:A≤c:=by omega
 have hi8:(A:Int)≤(A:Int)+4:=by omega
 have hi9:¬ c=A:=by omega
 have HSS:Hid True:=jh trivial
 clear hz hs hN
 go_enter Tryz.func54,Tryz.ntmps54
 go_upto_region 4 with (fail)
 refine wp_region_held (S:=fun _=>True) (by kernel_rfl) ?_
 show wpAnyH _ _ _ _ _ 12 (Array.replicate 12 false) _ w.drew
 (refine held_read (i:=0) rfl (by kernel_rfl) (by kernel_rfl) (by kernel_rfl) (fun _ _ _ _ h=>h) rfl HSS.out (fun K hK=>?_);apply Exists.intro;refine ⟨fun w' hC=>?_,?_⟩;(go_simp;try with_reducible rfl);(try go_simp);refine hK _ ?_;clear hK K)
 (refine held_read (i:=1) rfl (by kernel_rfl) (by kernel_rfl) (by kernel_rfl) (fun _ _ _ _ h=>h) rfl HSS.out (fun K hK=>?_);apply Exists.intro;refine ⟨fun w' hC=>?_,?_⟩;(go_simp;try with_reducible rfl);(try go_simp);refine hK _ ?_;clear hK K)
 (refine held_read (i:=2) rfl (by kernel_rfl) (by kernel_rfl) (by kernel_rfl) (fun _ _ _ _ h=>h) rfl HSS.out (fun K hK=>?_);apply Exists.intro;refine ⟨fun w' hC=>?_,?_⟩;(go_simp;try with_reducible rfl);(try go_simp);refine hK _ ?_;clear hK K)
 (refine held_read (i:=3) rfl (by kernel_rfl) (by kernel_rfl) (by kernel_rfl) (fun _ _ _ _ h=>h) rfl HSS.out (fun K hK=>?_);apply Exists.intro;refine ⟨fun w' hC=>?_,?_⟩;(go_simp;try with_reducible rfl);(try go_simp);refine hK _ ?_;clear hK K)
 (refine held_read (i:=4) rfl (by kernel_rfl) (by kernel_rfl) (by kernel_rfl) (fun _ _ _ _ h=>h) rfl HSS.out (fun K hK=>?_);apply Exists.intro;refine ⟨fun w' hC=>?_,?_⟩;(go_simp;try with_reducible rfl);(try go_simp);refine hK _ ?_;clear hK K)
 (refine held_read (i:=5) rfl (by kernel_rfl) (by kernel_rfl) (by kernel_rfl) (fun _ _ _ _ h=>h) rfl HSS.out (fun K hK=>?_);apply Exists.intro;refine ⟨fun w' hC=>?_,?_⟩;(go_simp;try with_reducible rfl);(try go_simp);refine hK _ ?_;clear hK K)
 (refine held_read (i:=6) rfl (by kernel_rfl) (by kernel_rfl) (by kernel_rfl) (fun _ _ _ _ h=>h) rfl HSS.out (fun K hK=>?_);apply Exists.intro;refine ⟨fun w' hC=>?_,?_⟩;(go_simp;try with_reducible rfl);(try go_simp);refine hK _ ?_;clear hK K)
 refine held_call (i:=7) (by kernel_rfl) rfl rfl 76 #[.pointer (some ⟨b,0,none⟩),.slice (some ⟨g,o,none⟩) A c] (fun v w''=>v=.int .u32 N∧SumsSt w'' b∧Chg (·=b) w w'') (by go_simp) ?_ ?_
 ·refine (HOF.out w.drew (HS.out.chg (Chg.refl (fun _=>False) w).drew (fun h=>h)) ((HB1.out w (Chg.refl _ _)).chg (Chg.refl (fun _=>False) w).drew (fun _ h=>h)) (fun _=>hgb) (fun _=>rfl) (by omega)).mono ?_
  rintro e w1 ⟨rfl,h1,h2⟩
  exact ⟨_,rfl,trivial,rfl,h1,(Chg.refl _ _).drew.trans h2⟩
 rintro v w1 - ⟨rfl,hs1,hc1⟩ K hK
 have HS1:=jh hs1
 have HC1:=jh hc1
 clear hs1 hc1 HOF
 (try go_simp)
 refine hK _ ?_
 clear hK K
 refine held_call (i:=8) (by kernel_rfl) rfl rfl 75 #[.int .u32 N] (fun v w''=>∃ h4,v=.slice (some ⟨h4,0,none⟩) 4 4∧Row w'' h4 (fourL N)∧Chg (fun _=>False) w1 w'') (by go_simp) ?_ ?_
 ·refine (four_any N w1 r0 r1).mono ?_
  rintro e w2 ⟨h4,rfl,_,h1,h2⟩
  exact ⟨_,rfl,trivial,h4,rfl,h1,h2⟩
 rintro v w2 - ⟨h4,rfl,hr4,hc2⟩ K hK
 have HR4:=jh hr4
 have HC2:=jh hc2
 clear hr4 hc2
 (try go_simp)
 refine hK _ ?_
 clear hK K
 have HEQ:=jh (equal_any (Z.drop A) (fourL N) (some ⟨g,o+A,none⟩) (some ⟨h4,0,none⟩) g (o+A) h4 0 (c - A) 4 w2 ((HB2.out w1 HC1.out).chg HC2.out (fun _ h=>h)) (fun _=>rfl) (HR4.out.bytes (List.prefix_refl _)) (fun _=>rfl) (by omega))
 rw [hDl] at HEQ
 obtain ⟨B,hB⟩:∃ B,decide (Z.drop A=fourL N)=B:=⟨_,rfl⟩
 have HBB:=jh hB
 rw [hB] at HEQ
 clear hB
 refine held_call (i:=9) (by kernel_rfl) rfl rfl 100 #[.slice (some ⟨g,o+A,none⟩) 4 (c - A),.slice (some ⟨h4,0,none⟩) 4 4] (fun v w''=>v=.bool B∧Chg (fun _=>False) w2 w'') (by go_simp) ?_ ?_
 ·refine HEQ.out.mono ?_
  rintro e w3 ⟨rfl,h1⟩
  exact ⟨_,rfl,trivial,rfl,h1⟩
 rintro v w3 - ⟨rfl,hc3⟩ K hK
 have HC3:=jh (HC1.out.trans (HC2.out.trans hc3).any)
 have HS3:=jh (HS1.out.chg (HC2.out.trans hc3) (fun h=>h))
 clear hc3 HEQ HC2 HR4 HC1 HS1
 (try go_simp)
 refine hK _ ?_
 clear hK K
 (refine held_one (i:=10) (by kernel_rfl) rfl rfl HSS.out (fun K hK=>?_);apply Exists.intro;refine ⟨?_,?_⟩;(go_simp;try with_reducible rfl);(try go_simp);refine hK _ ?_;clear hK K)
 (refine held_one (i:=11) (by kernel_rfl) rfl rfl HSS.out (fun K hK=>?_);apply Exists.intro;refine ⟨?_,?_⟩;(go_simp;try with_reducible rfl);(try go_simp);refine hK _ ?_;clear hK K)
 refine wpAnyH_done (by kernel_rfl) ?_ _
 have HCL:=jh (clone_any (Z.take A) (some ⟨g,o,none⟩) g o c w3 (HB1.out w3 HC3.out) (fun _=>rfl) (by omega))
 rw [hTl] at HCL
 cases B with
 | false =>
  go_wp2
  go_ret2
  exact ⟨HS3.out,HC3.out,.inr ⟨of_decide_eq_false HBB.out,rfl⟩⟩
 | true =>
  go_wp2_with fail
  refine HCL.out.mono ?_
  rintro e w4 ⟨v4,rfl,ho4,hc4⟩
  have HO4:=jh ho4
  have HC4:=jh hc4
  clear ho4 hc4 HCL
  go_wp2_with fail
  refine (clip_own w w4 v4 (Z.take A) (HO4.out.lower (by have:=HC3.out.size;omega))).mono ?_
  rintro e w5 ⟨v5,pg,rfl,rfl,hf⟩
  have HF:=jh hf
  have HC5:=jh (HC3.out.trans HC4.out.any)
  have HS5:=jh (HS3.out.chg HC4.out (fun h=>h))
  clear hf HC3 HC4 HS3 HO4
  go_wp2
  go_ret2
  exact ⟨HS5.out,HC5.out,.inl ⟨of_decide_eq_true HBB.out,v5,pg,rfl,HF.out⟩⟩
end Go.Proofs.YtgnpmceimpjheaaGreat
namespace Go.Proofs.YtgnpmceimpjheaaGreat
open Go.RowKit
def getB:Option TabsD→Int × Option TabsD
 | none=>(4,none)
 | some t=>(0,some t)
def getR (Z:List Int):Int × Option TabsD :=
 if Z.length < 4 then (4,none) else if Z.drop (Z.length - 4)=fourL (ofI (Z.take (Z.length - 4))) then getB (tabsG (Z.take (Z.length - 4))) else (5,none)
def nilT:TabsS:=⟨(none,0,0),(none,0,0),(none,0,0),⟨(none,0,0),(none,0,0),(none,0,0),(none,0,0)⟩,⟨(none,0,0),(none,0,0),(none,0,0),(none,0,0),(none,0,0)⟩,(none,0,0)⟩
def GetPost (w:World) (Z:List Int) (e:Ending) (w':World):Prop :=
 Chg (fun _=>False) w w'∧∃ m,e=.returned (.tuple #[tabsV m,.int .i64 (getR Z).1])∧(((getR Z).2=none∧m=nilT)∨∃ t,(getR Z).2=some t∧TabsIn w' (fun k=>w.heap.size≤k) m t)
structure ResAt (tb eb:Nat) (w:World) (vs:List Value) (e:Int):Prop where
 c:∀ j v,vs[j]?=some v→w.cell? ⟨tb,j,none⟩=some v
 e:w.cell? ⟨eb,0,none⟩=some (.int .i64 e)
 z:∀ j,w.frozen? ⟨tb,j,none⟩=false
 z1:w.frozen? ⟨eb,0,none⟩=false
theorem ResAt.chg {S:Nat→Prop} {tb eb:Nat} {w w':World} {vs:List Value} {e:Int} (h:ResAt tb eb w vs e) (hc:Chg S w w') (h0:tb < w.heap.size) (hs:∀ k,S k→k≠tb∧k≠eb):ResAt tb eb w' vs e:=by
 have n0:¬ S tb:=fun e=>(hs _ e).1 rfl
 have n1:¬ S eb:=fun e=>(hs _ e).2 rfl
 exact ⟨fun j v hv=>hc.cellS (h.c j v hv) n0,hc.cellS h.e n1,fun j=>(hc.frozen (p:=⟨tb,j,none⟩) h0 n0).trans (h.z j),(hc.frozen (p:=⟨eb,0,none⟩) (World.block_lt_of_cell? _ _ h.e) n1).trans h.z1⟩
theorem ResAt.set {tb eb:Nat} {w:World} {vs:List Value} {e:Int} (h:ResAt tb eb w vs e) (hte:tb≠eb) (us:List Value) (hl:us.length=vs.length) (e':Int):ResAt tb eb ((setAll tb 0 us w).setCell ⟨eb,0,none⟩ (.int .i64 e')) us e'∧Chg (fun k=>k=tb∨k=eb) w ((setAll tb 0 us w).setCell ⟨eb,0,none⟩ (.int .i64 e')):=by
 obtain ⟨s1,-,s3,s4⟩:=setAll_spec tb us 0 w (fun j hj=>by
  rw [Nat.zero_add,h.c j _ (List.getElem?_eq_getElem (by omega))];rfl)
 have hne:∀ j,(⟨eb,0,none⟩:Addr)≠⟨tb,j,none⟩:=fun j e=>by injection e with e _;exact hte e.symm
 have c1:=s3.cellS h.e (by show ¬ eb=tb;exact fun e=>hte e.symm)
 refine ⟨⟨fun j v hv=>?_,World.cell?_setCell_same _ _ _ c1,fun j=>(World.frozen?_setCell _ _ _ _).trans ((s4 _).trans (h.z j)),(World.frozen?_setCell _ _ _ _).trans ((s4 _).trans h.z1)⟩,(s3.mono (fun k _ e=>.inl e)).trans ((setCellChg _ _ _ _).mono (fun k _ e=>.inr e))⟩
 rw [World.cell?_setCell_other _ _ _ _ (hne j)]
 have:=s1 j v hv
 rwa [Nat.zero_add] at this
theorem Fresh.st {w0 w:World} {v:Value} {X:List Int} {pg:Option Nat} (h:Fresh w0 w v X pg) (hx:X≠[]):∃ g,pg=some g∧v=.slice (some ⟨g,0,none⟩) X.length X.length∧w0.heap.size≤g∧Row w g X:=by
 obtain ⟨h1,h2,h3⟩:=h
 cases pg with
 | none=>exact absurd (h3 rfl) hx
 | some g=>exact ⟨g,rfl,h1,(h2 g rfl).1,(h2 g rfl).2⟩
end Go.Proofs.YtgnpmceimpjheaaGreat
namespace Go.Proofs.YtgnpmceimpjheaaGreat
open Go.RowKit
set_option maxRecDepth 100000 in
set_option maxHeartbeats 8000000 in
theorem get_any (Z:List Int) (a:Option Addr) (g o c:Nat) (w:World) (hz:BytesAt w g o Z) (ha:0 < Z.length→a=some ⟨g,o,none⟩) (hc:Z.length≤c) (hl:Z.length≤10000000) :
  Calls Tryz.prog 18 #[.slice a Z.length c] w (GetPost w Z):=by
 have hmf:∀ (fn:Fn) (first cap:Array Value) (w:World),(Instr.makeFunc fn first cap).run Tryz.prog w=.ok (.func fn first cap) w:=fun _ _ _ _=>rfl
 have HZ:=jh hz
 have hzs:=zeroSums
 obtain ⟨w0,hw0⟩:∃ W,W=((w.alloc (.cells #[.slice none 0 0,.slice none 0 0,.slice none 0 0,.slice none 0 0,.slice none 0 0,.slice none 0 0,.slice none 0 0,.slice none 0 0,.slice none 0 0,.slice none 0 0,.slice none 0 0,.slice none 0 0,.slice none 0 0] 34)).alloc (.cells #[.int .i64 0] 46)):=⟨_,rfl⟩
 obtain ⟨w1,hw1⟩:∃ W,W=w0.alloc (.cells zerosS 104):=⟨_,rfl⟩
 have hC0:Chg (fun _=>False) w w0:=by rw [hw0];exact ((Chg.refl _ w).alloc _).alloc _
 have hC1:Chg (fun _=>False) w0 w1:=by rw [hw1];exact (Chg.refl _ _).alloc _
 have hS0:w0.heap.size=w.heap.size+2:=by rw [hw0];simp
 have hS1:w1.heap.size=w.heap.size+3:=by rw [hw1];simp [hS0]
 have HS:Hid (SumsSt w1 (w.heap.size+2)):=jh (by rw [hw1,← hS0];exact ⟨0,_,SumsAt.made w0 _,.inl rfl⟩)
 have HR0:ResAt w.heap.size (w.heap.size+1) w0 zero13 0:=by
  refine ⟨fun j v hv=>?_,by rw [hw0];exact allocAt _ (by simp) rfl,fun j=>?_,?_⟩
  ·rw [hw0,zero13] at *
   exact allocOld _ (allocAt _ rfl (by rw [← Array.getElem?_toList];exact hv))
  ·rw [hw0]
   exact (((Chg.refl (fun _=>False) _).alloc _).frozen (p:=⟨w.heap.size,j,none⟩) (by simp) (fun h=>h)).trans (World.frozen?_alloc_new _ _ _ _)
  ·rw [hw0]
   have e:w.heap.size+1=(w.alloc (.cells #[.slice none 0 0,.slice none 0 0,.slice none 0 0,.slice none 0 0,.slice none 0 0,.slice none 0 0,.slice none 0 0,.slice none 0 0,.slice none 0 0,.slice none 0 0,.slice none 0 0,.slice none 0 0,.slice none 0 0] 34)).heap.size:=by simp
   rw [e]
   exact World.frozen?_alloc_new _ _ _ _
 have HR1:=jh (HR0.chg hC1 (by omega) (fun _ h=>h.elim))
 go_enter_defers Tryz.func18,Tryz.ntmps18
 go_upto_region 3 with (fail)
 rw [← hw0,← hw1]
 obtain ⟨tb,htb⟩:∃ b,b=w.heap.size:=⟨_,rfl⟩
 have hsz:w.heap.size=tb:=htb.symm
 rw [hsz] at HR1 HS hS0 hS1 ⊢
 obtain ⟨sb,hsb⟩:∃ b,b=tb+1+1:=⟨_,rfl⟩
 rw [← hsb]
 obtain ⟨eb,heb⟩:∃ b,b=tb+1:=⟨_,rfl⟩
 rw [← heb]
 rw [show tb+2=sb by omega] at HS
 rw [← heb] at HR1
 have HB:Hid (sb=tb+2∧eb=tb+1∧w1.heap.size=tb+3∧w.heap.size=tb):=jh ⟨by omega,heb,hS1,hsz⟩
 have HC1:=jh (hC0.trans hC1)
 have HOPEN:Hid (Calls Tryz.prog 54 #[.pointer (some ⟨sb,0,none⟩),.slice a Z.length c] w1 fun e w'=>Chg (·=sb) w1 w'∧((∃ code,(code=4∨code=5)∧e=.returned (.tuple #[.slice none 0 0,.int .i64 code])∧getR Z=(code,none)) ∨
   (4≤Z.length∧∃ v pg,e=.returned (.tuple #[v,.int .i64 0])∧Fresh w1 w' v (Z.take (Z.length - 4)) pg∧getR Z=getB (tabsG (Z.take (Z.length - 4)))))):=jh (by
  by_cases h4:Z.length < 4
  ·refine (open_short _ Z a c w1 h4).mono ?_
   rintro e w' ⟨rfl,rfl⟩
   exact ⟨Chg.refl _ _,.inl ⟨4,.inl rfl,rfl,by unfold getR;rw [if_pos h4]⟩⟩
  ·obtain rfl:=ha (by omega)
   refine (open_long sb Z (Z.length - 4) g o c w1 HS.out (HZ.out.chg HC1.out (fun _ h=>h)) (by have:=hz.lt (by intro e;rw [e] at h4;simp at h4);have:=HB.out;omega) (by omega) (by omega) hc).mono ?_
   rintro e w' ⟨-,hcg,⟨h5,v,pg,rfl,hf⟩ | ⟨h5,rfl⟩⟩
   ·exact ⟨hcg,.inr ⟨by omega,v,pg,rfl,hf,by unfold getR;rw [if_neg h4,if_pos h5]⟩⟩
   ·exact ⟨hcg,.inl ⟨5,.inr rfl,rfl,by unfold getR;rw [if_neg h4,if_neg h5]⟩⟩)
 clear hz ha hc hw0 hw1 hC0 hC1 hS0 hS1 HR0 htb hsz hsb heb hzs
 go_wp2_with fail
 refine HOPEN.out.mono ?_
 rintro e w2 ⟨hc2,⟨code,hcode,rfl,hg⟩ | ⟨h4,v,pg,rfl,hf,hg⟩⟩
 ·have HG:=jh hg
  have HC2:=jh hc2
  have HR2:=jh (HR1.out.chg hc2 (by have:=HB.out;omega) (fun k hk=>by have:=HB.out;omega))
  have bcode:(code != 0)=true:=by rcases hcode with rfl | rfl <;> rfl
  clear hc2 hg HOPEN hcode
  obtain ⟨w3,hw3⟩:∃ X,X=w2.setCell ⟨eb,0,none⟩ (.int .i64 code):=⟨_,rfl⟩
  have HNE:Hid (tb≠eb):=jh (by have:=HB.out;omega)
  have hR3:ResAt tb eb w3 zero13 code:=by
   have hc3:=setCellChg w2 eb 0 (.int .i64 code)
   have hn:=HNE.out
   rw [hw3]
   refine ⟨fun j v hv=>?_,World.cell?_setCell_same _ _ _ HR2.out.e,fun j=>(World.frozen?_setCell _ _ _ _).trans (HR2.out.z j),(World.frozen?_setCell _ _ _ _).trans HR2.out.z1⟩
   exact hc3.cellS (HR2.out.c j v hv) hn
  have HR3:=jh hR3
  have HC3:Hid (Chg (fun k=>tb≤k) w1 w3):=jh ((HC2.out.mono (fun k _ e=>by have:=HB.out;omega)).trans (by rw [hw3];exact (setCellChg w2 eb 0 _).mono (fun k _ e=>by have:=HB.out;omega)))
  have re2:=HR2.out.e
  have rz2:=HR2.out.z1
  have hW3:=jh hw3
  clear hw3 hR3
  go_upto_region 4 with (fail)
  rw [← hW3.out]
  clear re2 rz2
  have k0:=HR3.out.e
  go_upto_region 5 with (fail)
  clear k0
  have hne:=HNE.out
  have hne2:¬ eb=tb:=fun h=>hne h.symm
  have hne3:¬ tb=eb:=hne
  obtain ⟨rc,re,rz,rz1⟩:=HR3.out
  have k0:=rc 0 _ rfl;have z0:=rz 0
  have k1:=rc 1 _ rfl;have z1:=rz 1
  have k2:=rc 2 _ rfl;have z2:=rz 2
  have k3:=rc 3 _ rfl;have z3:=rz 3
  have k4:=rc 4 _ rfl;have z4:=rz 4
  have k5:=rc 5 _ rfl;have z5:=rz 5
  have k6:=rc 6 _ rfl;have z6:=rz 6
  have k7:=rc 7 _ rfl;have z7:=rz 7
  have k8:=rc 8 _ rfl;have z8:=rz 8
  have k9:=rc 9 _ rfl;have z9:=rz 9
  have k10:=rc 10 _ rfl;have z10:=rz 10
  have k11:=rc 11 _ rfl;have z11:=rz 11
  have k12:=rc 12 _ rfl;have z12:=rz 12
  clear rc rz
  go_region
  obtain ⟨w4,hw4⟩:∃ X,X=((setAll tb 0 zero13 w3).setCell ⟨eb,0,none⟩ (.int .i64 code)).drew:=⟨_,rfl⟩
  have hR4:=HR3.out.set HNE.out zero13 rfl code
  have hC4:=(Chg.refl (fun _=>False) ((setAll tb 0 zero13 w3).setCell ⟨eb,0,none⟩ (.int .i64 code))).drew
  rw [← hw4] at hC4
  have HC4:Hid (Chg (fun _=>False) w w4):=jh (HC1.out.trans2 (HC3.out.trans ((hR4.2.mono (T:=fun k=>tb≤k) (fun k _ e=>by have:=HB.out;omega)).trans hC4.any)) (fun k hk e=>by have:=HB.out;omega))
  have hR5:=hR4.1.chg hC4 (World.block_lt_of_cell? _ _ (hR4.1.c 0 _ rfl)) (fun _ h=>h.elim)
  have HR5:=jh (hR5.chg ((Chg.refl (fun _=>False) w4).alloc (.cells #[] 129)) (World.block_lt_of_cell? _ _ (hR5.c 0 _ rfl)) (fun _ h=>h.elim))
  simp only [setAll,zero13,Nat.zero_add,Nat.reduceAdd] at hw4
  rw [← hw4]
  clear hw4 hR4 hC4 hR5
  clear k0 z0 k1 z1 k2 z2 k3 z3 k4 z4 k5 z5 k6 z6 k7 z7 k8 z8 k9 z9 k10 z10 k11 z11 k12 z12 re rz1
  go_wp2
  refine leaves_cons (f:=53) (args:=#[.pointer (some ⟨tb,0,none⟩),.pointer (some ⟨eb,0,none⟩)]) (by simp) (by simp [go_sem]) ?_
  refine (catch_none tb eb w4).mono ?_
  rintro e u' w5 ⟨rfl,rfl,rfl⟩
  obtain ⟨rc,re,-,-⟩:=HR5.out
  have s0:=rc 0 _ rfl
  have s1:=rc 1 _ rfl
  have s2:=rc 2 _ rfl
  have s3:=rc 3 _ rfl
  have s4:=rc 4 _ rfl
  have s5:=rc 5 _ rfl
  have s6:=rc 6 _ rfl
  have s7:=rc 7 _ rfl
  have s8:=rc 8 _ rfl
  have s9:=rc 9 _ rfl
  have s10:=rc 10 _ rfl
  have s11:=rc 11 _ rfl
  have s12:=rc 12 _ rfl
  simp only [Leaves,settle,results,Tryz.results18]
  refine ⟨_,by simp [go_sem,s0,s1,s2,s3,s4,s5,s6,s7,s8,s9,s10,s11,s12,re];rfl,HC4.out.alloc _,nilT,?_,.inl ⟨by rw [HG.out],rfl⟩⟩
  rw [HG.out]
  rfl
 ·obtain ⟨X,hX⟩:∃ X,Z.take (Z.length - 4)=X:=⟨_,rfl⟩
  rw [hX] at hf hg
  have HX:Hid (X.length≤10000000∧∀ a∈X,Byte a):=jh ⟨by rw [← hX,List.length_take];omega,fun a ha=>HZ.out.byte a (by rw [← hX] at ha;exact List.mem_of_mem_take ha)⟩
  have HG:=jh hg
  have HF:=jh hf
  have HNE:Hid (tb≠eb):=jh (by have:=HB.out;omega)
  obtain ⟨w3,hw3⟩:∃ X,X=w2.setCell ⟨eb,0,none⟩ (.int .i64 0):=⟨_,rfl⟩
  have HR2:=jh (HR1.out.chg hc2 (by have:=HB.out;omega) (fun k hk=>by have:=HB.out;omega))
  have hR3:ResAt tb eb w3 zero13 0:=by
   have hc3:=setCellChg w2 eb 0 (.int .i64 0)
   have hn:=HNE.out
   rw [hw3]
   refine ⟨fun j v hv=>?_,World.cell?_setCell_same _ _ _ HR2.out.e,fun j=>(World.frozen?_setCell _ _ _ _).trans (HR2.out.z j),(World.frozen?_setCell _ _ _ _).trans HR2.out.z1⟩
   exact hc3.cellS (HR2.out.c j v hv) hn
  have h23:Chg (·=eb) w2 w3:=by rw [hw3];exact setCellChg w2 eb 0 _
  have HC3:Hid (Chg (fun k=>tb≤k) w1 w3):=jh ((hc2.mono (fun k _ e=>by have:=HB.out;omega)).trans (h23.mono (fun k _ e=>by have:=HB.out;omega)))
  have HSZ3:Hid (tb+3≤w3.heap.size):=jh (by have:=HC3.out.size;have:=HB.out;omega)
  obtain ⟨va,vl,vc,hv⟩:∃ va vl vc,v=.slice va vl vc:=⟨_,_,_,hf.val⟩
  subst hv
  obtain ⟨pgx,hpgx⟩:∃ b,b=w3.heap.size:=⟨_,rfl⟩
  have HPG:Hid (pgx=w3.heap.size∧tb+3≤pgx):=jh ⟨hpgx,by rw [hpgx];exact HSZ3.out⟩
  obtain ⟨w4,hw4⟩:∃ X,X=w3.alloc (.cells #[.slice va vl vc] 133):=⟨_,rfl⟩
  have h34:Chg (fun _=>False) w3 w4:=by rw [hw4];exact (Chg.refl _ _).alloc _
  have c4:w4.cell? ⟨pgx,0,none⟩=some (.slice va vl vc):=by rw [hw4,hpgx];exact allocNew _ _ rfl
  have z4:w4.frozen? ⟨pgx,0,none⟩=false:=by rw [hw4,hpgx];exact World.frozen?_alloc_new _ _ _ _
  have HSZ4:Hid (w4.heap.size=pgx+1):=jh (by rw [hw4,hpgx];simp)
  have HR4:=jh (hR3.chg h34 (by have:=HSZ3.out;omega) (fun _ h=>h.elim))
  have HT:Hid (Calls Tryz.prog 55 #[.pointer (some ⟨pgx,0,none⟩)] w4 (TablesPost pgx w4 X)):=jh (by
   by_cases h4x:X.length < 4
   ·have hl:vl=X.length:=by have:=hf.val;injection this
    refine (tables_short w4 c4 (by omega)).mono ?_
    rintro e w' ⟨rfl,hc⟩
    refine ⟨hc.any,.inl ⟨?_,rfl⟩⟩
    unfold tabsG
    rw [if_neg (fun e=>by have:=congrArg List.length e;rw [List.length_take] at this;simp only [headL,List.length_cons,List.length_nil] at this;omega)]
   ·obtain ⟨gx,-,hv,hge,hrow⟩:=hf.st (by intro e;rw [e] at h4x;simp at h4x)
    have h24:=h23.trans (h34.any)
    have hgs:gx < w2.heap.size:=hrow.lt
    have hw1s:=HB.out
    have hrow4:Row w4 gx X:=hrow.chg h24 (by show ¬ gx=eb;omega)
    refine tables_any w4 X ⟨⟨0,X.length,by rw [c4,hv],Nat.le_refl _,hrow4.bytes (List.prefix_refl _)⟩,z4,World.block_lt_of_cell? _ _ c4,hrow4.lt,?_,HX.out.1,HX.out.2⟩ (by omega)
    have:=h23.size
    omega)
  have HW3:=jh hw3
  have HW4:=jh hw4
  have re2:=HR2.out.e
  have rz2:=HR2.out.z1
  clear hw3 hw4 hR3 h23 h34 c4 z4 hX hf hg hc2 hpgx
  go_upto_region 4 with (fail)
  rw [← HW3.out]
  clear re2 rz2
  have re3:=(show w3.cell? ⟨eb,0,none⟩=some (.int .i64 0) by rw [HW3.out];exact World.cell?_setCell_same _ _ _ HR2.out.e)
  go_upto_region 7 with (fail)
  rw [← HW4.out,← HPG.out.1]
  clear re3
  go_wp2_with fail
  refine HT.out.mono ?_
  rintro e w6 ⟨hc6,⟨hn,rfl⟩ | ⟨t,m,ht,rfl,hin⟩⟩
  ·have HR6:=jh (HR4.out.chg hc6 (by have:=HPG.out;have:=HSZ4.out;omega) (fun k hk=>by have:=HPG.out;have:=HB.out;omega))
   have HC6:Hid (Chg (fun _=>False) w w6):=jh (HC1.out.trans2 ((HC3.out.trans (by rw [HW4.out];exact (Chg.refl _ _).alloc _)).trans (hc6.mono (T:=fun k=>tb≤k) (fun k _ e=>by have:=HPG.out;omega))) (fun k hk e=>by have:=HB.out;omega))
   have HGN:Hid (getR Z=(4,none)):=jh (by rw [HG.out,hn];rfl)
   clear hc6 hn
   refine leaves_cons (f:=53) (args:=#[.pointer (some ⟨tb,0,none⟩),.pointer (some ⟨eb,0,none⟩)]) (by simp) (by simp [go_sem]) ?_
   refine (catch_strange tb eb w6 (fun _=>.slice none 0 0) 0 HNE.out (fun j hj=>HR6.out.c j _ ?_) HR6.out.z HR6.out.e HR6.out.z1).mono ?_
   ·rcases (by omega:j=0∨j=1∨j=2∨j=3∨j=4∨j=5∨j=6∨j=7∨j=8∨j=9∨j=10∨j=11∨j=12) with rfl | rfl | rfl | rfl | rfl | rfl | rfl | rfl | rfl | rfl | rfl | rfl | rfl <;> rfl
   rintro e u' w7 ⟨rfl,rfl,hw7⟩
   have hR6a:=HR6.out.chg ((Chg.refl (fun _=>False) w6).alloc (.cells #[] 129)) (World.block_lt_of_cell? _ _ (HR6.out.c 0 _ rfl)) (fun _ h=>h.elim)
   have hR7:=hR6a.set HNE.out zero13 rfl 4
   rw [← hw7] at hR7
   have HC7:Hid (Chg (fun _=>False) w w7):=jh ((HC6.out.alloc _).trans2 hR7.2 (fun k hk e=>by have:=HB.out;omega))
   obtain ⟨hR7,-⟩:=hR7
   obtain ⟨rc,re,-,-⟩:=hR7
   have s0:=rc 0 _ rfl
   have s1:=rc 1 _ rfl
   have s2:=rc 2 _ rfl
   have s3:=rc 3 _ rfl
   have s4:=rc 4 _ rfl
   have s5:=rc 5 _ rfl
   have s6:=rc 6 _ rfl
   have s7:=rc 7 _ rfl
   have s8:=rc 8 _ rfl
   have s9:=rc 9 _ rfl
   have s10:=rc 10 _ rfl
   have s11:=rc 11 _ rfl
   have s12:=rc 12 _ rfl
   show Leaves Tryz.prog _ _ _ [] FrameMode.returning _
   simp only [Leaves,results,Tryz.results18]
   refine ⟨_,by simp [go_sem,s0,s1,s2,s3,s4,s5,s6,s7,s8,s9,s10,s11,s12,re];rfl,HC7.out,nilT,?_,.inl ⟨by rw [HGN.out],rfl⟩⟩
   rw [HGN.out]
   rfl
  ·have HR6:=jh (HR4.out.chg hc6 (by have:=HPG.out;have:=HSZ4.out;omega) (fun k hk=>by have:=HPG.out;have:=HB.out;omega))
   have HC6:Hid (Chg (fun _=>False) w w6):=jh (HC1.out.trans2 ((HC3.out.trans (by rw [HW4.out];exact (Chg.refl _ _).alloc _)).trans (hc6.mono (T:=fun k=>tb≤k) (fun k _ e=>by have:=HPG.out;omega))) (fun k hk e=>by have:=HB.out;omega))
   have HGN:Hid (getR Z=(0,some t)):=jh (by rw [HG.out,ht];rfl)
   have HIN:=jh hin
   obtain ⟨⟨p0,p1,p2⟩,⟨p3,p4,p5⟩,⟨p6,p7,p8⟩,⟨⟨p9,p10,p11⟩,⟨p12,p13,p14⟩,⟨p15,p16,p17⟩,⟨p18,p19,p20⟩⟩,⟨⟨p21,p22,p23⟩,⟨p24,p25,p26⟩,⟨p27,p28,p29⟩,⟨p30,p31,p32⟩,⟨p33,p34,p35⟩⟩,⟨p36,p37,p38⟩⟩:=m
   obtain ⟨w7,hw7⟩:∃ X,X=(setAll tb 0 [.slice p0 p1 p2,.slice p3 p4 p5,.slice p6 p7 p8,.slice p9 p10 p11,.slice p12 p13 p14,.slice p15 p16 p17,.slice p18 p19 p20,.slice p21 p22 p23,.slice p24 p25 p26,.slice p27 p28 p29,.slice p30 p31 p32,.slice p33 p34 p35,.slice p36 p37 p38] w6).setCell ⟨eb,0,none⟩ (.int .i64 0):=⟨_,rfl⟩
   have hR7:=HR6.out.set HNE.out [.slice p0 p1 p2,.slice p3 p4 p5,.slice p6 p7 p8,.slice p9 p10 p11,.slice p12 p13 p14,.slice p15 p16 p17,.slice p18 p19 p20,.slice p21 p22 p23,.slice p24 p25 p26,.slice p27 p28 p29,.slice p30 p31 p32,.slice p33 p34 p35,.slice p36 p37 p38] rfl 0
   rw [← hw7] at hR7
   have HC7:Hid (Chg (fun k=>k=tb∨k=eb) w6 w7):=jh hR7.2
   have HR8:=jh (hR7.1.chg ((Chg.refl (fun _=>False) w7).alloc (.cells #[] 129)) (World.block_lt_of_cell? _ _ (hR7.1.c 0 _ rfl)) (fun _ h=>h.elim))
   simp only [setAll,Nat.zero_add,Nat.reduceAdd] at hw7
   have HW7:=jh hw7
   simp only [tabsV,slV]
   clear hc6 ht hin hw7 hR7
   have hne:=HNE.out
   have hne2:¬ eb=tb:=fun h=>hne h.symm
   have hne3:¬ tb=eb:=hne
   obtain ⟨rc,re,rz,rz1⟩:=HR6.out
   have k0:=rc 0 _ rfl;have z0:=rz 0
   have k1:=rc 1 _ rfl;have z1:=rz 1
   have k2:=rc 2 _ rfl;have z2:=rz 2
   have k3:=rc 3 _ rfl;have z3:=rz 3
   have k4:=rc 4 _ rfl;have z4:=rz 4
   have k5:=rc 5 _ rfl;have z5:=rz 5
   have k6:=rc 6 _ rfl;have z6:=rz 6
   have k7:=rc 7 _ rfl;have z7:=rz 7
   have k8:=rc 8 _ rfl;have z8:=rz 8
   have k9:=rc 9 _ rfl;have z9:=rz 9
   have k10:=rc 10 _ rfl;have z10:=rz 10
   have k11:=rc 11 _ rfl;have z11:=rz 11
   have k12:=rc 12 _ rfl;have z12:=rz 12
   clear rc rz
   go_wp2
   rw [← HW7.out]
   clear k0 z0 k1 z1 k2 z2 k3 z3 k4 z4 k5 z5 k6 z6 k7 z7 k8 z8 k9 z9 k10 z10 k11 z11 k12 z12 re rz1
   refine leaves_cons (f:=53) (args:=#[.pointer (some ⟨tb,0,none⟩),.pointer (some ⟨eb,0,none⟩)]) (by simp) (by simp [go_sem]) ?_
   refine (catch_none tb eb w7).mono ?_
   rintro e u' w8 ⟨rfl,rfl,rfl⟩
   obtain ⟨rc,re,-,-⟩:=HR8.out
   have s0:=rc 0 _ rfl
   have s1:=rc 1 _ rfl
   have s2:=rc 2 _ rfl
   have s3:=rc 3 _ rfl
   have s4:=rc 4 _ rfl
   have s5:=rc 5 _ rfl
   have s6:=rc 6 _ rfl
   have s7:=rc 7 _ rfl
   have s8:=rc 8 _ rfl
   have s9:=rc 9 _ rfl
   have s10:=rc 10 _ rfl
   have s11:=rc 11 _ rfl
   have s12:=rc 12 _ rfl
   simp only [Leaves,settle,results,Tryz.results18]
   refine ⟨_,by simp [go_sem,s0,s1,s2,s3,s4,s5,s6,s7,s8,s9,s10,s11,s12,re];rfl,(HC6.out.trans2 HC7.out (fun k hk e=>by have:=HB.out;omega)).alloc _,⟨(p0,p1,p2),(p3,p4,p5),(p6,p7,p8),⟨(p9,p10,p11),(p12,p13,p14),(p15,p16,p17),(p18,p19,p20)⟩,⟨(p21,p22,p23),(p24,p25,p26),(p27,p28,p29),(p30,p31,p32),(p33,p34,p35)⟩,(p36,p37,p38)⟩,?_,.inr ⟨t,by rw [HGN.out],?_⟩⟩
   ·rw [HGN.out]
    rfl
   ·have i1:=TabsIn.good.chg HIN.out HC7.out (fun g hg e=>by have:=HSZ4.out;have:=HPG.out;have:=HB.out;omega)
    have i2:=TabsIn.good.chg i1 ((Chg.refl (fun _=>False) w7).alloc (.cells #[] 129)) (fun _ _ h=>h)
    exact TabsIn.good.mono i2 (fun g _ hg=>by have:=HSZ4.out;have:=HPG.out;have:=HB.out;omega)
end Go.Proofs.YtgnpmceimpjheaaGreat
namespace Go.Proofs.YtgnpmceimpjheaaGreat
open Go.RowKit
set_option maxRecDepth 100000 in
theorem sameNums_yes (L:List Int) (a b:Option Addr) (c d:Nat) (S S':Nat→Prop) (w:World) (h:intE.InS w S (a,L.length,c) L) (k:intE.InS w S' (b,L.length,d) L) (hl:L.length≤1000000000) :
  Calls Tryz.prog 50 #[.slice a L.length c,.slice b L.length d] w fun e w'=>e=.returned (.bool true)∧Chg (fun _=>False) w w':=by
 obtain ⟨g,o,h1,h2⟩:=h.bytes
 obtain ⟨g',o',k1,k2⟩:=k.bytes
 have HS:=jh (I.same_any L L a b g o g' o' c d w h1 h2 k1 k2 (by omega))
 clear h k h1 h2 k1 k2
 go_enter Tryz.func50,Tryz.ntmps50
 go_wp2_with fail
 refine HS.out.mono ?_
 rintro e w1 ⟨rfl,hc⟩
 have HC:=jh hc
 clear hc
 go_wp2
 go_ret
 exact ⟨by simp,HC.out⟩
set_option maxRecDepth 100000 in
set_option maxHeartbeats 2000000 in
theorem texts_yes (L:List Str) (a b:Option Addr) (c d:Nat) (S S':Nat→Prop) (w:World) (h:strE.InS w S (a,L.length,c) L) (k:strE.InS w S' (b,L.length,d) L) (hl:L.length≤1000000000) :
  Calls Tryz.prog 49 #[.slice a L.length c,.slice b L.length d] w fun e w'=>e=.returned (.bool true)∧Chg (fun _=>False) w w':=by
 have H1:=jh h
 have H2:=jh k
 clear h k
 go_enter Tryz.func49,Tryz.ntmps49
 go_wp2
 go_loopw [5] (fun q wr=>∃ k:Nat,k≤L.length∧q=.int .i64 k∧Chg (fun _=>False) w wr) (fun q _=>L.length - (intOf q).toNat)
 case atStart=>exact ⟨0,by omega,rfl,Chg.refl _ _⟩
 case round =>
  obtain ⟨k,hk,rfl,hc⟩:=hrel
  have HC:=jh hc
  clear hc
  by_cases hkl:k < L.length
  ·have b9:decide ((k:Int) < (L.length:Int))=true:=by simp;omega
   obtain ⟨s,d1,g,o,e1,e2,rfl,-,-,-,e4⟩:=(ListR.of (H1.out.chg HC.out (fun _ _ h=>h))).get1' (f:=encStr) rfl hkl rfl
   obtain ⟨s',d2,g',o',f1,f2,rfl,-,-,-,f4⟩:=(ListR.of (H2.out.chg HC.out (fun _ _ h=>h))).get1' (f:=encStr) rfl hkl rfl
   obtain rfl:s=d1:=e2
   obtain rfl:s'=d2:=f2
   rw [e1] at f1
   obtain rfl:=Option.some.inj f1
   have c0:=e4 _ rfl
   have c1:=f4 _ rfl
   have HCF:Hid (∀ X,Chg (fun _=>False) wr X→X.cell? ⟨g,o+k,none⟩=some (.string s)∧X.cell? ⟨g',o'+k,none⟩=some (.string s)):=jh (fun X hx=>⟨hx.cellS c0 (fun h=>h),hx.cellS c1 (fun h=>h)⟩)
   have bss:(s.toList == s.toList)=true:=by simp
   clear e1 e4 f1 f4 c0 c1
   go_upto_region 6 with (fail)
   refine wp_region_same (fun x=>Chg (fun _=>False) wr x) (by kernel_rfl) (by kernel_rfl) ?_ ?_
   ·exact (Chg.refl _ _).drew
   (refine rdC (fun K hK=>?_);apply Exists.intro;refine ⟨fun _ w' _ hC=>?_,?_⟩;(go_simp;try with_reducible rfl);(try go_simp);refine hK _ ?_;clear hK K)
   (refine rdC (fun K hK=>?_);apply Exists.intro;refine ⟨fun _ w' _ hC=>?_,?_⟩;(go_simp;try with_reducible rfl);(try go_simp);refine hK _ ?_;clear hK K)
   (refine rdC (fun K hK=>?_);apply Exists.intro;refine ⟨fun _ w' _ hC=>?_,?_⟩;(go_simp;try with_reducible rfl);(try go_simp);refine hK _ ?_;clear hK K)
   (refine rdC (fun K hK=>?_);apply Exists.intro;refine ⟨fun _ w' _ hC=>?_,?_⟩;((obtain ⟨q0,q1⟩:=HCF.out w' hC);go_simp;try with_reducible rfl);(try go_simp);refine hK _ ?_;clear hK K)
   (refine rdC (fun K hK=>?_);apply Exists.intro;refine ⟨fun _ w' _ hC=>?_,?_⟩;(go_simp;try with_reducible rfl);(try go_simp);refine hK _ ?_;clear hK K)
   (refine rdC (fun K hK=>?_);apply Exists.intro;refine ⟨fun _ w' _ hC=>?_,?_⟩;(go_simp;try with_reducible rfl);(try go_simp);refine hK _ ?_;clear hK K)
   (refine rdC (fun K hK=>?_);apply Exists.intro;refine ⟨fun _ w' _ hC=>?_,?_⟩;(go_simp;try with_reducible rfl);(try go_simp);refine hK _ ?_;clear hK K)
   (refine rdC (fun K hK=>?_);apply Exists.intro;refine ⟨fun _ w' _ hC=>?_,?_⟩;((obtain ⟨q0,q1⟩:=HCF.out w' hC);go_simp;try with_reducible rfl);(try go_simp);refine hK _ ?_;clear hK K)
   (refine rdC (fun K hK=>?_);apply Exists.intro;refine ⟨fun _ w' _ hC=>?_,?_⟩;(go_simp;try with_reducible rfl);(try go_simp);refine hK _ ?_;clear hK K)
   refine wpC_nil ?_
   intro w2 hc2
   have HC2:=jh (HC.out.trans hc2)
   clear hc2
   go_wp2
   go_roundw
   case rel=>exact ⟨k+1,by omega,by go_num,HC2.out⟩
   case measure=>simp [intOf];omega
  ·obtain rfl:k=L.length:=by omega
   have b9:decide ((L.length:Int) < (L.length:Int))=false:=by simp
   go_wp2
   go_ret
   exact ⟨rfl,HC.out⟩
end Go.Proofs.YtgnpmceimpjheaaGreat
namespace Go.Proofs.YtgnpmceimpjheaaGreat
open Go.RowKit
set_option maxRecDepth 100000 in
set_option maxHeartbeats 4000000 in
theorem sameAuto_yes (A:List LsD) (a b:Option Addr) (c d:Nat) (S S':Nat→Prop) (w:World) (h:ListR lsE lsR w S (a,A.length,c) A) (k:ListR dLsE dLsR w S' (b,A.length,d) A) (hl:A.length≤1000000000) (hb:∀ x∈A,lsB x) :
  Calls Tryz.prog 51 #[.agg #[.slice a A.length c],.agg #[.slice b A.length d]] w fun e w'=>e=.returned (.bool true)∧Chg (fun _=>False) w w':=by
 have H1:=jh h
 have H2:=jh k
 have HB:=jh hb
 obtain ⟨w0,hw0⟩:∃ W,W=(w.alloc (.cells #[.slice a A.length c] 63)).alloc (.cells #[.slice b A.length d] 79):=⟨_,rfl⟩
 have HC0:Hid (Chg (fun _=>False) w w0):=jh (by rw [hw0];exact ((Chg.refl _ w).alloc _).alloc _)
 have d0:w0.cell? ⟨w.heap.size,0,none⟩=some (.slice a A.length c):=by rw [hw0];exact allocOld _ (allocNew _ _ rfl)
 have d1:w0.cell? ⟨w.heap.size+1,0,none⟩=some (.slice b A.length d):=by rw [hw0];exact allocNew _ _ (by simp)
 have HD:Hid (∀ X,Chg (fun _=>False) w0 X→X.cell? ⟨w.heap.size,0,none⟩=some (.slice a A.length c)∧X.cell? ⟨w.heap.size+1,0,none⟩=some (.slice b A.length d)):=jh (fun X hx=>⟨hx.cellS d0 (fun h=>h),hx.cellS d1 (fun h=>h)⟩)
 clear h k hb
 go_enter Tryz.func51,Tryz.ntmps51
 go_upto_region 1 with (fail)
 rw [← hw0]
 clear hw0
 go_upto_region 4 with (fail)
 clear d0 d1
 go_loopw [5] (fun q wr=>∃ i:Nat,i≤A.length∧q=.int .i64 i∧Chg (fun _=>False) w0 wr) (fun q _=>A.length - (intOf q).toNat)
 case atStart=>exact ⟨0,by omega,rfl,Chg.refl _ _⟩
 case round =>
  obtain ⟨i,hi,rfl,hc⟩:=hrel
  obtain ⟨wo,rfl⟩:∃ wo:World,wo=wr:=⟨_,rfl⟩
  have HC:=jh hc
  clear hc
  obtain ⟨d0,d1⟩:=HD.out wo HC.out
  by_cases hil:i < A.length
  ·have b9:decide ((i:Int) < (A.length:Int))=true:=by simp;omega
   obtain ⟨⟨k1,⟨a1,n1,c1⟩,⟨e1,m1,g1⟩⟩,⟨kd,al,es⟩,gx,ox,hx,⟨r1,r2,r3,r4⟩,rfl,-,-,-,hcells⟩:=((ListR.good lsR.good).chg H1.out (HC0.out.trans HC.out) (fun _ _ h=>h)).get3 (f:=encLs) rfl hil rfl
   obtain ⟨⟨k2,⟨a2,n2,c2⟩,⟨e2,m2,g2⟩⟩,d',gy,oy,hy,⟨s1,s2,s3,s4⟩,rfl,-,-,-,hcells'⟩:=((ListR.good dLsR.good).chg H2.out (HC0.out.trans HC.out) (fun _ _ h=>h)).get3 (f:=encSt) rfl hil rfl
   rw [hx] at hy
   obtain rfl:=Option.some.inj hy
   simp only at r1 r2 r3 r4 s1 s2 s3 s4
   subst r1 s1
   obtain ⟨rfl,-⟩:=r3.len
   obtain ⟨rfl,-⟩:=r4.len
   obtain ⟨rfl,-⟩:=s3.len
   obtain ⟨rfl,-⟩:=s4.len
   obtain ⟨lb1,lb2⟩:=HB.out _ (List.mem_of_getElem? hx)
   simp only at lb1 lb2
   obtain ⟨x0,x1,x2⟩:=hcells _ _ _ rfl
   obtain ⟨y0,y1,y2⟩:=hcells' _ _ _ rfl
   simp only [slV] at x1 x2 y1 y2
   have hwk:IntKind.i64.wrap k2=k2:=by rw [IntKind.wrap_i64];obtain ⟨r21,r22⟩:=r2;omega
   obtain ⟨w7,hw7⟩:∃ W,W=(wo.alloc (.cells #[.int .u8 k2,.slice a1 al.length c1,.slice e1 es.length g1] 67)).alloc (.cells #[.int .i64 k2,.slice a2 al.length c2,.slice e2 es.length g2] 145):=⟨_,rfl⟩
   have HC7:Hid (Chg (fun _=>False) wo w7):=jh (by rw [hw7];exact ((Chg.refl _ _).alloc _).alloc _)
   have z0:w7.cell? ⟨wo.heap.size,0,none⟩=some (.int .u8 k2):=by rw [hw7];exact allocOld _ (allocAt _ rfl rfl)
   have z1:w7.cell? ⟨wo.heap.size,1,none⟩=some (.slice a1 al.length c1):=by rw [hw7];exact allocOld _ (allocAt _ rfl rfl)
   have z2:w7.cell? ⟨wo.heap.size,2,none⟩=some (.slice e1 es.length g1):=by rw [hw7];exact allocOld _ (allocAt _ rfl rfl)
   have z3:w7.cell? ⟨wo.heap.size+1,0,none⟩=some (.int .i64 k2):=by rw [hw7];exact allocAt _ (by simp) rfl
   have z4:w7.cell? ⟨wo.heap.size+1,1,none⟩=some (.slice a2 al.length c2):=by rw [hw7];exact allocAt _ (by simp) rfl
   have z5:w7.cell? ⟨wo.heap.size+1,2,none⟩=some (.slice e2 es.length g2):=by rw [hw7];exact allocAt _ (by simp) rfl
   have HZ:Hid (∀ X,Chg (fun _=>False) w7 X→(X.cell? ⟨wo.heap.size,2,none⟩=some (.slice e1 es.length g1)∧X.cell? ⟨wo.heap.size+1,2,none⟩=some (.slice e2 es.length g2))∧ledgeE.InS X S (e1,es.length,g1) es∧dLeE.InS X S' (e2,es.length,g2) es):=jh (fun X hx =>
    ⟨⟨hx.cellS z2 (fun h=>h),hx.cellS z5 (fun h=>h)⟩,r4.chg (HC7.out.trans hx) (fun _ _ h=>h),s4.chg (HC7.out.trans hx) (fun _ _ h=>h)⟩)
   have HSN:=jh (sameNums_yes al a1 a2 c1 c2 S S' w7 (r3.chg HC7.out (fun _ _ h=>h)) (s3.chg HC7.out (fun _ _ h=>h)) lb1)
   clear hx hy hcells hcells' r2 r3 r4 s2 s3 s4
   obtain ⟨w6,hw6⟩:∃ W,W=wo.alloc (.cells #[.int .u8 k2,.slice a1 al.length c1,.slice e1 es.length g1] 67):=⟨_,rfl⟩
   have HC6:Hid (Chg (fun _=>False) wo w6):=jh (by rw [hw6];exact (Chg.refl _ _).alloc _)
   have hs6:w6.heap.size=wo.heap.size+1:=by rw [hw6];simp
   have d1':=HC6.out.cellS d1 (fun h=>h)
   have y0':=HC6.out.cellS y0 (fun h=>h)
   have y1':=HC6.out.cellS y1 (fun h=>h)
   have y2':=HC6.out.cellS y2 (fun h=>h)
   rw [← hw6] at hw7
   go_upto_region 7 with (fail)
   rw [← hw6]
   clear hw6 x0 x1 x2 y0 y1 y2 d0 d1
   go_upto_region 8 with (fail)
   rw [← hw7]
   clear hw7 hs6 d1' y0' y1' y2'
   go_wp2_with fail
   refine HSN.out.mono ?_
   rintro e w8 ⟨rfl,hc8⟩
   have HC8:=jh hc8
   have z2':=hc8.cellS z2 (fun h=>h)
   have z5':=hc8.cellS z5 (fun h=>h)
   clear hc8 HSN z0 z1 z3 z4 z2 z5
   go_upto_region 11 with (fail)
   clear z2' z5'
   go_loopw [8] (fun q wr=>∃ j:Nat,j≤es.length∧q=.int .i64 j∧Chg (fun _=>False) w7 wr) (fun q _=>es.length - (intOf q).toNat)
   case atStart=>exact ⟨0,by omega,rfl,HC8.out⟩
   case round =>
    clear HC8
    obtain ⟨j,hj,rfl,hc⟩:=hrel
    have HCJ:=jh hc
    clear hc
    obtain ⟨⟨z2,z5⟩,hle,hld⟩:=HZ.out _ HCJ.out
    by_cases hjl:j < es.length
    ·have b10:decide ((j:Int) < (es.length:Int))=true:=by simp;omega
     obtain ⟨⟨t1,t2⟩,f1,gl,ol,hx,hr1,rfl,-,-,-,hcells⟩:=(ListR.of hle).get2 (f:=encPair) rfl hjl rfl
     obtain ⟨⟨t3,t4⟩,f2,gm,om,hy,hr2,rfl,-,-,-,hcells'⟩:=(ListR.of hld).get2 (f:=encPair) rfl hjl rfl
     obtain rfl:(t1,t2)=f1:=hr1
     obtain rfl:(t3,t4)=f2:=hr2
     rw [hx] at hy
     injection hy with hy
     injection hy with hy1 hy2
     subst hy1 hy2
     obtain ⟨x0,x1⟩:=hcells _ _ rfl
     obtain ⟨y0,y1⟩:=hcells' _ _ rfl
     have HCF:Hid (∀ X,Chg (fun _=>False) wr X→X.cell? ⟨wo.heap.size,2,none⟩=some (.slice (some ⟨gl,ol,none⟩) es.length g1)∧X.cell? ⟨wo.heap.size+1,2,none⟩=some (.slice (some ⟨gm,om,none⟩) es.length g2)∧X.cell? ⟨gl,ol+j * 2,none⟩=some (.int .i64 t1)∧X.cell? ⟨gl,ol+j * 2+1,none⟩=some (.int .i64 t2)∧X.cell? ⟨gm,om+j * 2,none⟩=some (.int .i64 t1)∧X.cell? ⟨gm,om+j * 2+1,none⟩=some (.int .i64 t2)):=jh (fun X hx =>
      ⟨hx.cellS z2 (fun h=>h),hx.cellS z5 (fun h=>h),hx.cellS x0 (fun h=>h),hx.cellS x1 (fun h=>h),hx.cellS y0 (fun h=>h),hx.cellS y1 (fun h=>h)⟩)
     clear hx hcells hcells' hle hld x0 x1 y0 y1
     go_upto_region 13 with (fail)
     refine wp_region_same (fun x=>Chg (fun _=>False) wr x) (by kernel_rfl) (by kernel_rfl) ?_ ?_
     ·exact (Chg.refl _ _).drew
     (refine rdC (fun K hK=>?_);apply Exists.intro;refine ⟨fun _ w' _ hC=>?_,?_⟩;((obtain ⟨q0,q1,q2,q3,q4,q5⟩:=HCF.out w' hC);go_simp;try with_reducible rfl);(try go_simp);refine hK _ ?_;clear hK K)
     (refine rdC (fun K hK=>?_);apply Exists.intro;refine ⟨fun _ w' _ hC=>?_,?_⟩;((obtain ⟨q0,q1,q2,q3,q4,q5⟩:=HCF.out w' hC);go_simp;try with_reducible rfl);(try go_simp);refine hK _ ?_;clear hK K)
     (refine rdC (fun K hK=>?_);apply Exists.intro;refine ⟨fun _ w' _ hC=>?_,?_⟩;((obtain ⟨q0,q1,q2,q3,q4,q5⟩:=HCF.out w' hC);go_simp;try with_reducible rfl);(try go_simp);refine hK _ ?_;clear hK K)
     (refine rdC (fun K hK=>?_);apply Exists.intro;refine ⟨fun _ w' _ hC=>?_,?_⟩;((obtain ⟨q0,q1,q2,q3,q4,q5⟩:=HCF.out w' hC);go_simp;try with_reducible rfl);(try go_simp);refine hK _ ?_;clear hK K)
     (refine rdC (fun K hK=>?_);apply Exists.intro;refine ⟨fun _ w' _ hC=>?_,?_⟩;((obtain ⟨q0,q1,q2,q3,q4,q5⟩:=HCF.out w' hC);go_simp;try with_reducible rfl);(try go_simp);refine hK _ ?_;clear hK K)
     (refine rdC (fun K hK=>?_);apply Exists.intro;refine ⟨fun _ w' _ hC=>?_,?_⟩;((obtain ⟨q0,q1,q2,q3,q4,q5⟩:=HCF.out w' hC);go_simp;try with_reducible rfl);(try go_simp);refine hK _ ?_;clear hK K)
     (refine rdC (fun K hK=>?_);apply Exists.intro;refine ⟨fun _ w' _ hC=>?_,?_⟩;((obtain ⟨q0,q1,q2,q3,q4,q5⟩:=HCF.out w' hC);go_simp;try with_reducible rfl);(try go_simp);refine hK _ ?_;clear hK K)
     (refine rdC (fun K hK=>?_);apply Exists.intro;refine ⟨fun _ w' _ hC=>?_,?_⟩;((obtain ⟨q0,q1,q2,q3,q4,q5⟩:=HCF.out w' hC);go_simp;try with_reducible rfl);(try go_simp);refine hK _ ?_;clear hK K)
     (refine rdC (fun K hK=>?_);apply Exists.intro;refine ⟨fun _ w' _ hC=>?_,?_⟩;((obtain ⟨q0,q1,q2,q3,q4,q5⟩:=HCF.out w' hC);go_simp;try with_reducible rfl);(try go_simp);refine hK _ ?_;clear hK K)
     (refine rdC (fun K hK=>?_);apply Exists.intro;refine ⟨fun _ w' _ hC=>?_,?_⟩;((obtain ⟨q0,q1,q2,q3,q4,q5⟩:=HCF.out w' hC);go_simp;try with_reducible rfl);(try go_simp);refine hK _ ?_;clear hK K)
     (refine rdC (fun K hK=>?_);apply Exists.intro;refine ⟨fun _ w' _ hC=>?_,?_⟩;((obtain ⟨q0,q1,q2,q3,q4,q5⟩:=HCF.out w' hC);go_simp;try with_reducible rfl);(try go_simp);refine hK _ ?_;clear hK K)
     (refine rdC (fun K hK=>?_);apply Exists.intro;refine ⟨fun _ w' _ hC=>?_,?_⟩;((obtain ⟨q0,q1,q2,q3,q4,q5⟩:=HCF.out w' hC);go_simp;try with_reducible rfl);(try go_simp);refine hK _ ?_;clear hK K)
     (refine rdC (fun K hK=>?_);apply Exists.intro;refine ⟨fun _ w' _ hC=>?_,?_⟩;((obtain ⟨q0,q1,q2,q3,q4,q5⟩:=HCF.out w' hC);go_simp;try with_reducible rfl);(try go_simp);refine hK _ ?_;clear hK K)
     (refine rdC (fun K hK=>?_);apply Exists.intro;refine ⟨fun _ w' _ hC=>?_,?_⟩;((obtain ⟨q0,q1,q2,q3,q4,q5⟩:=HCF.out w' hC);go_simp;try with_reducible rfl);(try go_simp);refine hK _ ?_;clear hK K)
     (refine rdC (fun K hK=>?_);apply Exists.intro;refine ⟨fun _ w' _ hC=>?_,?_⟩;((obtain ⟨q0,q1,q2,q3,q4,q5⟩:=HCF.out w' hC);go_simp;try with_reducible rfl);(try go_simp);refine hK _ ?_;clear hK K)
     (refine rdC (fun K hK=>?_);apply Exists.intro;refine ⟨fun _ w' _ hC=>?_,?_⟩;((obtain ⟨q0,q1,q2,q3,q4,q5⟩:=HCF.out w' hC);go_simp;try with_reducible rfl);(try go_simp);refine hK _ ?_;clear hK K)
     (refine rdC (fun K hK=>?_);apply Exists.intro;refine ⟨fun _ w' _ hC=>?_,?_⟩;((obtain ⟨q0,q1,q2,q3,q4,q5⟩:=HCF.out w' hC);go_simp;try with_reducible rfl);(try go_simp);refine hK _ ?_;clear hK K)
     (refine rdC (fun K hK=>?_);apply Exists.intro;refine ⟨fun _ w' _ hC=>?_,?_⟩;((obtain ⟨q0,q1,q2,q3,q4,q5⟩:=HCF.out w' hC);go_simp;try with_reducible rfl);(try go_simp);refine hK _ ?_;clear hK K)
     (refine rdC (fun K hK=>?_);apply Exists.intro;refine ⟨fun _ w' _ hC=>?_,?_⟩;((obtain ⟨q0,q1,q2,q3,q4,q5⟩:=HCF.out w' hC);go_simp;try with_reducible rfl);(try go_simp);refine hK _ ?_;clear hK K)
     (refine rdC (fun K hK=>?_);apply Exists.intro;refine ⟨fun _ w' _ hC=>?_,?_⟩;((obtain ⟨q0,q1,q2,q3,q4,q5⟩:=HCF.out w' hC);go_simp;try with_reducible rfl);(try go_simp);refine hK _ ?_;clear hK K)
     (refine rdC (fun K hK=>?_);apply Exists.intro;refine ⟨fun _ w' _ hC=>?_,?_⟩;((obtain ⟨q0,q1,q2,q3,q4,q5⟩:=HCF.out w' hC);go_simp;try with_reducible rfl);(try go_simp);refine hK _ ?_;clear hK K)
     (refine rdC (fun K hK=>?_);apply Exists.intro;refine ⟨fun _ w' _ hC=>?_,?_⟩;((obtain ⟨q0,q1,q2,q3,q4,q5⟩:=HCF.out w' hC);go_simp;try with_reducible rfl);(try go_simp);refine hK _ ?_;clear hK K)
     (refine rdC (fun K hK=>?_);apply Exists.intro;refine ⟨fun _ w' _ hC=>?_,?_⟩;((obtain ⟨q0,q1,q2,q3,q4,q5⟩:=HCF.out w' hC);go_simp;try with_reducible rfl);(try go_simp);refine hK _ ?_;clear hK K)
     (refine rdC (fun K hK=>?_);apply Exists.intro;refine ⟨fun _ w' _ hC=>?_,?_⟩;((obtain ⟨q0,q1,q2,q3,q4,q5⟩:=HCF.out w' hC);go_simp;try with_reducible rfl);(try go_simp);refine hK _ ?_;clear hK K)
     (refine rdC (fun K hK=>?_);apply Exists.intro;refine ⟨fun _ w' _ hC=>?_,?_⟩;((obtain ⟨q0,q1,q2,q3,q4,q5⟩:=HCF.out w' hC);go_simp;try with_reducible rfl);(try go_simp);refine hK _ ?_;clear hK K)
     (refine rdC (fun K hK=>?_);apply Exists.intro;refine ⟨fun _ w' _ hC=>?_,?_⟩;((obtain ⟨q0,q1,q2,q3,q4,q5⟩:=HCF.out w' hC);go_simp;try with_reducible rfl);(try go_simp);refine hK _ ?_;clear hK K)
     (refine rdC (fun K hK=>?_);apply Exists.intro;refine ⟨fun _ w' _ hC=>?_,?_⟩;((obtain ⟨q0,q1,q2,q3,q4,q5⟩:=HCF.out w' hC);go_simp;try with_reducible rfl);(try go_simp);refine hK _ ?_;clear hK K)
     (refine rdC (fun K hK=>?_);apply Exists.intro;refine ⟨fun _ w' _ hC=>?_,?_⟩;((obtain ⟨q0,q1,q2,q3,q4,q5⟩:=HCF.out w' hC);go_simp;try with_reducible rfl);(try go_simp);refine hK _ ?_;clear hK K)
     refine wpC_nil ?_
     intro w2 hc2
     have HC2:=jh (HCJ.out.trans hc2)
     clear hc2 z2 z5
     go_wp2
     go_roundw
     case rel=>exact ⟨j+1,by omega,by go_num,HC2.out⟩
     case measure=>simp [intOf];omega
    ·obtain rfl:j=es.length:=by omega
     have b10:decide ((es.length:Int) < (es.length:Int))=false:=by simp
     have HC2:=jh (HC.out.trans (HC7.out.trans HCJ.out))
     go_wp2
     go_roundw
     case rel=>exact ⟨i+1,by omega,by go_num,HC2.out⟩
     case measure=>simp [intOf];omega
  ·obtain rfl:i=A.length:=by omega
   have b9:decide ((A.length:Int) < (A.length:Int))=false:=by simp
   go_wp2
   go_ret
   exact ⟨rfl,HC0.out.trans HC.out⟩
end Go.Proofs.YtgnpmceimpjheaaGreat
