/- A part of the proof: Held TakeB TakeW TakeRow TakSt. -/
import Derived.Test.YtgnpmceimpjheaaGreatGT1
import Derived.Test.YtgnpmceimpjheaaGreatGT4
import Derived.Test.YtgnpmceimpjheaaGreatGT3
import Derived.OrdersHeld
set_option maxRecDepth 100000
set_option maxHeartbeats 16000000
namespace Go.Proofs.YtgnpmceimpjheaaGreat
section
variable {P:Program} {ops:Array Oper} {Q:Exit→Act→World→Prop} {md:Region.Mode} {S:World→Prop}
theorem held_read {i:Nat} {oi:Oper} {fuel:Nat} {listed:Array Bool} {a:Act} {w:World} (hi:ops[i]?=some oi)
  (hs:Region.noSelect ops=true) (hf:Region.free md ops listed i=true) (hr:(Region.ready md ops listed).contains i=true)
  (hQ:∀ v c a w,Q (.panic c) (a.put oi.dst v) w→Q (.panic c) a w) (hw:Region.wanted oi (yielded ops a.tmps)=true) (hS:S w)
  (h:∀ K:Act→Prop,(∀ a,wpAnyH P md ops Q S fuel (listed.setIfInBounds i true) a w→K a)→∃ v,(∀ w',S w'→(execOp a.eval oi).run P w'=.ok (.value v) w')∧K (a.put oi.dst v)) :
  wpAnyH P md ops Q S (fuel+1) listed a w:=by
 obtain⟨v,hrun,hK⟩:=h _ (fun _ h=>h)
 exact wpAnyH_take hi hs hf hr (hQ v) (.inl ⟨hw,hrun⟩) hS hK
theorem wpOp_value {i:Nat} {oi:Oper} {a:Act} {w:World} {v:Value} {K:Act→World→Prop} (hi:ops[i]?=some oi) (hw:Region.wanted oi (yielded ops a.tmps)=true)
  (hrun:(execOp a.eval oi).run P w=.ok (.value v) w) (h:K (a.put oi.dst v) w):wpOp P ops Q i K a w:=by
 unfold Go.wpOp
 simp only [hi,hw,if_true,Oper.wp,hrun,Oper.upon]
 exact .inl h
theorem held_one {i:Nat} {oi:Oper} {fuel:Nat} {listed:Array Bool} {a:Act} {w:World} (hr:Region.ready md ops listed=[i]) (hi:ops[i]?=some oi)
  (hw:Region.wanted oi (yielded ops a.tmps)=true) (hS:S w)
  (h:∀ K:Act→Prop,(∀ a,wpAnyH P md ops Q S fuel (listed.setIfInBounds i true) a w→K a)→∃ v,(execOp a.eval oi).run P w=.ok (.value v) w∧K (a.put oi.dst v)) :
  wpAnyH P md ops Q S (fuel+1) listed a w:=by
 obtain⟨v,hrun,hK⟩:=h _ (fun _ h=>h)
 exact wpAnyH_all hr (by simp) (fun j hj=>by
  obtain rfl:j=i:=by simpa using hj
  exact wpOp_value hi hw hrun ⟨hS,hK⟩)
theorem held_call {i:Nat} {oi:Oper} {fuel:Nat} {listed:Array Bool} {a:Act} {w:World} (hr:Region.ready md ops listed=[i]) (hi:ops[i]?=some oi)
  (hw:Region.wanted oi (yielded ops a.tmps)=true) (f:FuncId) (args:Array Value) (R:Value→World→Prop) (hrun:(execOp a.eval oi).run P w=.ok (.enter f args) w)
  (hcall:Calls P f args w (fun e w''=>∃ v,e=.returned v∧S w''∧R v w''))
  (h:∀ v w'',S w''→R v w''→∀ K:Act→Prop,(∀ a,wpAnyH P md ops Q S fuel (listed.setIfInBounds i true) a w''→K a)→K (a.put oi.dst v)) :
  wpAnyH P md ops Q S (fuel+1) listed a w :=
 wpAnyH_all hr (by simp) (fun j hj=>by
  obtain rfl:j=i:=by simpa using hj
  unfold Go.wpOp
  simp only [hi,hw,if_true,Oper.wp,hrun,Oper.upon]
  refine .inl (hcall.mono fun e w'' ⟨v,he,hS,hR⟩=>?_)
  subst he
  exact⟨hS,h v w'' hS hR _ (fun _ h=>h)⟩)
end
end Go.Proofs.YtgnpmceimpjheaaGreat
namespace Go.Proofs.YtgnpmceimpjheaaGreat
open Go.RowKit
end Go.Proofs.YtgnpmceimpjheaaGreat
namespace Go.Proofs.YtgnpmceimpjheaaGreat
open Go.RowKit
structure RdAt (w:World) (b:Nat) (v:Value) (s:Rd):Prop where
 c0:w.cell? ⟨b,0,none⟩=some v
 c1:w.cell? ⟨b,1,none⟩=some (.int .i64 s.1)
 c2:w.cell? ⟨b,2,none⟩=some (.bool s.2)
 z:∀ j,w.frozen? ⟨b,j,none⟩=false
theorem RdAt.lt {w:World} {b:Nat} {v:Value} {s:Rd} (h:RdAt w b v s):b<w.heap.size:=World.block_lt_of_cell? _ _ h.c0
theorem RdAt.chg {S:Nat→Prop} {w w':World} {b:Nat} {v:Value} {s:Rd} (h:RdAt w b v s) (hc:Chg S w w') (hs:¬ S b):RdAt w' b v s :=
 ⟨hc.cellS h.c0 hs,hc.cellS h.c1 hs,hc.cellS h.c2 hs,fun j=>(hc.frozen (p:=⟨b,j,none⟩) h.lt hs).trans (h.z j)⟩
theorem RdAt.bad {w:World} {b:Nat} {v:Value} {s:Rd} (h:RdAt w b v s):RdAt (w.setCell ⟨b,2,none⟩ (.bool true)) b v (s.1,true) :=
 ⟨Chg.cellNe h.c0 (by intro e;injection e with _ e;cases e),Chg.cellNe h.c1 (by intro e;injection e with _ e;cases e),World.cell?_setCell_same _ _ _ h.c2,fun j=>(World.frozen?_setCell _ _ _ _).trans (h.z j)⟩
theorem RdAt.step {w:World} {b:Nat} {v:Value} {s:Rd} (h:RdAt w b v s) (n:Nat):RdAt (w.setCell ⟨b,1,none⟩ (.int .i64 n)) b v (n,s.2) :=
 ⟨Chg.cellNe h.c0 (by intro e;injection e with _ e;cases e),World.cell?_setCell_same _ _ _ h.c1,Chg.cellNe h.c2 (by intro e;injection e with _ e;cases e),fun j=>(World.frozen?_setCell _ _ _ _).trans (h.z j)⟩
theorem numP_nil {Z:List Int} {m:Nat} {s:Rd} (h:Z.length≤s.1):numP Z m s=(0,s.1,true):=by
 unfold numP
 rw [List.drop_eq_nil_of_le h]
 rfl
theorem BytesAt.drop {w:World} {g o k:Nat} {Z:List Int} (h:BytesAt w g o Z):BytesAt w g (o+k) (Z.drop k) :=
 ⟨fun j a hj=>by
  rw [List.getElem?_drop] at hj
  have:=h.c (k+j) a hj
  rwa [← Nat.add_assoc] at this,fun hne=>h.lt (by intro e;rw [e] at hne;simp at hne)⟩
theorem num_left (Z:List Int) (g o c b m:Nat) (s:Rd) (w:World) (hz:BytesAt w g o Z) (hc:s.1<c) (hcz:Z.length≤c) (hl:Z.length≤100000000) (hs:s.1≤Z.length) (hm:m<4294967296) (hr:RdAt w b (.slice (some ⟨g,o,none⟩) Z.length c) s) :
  Calls Tryz.prog 186 #[.pointer (some ⟨b,0,none⟩),.int .i64 m] w fun e w'=>e=.returned (.int .i64 (numP Z m s).1)∧RdAt w' b (.slice (some ⟨g,o,none⟩) Z.length c) (numP Z m s).2∧Chg (fun j=>j=b) w w':=by
 obtain⟨at',wr⟩:=s
 have HZ:=jh hz
 have HR:=jh hr
 simp only at hc hs
 have hwm:IntKind.u32.wrap (m:Int)=m:=by simp [IntKind.wrap,IntKind.bits,IntKind.signed];omega
 cases hT:takeL 0 0 (Z.drop at') with
 | none =>
  have HNP:Hid (numP Z m (at',wr)=(0,at',true)):=jh (by unfold numP;simp only [hT])
  have HTK:Hid (∀ w',Chg (fun _=>False) w w'→Calls Tryz.prog 141 #[.slice (some ⟨g,o+at',none⟩) (Z.length-at') (c-at')] w' fun e w''=>e=.returned (.tuple #[.int .u32 0,.int .i64 0,.int .i64 4])∧Chg (fun _=>False) w' w''):=jh (fun w' hc'=>by
   have:=take_any (Z.drop at') (some ⟨g,o+at',none⟩) g (o+at') (c-at') w' (HZ.out.drop.chg hc' (fun _ h=>h)) (fun _=>rfl) (by rw [List.length_drop];omega) (by rw [List.length_drop];omega)
   rw [hT] at this
   rwa [List.length_drop] at this)
  have hi8:(at':Int)≤(Z.length:Int):=by omega
  have hi9:¬ c=at':=by omega
  have HSZ:=jh hs
  clear hz hr
  clear hT
  go_enter Tryz.func186,Tryz.ntmps186
  go_upto_region 1 with (fail)
  refine wp_region_same (fun w'=>Chg (fun _=>False) w w') (by kernel_rfl) (by kernel_rfl) ?_ ?_
  ·exact (Chg.refl _ _).drew
  (refine rdC fun K hK=>?_;apply ei;intro _ w' _ hC;(go_simp;try with_reducible rfl);(try go_simp);refine hK _ ?_;clear hK K)
  (refine rdC fun K hK=>?_;apply ei;intro _ w' _ hC;(go_simp;try with_reducible rfl);(try go_simp);refine hK _ ?_;clear hK K)
  (refine rdC fun K hK=>?_;apply ei;intro _ w' _ hC;(go_simp;try with_reducible rfl);(try go_simp);refine hK _ ?_;clear hK K)
  (refine rdC fun K hK=>?_;apply ei;intro _ w' _ hC;((have q:=hC.cellS HR.out.c0 (fun h=>h));go_simp;try with_reducible rfl);(try go_simp);refine hK _ ?_;clear hK K)
  (refine rdC fun K hK=>?_;apply ei;intro _ w' _ hC;(go_simp;try with_reducible rfl);(try go_simp);refine hK _ ?_;clear hK K)
  (refine rdC fun K hK=>?_;apply ei;intro _ w' _ hC;(go_simp;try with_reducible rfl);(try go_simp);refine hK _ ?_;clear hK K)
  (refine rdC fun K hK=>?_;apply ei;intro _ w' _ hC;(go_simp;try with_reducible rfl);(try go_simp);refine hK _ ?_;clear hK K)
  (refine rdC fun K hK=>?_;apply ei;intro _ w' _ hC;((have q:=hC.cellS HR.out.c1 (fun h=>h));go_simp;try with_reducible rfl);(try go_simp);refine hK _ ?_;clear hK K)
  (refine rdC fun K hK=>?_;apply ei;intro _ w' _ hC;(go_simp;try with_reducible rfl);(try go_simp);refine hK _ ?_;clear hK K)
  refine wpC_call rfl (.tuple #[.int .u32 0,.int .i64 0,.int .i64 4] )  141  ( #[.slice (some ⟨g,o+at',none⟩) (Z.length-at') (c-at')]) (fun w'=>by go_simp) (fun _ w' _ hC=>?_) (fun K hK=>?_)
  ·refine (HTK.out w' hC).mono ?_
   rintro e w1 ⟨rfl,h2⟩
   exact⟨rfl,hC.trans h2⟩
  ((try go_simp);refine hK _ ?_;clear hK K)
  iterate 7 (refine rdC fun K hK=>?_;apply ei;intro _ w' _ hC;(go_simp;try with_reducible rfl);(try go_simp);refine hK _ ?_;clear hK K)
  refine wpC_nil ?_
  intro w1 hC1
  have HC1:=jh hC1
  have HR1:=jh (HR.out.chg hC1 (fun h=>h))
  have c0:=HR1.out.c0
  have c1:=HR1.out.c1
  have c2:=HR1.out.c2
  have z1:=HR1.out.z 1
  have z2:=HR1.out.z 2
  clear hC1
  go_wp2
  go_ret
  rw [HNP.out]
  exact⟨rfl,HR1.out.bad,HC1.out.any.trans (setCellChg _ _ _ _)⟩
 | some p =>
  obtain⟨n,k⟩:=p
  have h9:=takeL_some hT
  rw [List.length_drop] at h9
  obtain⟨h91,h92,h93⟩:=h9
  have HTK:Hid (∀ w',Chg (fun _=>False) w w'→Calls Tryz.prog 141 #[.slice (some ⟨g,o+at',none⟩) (Z.length-at') (c-at')] w' fun e w''=>e=.returned (.tuple #[.int .u32 n,.int .i64 k,.int .i64 0])∧Chg (fun _=>False) w' w''):=jh (fun w' hc'=>by
   have:=take_any (Z.drop at') (some ⟨g,o+at',none⟩) g (o+at') (c-at') w' (HZ.out.drop.chg hc' (fun _ h=>h)) (fun _=>rfl) (by rw [List.length_drop];omega) (by rw [List.length_drop];omega)
   rw [hT] at this
   rwa [List.length_drop] at this)
  by_cases hnm:n≤m
  ·have HNP:Hid (numP Z m (at',wr)=(n,at'+k,wr)):=jh (by unfold numP;simp only [hT];rw [if_pos hnm])
   have b28:decide ((m:Int)<(n:Int))=false:=by simp;omega
   have hi8:(at':Int)≤(Z.length:Int):=by omega
   have hi9:¬ c=at':=by omega
   have HSZ:=jh hs
   clear hz hr
   clear hT
   go_enter Tryz.func186,Tryz.ntmps186
   go_upto_region 1 with (fail)
   refine wp_region_same (fun w'=>Chg (fun _=>False) w w') (by kernel_rfl) (by kernel_rfl) ?_ ?_
   ·exact (Chg.refl _ _).drew
   (refine rdC fun K hK=>?_;apply ei;intro _ w' _ hC;(go_simp;try with_reducible rfl);(try go_simp);refine hK _ ?_;clear hK K)
   (refine rdC fun K hK=>?_;apply ei;intro _ w' _ hC;(go_simp;try with_reducible rfl);(try go_simp);refine hK _ ?_;clear hK K)
   (refine rdC fun K hK=>?_;apply ei;intro _ w' _ hC;(go_simp;try with_reducible rfl);(try go_simp);refine hK _ ?_;clear hK K)
   (refine rdC fun K hK=>?_;apply ei;intro _ w' _ hC;((have q:=hC.cellS HR.out.c0 (fun h=>h));go_simp;try with_reducible rfl);(try go_simp);refine hK _ ?_;clear hK K)
   (refine rdC fun K hK=>?_;apply ei;intro _ w' _ hC;(go_simp;try with_reducible rfl);(try go_simp);refine hK _ ?_;clear hK K)
   (refine rdC fun K hK=>?_;apply ei;intro _ w' _ hC;(go_simp;try with_reducible rfl);(try go_simp);refine hK _ ?_;clear hK K)
   (refine rdC fun K hK=>?_;apply ei;intro _ w' _ hC;(go_simp;try with_reducible rfl);(try go_simp);refine hK _ ?_;clear hK K)
   (refine rdC fun K hK=>?_;apply ei;intro _ w' _ hC;((have q:=hC.cellS HR.out.c1 (fun h=>h));go_simp;try with_reducible rfl);(try go_simp);refine hK _ ?_;clear hK K)
   (refine rdC fun K hK=>?_;apply ei;intro _ w' _ hC;(go_simp;try with_reducible rfl);(try go_simp);refine hK _ ?_;clear hK K)
   refine wpC_call rfl (.tuple #[.int .u32 n,.int .i64 k,.int .i64 0] )  141  ( #[.slice (some ⟨g,o+at',none⟩) (Z.length-at') (c-at')]) (fun w'=>by go_simp) (fun _ w' _ hC=>?_) (fun K hK=>?_)
   ·refine (HTK.out w' hC).mono ?_
    rintro e w1 ⟨rfl,h2⟩
    exact⟨rfl,hC.trans h2⟩
   ((try go_simp);refine hK _ ?_;clear hK K)
   iterate 7 (refine rdC fun K hK=>?_;apply ei;intro _ w' _ hC;(go_simp;try with_reducible rfl);(try go_simp);refine hK _ ?_;clear hK K)
   refine wpC_nil ?_
   intro w1 hC1
   have HC1:=jh hC1
   have HR1:=jh (HR.out.chg hC1 (fun h=>h))
   have c0:=HR1.out.c0
   have c1:=HR1.out.c1
   have c2:=HR1.out.c2
   have z1:=HR1.out.z 1
   have z2:=HR1.out.z 2
   clear hC1
   go_wp2
   go_ret
   rw [HNP.out]
   exact⟨by go_num,by have:=HR1.out.step (at'+k);simpa using this,HC1.out.any.trans (by have:=setCellChg w1 b 1 (.int .i64 ((at'+k:Nat):Int));simpa using this)⟩
  ·have HNP:Hid (numP Z m (at',wr)=(0,at',true)):=jh (by unfold numP;simp only [hT];rw [if_neg hnm])
   have b28:decide ((m:Int)<(n:Int))=true:=by simp;omega
   have hi8:(at':Int)≤(Z.length:Int):=by omega
   have hi9:¬ c=at':=by omega
   have HSZ:=jh hs
   clear hz hr
   clear hT
   go_enter Tryz.func186,Tryz.ntmps186
   go_upto_region 1 with (fail)
   refine wp_region_same (fun w'=>Chg (fun _=>False) w w') (by kernel_rfl) (by kernel_rfl) ?_ ?_
   ·exact (Chg.refl _ _).drew
   (refine rdC fun K hK=>?_;apply ei;intro _ w' _ hC;(go_simp;try with_reducible rfl);(try go_simp);refine hK _ ?_;clear hK K)
   (refine rdC fun K hK=>?_;apply ei;intro _ w' _ hC;(go_simp;try with_reducible rfl);(try go_simp);refine hK _ ?_;clear hK K)
   (refine rdC fun K hK=>?_;apply ei;intro _ w' _ hC;(go_simp;try with_reducible rfl);(try go_simp);refine hK _ ?_;clear hK K)
   (refine rdC fun K hK=>?_;apply ei;intro _ w' _ hC;((have q:=hC.cellS HR.out.c0 (fun h=>h));go_simp;try with_reducible rfl);(try go_simp);refine hK _ ?_;clear hK K)
   (refine rdC fun K hK=>?_;apply ei;intro _ w' _ hC;(go_simp;try with_reducible rfl);(try go_simp);refine hK _ ?_;clear hK K)
   (refine rdC fun K hK=>?_;apply ei;intro _ w' _ hC;(go_simp;try with_reducible rfl);(try go_simp);refine hK _ ?_;clear hK K)
   (refine rdC fun K hK=>?_;apply ei;intro _ w' _ hC;(go_simp;try with_reducible rfl);(try go_simp);refine hK _ ?_;clear hK K)
   (refine rdC fun K hK=>?_;apply ei;intro _ w' _ hC;((have q:=hC.cellS HR.out.c1 (fun h=>h));go_simp;try with_reducible rfl);(try go_simp);refine hK _ ?_;clear hK K)
   (refine rdC fun K hK=>?_;apply ei;intro _ w' _ hC;(go_simp;try with_reducible rfl);(try go_simp);refine hK _ ?_;clear hK K)
   refine wpC_call rfl (.tuple #[.int .u32 n,.int .i64 k,.int .i64 0] )  141  ( #[.slice (some ⟨g,o+at',none⟩) (Z.length-at') (c-at')]) (fun w'=>by go_simp) (fun _ w' _ hC=>?_) (fun K hK=>?_)
   ·refine (HTK.out w' hC).mono ?_
    rintro e w1 ⟨rfl,h2⟩
    exact⟨rfl,hC.trans h2⟩
   ((try go_simp);refine hK _ ?_;clear hK K)
   iterate 7 (refine rdC fun K hK=>?_;apply ei;intro _ w' _ hC;(go_simp;try with_reducible rfl);(try go_simp);refine hK _ ?_;clear hK K)
   refine wpC_nil ?_
   intro w1 hC1
   have HC1:=jh hC1
   have HR1:=jh (HR.out.chg hC1 (fun h=>h))
   have c0:=HR1.out.c0
   have c1:=HR1.out.c1
   have c2:=HR1.out.c2
   have z1:=HR1.out.z 1
   have z2:=HR1.out.z 2
   clear hC1
   go_wp2
   go_ret
   rw [HNP.out]
   exact⟨rfl,HR1.out.bad,HC1.out.any.trans (setCellChg _ _ _ _)⟩
theorem num_full (Z:List Int) (g o c b m:Nat) (sp) (s:Rd) (w:World) (hc:c=s.1∧s.1=Z.length) (_hl:Z.length≤100000000) (hs:s.1≤Z.length) (hm:m<4294967296) (hr:RdAt w b (.slice (some ⟨g,o,sp⟩) Z.length c) s) :
  Calls Tryz.prog 186 #[.pointer (some ⟨b,0,none⟩),.int .i64 m] w fun e w'=>e=.returned (.int .i64 (numP Z m s).1)∧RdAt w' b (.slice (some ⟨g,o,sp⟩) Z.length c) (numP Z m s).2∧Chg (fun j=>j=b) w w':=by
 obtain⟨at',wr⟩:=s
 simp only at hc hs
 obtain⟨rfl,rfl⟩:=hc
 have HR:=jh hr
 have hwm:IntKind.u32.wrap (m:Int)=m:=by simp [IntKind.wrap,IntKind.bits,IntKind.signed];omega
 have HTK:Hid (∀ w',Chg (fun _=>False) w w'→Calls Tryz.prog 141 #[.slice (some ⟨g,o,sp⟩) 0 0] w' fun e w''=>e=.returned (.tuple #[.int .u32 0,.int .i64 0,.int .i64 4])∧Chg (fun _=>False) w' w''):=jh (fun w' hc'=>by
  have:=take_any [] (some ⟨g,o,sp⟩) 0 0 0 w' ⟨fun k a hk=>by simp at hk,fun h=>absurd rfl h⟩ (fun h=>absurd h (by simp)) (Nat.zero_le _) (Nat.zero_le _)
  exact this)
 have HNP:Hid (numP Z m (Z.length,wr)=(0,Z.length,true)):=jh (numP_nil (Nat.le_refl _))
 clear hr
 go_enter Tryz.func186,Tryz.ntmps186
 go_upto_region 1 with (fail)
 refine wp_region_same (fun w'=>Chg (fun _=>False) w w') (by kernel_rfl) (by kernel_rfl) ?_ ?_
 ·exact (Chg.refl _ _).drew
 (refine rdC fun K hK=>?_;apply ei;intro _ w' _ hC;(go_simp;try with_reducible rfl);(try go_simp);refine hK _ ?_;clear hK K)
 (refine rdC fun K hK=>?_;apply ei;intro _ w' _ hC;(go_simp;try with_reducible rfl);(try go_simp);refine hK _ ?_;clear hK K)
 (refine rdC fun K hK=>?_;apply ei;intro _ w' _ hC;(go_simp;try with_reducible rfl);(try go_simp);refine hK _ ?_;clear hK K)
 (refine rdC fun K hK=>?_;apply ei;intro _ w' _ hC;((have q:=hC.cellS HR.out.c0 (fun h=>h));go_simp;try with_reducible rfl);(try go_simp);refine hK _ ?_;clear hK K)
 (refine rdC fun K hK=>?_;apply ei;intro _ w' _ hC;(go_simp;try with_reducible rfl);(try go_simp);refine hK _ ?_;clear hK K)
 (refine rdC fun K hK=>?_;apply ei;intro _ w' _ hC;(go_simp;try with_reducible rfl);(try go_simp);refine hK _ ?_;clear hK K)
 (refine rdC fun K hK=>?_;apply ei;intro _ w' _ hC;(go_simp;try with_reducible rfl);(try go_simp);refine hK _ ?_;clear hK K)
 (refine rdC fun K hK=>?_;apply ei;intro _ w' _ hC;((have q:=hC.cellS HR.out.c1 (fun h=>h));go_simp;try with_reducible rfl);(try go_simp);refine hK _ ?_;clear hK K)
 (refine rdC fun K hK=>?_;apply ei;intro _ w' _ hC;(go_simp;try with_reducible rfl);(try go_simp);refine hK _ ?_;clear hK K)
 refine wpC_call rfl (.tuple #[.int .u32 0,.int .i64 0,.int .i64 4] )  141  ( #[.slice (some ⟨g,o,sp⟩) 0 0]) (fun w'=>by go_simp) (fun _ w' _ hC=>?_) (fun K hK=>?_)
 ·refine (HTK.out w' hC).mono ?_
  rintro e w1 ⟨rfl,h2⟩
  exact⟨rfl,hC.trans h2⟩
 ((try go_simp);refine hK _ ?_;clear hK K)
 iterate 7 (refine rdC fun K hK=>?_;apply ei;intro _ w' _ hC;(go_simp;try with_reducible rfl);(try go_simp);refine hK _ ?_;clear hK K)
 refine wpC_nil ?_
 intro w1 hC1
 have HC1:=jh hC1
 have HR1:=jh (HR.out.chg hC1 (fun h=>h))
 have c0:=HR1.out.c0
 have c1:=HR1.out.c1
 have c2:=HR1.out.c2
 have z1:=HR1.out.z 1
 have z2:=HR1.out.z 2
 clear hC1
 go_wp2
 go_ret
 rw [HNP.out]
 exact⟨rfl,HR1.out.bad,HC1.out.any.trans (setCellChg _ _ _ _)⟩
theorem num_room (Z:List Int) (g o c b m:Nat) (sp) (s:Rd) (w:World) (hc:Z=[]∧s.1=0∧0<c) (_hl:Z.length≤100000000) (hs:s.1≤Z.length) (hm:m<4294967296) (hr:RdAt w b (.slice (some ⟨g,o,sp⟩) Z.length c) s) :
  Calls Tryz.prog 186 #[.pointer (some ⟨b,0,none⟩),.int .i64 m] w fun e w'=>e=.returned (.int .i64 (numP Z m s).1)∧RdAt w' b (.slice (some ⟨g,o,sp⟩) Z.length c) (numP Z m s).2∧Chg (fun j=>j=b) w w':=by
 obtain⟨at',wr⟩:=s
 simp only at hc hs
 obtain⟨rfl,rfl,hc⟩:=hc
 have hi9:¬ c=0:=by omega
 have HR:=jh hr
 have hwm:IntKind.u32.wrap (m:Int)=m:=by simp [IntKind.wrap,IntKind.bits,IntKind.signed];omega
 have HTK:Hid (∀ w',Chg (fun _=>False) w w'→Calls Tryz.prog 141 #[.slice (some ⟨g,o,sp⟩) 0 c] w' fun e w''=>e=.returned (.tuple #[.int .u32 0,.int .i64 0,.int .i64 4])∧Chg (fun _=>False) w' w''):=jh (fun w' hc'=>by
  have:=take_any [] (some ⟨g,o,sp⟩) 0 0 c w' ⟨fun k a hk=>by simp at hk,fun h=>absurd rfl h⟩ (fun h=>absurd h (by simp)) (Nat.zero_le _) (Nat.zero_le _)
  exact this)
 have HNP:Hid (numP [] m (0,wr)=(0,0,true)):=jh (numP_nil (Nat.le_refl _))
 clear hr
 go_enter Tryz.func186,Tryz.ntmps186
 go_upto_region 1 with (fail)
 refine wp_region_same (fun w'=>Chg (fun _=>False) w w') (by kernel_rfl) (by kernel_rfl) ?_ ?_
 ·exact (Chg.refl _ _).drew
 (refine rdC fun K hK=>?_;apply ei;intro _ w' _ hC;(go_simp;try with_reducible rfl);(try go_simp);refine hK _ ?_;clear hK K)
 (refine rdC fun K hK=>?_;apply ei;intro _ w' _ hC;(go_simp;try with_reducible rfl);(try go_simp);refine hK _ ?_;clear hK K)
 (refine rdC fun K hK=>?_;apply ei;intro _ w' _ hC;(go_simp;try with_reducible rfl);(try go_simp);refine hK _ ?_;clear hK K)
 (refine rdC fun K hK=>?_;apply ei;intro _ w' _ hC;((have q:=hC.cellS HR.out.c0 (fun h=>h));go_simp;try with_reducible rfl);(try go_simp);refine hK _ ?_;clear hK K)
 (refine rdC fun K hK=>?_;apply ei;intro _ w' _ hC;(go_simp;try with_reducible rfl);(try go_simp);refine hK _ ?_;clear hK K)
 (refine rdC fun K hK=>?_;apply ei;intro _ w' _ hC;(go_simp;try with_reducible rfl);(try go_simp);refine hK _ ?_;clear hK K)
 (refine rdC fun K hK=>?_;apply ei;intro _ w' _ hC;(go_simp;try with_reducible rfl);(try go_simp);refine hK _ ?_;clear hK K)
 (refine rdC fun K hK=>?_;apply ei;intro _ w' _ hC;((have q:=hC.cellS HR.out.c1 (fun h=>h));go_simp;try with_reducible rfl);(try go_simp);refine hK _ ?_;clear hK K)
 (refine rdC fun K hK=>?_;apply ei;intro _ w' _ hC;(go_simp;try with_reducible rfl);(try go_simp);refine hK _ ?_;clear hK K)
 refine wpC_call rfl (.tuple #[.int .u32 0,.int .i64 0,.int .i64 4] )  141  ( #[.slice (some ⟨g,o,sp⟩) 0 c]) (fun w'=>by go_simp) (fun _ w' _ hC=>?_) (fun K hK=>?_)
 ·refine (HTK.out w' hC).mono ?_
  rintro e w1 ⟨rfl,h2⟩
  exact⟨rfl,hC.trans h2⟩
 ((try go_simp);refine hK _ ?_;clear hK K)
 iterate 7 (refine rdC fun K hK=>?_;apply ei;intro _ w' _ hC;(go_simp;try with_reducible rfl);(try go_simp);refine hK _ ?_;clear hK K)
 refine wpC_nil ?_
 intro w1 hC1
 have HC1:=jh hC1
 have HR1:=jh (HR.out.chg hC1 (fun h=>h))
 have c0:=HR1.out.c0
 have c1:=HR1.out.c1
 have c2:=HR1.out.c2
 have z1:=HR1.out.z 1
 have z2:=HR1.out.z 2
 clear hC1
 go_wp2
 go_ret
 rw [HNP.out]
 exact⟨rfl,HR1.out.bad,HC1.out.any.trans (setCellChg _ _ _ _)⟩
theorem num_none (Z:List Int) (_g _o c b m:Nat) (s:Rd) (w:World) (hc:Z=[]∧s.1=0∧c=0) (_hl:Z.length≤100000000) (hs:s.1≤Z.length) (hm:m<4294967296) (hr:RdAt w b (.slice none Z.length c) s) :
  Calls Tryz.prog 186 #[.pointer (some ⟨b,0,none⟩),.int .i64 m] w fun e w'=>e=.returned (.int .i64 (numP Z m s).1)∧RdAt w' b (.slice none Z.length c) (numP Z m s).2∧Chg (fun j=>j=b) w w':=by
 obtain⟨at',wr⟩:=s
 simp only at hc hs
 obtain⟨rfl,rfl,rfl⟩:=hc
 have HR:=jh hr
 have hwm:IntKind.u32.wrap (m:Int)=m:=by simp [IntKind.wrap,IntKind.bits,IntKind.signed];omega
 have HTK:Hid (∀ w',Chg (fun _=>False) w w'→Calls Tryz.prog 141 #[.slice none 0 0] w' fun e w''=>e=.returned (.tuple #[.int .u32 0,.int .i64 0,.int .i64 4])∧Chg (fun _=>False) w' w''):=jh (fun w' hc'=>by
  have:=take_any [] none 0 0 0 w' ⟨fun k a hk=>by simp at hk,fun h=>absurd rfl h⟩ (fun h=>absurd h (by simp)) (Nat.zero_le _) (Nat.zero_le _)
  exact this)
 have HNP:Hid (numP [] m (0,wr)=(0,0,true)):=jh (numP_nil (Nat.le_refl _))
 clear hr
 go_enter Tryz.func186,Tryz.ntmps186
 go_upto_region 1 with (fail)
 refine wp_region_same (fun w'=>Chg (fun _=>False) w w') (by kernel_rfl) (by kernel_rfl) ?_ ?_
 ·exact (Chg.refl _ _).drew
 (refine rdC fun K hK=>?_;apply ei;intro _ w' _ hC;(go_simp;try with_reducible rfl);(try go_simp);refine hK _ ?_;clear hK K)
 (refine rdC fun K hK=>?_;apply ei;intro _ w' _ hC;(go_simp;try with_reducible rfl);(try go_simp);refine hK _ ?_;clear hK K)
 (refine rdC fun K hK=>?_;apply ei;intro _ w' _ hC;(go_simp;try with_reducible rfl);(try go_simp);refine hK _ ?_;clear hK K)
 (refine rdC fun K hK=>?_;apply ei;intro _ w' _ hC;((have q:=hC.cellS HR.out.c0 (fun h=>h));go_simp;try with_reducible rfl);(try go_simp);refine hK _ ?_;clear hK K)
 (refine rdC fun K hK=>?_;apply ei;intro _ w' _ hC;(go_simp;try with_reducible rfl);(try go_simp);refine hK _ ?_;clear hK K)
 (refine rdC fun K hK=>?_;apply ei;intro _ w' _ hC;(go_simp;try with_reducible rfl);(try go_simp);refine hK _ ?_;clear hK K)
 (refine rdC fun K hK=>?_;apply ei;intro _ w' _ hC;(go_simp;try with_reducible rfl);(try go_simp);refine hK _ ?_;clear hK K)
 (refine rdC fun K hK=>?_;apply ei;intro _ w' _ hC;((have q:=hC.cellS HR.out.c1 (fun h=>h));go_simp;try with_reducible rfl);(try go_simp);refine hK _ ?_;clear hK K)
 (refine rdC fun K hK=>?_;apply ei;intro _ w' _ hC;(go_simp;try with_reducible rfl);(try go_simp);refine hK _ ?_;clear hK K)
 refine wpC_call rfl (.tuple #[.int .u32 0,.int .i64 0,.int .i64 4] )  141  ( #[.slice none 0 0]) (fun w'=>by go_simp) (fun _ w' _ hC=>?_) (fun K hK=>?_)
 ·refine (HTK.out w' hC).mono ?_
  rintro e w1 ⟨rfl,h2⟩
  exact⟨rfl,hC.trans h2⟩
 ((try go_simp);refine hK _ ?_;clear hK K)
 iterate 7 (refine rdC fun K hK=>?_;apply ei;intro _ w' _ hC;(go_simp;try with_reducible rfl);(try go_simp);refine hK _ ?_;clear hK K)
 refine wpC_nil ?_
 intro w1 hC1
 have HC1:=jh hC1
 have HR1:=jh (HR.out.chg hC1 (fun h=>h))
 have c0:=HR1.out.c0
 have c1:=HR1.out.c1
 have c2:=HR1.out.c2
 have z1:=HR1.out.z 1
 have z2:=HR1.out.z 2
 clear hC1
 go_wp2
 go_ret
 rw [HNP.out]
 exact⟨rfl,HR1.out.bad,HC1.out.any.trans (setCellChg _ _ _ _)⟩
theorem num_all (Z:List Int) (a:Option Addr) (g o c b m:Nat) (s:Rd) (w:World) (hz:BytesAt w g o Z) (ha:0<Z.length→a=some ⟨g,o,none⟩) (hcz:Z.length≤c) (hn:a=none→c=0) (hl:Z.length≤100000000) (hs:s.1≤Z.length) (hm:m<4294967296) (hr:RdAt w b (.slice a Z.length c) s) :
  Calls Tryz.prog 186 #[.pointer (some ⟨b,0,none⟩),.int .i64 m] w fun e w'=>e=.returned (.int .i64 (numP Z m s).1)∧RdAt w' b (.slice a Z.length c) (numP Z m s).2∧Chg (fun j=>j=b) w w':=by
 cases a with
 | none =>
  have h0:Z=[]:=by
   cases Z with
   | nil=>rfl
   | cons z Z=>have:=ha (by simp);cases this
  subst h0
  exact num_none [] 0 0 c b m s w ⟨rfl,by simpa using hs,hn rfl⟩ hl hs hm hr
 | some p =>
  obtain⟨g',o',sp⟩:=p
  by_cases h0:Z=[]
  ·subst h0
   have h1:s.1=0:=by simpa using hs
   by_cases h2:c=0
   ·exact num_full [] g' o' c b m sp s w ⟨by omega,by simpa using h1⟩ hl hs hm hr
   ·exact num_room [] g' o' c b m sp s w ⟨rfl,h1,by omega⟩ hl hs hm hr
  ·have h1:0<Z.length:=by
    cases Z with
    | nil=>exact absurd rfl h0
    | cons z Z=>simp
   have h2:=ha h1
   injection h2 with h2
   injection h2 with h3 h4 h5
   subst h3 h4 h5
   by_cases h6:s.1<c
   ·exact num_left Z g' o' c b m s w hz h6 hcz hl hs hm hr
   ·exact num_full Z g' o' c b m none s w ⟨by omega,by omega⟩ hl hs hm hr
end Go.Proofs.YtgnpmceimpjheaaGreat
namespace Go.Proofs.YtgnpmceimpjheaaGreat
open Go.RowKit
theorem cellsP_le {Z:List Int} {ms mv:Nat}:∀ {k:Nat} {s:Rd} {x:Int} {acc:List (Int × Int)},s.1≤Z.length→(cellsP Z ms mv k s x acc).2.1≤Z.length
 | 0,s,x,acc,h=>h
 | k+1,s,x,acc,h=>by
  cases hs:s.2 with
  | true=>rw [cellsP_wrong (.inl hs)];exact h
  | false=>rw [cellsP_step hs];exact cellsP_le (numP_le (numP_le h).1).1
theorem rowP_le {Z:List Int} {mw mv:Nat} {s:Rd} (h:s.1≤Z.length):(rowP Z mw mv s).2.1≤Z.length:=cellsP_le (numP_le (numP_le h).1).1
theorem rowP_int {Z:List Int} {mw mv:Nat} {s:Rd} (h:s.1≤Z.length):I.Byte (rowP Z mw mv s).1.1:=by
 have:=(numP_le (m:=mv) h).2.2.1
 show I.Byte (((numP Z mv s).1:Int)-1)
 exact⟨by omega,by omega⟩
structure CellSt (E:Elt (Int × Int)) (b br:Nat) (sl:Value) (wr:World) (d:Int) (s:Rd) (acc:List (Int × Int)) (v:Value):Prop where
 f:Fld E br 1 wr v acc
 c:wr.cell? ⟨br,0,none⟩=some (.int .i64 d)
 r:RdAt wr b sl s
 lt:b<br
theorem CellSt.start (E:Elt (Int × Int)) {b:Nat} {sl:Value} {w:World} {s:Rd} (h:RdAt w b sl s) (d:Int) (e:TypeId):CellSt E b w.heap.size sl (w.alloc (.cells #[.int .i64 d,.slice none 0 0] e)) d s [] (.slice none 0 0) :=
 ⟨⟨by rw [World.cell?_alloc_new];rfl,World.frozen?_alloc_new _ _ _ _,.nil _ _⟩,by rw [World.cell?_alloc_new];rfl,h.chg ((Chg.refl (fun _=>False) w).alloc _) (fun h=>h),h.lt⟩
theorem CellSt.read {E:Elt (Int × Int)} {b br:Nat} {sl:Value} {w w':World} {d:Int} {s s':Rd} {acc:List (Int × Int)} {v:Value} (h:CellSt E b br sl w d s acc v) (hr:RdAt w' b sl s') (hc:Chg (fun j=>j=b) w w'):CellSt E b br sl w' d s' acc v :=
 ⟨h.f.chg hc (fun g hg _ e=>by have:=h.lt;omega),hc.cellS h.c (by have:=h.lt;show ¬ br=b;omega),hr,h.lt⟩
theorem CellSt.same {E:Elt (Int × Int)} {b br:Nat} {sl:Value} {w w':World} {d:Int} {s:Rd} {acc:List (Int × Int)} {v:Value} (h:CellSt E b br sl w d s acc v) (hc:Chg (fun _=>False) w w'):CellSt E b br sl w' d s acc v :=
 ⟨h.f.chg hc (fun _ _ _ h=>h),hc.cellS h.c (fun h=>h),h.r.chg hc (fun h=>h),h.lt⟩
theorem CellSt.add {E:Elt (Int × Int)} {b br:Nat} {sl:Value} {w w1:World} {d:Int} {s:Rd} {acc acc':List (Int × Int)} {v v':Value} (h:CellSt E b br sl w d s acc v) (ho:E.Own w1 (br+1) v' acc') (hc:Chg (fun k=>br+1≤k) w w1) :
  (w1.cell? ⟨br,1,none⟩=some v∧w1.frozen? ⟨br,1,none⟩=false)∧CellSt E b br sl (w1.setCell ⟨br,1,none⟩ v') d s acc' v'∧Chg (fun k=>br≤k) w (w1.setCell ⟨br,1,none⟩ v'):=by
 obtain⟨k1,k2,k3,k4⟩:=h.f.step ho hc
 exact⟨k1,⟨k2,k4 0 _ (by omega) h.c,h.r.chg k3 (by have:=h.lt;omega),h.lt⟩,k3⟩
theorem row_any (Z:List Int) (a:Option Addr) (g o c b mw:Nat) (s:Rd) (w:World) (hz:BytesAt w g o Z) (ha:0<Z.length→a=some ⟨g,o,none⟩) (hcz:Z.length≤c) (hn:a=none→c=0) (hl:Z.length≤100000000) (hs:s.1≤Z.length) (hm:mw≤65536) (hgb:Z≠[]→g≠b) (hr:RdAt w b (.slice a Z.length c) s) :
  Calls Tryz.prog 187 #[.pointer (some ⟨b,0,none⟩),.int .i64 mw] w fun e w'=>∃ xa,e=.returned (.agg #[.int .i64 (rowP Z mw 16777216 s).1.1,.slice xa (rowP Z mw 16777216 s).1.2.length (rowP Z mw 16777216 s).1.2.length]) ∧
   cellE.In w' w.heap.size (xa,(rowP Z mw 16777216 s).1.2.length,(rowP Z mw 16777216 s).1.2.length) (rowP Z mw 16777216 s).1.2∧RdAt w' b (.slice a Z.length c) (rowP Z mw 16777216 s).2∧Chg (fun j=>j=b) w w':=by
 have hbl:=hr.lt
 have HN1:Hid (∀ (s:Rd) (wx:World),s.1≤Z.length→Chg (fun j=>j=b∨w.heap.size≤j) w wx→RdAt wx b (.slice a Z.length c) s→Calls Tryz.prog 186 #[.pointer (some ⟨b,0,none⟩),.int .i64 16777216] wx fun e w'=>e=.returned (.int .i64 (numP Z 16777216 s).1)∧RdAt w' b (.slice a Z.length c) (numP Z 16777216 s).2∧Chg (fun j=>j=b) wx w'):=jh (fun s wx h1 h2 h3 =>
  num_all Z a g o c b 16777216 s wx (hz.chg h2 (fun hne e=>by have:=hz.lt hne;have:=hgb hne;omega)) ha hcz hn hl h1 (by omega) h3)
 have HN2:Hid (∀ (s:Rd) (wx:World),s.1≤Z.length→Chg (fun j=>j=b∨w.heap.size≤j) w wx→RdAt wx b (.slice a Z.length c) s→Calls Tryz.prog 186 #[.pointer (some ⟨b,0,none⟩),.int .i64 mw] wx fun e w'=>e=.returned (.int .i64 (numP Z mw s).1)∧RdAt w' b (.slice a Z.length c) (numP Z mw s).2∧Chg (fun j=>j=b) wx w'):=jh (fun s wx h1 h2 h3 =>
  num_all Z a g o c b mw s wx (hz.chg h2 (fun hne e=>by have:=hz.lt hne;have:=hgb hne;omega)) ha hcz hn hl h1 (by omega) h3)
 obtain⟨wz,hwz⟩:∃ x,x=w.alloc (.cells #[.int .i64 0,.slice none 0 0] 241):=⟨_,rfl⟩
 have HCZ:Hid (Chg (fun _=>False) w wz):=jh (by rw [hwz];exact (Chg.refl _ _).alloc _)
 have hszz:wz.heap.size=w.heap.size+1:=by rw [hwz];simp
 have HZS:=jh hszz
 have HBZ:Hid (∀ wx,Chg (fun j=>j=b∨wz.heap.size≤j) wz wx→(wx.cell? ⟨w.heap.size,0,none⟩=some (.int .i64 0)∧wx.cell? ⟨w.heap.size,1,none⟩=some (.slice none 0 0))∧∀ j,wx.frozen? ⟨w.heap.size,j,none⟩=false):=jh (fun wx hx=>by
  have hne:¬ (w.heap.size=b∨wz.heap.size≤w.heap.size):=by omega
  subst hwz
  exact⟨⟨hx.cellS (by simp) hne,hx.cellS (by simp) hne⟩,fun j=>(hx.frozen (p:=⟨w.heap.size,j,none⟩) (by simp) hne).trans (World.frozen?_alloc_new _ _ _ _)⟩)
 have HR:=jh (hr.chg HCZ.out (fun h=>h))
 have HS:=jh hs
 have HWZ:=jh hwz
 obtain⟨P,hP⟩:∃ x,numP Z 16777216 s=x:=⟨_,rfl⟩
 obtain⟨Q,hQ⟩:∃ x,numP Z mw P.2=x:=⟨_,rfl⟩
 obtain⟨T,hT⟩:∃ x,cellsP Z mw 16777216 Q.1 Q.2 0 []=x:=⟨_,rfl⟩
 have hrow:rowP Z mw 16777216 s=(((P.1:Int)-1,T.1),T.2):=by
  unfold rowP
  rw [hP,hQ,hT]
 have hPl:=numP_le (m:=16777216) hs
 rw [hP] at hPl
 have hQl:=numP_le (m:=mw) hPl.1
 rw [hQ] at hQl
 have HPL:=jh hPl
 have HQL:=jh hQl
 have hP1:=hPl.2.1
 have HT:=jh hT
 have HP:=jh hP
 have HQ:=jh hQ
 rw [hrow]
 simp only
 clear hz ha hcz hn hs hgb hr hwz hszz hPl hQl hT hP hQ hrow
 go_enter Tryz.func187,Tryz.ntmps187
 go_upto_region 1 with (fail)
 rw [← HWZ.out]
 go_wp2_with fail
 refine (HN1.out s wz HS.out HCZ.out.any HR.out).mono ?_
 rw [HP.out]
 rintro e w1 ⟨rfl,hr1,hc1⟩
 have HC1:=jh hc1
 have hb1:w.heap.size<w1.heap.size:=by have:=hc1.size;have:=HZS.out;omega
 have HST:=jh (CellSt.start cellE hr1 ((P.1:Int)-1) 241)
 have HC2:Hid (Chg (fun j=>j=b∨w1.heap.size≤j) w1 (w1.alloc (.cells #[.int .i64 ((P.1:Int)-1),.slice none 0 0] 241))):=jh ((Chg.refl _ _).alloc _)
 have HUP:Hid (∀ wx,Chg (fun j=>j=b∨w1.heap.size≤j) w1 wx→Chg (fun j=>j=b∨w.heap.size≤j) w wx):=jh (fun wx hx=>(HCZ.out.any.trans (HC1.out.mono (fun k _ e=>.inl e))).trans (hx.mono (fun k _ e=>by omega)))
 clear hr1 hc1
 go_wp2_with fail
 refine (HN2.out P.2 _ HPL.out.1 (HUP.out _ HC2.out) HST.out.r).mono ?_
 rw [HQ.out]
 rintro e w3 ⟨rfl,hr3,hc3⟩
 have HS3:=jh (HST.out.read hr3 hc3)
 have HC3:=jh (HC2.out.trans (hc3.mono (fun k _ e=>.inl e)))
 clear hr3 hc3 HST HC2
 go_wp2
 go_loopw [6,7] (fun q6 q wr=>∃ (K:Nat) (s:Rd) (X:Int) (acc:List (Int × Int)) (v:Value),q6=.int .i64 X∧q=.int .i64 K∧CellSt cellE b w1.heap.size (.slice a Z.length c) wr ((P.1:Int)-1) s acc v∧s.1≤Z.length∧(0≤X∧X≤(acc.length:Int) * 65536∧acc.length+K≤65536)∧cellsP Z mw 16777216 K s X acc=T∧Chg (fun j=>j=b∨w1.heap.size≤j) w1 wr) (fun _ q _=>(intOf q).toNat)
 case atStart=>exact⟨Q.1,Q.2,0,[],_,rfl,rfl,HS3.out,HQL.out.1,⟨by omega,by simp,by have:=HQL.out.2.1;simp;omega⟩,HT.out,HC3.out⟩
 case round =>
  clear HS3 HC3 HT
  obtain⟨K,s,X,acc,v,rfl,rfl,hst,hs,⟨hX0,hX1,hKa⟩,hT,hc⟩:=hrel
  have HST:=jh hst
  have HSL:=jh hs
  have HT:=jh hT
  have HC:=jh hc
  obtain⟨va,vl,vc,rfl⟩:=hst.f.own.shape3
  obtain⟨sp,sb⟩:=s
  have c2:=hst.r.c2
  simp only at c2
  clear hst hs hT hc
  by_cases hgo:0<K∧sb=false
  ·obtain⟨hK,rfl⟩:=hgo
   obtain⟨m,rfl⟩:∃ m,K=m+1:=⟨K-1,by omega⟩
   have b16:decide (0<m+1)=true:=by simp
   have e25:((m+1:Nat):Int)-1=(m:Int):=by omega
   obtain⟨N,hN⟩:∃ x,numP Z mw (sp,false)=x:=⟨_,rfl⟩
   obtain⟨M,hM⟩:∃ x,numP Z 16777216 N.2=x:=⟨_,rfl⟩
   have hNl:=numP_le (m:=mw) HSL.out
   rw [hN] at hNl
   have hMl:=numP_le (m:=16777216) hNl.1
   rw [hM] at hMl
   have HNL:=jh hNl
   have HML:=jh hMl
   have hN1:=hNl.2.1
   have hM1:=hMl.2.1
   have HTN:Hid (cellsP Z mw 16777216 m M.2 (X+N.1) (acc++[(X+N.1,(M.1:Int)-1)])=T):=jh (by
    rw [← HT.out,cellsP_step rfl,hN,hM])
   have hwM:IntKind.i64.wrap ((M.1:Int)-1)=(M.1:Int)-1:=by rw [IntKind.wrap_i64];omega
   have HN:=jh hN
   have HM:=jh hM
   clear hNl hMl hN hM
   go_wp2_with fail
   refine (HN2.out (sp,false) wr HSL.out (HUP.out _ HC.out) HST.out.r).mono ?_
   rw [HN.out]
   rintro e w5 ⟨rfl,hr5,hc5⟩
   have HST5:=jh (HST.out.read hr5 hc5)
   have HC5:=jh (HC.out.trans (hc5.mono (T:=fun j=>j=b∨w1.heap.size≤j) (fun k _ e=>.inl e)))
   clear hr5 hc5 HST HC c2
   go_upto_region 7 with (fail)
   obtain⟨wd,hwd⟩:∃ wd,wd=w5.drew:=⟨_,rfl⟩
   have HWE:Hid (w5.drew=wd):=jh hwd.symm
   have HWD:Hid (Chg (fun _=>False) w5 wd):=jh (by rw [hwd];exact (Chg.refl _ _).drew)
   have HST6:=jh (HST5.out.same HWD.out)
   have HC6:=jh (HC5.out.trans HWD.out.any)
   clear hwd
   refine wp_region_late (fun x=>Chg (fun j=>j=b∨w1.heap.size+1≤j) wd x) (fun i=>decide (i=10)) (by kernel_rfl) ?_
   show wpAnyL _ _ _ _ _ _ 11 (Array.replicate 11 false) _ w5.drew
   rw [HWE.out]
   have HSS:Hid (Chg (fun j=>j=b∨w1.heap.size+1≤j) wd wd):=jh (Chg.refl _ _)
   have hneg:¬ (w1.heap.size=b∨w1.heap.size+1≤w1.heap.size):=by omega
   (refine lrd 0 HSS.out fun K hK=>?_;apply ei;intro w' hC;(go_simp;try with_reducible rfl);(try go_simp);refine hK _ ?_;clear hK K)
   (refine lrd 1 HSS.out fun K hK=>?_;apply ei;intro w' hC;((have q:=hC.cellS HST6.out.f.c hneg);go_simp;try with_reducible rfl);(try go_simp);refine hK _ ?_;clear hK K)
   (refine lrd 2 HSS.out fun K hK=>?_;apply ei;intro w' hC;(go_simp;try with_reducible rfl);(try go_simp);refine hK _ ?_;clear hK K)
   (refine lrd 3 HSS.out fun K hK=>?_;apply ei;intro w' hC;(go_simp;try with_reducible rfl);(try go_simp);refine hK _ ?_;clear hK K)
   refine late_call (i:=4) (by kernel_rfl) rfl rfl 186 #[.pointer (some ⟨b,0,none⟩),.int .i64 16777216] (fun u w''=>u=.int .i64 M.1∧RdAt w'' b (.slice a Z.length c) M.2∧Chg (fun j=>j=b) wd w'') (by go_simp) ?_ ?_
   ·refine (HN1.out N.2 wd HNL.out.1 (HUP.out _ HC6.out) HST6.out.r).mono ?_
    rw [HM.out]
    rintro e w6 ⟨rfl,h1,h2⟩
    exact⟨_,rfl,fun _=>HSS.out.trans (h2.mono (fun k _ e=>.inl e)),rfl,h1,h2⟩
   rintro u w6 hs6 ⟨rfl,hr6,hc6⟩ K hK
   have HSS:=jh (hs6 (by decide))
   have HST7:=jh (HST6.out.read hr6 hc6)
   have HC7:=jh (HC6.out.trans (hc6.mono (T:=fun j=>j=b∨w1.heap.size≤j) (fun k _ e=>.inl e)))
   clear hs6 hr6 hc6
   (try go_simp)
   refine hK _ ?_
   clear hK K
   have HSTA:=jh (HST7.out.same ((Chg.refl (fun _=>False) w6).alloc (.cells #[.int .i64 (X+N.1),.int .i64 ((M.1:Int)-1)] 246)))
   have HBS:Hid (w1.heap.size+1≤(w6.alloc (.cells #[.int .i64 (X+N.1),.int .i64 ((M.1:Int)-1)] 246)).heap.size):=jh (by have:=HSTA.out.f.lt;omega)
   have HOK:Hid (∀ x∈[(X+(N.1:Int),(M.1:Int)-1)],cellE.ok x):=jh (by
    intro x hx
    rw [List.mem_singleton] at hx
    subst hx
    exact⟨⟨by show -9223372036854775808≤X+(N.1:Int);omega,by show X+(N.1:Int)≤9223372036854775807;omega⟩,⟨by show -9223372036854775808≤(M.1:Int)-1;omega,by show (M.1:Int)-1≤9223372036854775807;omega⟩⟩)
   (refine lrd 5 HSS.out fun K hK=>?_;apply ei;intro w' hC;(go_simp;try with_reducible rfl);(try go_simp);refine hK _ ?_;clear hK K)
   (refine lrd 6 HSS.out fun K hK=>?_;apply ei;intro w' hC;(go_simp;try with_reducible rfl);(try go_simp);refine hK _ ?_;clear hK K)
   (refine late_turn (i:=7) (by kernel_rfl) rfl rfl fun K hK=>?_;apply Exists.intro;apply Exists.intro;refine⟨?_,?_,?_⟩;(go_simp;try first|with_reducible rfl|exact⟨rfl,rfl⟩);(exact fun _=>HSS.out.alloc _);(try go_simp);refine hK _ _ ?_;clear hK K)
   refine late_append (i:=8) (by kernel_rfl) rfl rfl (.tmp 32) (.tmp 38) 239 239 rfl (.slice va vl vc) (.slice (some ⟨w6.heap.size,0,none⟩) 1 1) rfl rfl (fun v' w9=>cellE.Own w9 (w1.heap.size+1) v' (acc++[(X+(N.1:Int),(M.1:Int)-1)])∧Chg (fun j=>w1.heap.size+1≤j) (w6.alloc (.cells #[.int .i64 (X+N.1),.int .i64 ((M.1:Int)-1)] 246)) w9) ?_ ?_
   ·obtain⟨v',w9,hrun,h1,h2,-⟩:=HSTA.out.f.own.append HBS.out 239 (.slice (some ⟨w6.heap.size,0,none⟩) 1 1) [(X+(N.1:Int),(M.1:Int)-1)] (cellE.srcLit 1 HOK.out) HOK.out (by simp;omega) 239
    exact⟨v',w9,hrun,fun _=>(HSS.out.alloc _).trans (h2.mono (fun k _ e=>.inr e)),h1,h2⟩
   rintro v' w9 hs ⟨h1,h2⟩ K hK
   obtain⟨va',vl',vc',hv'⟩:=h1.shape3
   subst hv'
   obtain⟨⟨k1,k2⟩,hf,hcf⟩:=HSTA.out.add h1 h2
   have HFF:=jh hf
   have HCF:=jh (HC7.out.trans ((((Chg.refl (fun k=>w1.heap.size≤k) w6).alloc (.cells #[.int .i64 (X+N.1),.int .i64 ((M.1:Int)-1)] 246)).trans hcf).mono (T:=fun j=>j=b∨w1.heap.size≤j) (fun k _ e=>.inr e)))
   have HSL9:=jh (hs (by decide))
   clear hf h1 h2 hs hcf
   (try go_simp)
   refine hK _ ?_
   clear hK K
   (refine late_turn (i:=9) (by kernel_rfl) rfl rfl fun K hK=>?_;apply Exists.intro;apply Exists.intro;refine⟨?_,?_,?_⟩;(go_simp;try first|with_reducible rfl|exact⟨rfl,rfl⟩);(exact fun _=>HSL9.out);(try go_simp);refine hK _ _ ?_;clear hK K)
   (refine late_store (i:=10) (by kernel_rfl) rfl rfl fun K hK=>?_;apply Exists.intro;refine⟨?_,(fun h=>absurd h (by decide)),?_⟩;(go_simp;try first|with_reducible rfl|exact⟨rfl,rfl⟩);(try go_simp);refine hK _ _ ?_;clear hK K)
   refine late_done (by kernel_rfl) ?_ _
   go_wp2
   go_roundw
   case rel=>exact⟨m,M.2,X+N.1,_,_,rfl,by go_num,HFF.out,HML.out.1,⟨by omega,by simp;omega,by simp;omega⟩,HTN.out,HCF.out⟩
   case measure=>simp [intOf]
  ·have hex:decide (0<K)=false∨(decide (0<K)=true∧sb=true):=by
    rcases Nat.eq_zero_or_pos K with h|h
    ·exact .inl (by simp [h])
    ·exact .inr ⟨by simpa using h,by cases sb;exact absurd ⟨h,rfl⟩ hgo;rfl⟩
   have HTE:Hid (T=(acc,sp,sb)):=jh (by
    rw [← HT.out]
    apply cellsP_wrong
    rcases Nat.eq_zero_or_pos K with h|h
    ·exact .inr h
    ·exact .inl (by cases sb;exact absurd ⟨h,rfl⟩ hgo;rfl))
   clear hgo
   rcases hex with b16|⟨b16,rfl⟩
   all_goals
    go_upto_region 8 with (fail)
    have c1:=HST.out.f.c
    have z1:=HST.out.f.z
    have c0:=HST.out.c
    obtain⟨⟨r0,r1⟩,hz⟩:=HBZ.out wr ((HC1.out.mono (T:=fun j=>j=b∨wz.heap.size≤j) (fun k _ e=>.inl e)).trans (HC.out.mono (fun k _ e=>by have:=HC1.out.size;omega)))
    have r2:=hz 0
    have r3:=hz 1
    obtain⟨va',vg,vc',hv',hle,-,-⟩:=HST.out.f.own.at'
    injection hv' with e1 e2 e3
    subst e1 e2 e3
    have hne:w.heap.size≠w1.heap.size:=by omega
    clear hz
    go_wp2_with fail
    refine (clipCell _ va _ vc hle).mono ?_
    rintro e w5 ⟨rfl,rfl⟩
    go_wp2
    have hcs:=setCellChg wr w1.heap.size 1 (.slice va acc.length acc.length)
    obtain⟨f0,f1,f2⟩:=store2 (.int .i64 ((P.1:Int)-1)) (.slice va acc.length acc.length) (hcs.cellS r0 hne) (hcs.cellS r1 hne)
    have hcc:=(hcs.mono (T:=fun k=>k=w1.heap.size∨k=w.heap.size) (fun k _ e=>.inl e)).trans (f2.mono (fun k _ e=>.inr e))
    have h3:=((HST.out.f.own.chg hcc (fun g hg _ e=>by omega)).in' (Nat.le_refl _)).lower (B':=w.heap.size) (by omega)
    have h4:=((HUP.out wr HC.out).trans (hcc.mono (T:=fun j=>j=b∨w.heap.size≤j) (fun k _ e=>by omega))).mono (T:=fun j=>j=b) (fun k hk e=>by omega)
    have h5:=HST.out.r.chg hcc (by omega)
    clear f2 hcc hcs
    generalize ((wr.setCell ⟨w1.heap.size,1,none⟩ (.slice va acc.length acc.length)).setCell ⟨w.heap.size,0,none⟩ (.int .i64 ((P.1:Int)-1))).setCell ⟨w.heap.size,1,none⟩ (.slice va acc.length acc.length)=W at *
    rw [HTE.out]
    exact bodyPost_ret (v:=.agg #[.int .i64 ((P.1:Int)-1),.slice va acc.length acc.length]) (by simp [results,Tryz.results187,go_sem,f0,f1]) rfl ⟨va,rfl,h3,h5,h4⟩
end Go.Proofs.YtgnpmceimpjheaaGreat
namespace Go.Proofs.YtgnpmceimpjheaaGreat
open Go.RowKit
structure TakSt (E:Elt (Int × Int)) (F:Elt (Int × Sl)) (bt lo:Nat) (w:World) (W:Int) (R:List RowD) (O:List Int) (v u:Value):Prop where
 c0:w.cell? ⟨bt,0,none⟩=some (.int .i64 W)
 c1:w.cell? ⟨bt,1,none⟩=some v
 z1:w.frozen? ⟨bt,1,none⟩=false
 c2:w.cell? ⟨bt,2,none⟩=some u
 z2:w.frozen? ⟨bt,2,none⟩=false
 rows:∃ X:List (Int × Sl),F.Own w lo v X∧X.length=R.length∧∀ (j:Nat) x r,X[j]?=some x→R[j]?=some r→RowIn E w lo x r∧(0<r.2.length→∀ g o,x.2.1=some ⟨g,o,none⟩→v.ownBlock≠some g∧u.ownBlock≠some g∧lo≤g)
 of:intE.Own w lo u O
 apart:∀ g,v.ownBlock=some g→u.ownBlock≠some g
 blo:bt<lo
theorem TakSt.lt {E:Elt (Int × Int)} {F:Elt (Int × Sl)} {bt lo:Nat} {w:World} {W:Int} {R:List RowD} {O:List Int} {v u:Value} (h:TakSt E F bt lo w W R O v u):bt<w.heap.size:=World.block_lt_of_cell? _ _ h.c0
theorem TakSt.same {E:Elt (Int × Int)} {F:Elt (Int × Sl)} {bt lo:Nat} {w w':World} {W:Int} {R:List RowD} {O:List Int} {v u:Value} (h:TakSt E F bt lo w W R O v u) (hc:Chg (fun _=>False) w w'):TakSt E F bt lo w' W R O v u:=by
 obtain⟨X,h1,h2,h3⟩:=h.rows
 exact⟨hc.cellS h.c0 (fun h=>h),hc.cellS h.c1 (fun h=>h),(hc.frozen (p:=⟨bt,1,none⟩) h.lt (fun h=>h)).trans h.z1,hc.cellS h.c2 (fun h=>h),(hc.frozen (p:=⟨bt,2,none⟩) h.lt (fun h=>h)).trans h.z2,
  ⟨X,h1.chg hc (fun _ _ _ h=>h),h2,fun j x r hx hr=>⟨(h3 j x r hx hr).1.same hc,(h3 j x r hx hr).2⟩⟩,h.of.chg hc (fun _ _ _ h=>h),h.apart,h.blo⟩
theorem TakSt.rowsIn {E:Elt (Int × Int)} {F:Elt (Int × Sl)} {bt lo:Nat} {w:World} {W:Int} {R:List RowD} {O:List Int} {u:Value} {a:Option Addr} {n c:Nat} (h:TakSt E F bt lo w W R O (.slice a n c) u):RowsIn E F w lo (a,n,c) R∧n=R.length∧n≤c:=by
 obtain⟨X,h1,h2,h3⟩:=h.rows
 obtain⟨a',g,c',hv,hle,-⟩:=h1.at'
 injection hv with e1 e2 e3
 subst e1 e2 e3
 exact⟨⟨X,h1.in' hle,h2,fun j x r hx hr=>(h3 j x r hx hr).1⟩,h2,hle⟩
theorem TakSt.addRow {E:Elt (Int × Int)} {F:Elt (Int × Sl)} {bt lo:Nat} {w w1:World} {W:Int} {R:List RowD} {O:List Int} {v v' u:Value} (h:TakSt E F bt lo w W R O v u) {x:Int × Sl} {r:RowD} (hx:RowIn E w lo x r) (hxa:0<r.2.length→∀ g o,x.2.1=some ⟨g,o,none⟩→v.ownBlock≠some g∧u.ownBlock≠some g∧lo≤g)
  (ho:∀ X,F.Own w lo v X→X.length=R.length→F.Own w1 lo v' (X++[x])) (hc:Chg (fun k=>v.ownBlock=some k) w w1) (hv:v'.ownBlock=v.ownBlock∨v'.ownBlock=some w.heap.size∨v'.ownBlock=some (w.heap.size+1)) :
  (w1.cell? ⟨bt,1,none⟩=some v∧w1.frozen? ⟨bt,1,none⟩=false)∧TakSt E F bt lo (w1.setCell ⟨bt,1,none⟩ v') W (R++[r]) O v' u∧Chg (fun k=>bt≤k) w (w1.setCell ⟨bt,1,none⟩ v'):=by
 obtain⟨X,h1,h2,h3⟩:=h.rows
 have hlt:=h.lt
 have hblo:=h.blo
 have hbl:∀ g,v.ownBlock=some g→lo≤g∧g<w.heap.size:=fun g hg=>h1.blk hg
 have hnb:¬ v.ownBlock=some bt:=fun e=>by have:=(hbl bt e).1;omega
 have c1:=hc.cellS h.c1 hnb
 have z1:=(hc.frozen (p:=⟨bt,1,none⟩) hlt hnb).trans h.z1
 have hs:=setCellChg w1 bt 1 v'
 have hgt:∀ g,g<w.heap.size→v.ownBlock≠some g→v'.ownBlock≠some g:=fun g hg hne e=>by
  rcases hv with hv|hv|hv
  ·rw [hv] at e;exact hne e
  ·rw [hv] at e;obtain rfl:=Option.some.inj e;omega
  ·rw [hv] at e;obtain rfl:=Option.some.inj e;omega
 have hcs:Chg (fun k=>v.ownBlock=some k∨k=bt) w (w1.setCell ⟨bt,1,none⟩ v'):=(hc.mono (fun k _ e=>.inl e)).trans (hs.mono (fun k _ e=>.inr e))
 have keep:∀ (y:Int × Sl) (q:RowD),RowIn E w lo y q→(0<q.2.length→∀ g o,y.2.1=some ⟨g,o,none⟩→v.ownBlock≠some g∧u.ownBlock≠some g∧lo≤g) →
   RowIn E (w1.setCell ⟨bt,1,none⟩ v') lo y q∧(0<q.2.length→∀ g o,y.2.1=some ⟨g,o,none⟩→v'.ownBlock≠some g∧u.ownBlock≠some g∧lo≤g):=fun y q hy hya=>by
  refine⟨hy.chg0 hcs (fun hp g o hg e=>?_),fun hp g o hg=>?_⟩
  ·obtain⟨k1,k2,k3⟩:=hya hp g o hg
   rcases e with e|e
   ·exact k1 e
   ·omega
  ·obtain⟨k1,k2,k3⟩:=hya hp g o hg
   obtain⟨_,_,g',o',k4,k5⟩:=hy.2.2
   have hlt:g<w.heap.size:=by
    have h6:=(k5 hp).1
    rw [hg] at h6
    injection h6 with h6
    injection h6 with h6
    subst h6
    exact k4.lt (by intro e;rw [e] at hp;simp at hp)
   exact⟨hgt g hlt k1,k2,k3⟩
 refine⟨⟨c1,z1⟩,⟨Chg.cellNe (hc.cellS h.c0 hnb) (by intro e;injection e with _ e;cases e),World.cell?_setCell_same _ _ _ c1,(World.frozen?_setCell _ _ _ _).trans z1,Chg.cellNe (hc.cellS h.c2 hnb) (by intro e;injection e with _ e;cases e),(World.frozen?_setCell _ _ _ _).trans ((hc.frozen (p:=⟨bt,2,none⟩) hlt hnb).trans h.z2),
  ⟨X++[x],(ho X h1 h2).chg hs (fun g hg _ e=>by omega),by simp [h2],fun j y q hy hq=>?_⟩,?_,fun g hg hu=>?_,h.blo⟩,hcs.mono (fun k _ e=>by
   rcases e with e|e
   ·have:=(hbl k e).1;omega
   ·omega)⟩
 ·by_cases hj:j<X.length
  ·rw [List.getElem?_append_left hj] at hy
   rw [List.getElem?_append_left (by omega)] at hq
   exact keep y q (h3 j y q hy hq).1 (h3 j y q hy hq).2
  ·have hjl:=(List.getElem?_eq_some_iff.1 hy).1
   simp at hjl
   obtain rfl:j=X.length:=by omega
   rw [List.getElem?_append_right (Nat.le_refl _),Nat.sub_self] at hy
   rw [h2,List.getElem?_append_right (Nat.le_refl _),Nat.sub_self] at hq
   obtain rfl:=Option.some.inj hy
   obtain rfl:=Option.some.inj hq
   exact keep _ _ hx hxa
 ·refine (h.of.chgB hc (fun g hg e=>h.apart g e hg)).chg hs (fun g hg _ e=>by omega)
 ·have:=(h.of.blk hu)
  rcases hv with hv|hv|hv
  ·rw [hv] at hg;exact h.apart g hg hu
  ·rw [hv] at hg;obtain rfl:=Option.some.inj hg;omega
  ·rw [hv] at hg;obtain rfl:=Option.some.inj hg;omega
theorem TakSt.addOf {E:Elt (Int × Int)} {F:Elt (Int × Sl)} {bt lo:Nat} {w w1:World} {W:Int} {R:List RowD} {O:List Int} {v u u':Value} {i:Int} (h:TakSt E F bt lo w W R O v u)
  (ho:intE.Own w1 lo u' (O++[i])) (hc:Chg (fun k=>u.ownBlock=some k) w w1) (hu:u'.ownBlock=u.ownBlock∨u'.ownBlock=some w.heap.size∨u'.ownBlock=some (w.heap.size+1)) :
  (w1.cell? ⟨bt,2,none⟩=some u∧w1.frozen? ⟨bt,2,none⟩=false)∧TakSt E F bt lo (w1.setCell ⟨bt,2,none⟩ u') W R (O++[i]) v u'∧Chg (fun k=>bt≤k) w (w1.setCell ⟨bt,2,none⟩ u'):=by
 obtain⟨X,h1,h2,h3⟩:=h.rows
 have hlt:=h.lt
 have hblo:=h.blo
 have hbl:∀ g,u.ownBlock=some g→lo≤g∧g<w.heap.size:=fun g hg=>h.of.blk hg
 have hnb:¬ u.ownBlock=some bt:=fun e=>by have:=(hbl bt e).1;omega
 have c2:=hc.cellS h.c2 hnb
 have z2:=(hc.frozen (p:=⟨bt,2,none⟩) hlt hnb).trans h.z2
 have hs:=setCellChg w1 bt 2 u'
 have hgt:∀ g,g<w.heap.size→u.ownBlock≠some g→u'.ownBlock≠some g:=fun g hg hne e=>by
  rcases hu with hv|hv|hv
  ·rw [hv] at e;exact hne e
  ·rw [hv] at e;obtain rfl:=Option.some.inj e;omega
  ·rw [hv] at e;obtain rfl:=Option.some.inj e;omega
 have hcs:Chg (fun k=>u.ownBlock=some k∨k=bt) w (w1.setCell ⟨bt,2,none⟩ u'):=(hc.mono (fun k _ e=>.inl e)).trans (hs.mono (fun k _ e=>.inr e))
 refine⟨⟨c2,z2⟩,⟨Chg.cellNe (hc.cellS h.c0 hnb) (by intro e;injection e with _ e;cases e),Chg.cellNe (hc.cellS h.c1 hnb) (by intro e;injection e with _ e;cases e),(World.frozen?_setCell _ _ _ _).trans ((hc.frozen (p:=⟨bt,1,none⟩) hlt hnb).trans h.z1),World.cell?_setCell_same _ _ _ c2,(World.frozen?_setCell _ _ _ _).trans z2,
  ⟨X,(h1.chgB hc (fun g hg e=>h.apart g hg e)).chg hs (fun g hg _ e=>by omega),h2,fun j y q hy hq=>?_⟩,ho.chg hs (fun g hg _ e=>by omega),fun g hg hu'=>?_,h.blo⟩,hcs.mono (fun k _ e=>by
   rcases e with e|e
   ·have:=(hbl k e).1;omega
   ·omega)⟩
 ·obtain⟨hy1,hya⟩:=h3 j y q hy hq
  refine⟨hy1.chg0 hcs (fun hp g o hg e=>?_),fun hp g o hg=>?_⟩
  ·obtain⟨k1,k2,k3⟩:=hya hp g o hg
   rcases e with e|e
   ·exact k2 e
   ·omega
  ·obtain⟨k1,k2,k3⟩:=hya hp g o hg
   obtain⟨_,_,g',o',k4,k5⟩:=hy1.2.2
   have hlt:g<w.heap.size:=by
    have h6:=(k5 hp).1
    rw [hg] at h6
    injection h6 with h6
    injection h6 with h6
    subst h6
    exact k4.lt (by intro e;rw [e] at hp;simp at hp)
   exact⟨k1,hgt g hlt k2,k3⟩
 ·exact hgt g (h1.blk hg).2 (fun e=>h.apart g hg e) hu'
theorem TakSt.final {E:Elt (Int × Int)} {F:Elt (Int × Sl)} {bt lo:Nat} {w w':World} {W:Int} {R:List RowD} {O:List Int} {a ua:Option Addr} {n c m uc:Nat} (h:TakSt E F bt lo w W R O (.slice a n c) (.slice ua m uc)) (hc:Chg (fun k=>k<lo) w w') :
  RowsIn E F w' lo (a,n,n) R∧OfIn w' lo ua O∧n=R.length∧m=O.length∧n≤c∧m≤uc:=by
 obtain⟨X,h1,h2,h3⟩:=h.rows
 have h1':=h1.chg hc (fun g hg _ e=>by omega)
 obtain⟨a',g,c',hv,hle,-⟩:=h1.at'
 injection hv with e1 e2 e3
 subst e1 e2 e3
 refine⟨⟨X,h1'.in' (Nat.le_refl _),h2,fun j x r hx hr=>(h3 j x r hx hr).1.chg0 hc (fun hp g o hg e=>by have:=((h3 j x r hx hr).2 hp g o hg).2.2;omega)⟩,?_,h2,?_,hle,?_⟩
 ·rcases h.of with ⟨e,rfl⟩|⟨g,C,e,hB,hR,hp,_⟩
  ·injection e with e1 e2 e3
   exact .inl ⟨rfl,e1⟩
  ·injection e with e1 e2 e3
   have hr2:=(hR.chg hc (show ¬ g<lo by omega))
   refine .inr ⟨g,e1,intRow.1 ⟨fun k u hk=>?_,hr2.z,hr2.lt,fun x hx=>hr2.ok x (hp.subset hx)⟩,hB⟩
   have:=(hr2.at' hp).c k u hk
   rwa [Nat.zero_add] at this
 ·rcases h.of with ⟨e,rfl⟩|⟨g,C,e,hB,hR,hp,_⟩
  ·injection e
  ·injection e
 ·rcases h.of with ⟨e,rfl⟩|⟨g,C,e,hB,hR,hp,_⟩
  ·injection e with e1 e2 e3
   subst e2 e3
   exact Nat.le_refl _
  ·injection e with e1 e2 e3
   subst e2 e3
   exact hp.length_le
end Go.Proofs.YtgnpmceimpjheaaGreat
