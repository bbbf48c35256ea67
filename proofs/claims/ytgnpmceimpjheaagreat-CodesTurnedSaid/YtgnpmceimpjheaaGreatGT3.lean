/- A part of the proof: RowsR RowsT Lin Tab1 Elts Strs CodE DocE CodM Twins PutA PutB. -/
import Derived.Test.YtgnpmceimpjheaaGreatGT2
import Derived.Test.YtgnpmceimpjheaaGreatGT1
import Derived.Laws.BytesArg
import Derived.Lib.SlBytesConst
import Derived.OwnWalk
import Derived.LoopTactic
import Derived.Deep.DeepCutAuto
import Derived.Deep.CutBlock
import Derived.Lib.SliceRun
set_option maxRecDepth 100000
set_option maxHeartbeats 16000000
namespace Go.Proofs.YtgnpmceimpjheaaGreat
open Go.RowKit
def addL (t:List RowD × List Int) (r:RowD):List RowD × List Int:=if hasRow r t.1 then (t.1,t.2++[idxV (rowEq r) t.1]) else (t.1++[r],t.2++[(t.1.length:Int)])
theorem Elt.In.chg0 {α:Type} {E:Elt α} {S:Nat→Prop} {w w':World} {B:Nat} {s:Sl} {L:List α} (h:E.In w B s L) (hc:Chg S w w') (hs:0<L.length→∀ g o,s.1=some ⟨g,o,none⟩→¬ S g):E.In w' B s L:=by
 obtain⟨h1,h2,g,o,h3,h4⟩:=h
 exact⟨h1,h2,g,o,h3.chg hc (fun hne=>by
  have hp:0<L.length:=by cases L with
   | nil=>exact absurd rfl hne
   | cons x L=>simp
  exact hs hp g o (h4 hp).1),h4⟩
theorem RowIn.chg0 {E:Elt (Int × Int)} {S:Nat→Prop} {w w':World} {B:Nat} {x:Int × Sl} {r:RowD} (h:RowIn E w B x r) (hc:Chg S w w') (hs:0<r.2.length→∀ g o,x.2.1=some ⟨g,o,none⟩→¬ S g):RowIn E w' B x r:=⟨h.1,h.2.1,h.2.2.chg0 hc hs⟩
structure TabSt (E:Elt (Int × Int)) (F:Elt (Int × Sl)) (bt:Nat) (w:World) (W:Int) (R:List RowD) (O:List Int) (v u:Value):Prop where
 c0:w.cell? ⟨bt,0,none⟩=some (.int .i64 W)
 c1:w.cell? ⟨bt,1,none⟩=some v
 z1:w.frozen? ⟨bt,1,none⟩=false
 c2:w.cell? ⟨bt,2,none⟩=some u
 z2:w.frozen? ⟨bt,2,none⟩=false
 rows:∃ X:List (Int × Sl),F.Own w (bt+1) v X∧X.length=R.length∧∀ (j:Nat) x r,X[j]?=some x→R[j]?=some r→RowIn E w (bt+1) x r∧(0<r.2.length→∀ g o,x.2.1=some ⟨g,o,none⟩→v.ownBlock≠some g∧u.ownBlock≠some g∧bt<g)
 of:intE.Own w (bt+1) u O
 apart:∀ g,v.ownBlock=some g→u.ownBlock≠some g
theorem TabSt.lt {E:Elt (Int × Int)} {F:Elt (Int × Sl)} {bt:Nat} {w:World} {W:Int} {R:List RowD} {O:List Int} {v u:Value} (h:TabSt E F bt w W R O v u):bt<w.heap.size:=World.block_lt_of_cell? _ _ h.c0
theorem TabSt.same {E:Elt (Int × Int)} {F:Elt (Int × Sl)} {bt:Nat} {w w':World} {W:Int} {R:List RowD} {O:List Int} {v u:Value} (h:TabSt E F bt w W R O v u) (hc:Chg (fun _=>False) w w'):TabSt E F bt w' W R O v u:=by
 obtain⟨X,h1,h2,h3⟩:=h.rows
 exact⟨hc.cellS h.c0 (fun h=>h),hc.cellS h.c1 (fun h=>h),(hc.frozen (p:=⟨bt,1,none⟩) h.lt (fun h=>h)).trans h.z1,hc.cellS h.c2 (fun h=>h),(hc.frozen (p:=⟨bt,2,none⟩) h.lt (fun h=>h)).trans h.z2,
  ⟨X,h1.chg hc (fun _ _ _ h=>h),h2,fun j x r hx hr=>⟨(h3 j x r hx hr).1.same hc,(h3 j x r hx hr).2⟩⟩,h.of.chg hc (fun _ _ _ h=>h),h.apart⟩
theorem TabSt.rowsIn {E:Elt (Int × Int)} {F:Elt (Int × Sl)} {bt:Nat} {w:World} {W:Int} {R:List RowD} {O:List Int} {u:Value} {a:Option Addr} {n c:Nat} (h:TabSt E F bt w W R O (.slice a n c) u):RowsIn E F w (bt+1) (a,n,c) R∧n=R.length∧n≤c:=by
 obtain⟨X,h1,h2,h3⟩:=h.rows
 obtain⟨a',g,c',hv,hle,-⟩:=h1.at'
 injection hv with e1 e2 e3
 subst e1 e2 e3
 exact⟨⟨X,h1.in' hle,h2,fun j x r hx hr=>(h3 j x r hx hr).1⟩,h2,hle⟩
theorem Chg.cellNe {w:World} {p q:Addr} {v u:Value} (hq:w.cell? q=some u) (hne:p≠q):(w.setCell p v).cell? q=some u:=by
 rw [World.cell?_setCell_other _ _ _ _ hne];exact hq
theorem TabSt.addRow {E:Elt (Int × Int)} {F:Elt (Int × Sl)} {bt:Nat} {w w1:World} {W:Int} {R:List RowD} {O:List Int} {v v' u:Value} (h:TabSt E F bt w W R O v u) {x:Int × Sl} {r:RowD} (hx:RowIn E w (bt+1) x r) (hxa:0<r.2.length→∀ g o,x.2.1=some ⟨g,o,none⟩→v.ownBlock≠some g∧u.ownBlock≠some g∧bt<g)
  (ho:∀ X,F.Own w (bt+1) v X→X.length=R.length→F.Own w1 (bt+1) v' (X++[x])) (hc:Chg (fun k=>v.ownBlock=some k) w w1) (hv:v'.ownBlock=v.ownBlock∨v'.ownBlock=some w.heap.size∨v'.ownBlock=some (w.heap.size+1)) :
  (w1.cell? ⟨bt,1,none⟩=some v∧w1.frozen? ⟨bt,1,none⟩=false)∧TabSt E F bt (w1.setCell ⟨bt,1,none⟩ v') W (R++[r]) O v' u∧Chg (fun k=>bt≤k) w (w1.setCell ⟨bt,1,none⟩ v'):=by
 obtain⟨X,h1,h2,h3⟩:=h.rows
 have hlt:=h.lt
 have hbl:∀ g,v.ownBlock=some g→bt+1≤g∧g<w.heap.size:=fun g hg=>h1.blk hg
 have hnb:¬ v.ownBlock=some bt:=fun e=>by have:=(hbl bt e).1;omega
 have c1:=hc.cellS h.c1 hnb
 have z1:=(hc.frozen (p:=⟨bt,1,none⟩) hlt hnb).trans h.z1
 have hs:=setCellChg w1 bt 1 v'
 have hgt:∀ g,g<w.heap.size→v.ownBlock≠some g→v'.ownBlock≠some g:=fun g hg hne e=>by
  rcases hv with hv|hv|hv
  ·rw [hv] at e;exact hne e
  ·rw [hv] at e;obtain rfl:=Option.some.inj e;omega
  ·rw [hv] at e;obtain rfl:=Option.some.inj e;omega
 have hcs:Chg (fun k=>v.ownBlock=some k∨k=bt) w (w1.setCell ⟨bt,1,none⟩ v'):=(hc.mono (fun k _ e=>.inl e)).trans (hs.mono (fun k _ e=>.inr e))
 have keep:∀ (y:Int × Sl) (q:RowD),RowIn E w (bt+1) y q→(0<q.2.length→∀ g o,y.2.1=some ⟨g,o,none⟩→v.ownBlock≠some g∧u.ownBlock≠some g∧bt<g) →
   RowIn E (w1.setCell ⟨bt,1,none⟩ v') (bt+1) y q∧(0<q.2.length→∀ g o,y.2.1=some ⟨g,o,none⟩→v'.ownBlock≠some g∧u.ownBlock≠some g∧bt<g):=fun y q hy hya=>by
  refine⟨hy.chg0 hcs (fun hp g o hg e=>?_),fun hp g o hg=>?_⟩
  ·obtain⟨k1,k2,k3⟩:=hya hp g o hg
   rcases e with e|e
   ·exact k1 e
   ·omega
  ·obtain⟨k1,k2,k3⟩:=hya hp g o hg
   obtain⟨_,_,g',o',k4,k5⟩:=hy.2.2
   have hlt:g<w.heap.size:=by
    have h6:=(k5 hp).1
    rw [hg] at h6
    injection h6 with h6
    injection h6 with h6
    subst h6
    exact k4.lt (by intro e;rw [e] at hp;simp at hp)
   exact⟨hgt g hlt k1,k2,k3⟩
 refine⟨⟨c1,z1⟩,⟨Chg.cellNe (hc.cellS h.c0 hnb) (by intro e;injection e with _ e;cases e),World.cell?_setCell_same _ _ _ c1,(World.frozen?_setCell _ _ _ _).trans z1,Chg.cellNe (hc.cellS h.c2 hnb) (by intro e;injection e with _ e;cases e),(World.frozen?_setCell _ _ _ _).trans ((hc.frozen (p:=⟨bt,2,none⟩) hlt hnb).trans h.z2),
  ⟨X++[x],(ho X h1 h2).chg hs (fun g hg _ e=>by omega),by simp [h2],fun j y q hy hq=>?_⟩,?_,fun g hg hu=>?_⟩,hcs.mono (fun k _ e=>by
   rcases e with e|e
   ·have:=(hbl k e).1;omega
   ·omega)⟩
 ·by_cases hj:j<X.length
  ·rw [List.getElem?_append_left hj] at hy
   rw [List.getElem?_append_left (by omega)] at hq
   exact keep y q (h3 j y q hy hq).1 (h3 j y q hy hq).2
  ·have hjl:=(List.getElem?_eq_some_iff.1 hy).1
   simp at hjl
   obtain rfl:j=X.length:=by omega
   rw [List.getElem?_append_right (Nat.le_refl _),Nat.sub_self] at hy
   rw [h2,List.getElem?_append_right (Nat.le_refl _),Nat.sub_self] at hq
   obtain rfl:=Option.some.inj hy
   obtain rfl:=Option.some.inj hq
   exact keep _ _ hx hxa
 ·refine (h.of.chgB hc (fun g hg e=>h.apart g e hg)).chg hs (fun g hg _ e=>by omega)
 ·have:=(h.of.blk hu)
  rcases hv with hv|hv|hv
  ·rw [hv] at hg;exact h.apart g hg hu
  ·rw [hv] at hg;obtain rfl:=Option.some.inj hg;omega
  ·rw [hv] at hg;obtain rfl:=Option.some.inj hg;omega
theorem TabSt.addOf {E:Elt (Int × Int)} {F:Elt (Int × Sl)} {bt:Nat} {w w1:World} {W:Int} {R:List RowD} {O:List Int} {v u u':Value} {i:Int} (h:TabSt E F bt w W R O v u)
  (ho:intE.Own w1 (bt+1) u' (O++[i])) (hc:Chg (fun k=>u.ownBlock=some k) w w1) (hu:u'.ownBlock=u.ownBlock∨u'.ownBlock=some w.heap.size∨u'.ownBlock=some (w.heap.size+1)) :
  (w1.cell? ⟨bt,2,none⟩=some u∧w1.frozen? ⟨bt,2,none⟩=false)∧TabSt E F bt (w1.setCell ⟨bt,2,none⟩ u') W R (O++[i]) v u'∧Chg (fun k=>bt≤k) w (w1.setCell ⟨bt,2,none⟩ u'):=by
 obtain⟨X,h1,h2,h3⟩:=h.rows
 have hlt:=h.lt
 have hbl:∀ g,u.ownBlock=some g→bt+1≤g∧g<w.heap.size:=fun g hg=>h.of.blk hg
 have hnb:¬ u.ownBlock=some bt:=fun e=>by have:=(hbl bt e).1;omega
 have c2:=hc.cellS h.c2 hnb
 have z2:=(hc.frozen (p:=⟨bt,2,none⟩) hlt hnb).trans h.z2
 have hs:=setCellChg w1 bt 2 u'
 have hgt:∀ g,g<w.heap.size→u.ownBlock≠some g→u'.ownBlock≠some g:=fun g hg hne e=>by
  rcases hu with hv|hv|hv
  ·rw [hv] at e;exact hne e
  ·rw [hv] at e;obtain rfl:=Option.some.inj e;omega
  ·rw [hv] at e;obtain rfl:=Option.some.inj e;omega
 have hcs:Chg (fun k=>u.ownBlock=some k∨k=bt) w (w1.setCell ⟨bt,2,none⟩ u'):=(hc.mono (fun k _ e=>.inl e)).trans (hs.mono (fun k _ e=>.inr e))
 refine⟨⟨c2,z2⟩,⟨Chg.cellNe (hc.cellS h.c0 hnb) (by intro e;injection e with _ e;cases e),Chg.cellNe (hc.cellS h.c1 hnb) (by intro e;injection e with _ e;cases e),(World.frozen?_setCell _ _ _ _).trans ((hc.frozen (p:=⟨bt,1,none⟩) hlt hnb).trans h.z1),World.cell?_setCell_same _ _ _ c2,(World.frozen?_setCell _ _ _ _).trans z2,
  ⟨X,(h1.chgB hc (fun g hg e=>h.apart g hg e)).chg hs (fun g hg _ e=>by omega),h2,fun j y q hy hq=>?_⟩,ho.chg hs (fun g hg _ e=>by omega),fun g hg hu'=>?_⟩,hcs.mono (fun k _ e=>by
   rcases e with e|e
   ·have:=(hbl k e).1;omega
   ·omega)⟩
 ·obtain⟨hy1,hya⟩:=h3 j y q hy hq
  refine⟨hy1.chg0 hcs (fun hp g o hg e=>?_),fun hp g o hg=>?_⟩
  ·obtain⟨k1,k2,k3⟩:=hya hp g o hg
   rcases e with e|e
   ·exact k2 e
   ·omega
  ·obtain⟨k1,k2,k3⟩:=hya hp g o hg
   obtain⟨_,_,g',o',k4,k5⟩:=hy1.2.2
   have hlt:g<w.heap.size:=by
    have h6:=(k5 hp).1
    rw [hg] at h6
    injection h6 with h6
    injection h6 with h6
    subst h6
    exact k4.lt (by intro e;rw [e] at hp;simp at hp)
   exact⟨k1,hgt g hlt k2,k3⟩
 ·exact hgt g (h1.blk hg).2 (fun e=>h.apart g hg e) hu'
theorem rowOwn_unique {w:World} {B:Nat} {v:Value} {X Y:List (Int × Sl)} (h:rowE.Own w B v X) (k:rowE.Own w B v Y):X=Y:=by
 have key:∀ (n:Nat) (X Y:List (Int × Sl)) (C D:List (Int × Sl)) (g:Nat),X.length=n→Y.length=n→rowE.Row w g C→rowE.Row w g D→X <+: C→Y <+: D→X=Y:=by
  intro n X Y C D g hX hY hC hD hXC hYD
  apply List.ext_getElem (by omega)
  intro i h1 h2
  have c:=(hC.at' hXC)
  have d:=(hD.at' hYD)
  have ex:X[i]?=some X[i]:=List.getElem?_eq_getElem h1
  have ey:Y[i]?=some Y[i]:=List.getElem?_eq_getElem h2
  have a0:=c.get ex (i:=0) (u:=.int .i64 X[i].1) rfl
  have b0:=d.get ey (i:=0) (u:=.int .i64 Y[i].1) rfl
  have a1:=c.get ex (i:=1) (u:=slV X[i].2) rfl
  have b1:=d.get ey (i:=1) (u:=slV Y[i].2) rfl
  rw [a0] at b0
  rw [a1] at b1
  injection b0 with b0
  injection b0 with _ b0
  injection b1 with b1
  unfold slV at b1
  injection b1 with e1 e2 e3
  exact Prod.ext b0 (Prod.ext e1 (Prod.ext e2 e3))
 rcases h with ⟨rfl,rfl⟩|⟨g,C,rfl,_,hC,hp,_⟩
 ·rcases k with ⟨_,rfl⟩|⟨g,D,e,_⟩
  ·rfl
  ·cases e
 ·rcases k with ⟨e,_⟩|⟨g',D,e,_,hD,hq,_⟩
  ·cases e
  ·injection e with e1 e2 e3
   injection e1 with e1
   injection e1 with e1
   subst e1
   exact key X.length X Y C D _ rfl e2.symm hC hD hp hq
theorem add_any (bt:Nat) (W:Int) (R:List RowD) (O:List Int) (v u:Value) (d:Int) (L:List (Int × Int)) (ax:Option Addr) (cx:Nat) (w:World) (h:TabSt cellE rowE bt w W R O v u) (hx:RowIn cellE w (bt+1) (d,ax,L.length,cx) (d,L)) (hxa:0<L.length→∀ g o,ax=some ⟨g,o,none⟩→v.ownBlock≠some g∧u.ownBlock≠some g∧bt<g)
  (hRl:R.length≤1000000) (hOl:O.length≤1000000) (hl:L.length≤1000000000) :
  Calls Tryz.prog 155 #[.pointer (some ⟨bt,0,none⟩),.agg #[.int .i64 d,.slice ax L.length cx]] w fun e w'=>∃ v' u',e=.returned (.tuple #[])∧TabSt cellE rowE bt w' W (addL (R,O) (d,L)).1 (addL (R,O) (d,L)).2 v' u'∧Chg (fun k=>bt≤k) w w':=by
 have HT:=jh h
 have HX:=jh hx
 have HXA:=jh hxa
 obtain⟨va,vn,vc,rfl⟩:∃ a n c,v=.slice a n c:=by obtain⟨X,h1,_⟩:=h.rows;exact h1.shape3
 obtain⟨ua,un,uc,rfl⟩:=h.of.shape3
 obtain⟨hri,rfl,hle⟩:=h.rowsIn
 have HRI:=jh hri
 obtain⟨wa,hwa⟩:∃ wa,wa=w.alloc (.cells #[.int .i64 d,.slice ax L.length cx] 241):=⟨_,rfl⟩
 have HWA:Hid (Chg (fun _=>False) w wa):=jh (by rw [hwa];exact (Chg.refl _ _).alloc _)
 have HBX:Hid (∀ wx,Chg (fun _=>False) wa wx→wx.cell? ⟨w.heap.size,0,none⟩=some (.int .i64 d)∧wx.cell? ⟨w.heap.size,1,none⟩=some (.slice ax L.length cx)):=jh (fun wx hx=>by subst hwa;exact⟨hx.cellS (by simp) (fun h=>h),hx.cellS (by simp) (fun h=>h)⟩)
 have HWE:=jh hwa
 have HTA:=jh (HT.out.same HWA.out)
 have hbt:=h.lt
 clear h hx hxa hri hwa
 rcases idx_cases (rowEq (d,L)) R with ⟨k,x,h1,-,h3,-,h5⟩|⟨h3,-,h5⟩
 ·have HI:=jh h3
  have hkR:=(List.getElem?_eq_some_iff.1 h1).1
  have HAL:Hid (addL (R,O) (d,L)=(R,O++[(k:Int)])):=jh (by unfold addL;rw [show hasRow (d,L) (R,O).1=true from h5,if_pos rfl];rw [show idxV (rowEq (d,L)) (R,O).1=(k:Int) from h3])
  clear h1 h3 h5
  go_enter Tryz.func155,Tryz.ntmps155
  go_upto_region 1 with (fail)
  rw [← HWE.out]
  refine wp_region_same (fun w'=>Chg (fun _=>False) wa w') (by kernel_rfl) (by kernel_rfl) ?_ ?_
  ·exact (Chg.refl _ _).drew
  (refine rdC fun K hK=>?_;apply ei;intro _ w' _ hC;(go_simp;try with_reducible rfl);(try go_simp);refine hK _ ?_;clear hK K)
  (refine rdC fun K hK=>?_;apply ei;intro _ w' _ hC;(go_simp;try with_reducible rfl);(try go_simp);refine hK _ ?_;clear hK K)
  (refine rdC fun K hK=>?_;apply ei;intro _ w' _ hC;(go_simp;try with_reducible rfl);(try go_simp);refine hK _ ?_;clear hK K)
  (refine rdC fun K hK=>?_;apply ei;intro _ w' _ hC;((have q:=hC.cellS HTA.out.c1 (fun h=>h));go_simp;try with_reducible rfl);(try go_simp);refine hK _ ?_;clear hK K)
  (refine rdC fun K hK=>?_;apply ei;intro _ w' _ hC;((obtain⟨q0,q1⟩:=HBX.out w' hC);go_simp;try with_reducible rfl);(try go_simp);refine hK _ ?_;clear hK K)
  (refine rdC fun K hK=>?_;apply ei;intro _ w' _ hC;(go_simp;try with_reducible rfl);(try go_simp);refine hK _ ?_;clear hK K)
  refine wpC_call rfl (Value.int .i64 (k:Int) )  178  ( #[.slice va R.length vc,.func (.func 179) #[.agg #[.int .i64 d,.slice ax L.length cx]] #[]]) (fun w'=>by go_simp) (fun _ w' _ hC=>?_) (fun K hK=>?_)
  ·refine (indexRow_any R va vc (bt+1) (bt+1) d L ax cx w' (HRI.out.same (HWA.out.trans hC)) (HX.out.2.2.same (HWA.out.trans hC)) (by omega) hl).mono ?_
   rintro e w2 ⟨rfl,hc2⟩
   exact⟨by rw [HI.out],hC.trans hc2⟩
  ((try go_simp);refine hK _ ?_;clear hK K)
  (refine rdC fun K hK=>?_;apply ei;intro _ w' _ hC;(go_simp;try with_reducible rfl);(try go_simp);refine hK _ ?_;clear hK K)
  refine wpC_nil ?_
  intro w2 hC2
  have HC2:=jh hC2
  have HT2:=jh (HTA.out.same hC2)
  have c2:=HT2.out.c2
  have c1:=HT2.out.c1
  obtain⟨x0,x1⟩:=HBX.out w2 hC2
  clear hC2
  have HTL:=jh (HT2.out.same ((Chg.refl (fun _=>False) w2).alloc (.cells #[.int .i64 k] 3)))
  have HBS:Hid (bt+1≤(w2.alloc (.cells #[.int .i64 k] 3)).heap.size):=jh HTL.out.lt
  have HOK:Hid (∀ x∈[(k:Int)],intE.ok x):=jh (by intro x hx;rw [List.mem_singleton] at hx;subst hx;exact⟨by omega,by omega⟩)
  have HOL:Hid (O.length+1≤1000000000000):=jh (by omega)
  go_wp2_with (at_builtin;refine Elt.wpList_append2 intE rfl (.tmp 33) (.tmp 35) 25 25 rfl rfl (bt+1) (.slice ua un uc) O [(k:Int)] (.slice (some ⟨w2.heap.size,0,none⟩) 1 1) rfl rfl HTL.out.of HBS.out (intE.srcLit 1 HOK.out) HOK.out HOL.out ?_;intro u' w3 H1 H2 H3;obtain⟨ua',ul',uc',hu'⟩:=H1.out.shape3;subst hu';obtain⟨⟨k1,k2⟩,hf1,hf2⟩:=HTL.out.addOf H1.out H3.out.1 (H3.out.2.imp id Or.inl);have HFF:=jh hf1;have HCF:=jh ((HWA.out.trans HC2.out).any.trans (((Chg.refl (fun k=>bt≤k) w2).alloc _).trans hf2));clear hf1 hf2)
  go_end0
  exact⟨_,_,rfl,by rw [HAL.out];exact HFF.out,HCF.out⟩
 ·have HI:=jh h3
  have HAL:Hid (addL (R,O) (d,L)=(R++[(d,L)],O++[(R.length:Int)])):=jh (by unfold addL;rw [show hasRow (d,L) (R,O).1=false from h5];rfl)
  clear h3 h5
  go_enter Tryz.func155,Tryz.ntmps155
  go_upto_region 1 with (fail)
  rw [← HWE.out]
  refine wp_region_same (fun w'=>Chg (fun _=>False) wa w') (by kernel_rfl) (by kernel_rfl) ?_ ?_
  ·exact (Chg.refl _ _).drew
  (refine rdC fun K hK=>?_;apply ei;intro _ w' _ hC;(go_simp;try with_reducible rfl);(try go_simp);refine hK _ ?_;clear hK K)
  (refine rdC fun K hK=>?_;apply ei;intro _ w' _ hC;(go_simp;try with_reducible rfl);(try go_simp);refine hK _ ?_;clear hK K)
  (refine rdC fun K hK=>?_;apply ei;intro _ w' _ hC;(go_simp;try with_reducible rfl);(try go_simp);refine hK _ ?_;clear hK K)
  (refine rdC fun K hK=>?_;apply ei;intro _ w' _ hC;((have q:=hC.cellS HTA.out.c1 (fun h=>h));go_simp;try with_reducible rfl);(try go_simp);refine hK _ ?_;clear hK K)
  (refine rdC fun K hK=>?_;apply ei;intro _ w' _ hC;((obtain⟨q0,q1⟩:=HBX.out w' hC);go_simp;try with_reducible rfl);(try go_simp);refine hK _ ?_;clear hK K)
  (refine rdC fun K hK=>?_;apply ei;intro _ w' _ hC;(go_simp;try with_reducible rfl);(try go_simp);refine hK _ ?_;clear hK K)
  refine wpC_call rfl (Value.int .i64 (-1) )  178  ( #[.slice va R.length vc,.func (.func 179) #[.agg #[.int .i64 d,.slice ax L.length cx]] #[]]) (fun w'=>by go_simp) (fun _ w' _ hC=>?_) (fun K hK=>?_)
  ·refine (indexRow_any R va vc (bt+1) (bt+1) d L ax cx w' (HRI.out.same (HWA.out.trans hC)) (HX.out.2.2.same (HWA.out.trans hC)) (by omega) hl).mono ?_
   rintro e w2 ⟨rfl,hc2⟩
   exact⟨by rw [HI.out],hC.trans hc2⟩
  ((try go_simp);refine hK _ ?_;clear hK K)
  (refine rdC fun K hK=>?_;apply ei;intro _ w' _ hC;(go_simp;try with_reducible rfl);(try go_simp);refine hK _ ?_;clear hK K)
  refine wpC_nil ?_
  intro w2 hC2
  have HC2:=jh hC2
  have HT2:=jh (HTA.out.same hC2)
  have c2:=HT2.out.c2
  have c1:=HT2.out.c1
  obtain⟨x0,x1⟩:=HBX.out w2 hC2
  clear hC2
  go_upto_region 4 with (fail)
  obtain⟨we,hwe⟩:∃ we,we=w2.drew:=⟨_,rfl⟩
  have HWE2:Hid (w2.drew=we):=jh hwe.symm
  have HWF:Hid (Chg (fun _=>False) w2 we):=jh (by rw [hwe];exact (Chg.refl _ _).drew)
  have HTE:=jh (HT2.out.same HWF.out)
  have HVB:Hid (∀ g,(Value.slice va R.length vc).ownBlock=some g→bt+1≤g∧g<w.heap.size):=jh (fun g hg=>by obtain⟨X,h1,_⟩:=HT.out.rows;exact h1.blk hg)
  have HXE:=jh (HWF.out.cellS x0 (fun h=>h))
  have HXF:=jh (HWF.out.cellS x1 (fun h=>h))
  clear hwe c1 c2 x0 x1
  refine wp_region_late (fun x=>Chg (fun j=>(Value.slice va R.length vc).ownBlock=some j) we x) (fun i=>decide (i=10)) (by kernel_rfl) ?_
  show wpAnyL _ _ _ _ _ _ 11 (Array.replicate 11 false) _ w2.drew
  rw [HWE2.out]
  have HSS:Hid (Chg (fun j=>(Value.slice va R.length vc).ownBlock=some j) we we):=jh (Chg.refl _ _)
  have HN1:Hid (¬ (Value.slice va R.length vc).ownBlock=some bt):=jh (fun e=>by have:=(HVB.out _ e).1;omega)
  have HN2:Hid (¬ (Value.slice va R.length vc).ownBlock=some w.heap.size):=jh (fun e=>by have:=(HVB.out _ e).2;omega)
  (refine lrd 0 HSS.out fun K hK=>?_;apply ei;intro w' hC;(go_simp;try with_reducible rfl);(try go_simp);refine hK _ ?_;clear hK K)
  (refine lrd 1 HSS.out fun K hK=>?_;apply ei;intro w' hC;(go_simp;try with_reducible rfl);(try go_simp);refine hK _ ?_;clear hK K)
  (refine lrd 2 HSS.out fun K hK=>?_;apply ei;intro w' hC;(go_simp;try with_reducible rfl);(try go_simp);refine hK _ ?_;clear hK K)
  (refine lrd 3 HSS.out fun K hK=>?_;apply ei;intro w' hC;(go_simp;try with_reducible rfl);(try go_simp);refine hK _ ?_;clear hK K)
  (refine lrd 4 HSS.out fun K hK=>?_;apply ei;intro w' hC;((have q:=hC.cellS HTE.out.c1 HN1.out);go_simp;try with_reducible rfl);(try go_simp);refine hK _ ?_;clear hK K)
  (refine lrd 5 HSS.out fun K hK=>?_;apply ei;intro w' hC;((have q0:=hC.cellS HXE.out HN2.out;have q1:=hC.cellS HXF.out HN2.out);go_simp;try with_reducible rfl);(try go_simp);refine hK _ ?_;clear hK K)
  (refine late_turn (i:=6) (by kernel_rfl) rfl rfl fun K hK=>?_;apply Exists.intro;apply Exists.intro;refine⟨?_,?_,?_⟩;(go_simp;try first|with_reducible rfl|exact⟨rfl,rfl⟩);(exact fun _=>HSS.out.alloc _);(try go_simp);refine hK _ _ ?_;clear hK K)
  have HTEA:=jh (HTE.out.same ((Chg.refl (fun _=>False) we).alloc (.cells #[.int .i64 d,.slice ax L.length cx] 241)))
  have HXEA:=jh (HX.out.same ((HWA.out.trans HC2.out).trans (HWF.out.trans ((Chg.refl (fun _=>False) we).alloc (.cells #[.int .i64 d,.slice ax L.length cx] 241)))))
  refine late_append (i:=7) (by kernel_rfl) rfl rfl (.tmp 23) (.tmp 25) 199 199 rfl (.slice va R.length vc) (.slice (some ⟨we.heap.size,0,none⟩) 1 1) rfl rfl (fun v' w1=>(∀ X,rowE.Own (we.alloc (.cells #[.int .i64 d,.slice ax L.length cx] 241)) (bt+1) (.slice va R.length vc) X→X.length=R.length→rowE.Own w1 (bt+1) v' (X++[(d,ax,L.length,cx)]))∧Chg (fun k=>(Value.slice va R.length vc).ownBlock=some k) (we.alloc (.cells #[.int .i64 d,.slice ax L.length cx] 241)) w1∧(v'.ownBlock=(Value.slice va R.length vc).ownBlock∨v'.ownBlock=some (we.alloc (.cells #[.int .i64 d,.slice ax L.length cx] 241)).heap.size)∧∃ a n c,v'=.slice a n c) ?_ ?_
  ·obtain⟨X,hX,hXl,-⟩:=HTEA.out.rows
   have hok:∀ y∈[(d,ax,L.length,cx)],rowE.ok y:=by intro y hy;rw [List.mem_singleton] at hy;subst hy;exact HX.out.2.1
   obtain⟨v',w1,hrun,h1,h2,⟨h3,h4⟩,-⟩:=hX.append (by have:=HTEA.out.lt;omega) 199 (.slice (some ⟨we.heap.size,0,none⟩) 1 1) [(d,ax,L.length,cx)] (rowE.srcLit 1 hok) hok (by simp;omega) 199
   rw [hXl] at *
   refine⟨v',w1,hrun,fun _=>(HSS.out.alloc _).trans h3,fun X' hX' hXl'=>?_,h3,h4,h1.shape3⟩
   have:X'=X:=rowOwn_unique hX' hX
   rw [this];exact h1
  rintro v' w1 hs ⟨h1,h2,h3,va',vn',vc',rfl⟩ K hK
  obtain⟨⟨k1,k2⟩,hf1,hf2⟩:=HTEA.out.addRow HXEA.out HXA.out h1 h2 (h3.imp id Or.inl)
  have HFT:=jh hf1
  have HFC:=jh (((HWA.out.trans (HC2.out.trans HWF.out)).any (S:=fun k=>bt≤k)).trans (((Chg.refl _ we).alloc _).trans hf2))
  have HSL:=jh (hs (by decide))
  clear hf1 hf2 h1 h2 h3 hs
  (try go_simp)
  refine hK _ ?_
  clear hK K
  (refine late_turn (i:=8) (by kernel_rfl) rfl rfl fun K hK=>?_;apply Exists.intro;apply Exists.intro;refine⟨?_,?_,?_⟩;(go_simp;try first|with_reducible rfl|exact⟨rfl,rfl⟩);(exact fun _=>HSL.out);(try go_simp);refine hK _ _ ?_;clear hK K)
  (refine late_turn (i:=9) (by kernel_rfl) rfl rfl fun K hK=>?_;apply Exists.intro;apply Exists.intro;refine⟨?_,?_,?_⟩;(go_simp;try first|with_reducible rfl|exact⟨rfl,rfl⟩);(exact fun _=>HSL.out);(try go_simp);refine hK _ _ ?_;clear hK K)
  (refine late_store (i:=10) (by kernel_rfl) rfl rfl fun K hK=>?_;apply Exists.intro;refine⟨?_,(fun h=>absurd h (by decide)),?_⟩;(go_simp;try first|with_reducible rfl|exact⟨rfl,rfl⟩);(try go_simp);refine hK _ _ ?_;clear hK K)
  refine late_done (by kernel_rfl) ?_ _
  clear k1 k2
  obtain⟨wf,hwf⟩:∃ wf,wf=w1.setCell ⟨bt,1,none⟩ (.slice va' vn' vc'):=⟨_,rfl⟩
  rw [← hwf] at HFT HFC ⊢
  have c2:=HFT.out.c2
  clear hwf
  have HTL:=jh (HFT.out.same ((Chg.refl (fun _=>False) wf).alloc (.cells #[.int .i64 R.length] 3)))
  have HBS:Hid (bt+1≤(wf.alloc (.cells #[.int .i64 R.length] 3)).heap.size):=jh HTL.out.lt
  have HOK:Hid (∀ x∈[(R.length:Int)],intE.ok x):=jh (by intro x hx;rw [List.mem_singleton] at hx;subst hx;exact⟨by omega,by omega⟩)
  have HOL:Hid (O.length+1≤1000000000000):=jh (by omega)
  go_wp2_with (at_builtin;refine Elt.wpList_append2 intE rfl (.tmp 33) (.tmp 35) 25 25 rfl rfl (bt+1) (.slice ua un uc) O [(R.length:Int)] (.slice (some ⟨wf.heap.size,0,none⟩) 1 1) rfl rfl HTL.out.of HBS.out (intE.srcLit 1 HOK.out) HOK.out HOL.out ?_;intro u' w3 H1 H2 H3;obtain⟨ua',ul',uc',hu'⟩:=H1.out.shape3;subst hu';obtain⟨⟨k1,k2⟩,hf1,hf2⟩:=HTL.out.addOf H1.out H3.out.1 (H3.out.2.imp id Or.inl);have HFF:=jh hf1;have HCF:=jh (HFC.out.trans (((Chg.refl (fun k=>bt≤k) wf).alloc _).trans hf2));clear hf1 hf2)
  go_end0
  exact⟨_,_,rfl,by rw [HAL.out];exact HFF.out,HCF.out⟩
end Go.Proofs.YtgnpmceimpjheaaGreat
namespace Go.Proofs.YtgnpmceimpjheaaGreat
open Go.RowKit
def makeL (LL:List (List Int)):List RowD × List Int:=LL.foldl (fun t l=>addL t (rowL l)) ([],[])
theorem makeL_snoc (LL:List (List Int)) (l:List Int):makeL (LL++[l])=addL (makeL LL) (rowL l):=by simp [makeL,List.foldl_append]
def listOk (W:Int) (l:List Int):Bool:=!noValB l && decide ((l.length:Int)=W)
def makeOk (W:Int) (LL:List (List Int)):Bool:=LL.all (listOk W)
theorem addL_len (t:List RowD × List Int) (r:RowD):(addL t r).1.length≤t.1.length+1∧(addL t r).2.length=t.2.length+1:=by
 unfold addL
 split <;> simp
theorem makeL_len (LL:List (List Int)):(makeL LL).1.length≤LL.length∧(makeL LL).2.length=LL.length:=by
 have key:∀ (LL:List (List Int)) (t:List RowD × List Int),(LL.foldl (fun t l=>addL t (rowL l)) t).1.length≤t.1.length+LL.length∧(LL.foldl (fun t l=>addL t (rowL l)) t).2.length=t.2.length+LL.length:=by
  intro LL
  induction LL with
  | nil=>intro t;simp
  | cons l LL ih =>
   intro t
   have h1:=ih (addL t (rowL l))
   have h2:=addL_len t (rowL l)
   simp only [List.foldl_cons,List.length_cons]
   omega
 have:=key LL ([],[])
 simpa [makeL] using this
def ListsIn (w:World) (B:Nat) (s:Sl) (LL:List (List Int)):Prop:=∃ X:List Sl,listE.In w B s X∧X.length=LL.length∧∀ (j:Nat) x l,X[j]?=some x→LL[j]?=some l→intE.In w B x l
theorem ListsIn.same {w w':World} {B:Nat} {s:Sl} {LL:List (List Int)} (h:ListsIn w B s LL) (hc:Chg (fun _=>False) w w'):ListsIn w' B s LL:=by
 obtain⟨X,h1,h2,h3⟩:=h
 exact⟨X,h1.same hc,h2,fun j x r hx hr=>(h3 j x r hx hr).same hc⟩
theorem ListsIn.get {w:World} {B:Nat} {a:Option Addr} {n c:Nat} {LL:List (List Int)} (h:ListsIn w B (a,n,c) LL) {k:Nat} (hk:k<LL.length) :
  ∃ (l:List Int) (g o:Nat) (la:Option Addr) (lc gl ol:Nat),LL[k]?=some l∧a=some ⟨g,o,none⟩∧w.cell? ⟨g,o+k,none⟩=some (.slice la l.length lc)∧l.length≤lc∧I.BytesAt w gl ol l∧(0<l.length→la=some ⟨gl,ol,none⟩∧B≤gl)∧g<w.heap.size∧B≤g:=by
 obtain⟨X,⟨h1,h2,g,o,h3,h4⟩,h5,h6⟩:=h
 have hx:X[k]?=some X[k]:=List.getElem?_eq_getElem (by omega)
 have hl:LL[k]?=some LL[k]:=List.getElem?_eq_getElem hk
 obtain⟨k1,k2,gl,ol,k3,k4⟩:=h6 k _ _ hx hl
 have hc:=h3.get hx (i:=0) (u:=slV X[k]) rfl
 rw [Nat.add_zero,show listE.sz=1 from rfl,Nat.mul_one] at hc
 obtain⟨h4,h7⟩:=h4 (by omega)
 refine⟨LL[k],g,o,X[k].1,X[k].2.2,gl,ol,hl,h4,?_,by omega,intAt.1 k3,k4,h3.lt (by intro e;rw [e] at h5;simp at h5;omega),h7⟩
 rw [hc,← k1]
 rfl
theorem ListsIn.len {w:World} {B:Nat} {a:Option Addr} {n c:Nat} {LL:List (List Int)} (h:ListsIn w B (a,n,c) LL):n=LL.length∧n≤c:=by
 obtain⟨X,⟨h1,h2,_⟩,h5,_⟩:=h
 exact⟨by rw [← h5];exact h1,h2⟩
def OfIn (w:World) (B:Nat) (a:Option Addr) (O:List Int):Prop:=(O=[]∧a=none)∨∃ g,a=some ⟨g,0,none⟩∧I.Row w g O∧B≤g
def tabV (W:Int) (ra:Option Addr) (rn rc:Nat) (oa:Option Addr) (on oc:Nat) (e:Int):Value:=.tuple #[.agg #[.int .i64 W,.slice ra rn rc,.slice oa on oc],.int .i64 e]
theorem RowsIn.lower {E:Elt (Int × Int)} {F:Elt (Int × Sl)} {w:World} {B B':Nat} {s:Sl} {R:List RowD} (h:RowsIn E F w B s R) (hB:B'≤B):RowsIn E F w B' s R:=by
 obtain⟨X,h1,h2,h3⟩:=h
 exact⟨X,h1.lower hB,h2,fun j x r hx hr=>⟨(h3 j x r hx hr).1,(h3 j x r hx hr).2.1,(h3 j x r hx hr).2.2.lower hB⟩⟩
theorem OfIn.lower {w:World} {B B':Nat} {a:Option Addr} {O:List Int} (h:OfIn w B a O) (hB:B'≤B):OfIn w B' a O:=by
 rcases h with h|⟨g,h1,h2,h3⟩
 ·exact .inl h
 ·exact .inr ⟨g,h1,h2,by omega⟩
theorem TabSt.final {E:Elt (Int × Int)} {F:Elt (Int × Sl)} {bt:Nat} {w w':World} {W:Int} {R:List RowD} {O:List Int} {a ua:Option Addr} {n c m uc:Nat} (h:TabSt E F bt w W R O (.slice a n c) (.slice ua m uc)) (hc:Chg (fun k=>k≤bt) w w') :
  RowsIn E F w' (bt+1) (a,n,n) R∧OfIn w' (bt+1) ua O∧n=R.length∧m=O.length∧n≤c∧m≤uc:=by
 obtain⟨X,h1,h2,h3⟩:=h.rows
 have h1':=h1.chg hc (fun g hg _ e=>by omega)
 obtain⟨a',g,c',hv,hle,-⟩:=h1.at'
 injection hv with e1 e2 e3
 subst e1 e2 e3
 refine⟨⟨X,h1'.in' (Nat.le_refl _),h2,fun j x r hx hr=>(h3 j x r hx hr).1.chg0 hc (fun hp g o hg e=>by have:=((h3 j x r hx hr).2 hp g o hg).2.2;omega)⟩,?_,h2,?_,hle,?_⟩
 ·rcases h.of with ⟨e,rfl⟩|⟨g,C,e,hB,hR,hp,_⟩
  ·injection e with e1 e2 e3
   exact .inl ⟨rfl,e1⟩
  ·injection e with e1 e2 e3
   have hr2:=(hR.chg hc (show ¬ g≤bt by omega))
   refine .inr ⟨g,e1,intRow.1 ⟨fun k u hk=>?_,hr2.z,hr2.lt,fun x hx=>hr2.ok x (hp.subset hx)⟩,hB⟩
   have:=(hr2.at' hp).c k u hk
   rwa [Nat.zero_add] at this
 ·rcases h.of with ⟨e,rfl⟩|⟨g,C,e,hB,hR,hp,_⟩
  ·injection e
  ·injection e
 ·rcases h.of with ⟨e,rfl⟩|⟨g,C,e,hB,hR,hp,_⟩
  ·injection e with e1 e2 e3
   subst e2 e3
   exact Nat.le_refl _
  ·injection e with e1 e2 e3
   subst e2 e3
   exact hp.length_le
theorem usualL_int (l:List Int) (h:∀ n∈l,I.Byte n):I.Byte (usualL l):=by
 rcases usual_usualL l with ⟨_,h2⟩|⟨h1,_⟩
 ·rw [h2];exact⟨by omega,by omega⟩
 ·exact h _ h1
def MakePost (w:World) (W:Int) (LL:List (List Int)) (e:Ending) (w':World):Prop :=
 (makeOk W LL=false∧e=.returned (tabV 0 none 0 0 none 0 0 1)∧Chg (fun _=>False) w w') ∨
 (makeOk W LL=true∧∃ ra oa,e=.returned (tabV W ra (makeL LL).1.length (makeL LL).1.length oa (makeL LL).2.length (makeL LL).2.length 0)∧RowsIn cellE rowE w' w.heap.size (ra,(makeL LL).1.length,(makeL LL).1.length) (makeL LL).1∧OfIn w' w.heap.size oa (makeL LL).2∧Chg (fun _=>False) w w')
theorem make_any (W:Int) (LL:List (List Int)) (a:Option Addr) (c B:Nat) (w:World) (h:ListsIn w B (a,LL.length,c) LL) (h0:0≤W) (h1:W≤65536) (hn:LL.length≤65536) (hl:∀ l∈LL,l.length≤65536) :
  Calls Tryz.prog 116 #[.int .i64 W,.slice a LL.length c] w (MakePost w W LL):=by
 have HL:=jh h
 have HLL:=jh hl
 have d1:decide (W<0)=false:=by simp;omega
 have d2:decide (65536<W)=false:=by simp;omega
 have HC0:=jh ((Chg.refl (fun k=>w.heap.size≤k) w).alloc (.cells #[.int .i64 0,.slice none 0 0,.slice none 0 0] 201))
 have HR0:Hid (∀ wr,Chg (fun k=>w.heap.size+1≤k) (w.alloc (.cells #[.int .i64 0,.slice none 0 0,.slice none 0 0] 201)) wr→(wr.cell? ⟨w.heap.size,0,none⟩=some (.int .i64 0)∧wr.cell? ⟨w.heap.size,1,none⟩=some (.slice none 0 0)∧wr.cell? ⟨w.heap.size,2,none⟩=some (.slice none 0 0))∧∀ j,wr.frozen? ⟨w.heap.size,j,none⟩=false):=jh fun wr hc =>
  ⟨⟨hc.cellS (by simp) (by show ¬ w.heap.size+1≤w.heap.size;omega),hc.cellS (by simp) (by show ¬ w.heap.size+1≤w.heap.size;omega),hc.cellS (by simp) (by show ¬ w.heap.size+1≤w.heap.size;omega)⟩,fun j=>(hc.frozen (p:=⟨w.heap.size,j,none⟩) (by simp) (by show ¬ w.heap.size+1≤w.heap.size;omega)).trans (World.frozen?_alloc_new _ _ _ _)⟩
 obtain⟨w1,hw1⟩:∃ w1,w1=w.alloc (.cells #[.int .i64 0,.slice none 0 0,.slice none 0 0] 201):=⟨_,rfl⟩
 have hs1:w1.heap.size=w.heap.size+1:=by rw [hw1];simp
 have HT0:Hid (TabSt cellE rowE (w.heap.size+1) (w1.alloc (.cells #[.int .i64 W,.slice none 0 0,.slice none 0 0] 201)) W [] [] (.slice none 0 0) (.slice none 0 0)):=jh (by
  rw [← hs1]
  exact⟨by rw [World.cell?_alloc_new];rfl,by rw [World.cell?_alloc_new];rfl,World.frozen?_alloc_new _ _ _ _,by rw [World.cell?_alloc_new];rfl,World.frozen?_alloc_new _ _ _ _,⟨[],.nil _ _,rfl,fun j x r hx=>by simp at hx⟩,.nil _ _,fun g hg=>by cases hg⟩)
 have HC1:Hid (Chg (fun k=>w.heap.size+1≤k) w1 (w1.alloc (.cells #[.int .i64 W,.slice none 0 0,.slice none 0 0] 201))):=jh ((Chg.refl _ _).alloc _)
 rw [← hw1] at HC0 HR0
 have HW1:=jh hw1
 clear h hl hw1 hs1
 go_enter Tryz.func116,Tryz.ntmps116
 go_wp2
 rw [← HW1.out]
 go_loopw [27] (fun q wr=>∃ (k:Nat) (v u:Value),k≤LL.length∧q=.int .i64 k∧makeOk W (LL.take k)=true∧TabSt cellE rowE (w.heap.size+1) wr W (makeL (LL.take k)).1 (makeL (LL.take k)).2 v u∧Chg (fun k=>w.heap.size+1≤k) w1 wr) (fun q _=>LL.length-(intOf q).toNat)
 case atStart=>exact⟨0,_,_,by omega,rfl,rfl,HT0.out,HC1.out⟩
 case round =>
  clear HT0 HC1
  obtain⟨k,v,u,hk,rfl,hok,ht,hc⟩:=hrel
  have HOK:=jh hok
  have HT:=jh ht
  have HC:=jh hc
  have HCW:=jh ((HC0.out.trans (hc.mono (T:=fun k=>w.heap.size≤k) (fun k _ e=>by omega))).fresh)
  obtain⟨⟨r0,r1,r2⟩,hz⟩:=HR0.out wr hc
  have HR:=jh (And.intro (And.intro r0 (And.intro r1 r2)) hz)
  clear hok ht hc r0 r1 r2 hz
  by_cases hkl:k<LL.length
  ·have b28:decide ((k:Int)<(LL.length:Int))=true:=by simp;omega
   obtain⟨l,g,o,la,lc,gl,ol,hlk,rfl,c0,hlc,hla,hlp,-,-⟩:=(HL.out.same HCW.out).get hkl
   have HLK:=jh hlk
   have HLA:=jh hla
   have HLP:Hid (0<l.length→la=some ⟨gl,ol,none⟩):=jh (fun h=>(hlp h).1)
   have hl6:=HLL.out l (List.mem_of_getElem? hlk)
   have HTK:Hid (LL.take (k+1)=LL.take k++[l]):=jh (by rw [List.take_add_one,hlk];rfl)
   have HBADP:Hid (listOk W l=false→makeOk W LL=false):=jh (fun h=>by
    unfold makeOk
    rw [List.all_eq_false]
    exact⟨l,List.mem_of_getElem? HLK.out,by simp [h]⟩)
   clear hlk hla hlp
   by_cases hnv:noValB l=true
   ·have HMB:=jh (HBADP.out (by unfold listOk;rw [hnv];rfl))
    go_wp2_with fail
    refine (of_bad l la gl ol lc wr HLA.out HLP.out hl6 hnv).mono ?_
    rintro e w2 ⟨rfl,hc2⟩
    unfold ofV slV
    obtain⟨⟨r0,r1,r2⟩,-⟩:=HR0.out w2 (HC.out.trans hc2.any)
    obtain⟨-,hz⟩:=HR0.out w2 (HC.out.trans hc2.any)
    have z0:=hz 0
    have z1:=hz 1
    have z2:=hz 2
    have HC2:=jh (HCW.out.trans hc2)
    have hlt:w.heap.size<w2.heap.size:=World.block_lt_of_cell? _ _ r0
    clear hc2 hz c0
    go_wp2
    obtain⟨f0,f1,f2,f3⟩:=store3 (.int .i64 0) (.slice none 0 0) (.slice none 0 0) r0 r1 r2
    have f0:=((Chg.refl (fun _=>False) _).alloc (.cells #[.int .i64 0,.slice none 0 0] 241)).cellS f0 (fun h=>h)
    have f1:=((Chg.refl (fun _=>False) _).alloc (.cells #[.int .i64 0,.slice none 0 0] 241)).cellS f1 (fun h=>h)
    have f2:=((Chg.refl (fun _=>False) _).alloc (.cells #[.int .i64 0,.slice none 0 0] 241)).cellS f2 (fun h=>h)
    have h4:=(((HC2.out.any (S:=fun k=>w.heap.size≤k)).trans (f3.mono (fun k _ e=>by omega))).alloc (.cells #[.int .i64 0,.slice none 0 0] 241)).fresh
    clear f3
    generalize ((((w2.setCell ⟨w.heap.size,0,none⟩ (.int .i64 0)).setCell ⟨w.heap.size,1,none⟩ (.slice none 0 0)).setCell ⟨w.heap.size,2,none⟩ (.slice none 0 0)).alloc (.cells #[.int .i64 0,.slice none 0 0] 241))=WW at *
    exact bodyPost_ret (v:=.tuple #[.agg #[.int .i64 0,.slice none 0 0,.slice none 0 0],.int .i64 1]) (by simp [results,Tryz.results116,go_sem,f0,f1,f2]) rfl (.inl ⟨HMB.out,rfl,h4⟩)
   ·have hnv:noValB l=false:=by simpa using hnv
    go_wp2_with fail
    refine (of_ok l la gl ol lc wr HLA.out HLP.out hl6 hnv).mono ?_
    rintro e w2 ⟨⟨sa,sn,sc⟩,rfl,hin,hc2⟩
    obtain rfl:sn=(cellsFrom (usualL l) 0 l).length:=hin.1
    unfold ofV slV
    simp only
    have HIN:=jh hin
    have HC2:=jh hc2
    have HT2:=jh (HT.out.same hc2)
    obtain⟨⟨r0,r1,r2⟩,hz⟩:=HR0.out w2 (HC.out.trans hc2.any)
    have z0:=hz 0
    have z1:=hz 1
    have z2:=hz 2
    have hlt:w.heap.size<w2.heap.size:=World.block_lt_of_cell? _ _ r0
    clear hin hc2 hz c0
    by_cases hlw:(l.length:Int)=W
    ·have q1:((l.length:Int) != W)=false:=by simpa using hlw
     have HLO:Hid (listOk W l=true):=jh (by unfold listOk;rw [hnv];simpa using hlw)
     have HOK2:Hid (makeOk W (LL.take (k+1))=true):=jh (by
      have:=HOK.out
      unfold makeOk at this ⊢
      rw [HTK.out,List.all_append,this]
      simp [HLO.out])
     have HML:=jh (makeL_len (LL.take k))
     have hR1:(makeL (LL.take k)).1.length≤1000000:=by have:=HML.out.1;have:=List.length_take_le k LL;omega
     have hO1:(makeL (LL.take k)).2.length≤1000000:=by have:=HML.out.2;have:=List.length_take_le k LL;omega
     have HBS:Hid (w.heap.size+2≤wr.heap.size):=jh (by have:=HT.out.lt;omega)
     have HXI:Hid (RowIn cellE (w2.alloc (.cells #[.int .i64 (usualL l),.slice sa (cellsFrom (usualL l) 0 l).length sc] 241)) (w.heap.size+1+1) (usualL l,sa,(cellsFrom (usualL l) 0 l).length,sc) (usualL l,cellsFrom (usualL l) 0 l)):=jh
      ⟨rfl,usualL_int l HLA.out.byte,(HIN.out.lower (by have:=HBS.out;omega)).same ((Chg.refl _ _).alloc _)⟩
     have HXA:Hid (0<(cellsFrom (usualL l) 0 l).length→∀ g o,sa=some ⟨g,o,none⟩→v.ownBlock≠some g∧u.ownBlock≠some g∧w.heap.size+1<g):=jh (fun hp g o hg=>by
      obtain⟨_,_,g',o',_,k5⟩:=HIN.out
      obtain⟨h6,h7⟩:=k5 hp
      change sa=_ at h6
      rw [hg] at h6
      injection h6 with h6
      injection h6 with h6
      subst h6
      obtain⟨X,hX,_⟩:=HT.out.rows
      have:=HBS.out
      exact⟨fun e=>by have:=(hX.blk e).2;omega,fun e=>by have:=(HT.out.of.blk e).2;omega,by omega⟩)
     have HTA:=jh (HT2.out.same ((Chg.refl (fun _=>False) w2).alloc (.cells #[.int .i64 (usualL l),.slice sa (cellsFrom (usualL l) 0 l).length sc] 241)))
     have HLL1:Hid ((cellsFrom (usualL l) 0 l).length≤1000000000):=jh (by have:=cellsFrom_le (usualL l) l 0;omega)
     have HSN:Hid (makeL (LL.take (k+1))=addL (makeL (LL.take k)) (usualL l,cellsFrom (usualL l) 0 l)):=jh (by rw [HTK.out,makeL_snoc];rfl)
     have HCC:=jh ((HC.out.trans HC2.out.any).alloc (.cells #[.int .i64 (usualL l),.slice sa (cellsFrom (usualL l) 0 l).length sc] 241))
     obtain⟨du,hdu⟩:∃ d,usualL l=d:=⟨_,rfl⟩
     obtain⟨X,hX⟩:∃ X,cellsFrom (usualL l) 0 l=X:=⟨_,rfl⟩
     rw [hX,hdu] at HXI HTA HSN HCC
     rw [hX] at HXA HLL1
     rw [hX,hdu]
     clear hX hdu hlw HIN
     obtain⟨RR,hRR⟩:∃ RR,(makeL (LL.take k)).1=RR:=⟨_,rfl⟩
     obtain⟨OO,hOO⟩:∃ OO,(makeL (LL.take k)).2=OO:=⟨_,rfl⟩
     have HPE:Hid (makeL (LL.take k)=(RR,OO)):=jh (by rw [← hRR,← hOO])
     rw [hRR,hOO] at HTA
     rw [hRR] at hR1
     rw [hOO] at hO1
     clear hRR hOO
     go_wp2_with fail
     refine (add_any (w.heap.size+1) W RR OO v u du X sa sc _ HTA.out HXI.out HXA.out hR1 hO1 HLL1.out).mono ?_
     rintro e w3 ⟨v3,u3,rfl,ht3,hc3⟩
     have HT3:Hid (TabSt cellE rowE (w.heap.size+1) w3 W (makeL (LL.take (k+1))).1 (makeL (LL.take (k+1))).2 v3 u3):=jh (by rw [HSN.out,HPE.out];exact ht3)
     have HC3:=jh (HCC.out.trans hc3)
     clear ht3 hc3 HTA HXI HXA
     go_wp2
     go_roundw
     case rel=>exact⟨k+1,v3,u3,by omega,by go_num,HOK2.out,HT3.out,HC3.out⟩
     case measure=>simp [intOf];omega
    ·have q1:((l.length:Int) != W)=true:=by simpa using hlw
     have HMB:=jh (HBADP.out (by unfold listOk;rw [hnv];simpa using hlw))
     clear hlw
     obtain⟨X,hX⟩:∃ X,cellsFrom (usualL l) 0 l=X:=⟨_,rfl⟩
     rw [hX] at *
     clear hX
     go_wp2
     obtain⟨f0,f1,f2,f3⟩:=store3 (.int .i64 0) (.slice none 0 0) (.slice none 0 0) r0 r1 r2
     have f0:=((Chg.refl (fun _=>False) _).alloc (.cells #[.int .i64 (usualL l),.slice sa X.length sc] 241)).cellS f0 (fun h=>h)
     have f1:=((Chg.refl (fun _=>False) _).alloc (.cells #[.int .i64 (usualL l),.slice sa X.length sc] 241)).cellS f1 (fun h=>h)
     have f2:=((Chg.refl (fun _=>False) _).alloc (.cells #[.int .i64 (usualL l),.slice sa X.length sc] 241)).cellS f2 (fun h=>h)
     have h4:=((((HCW.out.trans HC2.out).any (S:=fun k=>w.heap.size≤k)).trans (f3.mono (fun k _ e=>by omega))).alloc (.cells #[.int .i64 (usualL l),.slice sa X.length sc] 241)).fresh
     clear f3
     generalize ((((w2.setCell ⟨w.heap.size,0,none⟩ (.int .i64 0)).setCell ⟨w.heap.size,1,none⟩ (.slice none 0 0)).setCell ⟨w.heap.size,2,none⟩ (.slice none 0 0)).alloc (.cells #[.int .i64 (usualL l),.slice sa X.length sc] 241))=WW at *
     exact bodyPost_ret (v:=.tuple #[.agg #[.int .i64 0,.slice none 0 0,.slice none 0 0],.int .i64 1]) (by simp [results,Tryz.results116,go_sem,f0,f1,f2]) rfl (.inl ⟨HMB.out,rfl,h4⟩)
  ·obtain rfl:k=LL.length:=by omega
   have HOKF:Hid (makeOk W LL=true):=jh (by have:=HOK.out;rwa [List.take_length] at this)
   have HTF:Hid (TabSt cellE rowE (w.heap.size+1) wr W (makeL LL).1 (makeL LL).2 v u):=jh (by have:=HT.out;rwa [List.take_length] at this)
   obtain⟨va,vn,vc,rfl⟩:∃ a n c,v=.slice a n c:=by obtain⟨X,h1,_⟩:=HTF.out.rows;exact h1.shape3
   obtain⟨ua,un,uc,rfl⟩:=HTF.out.of.shape3
   obtain⟨-,-,rfl,rfl,hle1,hle2⟩:=HTF.out.final (Chg.refl _ _)
   clear HT HOK
   go_wp2_with fail
   obtain⟨we,hwe⟩:∃ we,we=wr.drew:=⟨_,rfl⟩
   have HWE2:Hid (wr.drew=we):=jh hwe.symm
   have HWF:Hid (Chg (fun _=>False) wr we):=jh (by rw [hwe];exact (Chg.refl _ _).drew)
   have HTE:=jh (HTF.out.same HWF.out)
   obtain⟨⟨r0,r1,r2⟩,hz⟩:=HR0.out we (HC.out.trans HWF.out.any)
   have z0:=hz 0
   have z1:=hz 1
   have z2:=hz 2
   have HCE:=jh ((HCW.out.trans HWF.out).any (S:=fun k=>w.heap.size≤k))
   have hbl:w.heap.size+1<we.heap.size:=HTE.out.lt
   clear hwe hz
   refine wp_region_late (fun x=>x=we) (fun i=>decide (7≤i)) (by kernel_rfl) ?_
   show wpAnyL _ _ _ _ _ _ 10 (Array.replicate 10 false) _ wr.drew
   rw [HWE2.out]
   have HSS:Hid (we=we):=jh rfl
   (refine lrd 0 HSS.out fun K hK=>?_;apply ei;intro w' hC;(go_simp;try with_reducible rfl);(try go_simp);refine hK _ ?_;clear hK K)
   (refine lrd 1 HSS.out fun K hK=>?_;apply ei;intro w' hC;((subst hC;have q:=HTE.out.c1);go_simp;try with_reducible rfl);(try go_simp);refine hK _ ?_;clear hK K)
   (refine lrd 3 HSS.out fun K hK=>?_;apply ei;intro w' hC;(go_simp;try with_reducible rfl);(try go_simp);refine hK _ ?_;clear hK K)
   (refine lrd 4 HSS.out fun K hK=>?_;apply ei;intro w' hC;((subst hC;have q:=HTE.out.c2);go_simp;try with_reducible rfl);(try go_simp);refine hK _ ?_;clear hK K)
   refine late_call (i:=2) (by kernel_rfl) rfl rfl 156 #[.slice va (makeL LL).1.length vc] (fun q w''=>q=.slice va (makeL LL).1.length (makeL LL).1.length∧we=w'') (by go_simp) ?_ ?_
   ·refine (clipRow we va _ vc hle1).mono ?_
    rintro e w2 ⟨rfl,rfl⟩
    exact⟨_,rfl,fun _=>rfl,rfl,rfl⟩
   rintro q w''-⟨rfl,rfl⟩ K hK
   (try go_simp)
   refine hK _ ?_
   clear hK K
   refine late_call (i:=5) (by kernel_rfl) rfl rfl 144 #[.slice ua (makeL LL).2.length uc] (fun q w''=>q=.slice ua (makeL LL).2.length (makeL LL).2.length∧we=w'') (by go_simp) ?_ ?_
   ·refine (clipInt we ua _ uc hle2).mono ?_
    rintro e w2 ⟨rfl,rfl⟩
    exact⟨_,rfl,fun _=>rfl,rfl,rfl⟩
   rintro q w''-⟨rfl,rfl⟩ K hK
   (try go_simp)
   refine hK _ ?_
   clear hK K
   (refine late_turn (i:=6) (by kernel_rfl) rfl rfl fun K hK=>?_;apply Exists.intro;apply Exists.intro;refine⟨?_,?_,?_⟩;(go_simp;try first|with_reducible rfl|exact⟨rfl,rfl⟩);(exact fun _=>rfl);(try go_simp);refine hK _ _ ?_;clear hK K)
   have c1:=HTE.out.c1
   have y1:=HTE.out.z1
   have c0:=HTE.out.c0
   have s1:=setCellChg we (w.heap.size+1) 1 (.slice va (makeL LL).1.length (makeL LL).1.length)
   have c2:(we.setCell ⟨w.heap.size+1,1,none⟩ (.slice va (makeL LL).1.length (makeL LL).1.length)).cell? ⟨w.heap.size+1,2,none⟩=some (.slice ua (makeL LL).2.length uc):=Chg.cellNe HTE.out.c2 (by intro e;injection e with _ e;cases e)
   have y2:(we.setCell ⟨w.heap.size+1,1,none⟩ (.slice va (makeL LL).1.length (makeL LL).1.length)).frozen? ⟨w.heap.size+1,2,none⟩=false:=(World.frozen?_setCell _ _ _ _).trans HTE.out.z2
   (refine late_store (i:=7) (by kernel_rfl) rfl rfl fun K hK=>?_;apply Exists.intro;refine⟨?_,(fun h=>absurd h (by decide)),?_⟩;(go_simp;try first|with_reducible rfl|exact⟨rfl,rfl⟩);(try go_simp);refine hK _ _ ?_;clear hK K)
   (refine late_turn (i:=8) (by kernel_rfl) rfl rfl fun K hK=>?_;apply Exists.intro;apply Exists.intro;refine⟨?_,?_,?_⟩;(go_simp;try first|with_reducible rfl|exact⟨rfl,rfl⟩);(exact fun h=>absurd h (by decide));(try go_simp);refine hK _ _ ?_;clear hK K)
   (refine late_store (i:=9) (by kernel_rfl) rfl rfl fun K hK=>?_;apply Exists.intro;refine⟨?_,(fun h=>absurd h (by decide)),?_⟩;(go_simp;try first|with_reducible rfl|exact⟨rfl,rfl⟩);(try go_simp);refine hK _ _ ?_;clear hK K)
   refine late_done (by kernel_rfl) ?_ _
   obtain⟨wg,hwg⟩:∃ wg,wg=(we.setCell ⟨w.heap.size+1,1,none⟩ (.slice va (makeL LL).1.length (makeL LL).1.length)).setCell ⟨w.heap.size+1,2,none⟩ (.slice ua (makeL LL).2.length (makeL LL).2.length):=⟨_,rfl⟩
   rw [← hwg]
   have s2:Chg (fun k=>k=w.heap.size+1) we wg:=by rw [hwg];exact s1.trans (setCellChg _ _ _ _)
   have g0:wg.cell? ⟨w.heap.size+1,0,none⟩=some (.int .i64 W):=by rw [hwg];exact Chg.cellNe (Chg.cellNe c0 (by intro e;injection e with _ e;cases e)) (by intro e;injection e with _ e;cases e)
   have g1:wg.cell? ⟨w.heap.size+1,1,none⟩=some (.slice va (makeL LL).1.length (makeL LL).1.length):=by rw [hwg];exact Chg.cellNe (World.cell?_setCell_same _ _ _ c1) (by intro e;injection e with _ e;cases e)
   have g2:wg.cell? ⟨w.heap.size+1,2,none⟩=some (.slice ua (makeL LL).2.length (makeL LL).2.length):=by rw [hwg];exact World.cell?_setCell_same _ _ _ c2
   have hne:¬ w.heap.size=w.heap.size+1:=by omega
   have r0:=s2.cellS r0 hne
   have r1:=s2.cellS r1 hne
   have r2:=s2.cellS r2 hne
   have z0:=(s2.frozen (p:=⟨w.heap.size,0,none⟩) (by show w.heap.size<_;omega) hne).trans z0
   have z1:=(s2.frozen (p:=⟨w.heap.size,1,none⟩) (by show w.heap.size<_;omega) hne).trans z1
   have z2:=(s2.frozen (p:=⟨w.heap.size,2,none⟩) (by show w.heap.size<_;omega) hne).trans z2
   have HS2:=jh s2
   clear hwg s2 s1 c0 c1 c2 y1 y2
   go_wp2
   obtain⟨f0,f1,f2,f3⟩:=store3 (.int .i64 W) (.slice va (makeL LL).1.length (makeL LL).1.length) (.slice ua (makeL LL).2.length (makeL LL).2.length) r0 r1 r2
   have h3:=(HS2.out.mono (T:=fun k=>k≤w.heap.size+1) (fun k _ e=>by omega)).trans (f3.mono (fun k _ e=>by omega))
   obtain⟨h4,h5,-⟩:=HTE.out.final h3
   have h6:=(HCE.out.trans (HS2.out.mono (fun k _ e=>by omega))).trans (f3.mono (fun k _ e=>by omega))
   clear f3 h3
   generalize ((wg.setCell ⟨w.heap.size,0,none⟩ (.int .i64 W)).setCell ⟨w.heap.size,1,none⟩ (.slice va (makeL LL).1.length (makeL LL).1.length)).setCell ⟨w.heap.size,2,none⟩ (.slice ua (makeL LL).2.length (makeL LL).2.length)=WW at *
   exact bodyPost_ret (v:=.tuple #[.agg #[.int .i64 W,.slice va (makeL LL).1.length (makeL LL).1.length,.slice ua (makeL LL).2.length (makeL LL).2.length],.int .i64 0]) (by simp [results,Tryz.results116,go_sem,f0,f1,f2]) rfl (.inr ⟨HOKF.out,va,ua,rfl,h4.lower (by omega),h5.lower (by omega),h6.fresh⟩)
end Go.Proofs.YtgnpmceimpjheaaGreat
namespace Go.Proofs.YtgnpmceimpjheaaGreat
open Go.RowKit
variable {α:Type} {E:Elt α}
end Go.Proofs.YtgnpmceimpjheaaGreat
namespace Go.Proofs.YtgnpmceimpjheaaGreat
open Go.RowKit
structure LexD where
 r:List (Int × Int)
 c:List Int
 n:List (List Int)
 e:List Int
def colsL (C:List Int):Int:=C.foldl (fun m c=>max m (c+1)) 0
theorem colsL_snoc (C:List Int) (c:Int):colsL (C++[c])=max (colsL C) (c+1):=by simp [colsL,List.foldl_append]
theorem colsL_take {C:List Int} {k:Nat} {c:Int} (h:C[k]?=some c):colsL (C.take (k+1))=max (colsL (C.take k)) (c+1):=by
 rw [List.take_add_one,h]
 exact colsL_snoc _ _
theorem colsL_foldl (C:List Int):∀ m:Int,m≤C.foldl (fun m c=>max m (c+1)) m∧∀ c∈C,c+1≤C.foldl (fun m c=>max m (c+1)) m:=by
 induction C with
 | nil=>intro m;simp
 | cons x C ih =>
  intro m
  obtain⟨h1,h2⟩:=ih (max m (x+1))
  simp only [List.foldl_cons,List.mem_cons]
  refine⟨by omega,?_⟩
  rintro c (rfl|hc)
  ·omega
  ·exact h2 c hc
theorem colsL_nonneg (C:List Int):0≤colsL C:=(colsL_foldl C 0).1
theorem colsL_mem {C:List Int} {c:Int} (h:c∈C):c<colsL C:=Int.lt_of_add_one_le ((colsL_foldl C 0).2 c h)
theorem colsL_le {C:List Int} {m:Int} (hm:0≤m) (h:∀ c∈C,c<m):colsL C≤m:=by
 have key:∀ (C:List Int) (a:Int),a≤m→(∀ c∈C,c<m)→C.foldl (fun m c=>max m (c+1)) a≤m:=by
  intro C
  induction C with
  | nil=>intro a ha _;exact ha
  | cons x C ih =>
   intro a ha hc
   have:=hc x (by simp)
   exact ih (max a (x+1)) (by omega) (fun c h=>hc c (by simp [h]))
 exact key C 0 hm h
def apOk (R:List (Int × Int)) (i:Nat):Bool:=decide ((R.getD i (0,0)).1≤(R.getD i (0,0)).2) && (decide (i=0) || decide ((R.getD (i-1) (0,0)).2<(R.getD i (0,0)).1))
def apartB (R:List (Int × Int)):Bool:=(List.range R.length).all (apOk R)
theorem apartB_true {R:List (Int × Int)} (h:∀ j,j<R.length→apOk R j=true):apartB R=true:=by
 unfold apartB
 rw [List.all_eq_true]
 intro j hj
 exact h j (List.mem_range.1 hj)
theorem apartB_false {R:List (Int × Int)} {j:Nat} (hj:j<R.length) (h:apOk R j=false):apartB R=false:=by
 unfold apartB
 rw [List.all_eq_false]
 exact⟨j,List.mem_range.2 hj,by rw [h];simp⟩
def inB (lo hi x:Int):Bool:=decide (lo≤x) && decide (x<hi)
def rowB (cols many:Int) (row:List Int):Bool:=decide ((row.length:Int)=cols) && row.all (inB (-1) many)
def fillB (C:List Int):Bool:=(List.range (colsL C).toNat).all (fun c=>C.contains (c:Int))
def mayT (t:LexD):Bool :=
 apartB t.r && decide (t.c.length=t.r.length∧0<t.n.length∧t.e.length=t.n.length) && t.c.all (inB 0 t.c.length) && fillB t.c && t.e.all (fun e=>decide (-1≤e)) && t.n.all (rowB (colsL t.c) t.n.length)
structure MayS (t:LexD):Prop where
 ap:apartB t.r=true
 cl:t.c.length=t.r.length
 nl:0<t.n.length
 el:t.e.length=t.n.length
 cb:∀ c∈t.c,0≤c∧c<t.c.length
 fill:fillB t.c=true
 eb:∀ e∈t.e,-1≤e
 row:∀ l∈t.n,(l.length:Int)=colsL t.c∧∀ x∈l,-1≤x∧x<t.n.length
theorem mayT_iff {t:LexD}:mayT t=true↔MayS t:=by
 unfold mayT
 simp only [Bool.and_eq_true,decide_eq_true_eq,List.all_eq_true,inB,rowB]
 constructor
 ·rintro ⟨⟨⟨⟨⟨h1,h2,h3,h4⟩,h5⟩,h6⟩,h7⟩,h8⟩
  exact⟨h1,h2,h3,h4,h5,h6,h7,h8⟩
 ·rintro ⟨h1,h2,h3,h4,h5,h6,h7,h8⟩
  exact⟨⟨⟨⟨⟨h1,h2,h3,h4⟩,h5⟩,h6⟩,h7⟩,h8⟩
theorem mayT_no {t:LexD} (h:¬ MayS t):mayT t=false:=by
 cases hm:mayT t
 ·rfl
 ·exact absurd (mayT_iff.1 hm) h
theorem getD_mem {α:Type} {L:List α} {k:Nat} {z:α} (h:k<L.length):L.getD k z∈L:=by
 rw [List.getD_eq_getElem?_getD,List.getElem?_eq_getElem h]
 exact List.getElem_mem h
end Go.Proofs.YtgnpmceimpjheaaGreat
namespace Go.Proofs.YtgnpmceimpjheaaGreat
open Go.RowKit
abbrev I32 (a:Int):Prop:=-2147483648≤a∧a≤2147483647
abbrev okRng (p:Int × Int):Prop:=I32 p.1∧I32 p.2
def encRng (p:Int × Int):List Value:=[.int .i32 p.1,.int .i32 p.2]
def rngE:Elt (Int × Int) where
 enc:=encRng
 sz:=2
 bs:=8
 e:=117
 sl:=24
 z:=(0,0)
 zv:=.agg #[.int .i32 0,.int .i32 0]
 ok:=okRng
 pos:=by omega
 len:=fun _=>rfl
 one:=fun a u hu=>by
  simp only [encRng,List.mem_cons,List.not_mem_nil,or_false] at hu
  rcases hu with rfl|rfl <;> rfl
 zok:=by decide
 info:=by kernel_rfl
 zc:=rfl
 und:=by kernel_rfl
 bsl:=by omega
structure TabIn (w:World) (B:Nat) (rs cs ns es:Sl) (t:LexD):Prop where
 r:rngE.In w B rs t.r
 c:intE.In w B cs t.c
 n:ListsIn w B ns t.n
 e:intE.In w B es t.e
theorem Elt.In.chgB {α:Type} {E:Elt α} {S:Nat→Prop} {w w':World} {B:Nat} {s:Sl} {L:List α} (h:E.In w B s L) (hc:Chg S w w') (hs:∀ g,B≤g→¬ S g):E.In w' B s L:=by
 obtain⟨h1,h2,g,o,h3,h4⟩:=h
 exact⟨h1,h2,g,o,h3.chg hc (fun hne=>hs g (h4 (by cases L with
  | nil=>exact absurd rfl hne
  | cons x L=>simp)).2),h4⟩
theorem Elt.In.len {α:Type} {E:Elt α} {w:World} {B:Nat} {a:Option Addr} {n c:Nat} {L:List α} (h:E.In w B (a,n,c) L):n=L.length∧n≤c:=⟨h.1,h.2.1⟩
theorem Elt.In.getI {w:World} {B:Nat} {a:Option Addr} {n c:Nat} {L:List Int} (h:intE.In w B (a,n,c) L) {k:Nat} (hk:k<L.length) :
  ∃ (x:Int) (g o:Nat),L[k]?=some x∧a=some ⟨g,o,none⟩∧w.cell? ⟨g,o+k,none⟩=some (.int .i64 x)∧-9223372036854775808≤x∧x≤9223372036854775807∧B≤g∧g<w.heap.size:=by
 obtain⟨h1,h2,g,o,h3,h4⟩:=h
 have hx:L[k]?=some L[k]:=List.getElem?_eq_getElem hk
 have hc:=h3.get hx (i:=0) (u:=.int .i64 L[k]) rfl
 rw [Nat.add_zero,show intE.sz=1 from rfl,Nat.mul_one] at hc
 obtain⟨h5,h6⟩:=h4 (by omega)
 have hok:=h3.ok _ (List.getElem_mem hk)
 exact⟨L[k],g,o,hx,h5,hc,hok.1,hok.2,h6,h3.lt (by intro e;rw [e] at hk;simp at hk)⟩
theorem Elt.In.getR {w:World} {B:Nat} {a:Option Addr} {n c:Nat} {L:List (Int × Int)} (h:rngE.In w B (a,n,c) L) {k:Nat} (hk:k<L.length) :
  ∃ (x y:Int) (g o:Nat),L[k]?=some (x,y)∧a=some ⟨g,o,none⟩∧w.cell? ⟨g,o+k * 2,none⟩=some (.int .i32 x)∧w.cell? ⟨g,o+k * 2+1,none⟩=some (.int .i32 y)∧(-2147483648≤x∧x≤2147483647)∧(-2147483648≤y∧y≤2147483647)∧B≤g∧g<w.heap.size:=by
 obtain⟨x,g,o,u,v,hx,ha,he,c0,c1,hok,hB,hg⟩:=h.get2 rfl hk
 obtain⟨x,y⟩:=x
 have he:[Value.int .i32 x,Value.int .i32 y]=[u,v]:=he
 injection he with e1 he
 injection he with e2
 subst e1 e2
 exact⟨x,y,g,o,hx,ha,c0,c1,hok.1,hok.2,hB,hg⟩
def TabAt (w:World) (b:Nat) (rs cs ns es:Sl):Prop :=
 w.cell? ⟨b,0,none⟩=some (.slice rs.1 rs.2.1 rs.2.2)∧w.cell? ⟨b,1,none⟩=some (.slice cs.1 cs.2.1 cs.2.2)∧w.cell? ⟨b,2,none⟩=some (.slice ns.1 ns.2.1 ns.2.2)∧w.cell? ⟨b,3,none⟩=some (.slice es.1 es.2.1 es.2.2)
theorem tabBox (w:World) (rs cs ns es:Sl) (e:TypeId):TabAt (w.alloc (.cells #[.slice rs.1 rs.2.1 rs.2.2,.slice cs.1 cs.2.1 cs.2.2,.slice ns.1 ns.2.1 ns.2.2,.slice es.1 es.2.1 es.2.2] e)) w.heap.size rs cs ns es:=by
 refine⟨?_,?_,?_,?_⟩ <;> · rw [World.cell?_alloc_new];rfl
theorem TabAt.chg {S:Nat→Prop} {w w':World} {b:Nat} {rs cs ns es:Sl} (h:TabAt w b rs cs ns es) (hc:Chg S w w') (hs:¬ S b):TabAt w' b rs cs ns es :=
 ⟨hc.cellS h.1 hs,hc.cellS h.2.1 hs,hc.cellS h.2.2.1 hs,hc.cellS h.2.2.2 hs⟩
def lexV (rs cs ns es:Sl):Value:=.agg #[.slice rs.1 rs.2.1 rs.2.2,.slice cs.1 cs.2.1 cs.2.2,.slice ns.1 ns.2.1 ns.2.2,.slice es.1 es.2.1 es.2.2]
end Go.Proofs.YtgnpmceimpjheaaGreat
namespace Go.Proofs.YtgnpmceimpjheaaGreat
open Go.RowKit
theorem conv8 {w:World} {g o:Nat} {Z:List Int} {a:Option Addr} (c:Nat) (h:BytesAt w g o Z) (ha:0<Z.length→a=some ⟨g,o,none⟩):(convert 45 9 (.slice a Z.length c)).run Tryz.prog w=.ok (.string (strOfNums Z)) w:=by
 rcases Nat.eq_zero_or_pos Z.length with h0|h0
 ·have hZ:=List.length_eq_zero_iff.1 h0
  subst hZ
  cases a with
  | none=>exact run_convert_bytes_nil w 45 5 Tryz.underlying45 Tryz.underlying5 0 c 9 Tryz.underlying9
  | some ad =>
   show (convert 45 9 (.slice (some ad) 0 c)).run Tryz.prog w=_
   rw [run_convert_bytes_string w 45 9 5 _ 0 c Tryz.underlying45 Tryz.underlying5 Tryz.underlying9,run_bytesToString w _ 0 c [] (run_loadCells_list (P:=Tryz.prog) w ad [] (fun j v hj=>by simp at hj))]
   rfl
 ·obtain rfl:=ha h0
  refine run_convert_bytes_arg w 45 5 Tryz.underlying45 Tryz.underlying5 g o Z.length c Z rfl (fun i hi=>?_) 9 Tryz.underlying9
  obtain⟨x,hx,hc,_⟩:=h.get hi
  rw [hc,List.getD_eq_getElem?_getD,hx]
  rfl
theorem litMark (w:World) (Y:List Int) (e:TypeId) (fr:Nat × Nat) (hY:∀ a∈Y,Byte a):BytesAt (w.alloc (.cells (bytesV Y).toArray e fr)) w.heap.size 0 Y :=
 ⟨fun k a hk=>⟨by rw [Nat.zero_add,World.cell?_alloc_mark];simp [bytesV,hk],hY a (List.mem_of_getElem? hk)⟩,fun _=>by simp⟩
theorem str_inj {X Y:List Int} (hX:∀ a∈X,Byte a) (hY:∀ a∈Y,Byte a) (h:strOfNums X=strOfNums Y):X=Y:=by
 have h1:X.map (fun n=>UInt8.ofNat n.toNat)=Y.map (fun n=>UInt8.ofNat n.toNat):=by
  have:=congrArg (fun s:ByteArray=>s.data.toList) h
  simpa [strOfNums] using this
 clear h
 induction X generalizing Y with
 | nil=>cases Y with
  | nil=>rfl
  | cons y Y=>simp at h1
 | cons x X ih=>cases Y with
  | nil=>simp at h1
  | cons y Y =>
   simp only [List.map_cons,List.cons.injEq] at h1
   have hx:=hX x (by simp)
   have hy:=hY y (by simp)
   have h2:=congrArg UInt8.toNat h1.1
   simp only [UInt8.toNat_ofNat'] at h2
   rw [ih (fun a ha=>hX a (by simp [ha])) (fun a ha=>hY a (by simp [ha])) h1.2,show x=y by omega]
end Go.Proofs.YtgnpmceimpjheaaGreat
namespace Go.Proofs.YtgnpmceimpjheaaGreat
open Go.RowKit
abbrev Str:=ByteArray
def strB (s:Str):List Int:=s.data.toList.map (fun b=>((b.toNat:Nat):Int))
theorem strB_length (s:Str):(strB s).length=s.size:=by simp [strB]
theorem strB_byte (s:Str):∀ a∈strB s,Byte a:=by
 intro a ha
 simp only [strB,List.mem_map] at ha
 obtain⟨b,_,rfl⟩:=ha
 have:=b.toNat_lt
 exact⟨by omega,by omega⟩
theorem strB_of {Z:List Int} (h:∀ a∈Z,Byte a):strB (strOfNums Z)=Z:=by
 simp only [strB,strOfNums,List.map_map]
 conv=>rhs;rw [← List.map_id Z]
 apply List.map_congr_left
 intro a ha
 obtain⟨h1,h2⟩:=h a ha
 simp
 omega
theorem strOf_strB (s:Str):strOfNums (strB s)=s:=by
 cases s with
 | mk d =>
  simp only [strB,strOfNums,List.map_map]
  congr 1
  apply Array.ext'
  conv=>rhs;rw [← List.map_id d.toList]
  apply List.map_congr_left
  intro b _
  simp
abbrev EdgeD:=Int × Int × Int
abbrev StD:=Int × List EdgeD × List Int
abbrev LsD:=Int × List Int × List (Int × Int)
structure NetD where
 st:List StD
 s:List Int
 p:List Int
 q:List Int
 d:List Int
structure TabsD where
 rl:List Str
 tk:List Str
 dr:List Bool
 lx:LexD
 nt:NetD
 lk:List (List LsD)
abbrev U8 (a:Int):Prop:=0≤a∧a≤255
def strE:Elt Str where
 enc:=fun s=>[.string s]
 sz:=1
 bs:=16
 e:=9
 sl:=22
 z:=⟨#[]⟩
 zv:=.string ⟨#[]⟩
 ok:=fun _=>True
 pos:=by omega
 len:=fun _=>rfl
 one:=fun a u hu=>by
  simp only [List.mem_cons,List.not_mem_nil,or_false] at hu
  subst hu;rfl
 zok:=trivial
 info:=by kernel_rfl
 zc:=rfl
 und:=by kernel_rfl
 bsl:=by omega
def boolE:Elt Bool where
 enc:=fun b=>[.bool b]
 sz:=1
 bs:=1
 e:=4
 sl:=23
 z:=false
 zv:=.bool false
 ok:=fun _=>True
 pos:=by omega
 len:=fun _=>rfl
 one:=fun a u hu=>by
  simp only [List.mem_cons,List.not_mem_nil,or_false] at hu
  subst hu;rfl
 zok:=trivial
 info:=by kernel_rfl
 zc:=rfl
 und:=by kernel_rfl
 bsl:=by omega
def encEdge (x:EdgeD):List Value:=[.int .u8 x.1,.int .i64 x.2.1,.int .i64 x.2.2]
def edgeE:Elt EdgeD where
 enc:=encEdge
 sz:=3
 bs:=24
 e:=71
 sl:=72
 z:=(0,0,0)
 zv:=.agg #[.int .u8 0,.int .i64 0,.int .i64 0]
 ok:=fun x=>U8 x.1∧I.Byte x.2.1∧I.Byte x.2.2
 pos:=by omega
 len:=fun _=>rfl
 one:=fun a u hu=>by
  simp only [encEdge,List.mem_cons,List.not_mem_nil,or_false] at hu
  rcases hu with rfl|rfl|rfl <;> rfl
 zok:=by decide
 info:=by kernel_rfl
 zc:=rfl
 und:=by kernel_rfl
 bsl:=by omega
def encSt (x:Int × Sl × Sl):List Value:=[.int .i64 x.1,slV x.2.1,slV x.2.2]
def stE:Elt (Int × Sl × Sl) where
 enc:=encSt
 sz:=3
 bs:=56
 e:=74
 sl:=29
 z:=(0,(none,0,0),(none,0,0))
 zv:=.agg #[.int .i64 0,.slice none 0 0,.slice none 0 0]
 ok:=fun x=>I.Byte x.1
 pos:=by omega
 len:=fun _=>rfl
 one:=fun a u hu=>by
  simp only [encSt,List.mem_cons,List.not_mem_nil,or_false] at hu
  rcases hu with rfl|rfl|rfl <;> rfl
 zok:=by decide
 info:=by kernel_rfl
 zc:=rfl
 und:=by kernel_rfl
 bsl:=by omega
def ledgeE:Elt (Int × Int) where
 enc:=encPair
 sz:=2
 bs:=16
 e:=149
 sl:=65
 z:=(0,0)
 zv:=.agg #[.int .i64 0,.int .i64 0]
 ok:=okPair
 pos:=by omega
 len:=fun _=>rfl
 one:=fun a u hu=>by
  simp only [encPair,List.mem_cons,List.not_mem_nil,or_false] at hu
  rcases hu with rfl|rfl <;> rfl
 zok:=by decide
 info:=by kernel_rfl
 zc:=rfl
 und:=by kernel_rfl
 bsl:=by omega
def encLs (x:Int × Sl × Sl):List Value:=[.int .u8 x.1,slV x.2.1,slV x.2.2]
def lsE:Elt (Int × Sl × Sl) where
 enc:=encLs
 sz:=3
 bs:=56
 e:=67
 sl:=61
 z:=(0,(none,0,0),(none,0,0))
 zv:=.agg #[.int .u8 0,.slice none 0 0,.slice none 0 0]
 ok:=fun x=>U8 x.1
 pos:=by omega
 len:=fun _=>rfl
 one:=fun a u hu=>by
  simp only [encLs,List.mem_cons,List.not_mem_nil,or_false] at hu
  rcases hu with rfl|rfl|rfl <;> rfl
 zok:=by decide
 info:=by kernel_rfl
 zc:=rfl
 und:=by kernel_rfl
 bsl:=by omega
def autoE:Elt Sl where
 enc:=fun s=>[slV s]
 sz:=1
 bs:=24
 e:=63
 sl:=32
 z:=(none,0,0)
 zv:=.agg #[.slice none 0 0]
 ok:=fun _=>True
 pos:=by omega
 len:=fun _=>rfl
 one:=fun a u hu=>by
  simp only [List.mem_cons,List.not_mem_nil,or_false] at hu
  subst hu;rfl
 zok:=trivial
 info:=by kernel_rfl
 zc:=rfl
 und:=by kernel_rfl
 bsl:=by omega
variable {α β δ:Type} {E:Elt α}
def Elt.InS (E:Elt α) (w:World) (S:Nat→Prop) (s:Sl) (L:List α):Prop :=
 s.2.1=L.length∧s.2.1≤s.2.2∧∃ g o,E.At w g o L∧(0<L.length→s.1=some ⟨g,o,none⟩∧S g)
theorem Elt.InS.chg {S T:Nat→Prop} {w w':World} {s:Sl} {L:List α} (h:E.InS w S s L) (hc:Chg T w w') (hs:∀ g,S g→¬ T g):E.InS w' S s L:=by
 obtain⟨h1,h2,g,o,h3,h4⟩:=h
 exact⟨h1,h2,g,o,h3.chg hc (fun hne=>hs g (h4 (List.length_pos_iff.2 hne)).2),h4⟩
theorem Elt.InS.mono {S S':Nat→Prop} {w:World} {s:Sl} {L:List α} (h:E.InS w S s L) (hs:∀ g,g<w.heap.size→S g→S' g):E.InS w S' s L:=by
 obtain⟨h1,h2,g,o,h3,h4⟩:=h
 exact⟨h1,h2,g,o,h3,fun hp=>⟨(h4 hp).1,hs g (h3.lt (List.length_pos_iff.1 hp)) (h4 hp).2⟩⟩
theorem Elt.InS.in' {w:World} {B:Nat} {S:Nat→Prop} {s:Sl} {L:List α} (h:E.InS w S s L) (hs:∀ g,S g→B≤g):E.In w B s L:=by
 obtain⟨h1,h2,g,o,h3,h4⟩:=h
 exact⟨h1,h2,g,o,h3,fun hp=>⟨(h4 hp).1,hs g (h4 hp).2⟩⟩
theorem Elt.In.inS {w:World} {B:Nat} {s:Sl} {L:List α} (h:E.In w B s L):E.InS w (B≤·) s L:=h
theorem Elt.InS.nil (E:Elt α) (w:World) (S:Nat→Prop):E.InS w S (none,0,0) []:=⟨rfl,Nat.le_refl _,0,0,.nil _ _ _ _,fun h=>absurd h (by simp)⟩
theorem Elt.InS.len {w:World} {S:Nat→Prop} {a:Option Addr} {n c:Nat} {L:List α} (h:E.InS w S (a,n,c) L):n=L.length∧n≤c:=⟨h.1,h.2.1⟩
abbrev Rp (β δ:Type):=World→(Nat→Prop)→β→δ→Prop
structure Good (R:Rp β δ):Prop where
 chg:∀ {S T:Nat→Prop} {w w':World} {x:β} {d:δ},R w S x d→Chg T w w'→(∀ g,S g→¬ T g)→R w' S x d
 mono:∀ {S S':Nat→Prop} {w:World} {x:β} {d:δ},R w S x d→(∀ g,g<w.heap.size→S g→S' g)→R w S' x d
def ListR (E:Elt β) (R:Rp β δ):Rp Sl (List δ):=fun w S s L =>
 ∃ X:List β,E.InS w S s X∧X.length=L.length∧∀ (j:Nat) x d,X[j]?=some x→L[j]?=some d→R w S x d
theorem ListR.good {E:Elt β} {R:Rp β δ} (hR:Good R):Good (ListR E R) where
 chg:=fun {S T w w' x d} h hc hs=>by
  obtain⟨X,h1,h2,h3⟩:=h
  exact⟨X,h1.chg hc hs,h2,fun j x d hx hd=>hR.chg (h3 j x d hx hd) hc hs⟩
 mono:=fun {S S' w x d} h hs=>by
  obtain⟨X,h1,h2,h3⟩:=h
  exact⟨X,h1.mono hs,h2,fun j x d hx hd=>hR.mono (h3 j x d hx hd) hs⟩
def eqR:Rp β β:=fun _ _ x d=>x=d
theorem eqR.good:Good (eqR (β:=β)):=⟨fun h _ _=>h,fun h _=>h⟩
def inR (E:Elt β):Rp Sl (List β):=fun w S s L=>E.InS w S s L
theorem inR.good {E:Elt β}:Good (inR E):=⟨fun h hc hs=>h.chg hc hs,fun h hs=>h.mono hs⟩
theorem ListR.of {E:Elt β} {w:World} {S:Nat→Prop} {s:Sl} {L:List β} (h:E.InS w S s L):ListR E eqR w S s L:=⟨L,h,rfl,fun j x d hx hd=>by rw [hx] at hd;exact Option.some.inj hd⟩
theorem ListR.to {E:Elt β} {w:World} {S:Nat→Prop} {s:Sl} {L:List β} (h:ListR E eqR w S s L):E.InS w S s L:=by
 obtain⟨X,h1,h2,h3⟩:=h
 have:X=L:=List.ext_getElem h2 (fun j hx hl=>h3 j _ _ (List.getElem?_eq_getElem hx) (List.getElem?_eq_getElem hl))
 rw [← this];exact h1
theorem ListR.len {E:Elt β} {R:Rp β δ} {w:World} {S:Nat→Prop} {a:Option Addr} {n c:Nat} {L:List δ} (h:ListR E R w S (a,n,c) L):n=L.length∧n≤c:=by
 obtain⟨X,h1,h2,h3⟩:=h
 exact⟨by rw [← h2];exact h1.len.1,h1.len.2⟩
def stR:Rp (Int × Sl × Sl) StD:=fun w S x d=>x.1=d.1∧I.Byte d.1∧edgeE.InS w S x.2.1 d.2.1∧intE.InS w S x.2.2 d.2.2
theorem stR.good:Good stR:=⟨fun h hc hs=>⟨h.1,h.2.1,h.2.2.1.chg hc hs,h.2.2.2.chg hc hs⟩,fun h hs=>⟨h.1,h.2.1,h.2.2.1.mono hs,h.2.2.2.mono hs⟩⟩
def lsR:Rp (Int × Sl × Sl) LsD:=fun w S x d=>x.1=d.1∧U8 d.1∧intE.InS w S x.2.1 d.2.1∧ledgeE.InS w S x.2.2 d.2.2
theorem lsR.good:Good lsR:=⟨fun h hc hs=>⟨h.1,h.2.1,h.2.2.1.chg hc hs,h.2.2.2.chg hc hs⟩,fun h hs=>⟨h.1,h.2.1,h.2.2.1.mono hs,h.2.2.2.mono hs⟩⟩
def autoR:Rp Sl (List LsD):=ListR lsE lsR
theorem ListR.get {E:Elt β} {R:Rp β δ} {w:World} {S:Nat→Prop} {a:Option Addr} {n c:Nat} {L:List δ} (h:ListR E R w S (a,n,c) L) {k:Nat} (hk:k<L.length) :
  ∃ (x:β) (d:δ) (g o:Nat),L[k]?=some d∧R w S x d∧a=some ⟨g,o,none⟩∧S g∧g<w.heap.size∧E.ok x∧∀ i u,(E.enc x)[i]?=some u→w.cell? ⟨g,o+(k * E.sz+i),none⟩=some u:=by
 obtain⟨X,⟨h1,h2,g,o,h3,h4⟩,h5,h6⟩:=h
 have hkX:k<X.length:=by omega
 have hx:X[k]?=some X[k]:=List.getElem?_eq_getElem hkX
 have hd:L[k]?=some L[k]:=List.getElem?_eq_getElem hk
 obtain⟨h7,h8⟩:=h4 (by omega)
 exact⟨X[k],L[k],g,o,hd,h6 k _ _ hx hd,h7,h8,h3.lt (by intro e;rw [e] at hkX;simp at hkX),h3.ok _ (List.getElem_mem hkX),fun i u hi=>h3.get hx hi⟩
structure NetS where
 st:Sl
 s:Sl
 p:Sl
 q:Sl
 d:Sl
structure NetIn (w:World) (S:Nat→Prop) (m:NetS) (n:NetD):Prop where
 st:ListR stE stR w S m.st n.st
 s:intE.InS w S m.s n.s
 p:intE.InS w S m.p n.p
 q:intE.InS w S m.q n.q
 d:intE.InS w S m.d n.d
theorem NetIn.good:Good (fun w S m n=>NetIn w S m n) :=
 ⟨fun h hc hs=>⟨(ListR.good stR.good).chg h.st hc hs,h.s.chg hc hs,h.p.chg hc hs,h.q.chg hc hs,h.d.chg hc hs⟩,fun h hs=>⟨(ListR.good stR.good).mono h.st hs,h.s.mono hs,h.p.mono hs,h.q.mono hs,h.d.mono hs⟩⟩
def netV (m:NetS):Value:=.agg #[slV m.st,slV m.s,slV m.p,slV m.q,slV m.d]
structure LexS where
 r:Sl
 c:Sl
 n:Sl
 e:Sl
structure LexIn (w:World) (S:Nat→Prop) (m:LexS) (t:LexD):Prop where
 r:rngE.InS w S m.r t.r
 c:intE.InS w S m.c t.c
 n:ListR listE (inR intE) w S m.n t.n
 e:intE.InS w S m.e t.e
theorem LexIn.good:Good (fun w S m n=>LexIn w S m n) :=
 ⟨fun h hc hs=>⟨h.r.chg hc hs,h.c.chg hc hs,(ListR.good inR.good).chg h.n hc hs,h.e.chg hc hs⟩,fun h hs=>⟨h.r.mono hs,h.c.mono hs,(ListR.good inR.good).mono h.n hs,h.e.mono hs⟩⟩
theorem LexIn.tab {w:World} {B:Nat} {m:LexS} {t:LexD} (h:LexIn w (B≤·) m t):TabIn w B m.r m.c m.n m.e t:=⟨h.r,h.c,h.n,h.e⟩
structure TabsS where
 rl:Sl
 tk:Sl
 dr:Sl
 lx:LexS
 nt:NetS
 lk:Sl
structure TabsIn (w:World) (S:Nat→Prop) (m:TabsS) (t:TabsD):Prop where
 rl:strE.InS w S m.rl t.rl
 tk:strE.InS w S m.tk t.tk
 dr:boolE.InS w S m.dr t.dr
 lx:LexIn w S m.lx t.lx
 nt:NetIn w S m.nt t.nt
 lk:ListR autoE autoR w S m.lk t.lk
theorem autoR.good:Good autoR:=ListR.good lsR.good
theorem TabsIn.good:Good (fun w S m n=>TabsIn w S m n) :=
 ⟨fun h hc hs=>⟨h.rl.chg hc hs,h.tk.chg hc hs,h.dr.chg hc hs,LexIn.good.chg h.lx hc hs,NetIn.good.chg h.nt hc hs,(ListR.good autoR.good).chg h.lk hc hs⟩,fun h hs=>⟨h.rl.mono hs,h.tk.mono hs,h.dr.mono hs,LexIn.good.mono h.lx hs,NetIn.good.mono h.nt hs,(ListR.good autoR.good).mono h.lk hs⟩⟩
def lexV' (m:LexS):Value:=.agg #[slV m.r,slV m.c,slV m.n,slV m.e]
def tabsV (m:TabsS):Value:=.agg #[slV m.rl,slV m.tk,slV m.dr,slV m.lx.r,slV m.lx.c,slV m.lx.n,slV m.lx.e,slV m.nt.st,slV m.nt.s,slV m.nt.p,slV m.nt.q,slV m.nt.d,slV m.lk]
end Go.Proofs.YtgnpmceimpjheaaGreat
namespace Go.Proofs.YtgnpmceimpjheaaGreat
open Go.RowKit
def encDe (x:EdgeD):List Value:=[.int .i64 x.1,.int .i64 x.2.1,.int .i64 x.2.2]
def dEdgeE:Elt EdgeD where
 enc:=encDe
 sz:=3
 bs:=24
 e:=123
 sl:=119
 z:=(0,0,0)
 zv:=.agg #[.int .i64 0,.int .i64 0,.int .i64 0]
 ok:=fun x=>I.Byte x.1∧I.Byte x.2.1∧I.Byte x.2.2
 pos:=by omega
 len:=fun _=>rfl
 one:=fun a u hu=>by
  simp only [encDe,List.mem_cons,List.not_mem_nil,or_false] at hu
  rcases hu with rfl|rfl|rfl <;> rfl
 zok:=by decide
 info:=by kernel_rfl
 zc:=rfl
 und:=by kernel_rfl
 bsl:=by omega
def dStE:Elt (Int × Sl × Sl) where
 enc:=encSt
 sz:=3
 bs:=56
 e:=121
 sl:=38
 z:=(0,(none,0,0),(none,0,0))
 zv:=.agg #[.int .i64 0,.slice none 0 0,.slice none 0 0]
 ok:=fun x=>I.Byte x.1
 pos:=by omega
 len:=fun _=>rfl
 one:=fun a u hu=>by
  simp only [encSt,List.mem_cons,List.not_mem_nil,or_false] at hu
  rcases hu with rfl|rfl|rfl <;> rfl
 zok:=by decide
 info:=by kernel_rfl
 zc:=rfl
 und:=by kernel_rfl
 bsl:=by omega
def dLeE:Elt (Int × Int) where
 enc:=encPair
 sz:=2
 bs:=16
 e:=147
 sl:=143
 z:=(0,0)
 zv:=.agg #[.int .i64 0,.int .i64 0]
 ok:=okPair
 pos:=by omega
 len:=fun _=>rfl
 one:=fun a u hu=>by
  simp only [encPair,List.mem_cons,List.not_mem_nil,or_false] at hu
  rcases hu with rfl|rfl <;> rfl
 zok:=by decide
 info:=by kernel_rfl
 zc:=rfl
 und:=by kernel_rfl
 bsl:=by omega
def dLsE:Elt (Int × Sl × Sl) where
 enc:=encSt
 sz:=3
 bs:=56
 e:=145
 sl:=77
 z:=(0,(none,0,0),(none,0,0))
 zv:=.agg #[.int .i64 0,.slice none 0 0,.slice none 0 0]
 ok:=fun x=>I.Byte x.1
 pos:=by omega
 len:=fun _=>rfl
 one:=fun a u hu=>by
  simp only [encSt,List.mem_cons,List.not_mem_nil,or_false] at hu
  rcases hu with rfl|rfl|rfl <;> rfl
 zok:=by decide
 info:=by kernel_rfl
 zc:=rfl
 und:=by kernel_rfl
 bsl:=by omega
def dAutoE:Elt Sl where
 enc:=fun s=>[slV s]
 sz:=1
 bs:=24
 e:=79
 sl:=41
 z:=(none,0,0)
 zv:=.agg #[.slice none 0 0]
 ok:=fun _=>True
 pos:=by omega
 len:=fun _=>rfl
 one:=fun a u hu=>by
  simp only [List.mem_cons,List.not_mem_nil,or_false] at hu
  subst hu;rfl
 zok:=trivial
 info:=by kernel_rfl
 zc:=rfl
 und:=by kernel_rfl
 bsl:=by omega
def dStR:Rp (Int × Sl × Sl) StD:=fun w S x d=>x.1=d.1∧I.Byte d.1∧dEdgeE.InS w S x.2.1 d.2.1∧intE.InS w S x.2.2 d.2.2
theorem dStR.good:Good dStR:=⟨fun h hc hs=>⟨h.1,h.2.1,h.2.2.1.chg hc hs,h.2.2.2.chg hc hs⟩,fun h hs=>⟨h.1,h.2.1,h.2.2.1.mono hs,h.2.2.2.mono hs⟩⟩
def dLsR:Rp (Int × Sl × Sl) LsD:=fun w S x d=>x.1=d.1∧I.Byte d.1∧intE.InS w S x.2.1 d.2.1∧dLeE.InS w S x.2.2 d.2.2
theorem dLsR.good:Good dLsR:=⟨fun h hc hs=>⟨h.1,h.2.1,h.2.2.1.chg hc hs,h.2.2.2.chg hc hs⟩,fun h hs=>⟨h.1,h.2.1,h.2.2.1.mono hs,h.2.2.2.mono hs⟩⟩
def dAutoR:Rp Sl (List LsD):=ListR dLsE dLsR
theorem dAutoR.good:Good dAutoR:=ListR.good dLsR.good
structure DNetIn (w:World) (S:Nat→Prop) (m:NetS) (n:NetD):Prop where
 st:ListR dStE dStR w S m.st n.st
 s:intE.InS w S m.s n.s
 p:intE.InS w S m.p n.p
 q:intE.InS w S m.q n.q
 d:intE.InS w S m.d n.d
theorem DNetIn.good:Good (fun w S m n=>DNetIn w S m n) :=
 ⟨fun h hc hs=>⟨(ListR.good dStR.good).chg h.st hc hs,h.s.chg hc hs,h.p.chg hc hs,h.q.chg hc hs,h.d.chg hc hs⟩,fun h hs=>⟨(ListR.good dStR.good).mono h.st hs,h.s.mono hs,h.p.mono hs,h.q.mono hs,h.d.mono hs⟩⟩
structure DocIn (w:World) (S:Nat→Prop) (m:TabsS) (t:TabsD):Prop where
 rl:strE.InS w S m.rl t.rl
 tk:strE.InS w S m.tk t.tk
 dr:boolE.InS w S m.dr t.dr
 lx:LexIn w S m.lx t.lx
 nt:DNetIn w S m.nt t.nt
 lk:ListR dAutoE dAutoR w S m.lk t.lk
theorem DocIn.good:Good (fun w S m t=>DocIn w S m t) :=
 ⟨fun h hc hs=>⟨h.rl.chg hc hs,h.tk.chg hc hs,h.dr.chg hc hs,LexIn.good.chg h.lx hc hs,DNetIn.good.chg h.nt hc hs,(ListR.good dAutoR.good).chg h.lk hc hs⟩,fun h hs=>⟨h.rl.mono hs,h.tk.mono hs,h.dr.mono hs,LexIn.good.mono h.lx hs,DNetIn.good.mono h.nt hs,(ListR.good dAutoR.good).mono h.lk hs⟩⟩
end Go.Proofs.YtgnpmceimpjheaaGreat
namespace Go.Proofs.YtgnpmceimpjheaaGreat
open Go.RowKit
def strangeP:Ending:=.panicked [{ v:=.iface 129 (.agg #[]),recovered:=false }]
theorem must_ok (w:World):Calls Tryz.prog 102 #[.bool true] w fun e w'=>e=.returned (.tuple #[])∧w'=w:=by
 go_enter Tryz.func102,Tryz.ntmps102
 go_wp2
 go_end0
 exact⟨rfl,rfl⟩
theorem must_no (w:World):Calls Tryz.prog 102 #[.bool false] w fun e w'=>e=strangeP∧w'=w:=by
 go_enter Tryz.func102,Tryz.ntmps102
 go_wp2
 exact⟨rfl,rfl,rfl⟩
end Go.Proofs.YtgnpmceimpjheaaGreat
namespace Go.Proofs.YtgnpmceimpjheaaGreat
open Go.RowKit
end Go.Proofs.YtgnpmceimpjheaaGreat
namespace Go.Proofs.YtgnpmceimpjheaaGreat
open Go.RowKit
theorem clone_any (Z : List Int) (a : Option Addr) (g o c : Nat) (w : World) (hz : BytesAt w g o Z) (ha : 0<Z.length → a = some ⟨g, o, none⟩) (hl : Z.length ≤ 1000000000) :
    Calls Tryz.prog 101 #[.slice a Z.length c] w fun e w' => ∃ v, e = .returned v ∧ Own w' w.heap.size v Z ∧ Chg (fun _ => False) w w' := by
  have HZ := jh hz
  have HA := jh ha
  have HB := jh hz.byte
  clear hz ha
  have heq : ∀ (w : World) (a : Option Addr) (n c n' c' : Nat), (binOp .eql 45 (.slice a n c) (.slice none n' c')).run Tryz.prog w = .ok (.bool a.isNone) w := fun w a n c n' c' => Lib.run_eql_slice_nil w _ _ a n c n' c' Tryz.underlying45
  cases a with
  | none =>
    obtain rfl : Z = [] := List.length_eq_zero_iff.1 (by rcases Nat.eq_zero_or_pos Z.length with h|h; · exact h
                                                         · cases HA.out h)
    go_enter Tryz.func101, Tryz.ntmps101
    go_wp2
    go_ret
    exact⟨_, rfl, .inl ⟨rfl, rfl⟩, Chg.refl _ _⟩
  | some ad =>
    have HO : Hid (Own (w.alloc (.cells #[] 5)) w.heap.size (.slice (some ⟨w.heap.size, 0, none⟩) 0 0) []) := jh (.inr ⟨_, [], rfl, Nat.le_refl _, Row.alloc w [] _ (fun _ h => by cases h), List.prefix_refl _, by simp [maxLen]⟩)
    have HC0 : Hid (Chg (fun _ => False) w (w.alloc (.cells #[] 5))) := jh ((Chg.refl _ _).alloc _)
    have HS : Hid (w.heap.size ≤ (w.alloc (.cells #[] 5)).heap.size) := jh HC0.out.size
    go_enter Tryz.func101, Tryz.ntmps101
    go_wp2_with (at_builtin; refine wpList_append8 rfl _ _ 45 rfl w.heap.size (.slice (some ⟨w.heap.size, 0, none⟩) 0 0) [] Z (.slice (some ad) Z.length c) rfl rfl HO.out HS.out (srcBytes (HZ.out.chg HC0.out (fun _ h => h)) HA.out) HB.out (by simp; omega) ?_; intro v w1 H1 H2 H3)
    go_ret
    exact⟨_, rfl, H1.out, (HC0.out.any.trans H2.out).fresh⟩
theorem Own.some {w:World} {B:Nat} {v:Value} {X:List Int} (h:Own w B v X) (hne:X≠[]):∃ (g:Nat) (C:List Int),v=.slice (some ⟨g,0,none⟩) X.length C.length∧B≤g∧Row w g C∧X <+: C∧C.length≤maxLen:=by
 rcases h with ⟨_,rfl⟩|h
 ·exact (hne rfl).elim
 ·exact h
theorem zeros8 {w:World} (base:Option Addr) (C0:List Int) (hold:∀ w':World,Chg (fun _=>False) w w'→(Builtin.firstCells 1 C0.length (.slice base C0.length C0.length)).run Tryz.prog w'=.ok (bytesV C0).toArray w')
  (hX:∀ a∈C0,Byte a) (k:Nat) (h0:0<k) (hlen:C0.length+k≤1000000000000) (ty:TypeId) :
  ∃ (w':World) (C:List Int),(Builtin.append_ #[45,3] ty #[.slice base C0.length C0.length,.int .i64 k]).run Tryz.prog w=.ok (.slice (some ⟨w.heap.size,0,none⟩) (C0.length+k) C.length) w'∧Row w' w.heap.size C∧C0 <+: C∧C0.length+k≤C.length∧C.length≤maxLen∧Chg (fun _=>False) w w':=by
 obtain⟨i,hi,hz,h1,h2⟩:=info_parts info8
 have hG:=grownCap_ge w (C0.length+k) C0.length 5
 have hG2:=grownCap_le_maxLen w (C0.length+k) C0.length 5 (by unfold maxLen;omega)
 have hrun:=Lib.run_append_grow_zeros (P:=Tryz.prog) w 45 3 ty 5 i (.int .u8 0) .i64 .i64 Tryz.underlying45 Tryz.underlying3 hi hz base C0.length C0.length (bytesV C0) (by rw [h1];exact hold _ (Chg.refl _ _).drew) k h0 (by omega) (by omega) (by omega) (by rw [h2];omega)
  (by rw [h2];exact growslice_fits (by omega) (by omega))
 have e3:∀ a b c:List Int,(bytesV a).toArray++(bytesV b).toArray++(bytesV c).toArray=(bytesV (a++b++c)).toArray:=fun a b c=>by simp [bytesV]
 rw [zeroCells8,zeroCells8,e3] at hrun
 obtain⟨C,hC⟩:∃ C,C=C0++List.replicate k 0++List.replicate (grownCap w (C0.length+k) C0.length 5-(C0.length+k)) 0:=⟨_,rfl⟩
 rw [← hC] at hrun
 have hl:C.length=grownCap w (C0.length+k) C0.length 5:=by rw [hC];simp only [List.length_append,List.length_replicate];omega
 rw [← hl] at hrun
 refine⟨w.drew.alloc (.cells (bytesV C).toArray 5),C,hrun,Row.alloc w.drew _ _ (fun a ha=>?_),by rw [hC,List.append_assoc];exact List.prefix_append _ _,by omega,by omega,(Chg.refl _ _).drew.alloc _⟩
 rw [hC] at ha
 simp only [List.mem_append,List.mem_replicate] at ha
 rcases ha with (ha|⟨_,rfl⟩)|⟨_,rfl⟩
 ·exact hX a ha
 ·exact⟨by omega,by omega⟩
 ·exact⟨by omega,by omega⟩
theorem grow_any (w:World) (B:Nat) (v:Value) (X:List Int) (h:Own w B v X) (hB:B≤w.heap.size) (hl:X.length≤1000000000) :
  Calls Tryz.prog 115 #[v,.int .i64 5] w fun e w'=>∃ (v':Value),e=.returned v'∧Own w' B v' X∧Chg (fun k=>B≤k) w w':=by
 rcases h with ⟨rfl,rfl⟩|⟨g,C,rfl,hBg,hR,hp,hC⟩
 ·obtain⟨w1,C1,hrun,hR1,hp1,hl1,hm1,hc1⟩:=zeros8 (w:=w) none [] (fun w' _=>run_firstCells_none w' 1 0 0 0) (fun _ h=>by cases h) 5 (by omega) (by simp) 0
  have HRUN:Hid ((Builtin.append_ #[45,3] 0 #[.slice none 0 0,.int .i64 5]).run Tryz.prog w=.ok (.slice (some ⟨w.heap.size,0,none⟩) 5 C1.length) w1):=jh hrun
  have HO:Hid (Own w1 B (.slice (some ⟨w.heap.size,0,none⟩) 0 C1.length) []):=jh (.inr ⟨_,C1,rfl,hB,hR1,hp1,hm1⟩)
  have HC:=jh hc1
  unfold maxLen at hm1
  clear hrun hR1 hp1 hc1
  simp only [List.length_nil,Nat.zero_add] at hl1
  go_enter Tryz.func115,Tryz.ntmps115
  go_wp2_with (at_builtin;refine Lib.wpList_append_run _ rfl _ _ _ _ rfl _ _ rfl rfl _ _ HRUN.out ?_)
  go_ret
  exact⟨_,rfl,HO.out,HC.out.any⟩
 ·have hpl:=hp.length_le
  unfold maxLen at hC
  have h2:wrap64 ((C.length:Int)-(X.length:Int))=(C.length:Int)-(X.length:Int):=by unfold wrap64;omega
  have h3:wrap64 (5-((C.length:Int)-(X.length:Int)))=5-((C.length:Int)-(X.length:Int)):=by unfold wrap64;omega
  by_cases hroom:X.length+5≤C.length
  ·have HO:Hid (Own w B (.slice (some ⟨g,0,none⟩) X.length C.length) X):=jh (.inr ⟨g,C,rfl,hBg,hR,hp,by unfold maxLen;omega⟩)
   have h4:¬ (5-((C.length:Int)-(X.length:Int)) > 0):=by omega
   clear hR hp
   go_enter Tryz.func115,Tryz.ntmps115
   go_wp2
   go_ret
   exact⟨_,rfl,HO.out,Chg.refl _ _⟩
  ·obtain⟨w1,C1,hrun,hR1,hp1,hl1,hm1,hc1⟩:=zeros8 (w:=w) (some ⟨g,0,none⟩) C (fun w' hc=>hR.first (List.prefix_refl _) _ w' hc) hR.byte (X.length+5-C.length) (by omega) (by omega) 0
   have h4:5-((C.length:Int)-(X.length:Int)) > 0:=by omega
   rw [show ((X.length+5-C.length:Nat):Int)=5-((C.length:Int)-(X.length:Int)) by omega,show C.length+(X.length+5-C.length)=X.length+5 by omega] at hrun
   have HRUN:=jh hrun
   have HO:Hid (Own w1 B (.slice (some ⟨w.heap.size,0,none⟩) X.length C1.length) X):=jh (.inr ⟨_,C1,rfl,hB,hR1,hp.trans hp1,hm1⟩)
   have HC:=jh hc1
   unfold maxLen at hm1
   have hl2:X.length+5≤C1.length:=by omega
   clear hrun hR1 hp1 hc1 hR hp hl1
   go_enter Tryz.func115,Tryz.ntmps115
   go_wp2_with (at_builtin;refine Lib.wpList_append_run _ rfl _ _ _ _ rfl _ _ rfl rfl _ _ HRUN.out ?_)
   go_ret
   exact⟨_,rfl,HO.out,HC.out.any⟩
theorem clip_any (w:World) (g n c:Nat) (hn:n≤c) :
  Calls Tryz.prog 73 #[.slice (some ⟨g,0,none⟩) n c] w fun e w'=>e=.returned (.slice (some ⟨g,0,none⟩) n n)∧w'=w:=by
 go_enter Tryz.func73,Tryz.ntmps73
 go_wp2
 go_ret
 exact⟨rfl,rfl⟩
end Go.Proofs.YtgnpmceimpjheaaGreat
namespace Go.Proofs.YtgnpmceimpjheaaGreat
open Go.RowKit
def putL (n:Nat):List Int:=if n<128 then [(n:Int)] else ((n % 128+128:Nat):Int) :: putL (n / 128)
termination_by n
decreasing_by omega
theorem putL_small {n:Nat} (h:n<128):putL n=[(n:Int)]:=by rw [putL,if_pos h]
theorem putL_big {n:Nat} (h:128≤n):putL n=((n % 128+128:Nat):Int) :: putL (n / 128):=by rw [putL,if_neg (by omega)]
theorem putL_len:∀ (k n:Nat),n<128 ^ (k+1)→(putL n).length≤k+1
 | 0,n,h=>by rw [putL_small (by simpa using h)];simp
 | k+1,n,h=>by
  by_cases h1:n<128
  ·rw [putL_small h1];simp
  ·rw [putL_big (by omega)]
   have:=putL_len k (n / 128) (by rw [Nat.pow_succ] at h;exact Nat.div_lt_of_lt_mul (by rw [Nat.mul_comm];exact h))
   simp only [List.length_cons]
   omega
theorem putL_pos (n:Nat):0<(putL n).length:=by
 rw [putL]
 split <;> simp
theorem putL_byte (n:Nat):∀ a∈putL n,Byte a:=by
 induction n using Nat.strongRecOn with
 | _ n ih =>
  intro a ha
  by_cases h1:n<128
  ·rw [putL_small h1] at ha
   simp at ha
   subst ha
   exact⟨by omega,by omega⟩
  ·rw [putL_big (by omega),List.mem_cons] at ha
   rcases ha with rfl|ha
   ·exact⟨by omega,by omega⟩
   ·exact ih (n / 128) (by omega) a ha
theorem putL_len5 {n:Nat} (h:n<4294967296):(putL n).length≤5:=putL_len 4 n (by omega)
theorem or128F:∀ k:Fin 256,bits BinOp.or IntKind.u8 (k.val:Int) 128=((k.val % 128+128:Nat):Int):=by decide +kernel
theorem or128 (n:Nat):bits BinOp.or IntKind.u8 ((n:Int) % 256) 128=((n % 128+128:Nat):Int):=by
 have h:=or128F ⟨n % 256,by omega⟩
 simp only at h
 rw [show ((n:Int) % 256)=((n % 256:Nat):Int) by omega,h]
 congr 1
 omega
theorem put_any (Z:List Int) (n:Nat) (a:Option Addr) (g o c:Nat) (w:World) (hz:BytesAt w g o Z) (ha:0<Z.length→a=some ⟨g,o,none⟩) (hl:Z.length≤100000000) (hn:n<4294967296) :
  Calls Tryz.prog 62 #[.slice a Z.length c,.int .u32 n] w fun e w'=>∃ h,e=.returned (.slice (some ⟨h,0,none⟩) (Z++putL n).length (Z++putL n).length)∧w.heap.size≤h∧Row w' h (Z++putL n)∧Chg (fun _=>False) w w':=by
 have HZ:=jh hz
 have HA:=jh ha
 clear hz ha
 go_enter Tryz.func62,Tryz.ntmps62
 go_wp2_with fail
 refine (clone_any Z a g o c w HZ.out HA.out (by omega)).mono ?_
 rintro e w1 ⟨v1,rfl,ho1,hc1⟩
 have HO1:=jh ho1
 have HC1:=jh hc1
 clear ho1 hc1
 go_wp2_with fail
 refine (grow_any w1 w.heap.size v1 Z HO1.out HC1.out.size (by omega)).mono ?_
 rintro e w2 ⟨v2,rfl,ho2,hc2⟩
 have HO2:=jh ho2
 have HC2:=jh (HC1.out.any.trans hc2)
 clear ho2 hc2 HO1 HC1
 go_wp2
 go_loopw [1,5] (fun m v wr=>∃ (n':Nat) (X:List Int),m=.int .u32 n'∧n'≤n∧Own wr w.heap.size v X∧X++putL n'=Z++putL n∧Chg (fun k=>w.heap.size≤k) w wr) (fun m _ _=>(intOf m).toNat)
 case atStart=>exact⟨n,Z,rfl,Nat.le_refl _,HO2.out,rfl,HC2.out⟩
 case round =>
  clear HO2 HC2
  obtain⟨n',X,rfl,hn',ho,he,hc⟩:=hrel
  have HO:=jh ho
  have HE:=jh he
  have HC:=jh hc
  have hX:X.length≤200000000:=by
   have h1:=congrArg List.length he
   have h2:=putL_len5 hn
   simp only [List.length_append] at h1
   omega
  clear ho he hc
  by_cases h128:128≤n'
  ·obtain⟨b,hb⟩:∃ b:Int,bits BinOp.or IntKind.u8 ((n':Int) % 256) 128=b:=⟨_,rfl⟩
   have HB:Hid (b=((n' % 128+128:Nat):Int)):=jh (by rw [← hb];exact or128 n')
   have HY:Hid (∀ a∈[b],Byte a):=jh (by rw [HB.out];simp;omega)
   go_upto_region 4 with (fail)
   go_wp2_with (at_builtin;refine wpList_append8 rfl _ _ 45 rfl w.heap.size _ X [b] (.slice (some ⟨wr.heap.size,0,none⟩) 1 1) rfl rfl (HO.out.chg ((Chg.refl (fun _=>False) wr).alloc _) (fun _ _ _ h=>h)) (Nat.le_trans HC.out.size ((Chg.refl (fun _=>False) wr).alloc _).size) (srcLit 1 HY.out) HY.out (by simp;omega) ?_;intro v3 w3 H1 H2 H3)
   have HF:Hid ((X++[b])++putL (n' / 128)=Z++putL n∧Chg (fun k=>w.heap.size≤k) w w3):=jh ⟨by rw [List.append_assoc,List.singleton_append,HB.out,← putL_big h128];exact HE.out,HC.out.trans (((Chg.refl _ _).alloc _).trans H2.out)⟩
   go_roundw
   case rel=>exact⟨n' / 128,X++[b],by first|rfl|go_num,by omega,H1.out,HF.out.1,HF.out.2⟩
   case measure=>simp [intOf];omega
  ·have h256:(n':Int) % 256=n':=by omega
   have HY:Hid (∀ a∈[(n':Int)],Byte a):=jh (by simp;omega)
   have HE2:Hid (X++[(n':Int)]=Z++putL n):=jh (by rw [← putL_small (by omega)];exact HE.out)
   go_upto_region 5 with (fail)
   go_wp2_with (at_builtin;refine wpList_append8 rfl _ _ 45 rfl w.heap.size _ X [(n':Int)] (.slice (some ⟨wr.heap.size,0,none⟩) 1 1) rfl rfl (HO.out.chg ((Chg.refl (fun _=>False) wr).alloc _) (fun _ _ _ h=>h)) (Nat.le_trans HC.out.size ((Chg.refl (fun _=>False) wr).alloc _).size) (srcLit 1 HY.out) HY.out (by simp;omega) ?_;intro v3 w3 H1 H2 H3)
   obtain⟨g3,C3,e3,hg3,hR3,hp3,hm3⟩:=H1.out.some (by simp)
   rw [e3]
   refine (clip_any w3 g3 _ _ hp3.length_le).mono ?_
   rintro e w4 ⟨rfl,rfl⟩
   have HF:Hid (Row w4 g3 (Z++putL n)∧Chg (fun _=>False) w w4):=jh ⟨by rw [← HE2.out];exact⟨fun k a hk=>by have:=(hR3.bytes hp3).c k a hk;rw [Nat.zero_add] at this;exact this.1,hR3.z,hR3.lt,fun a ha=>hR3.byte a (hp3.subset ha)⟩,(HC.out.trans (((Chg.refl _ _).alloc _).trans H2.out)).fresh⟩
   rw [HE2.out]
   clear hR3 hp3 e3
   go_wp2
   go_ret
   exact⟨g3,by simp only [List.length_append];rfl,hg3,HF.out.1,HF.out.2⟩
end Go.Proofs.YtgnpmceimpjheaaGreat
