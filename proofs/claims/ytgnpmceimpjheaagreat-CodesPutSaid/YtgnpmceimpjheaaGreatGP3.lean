/- A part of the proof: RowsR RowsT Lin Tab1 Elts Strs CodE Twins PutA PutB TakeA TakeL ConcatG. -/
import Derived.Test.YtgnpmceimpjheaaGreatGP2
import Derived.Test.YtgnpmceimpjheaaGreatGP1
import Derived.Laws.BytesArg
import Derived.Lib.SlBytesConst
import Derived.LoopTactic
import Derived.Deep.DeepCutAuto
import Derived.Deep.CutBlock
import Derived.OwnWalk
import Derived.Lib.SliceRun
import Derived.Lib.VarintBits
import Derived.Handy
set_option maxRecDepth 100000
set_option maxHeartbeats 16000000
namespace Go.Proofs.YtgnpmceimpjheaaGreat
open Go.RowKit
def addL (t:List RowD×List Int) (r:RowD):List RowD×List Int:=if gQ r t.1 then (t.1,t.2++[idxV (vY r) t.1]) else (t.1++[r],t.2++[(t.1.length:Int)])
theorem Elt.In.chg0 {α:Type}{E:Elt α}{S:Nat->Prop}{w w':World}{B:Nat}{s:Sl}{L:List α}(h:E.In w B s L) (hc:Chg S w w') (hs:0<L.length->∀g o,s.1=some ⟨g,o,none⟩->¬S g):E.In w' B s L:=by
 obtain⟨h1,h2,g,o,h3,h4⟩:=h;exact⟨h1,h2,g,o,h3.chg hc (λhne=>by
  have hp:0<L.length:=by cases L with
   | nil=>exact absurd rfl hne
   | cons x L=>simp
  exact hs hp g o (h4 hp).1),h4⟩
theorem kS.chg0 {E:Elt (Int×Int)}{S:Nat->Prop}{w w':World}{B:Nat}{x:Int×Sl}{r:RowD}(h:kS E w B x r) (hc:Chg S w w') (hs:0<r.2.length->∀g o,x.2.1=some ⟨g,o,none⟩->¬S g):kS E w' B x r:=⟨h.1,h.2.1,h.2.2.chg0 hc hs⟩
structure TabSt (E:Elt (Int×Int)) (F:Elt (Int×Sl)) (bt:Nat) (w:World) (W:Int) (R:List RowD) (O:List Int) (v u:Value):Prop where
 c0:w.cell? ⟨bt,0,none⟩=some (.int .i64 W)
 c1:w.cell? ⟨bt,1,none⟩=some v
 z1:w.frozen? ⟨bt,1,none⟩=false
 c2:w.cell? ⟨bt,2,none⟩=some u
 z2:w.frozen? ⟨bt,2,none⟩=false
 rows:∃X:List (Int×Sl),F.Own w (bt+1) v X/\X.length=R.length/\∀(j:Nat) x r,X[j]?=some x->R[j]?=some r->kS E w (bt+1) x r/\(0<r.2.length->∀g o,x.2.1=some ⟨g,o,none⟩->v.ownBlock≠some g/\u.ownBlock≠some g/\bt<g)
 of:intE.Own w (bt+1) u O
 apart:∀g,v.ownBlock=some g->u.ownBlock≠some g
theorem TabSt.lt {E:Elt (Int×Int)}{F:Elt (Int×Sl)}{bt:Nat}{w:World}{W:Int}{R:List RowD}{O:List Int}{v u:Value}(h:TabSt E F bt w W R O v u):bt<w.heap.size:=Az6 _ _ h.c0
theorem TabSt.same {E:Elt (Int×Int)}{F:Elt (Int×Sl)}{bt:Nat}{w w':World}{W:Int}{R:List RowD}{O:List Int}{v u:Value}(h:TabSt E F bt w W R O v u) (hc:Cf w w'):TabSt E F bt w' W R O v u:=by
 obtain⟨X,h1,h2,h3⟩:=h.rows;exact⟨hc.cellS h.c0 iD,hc.cellS h.c1 iD,(hc.frozen (p:=⟨bt,1,none⟩) h.lt iD).trans h.z1,hc.cellS h.c2 iD,(hc.frozen (p:=⟨bt,2,none⟩) h.lt iD).trans h.z2,
  ⟨X,h1.chg hc (λ_ _ _ h=>h),h2,λj x r hx hr=>⟨(h3 j x r hx hr).1.same hc,(h3 j x r hx hr).2⟩⟩,h.of.chg hc (λ_ _ _ h=>h),h.apart⟩
theorem TabSt.rowsIn {E:Elt (Int×Int)}{F:Elt (Int×Sl)}{bt:Nat}{w:World}{W:Int}{R:List RowD}{O:List Int}{u:Value}{a:Option Addr}{n c:Nat}(h:TabSt E F bt w W R O (.slice a n c) u):uN E F w (bt+1) (a,n,c) R/\n=R.length/\n<=c:=by
 obtain⟨X,h1,h2,h3⟩:=h.rows;obtain⟨a',g,c',hv,hle,-⟩:=h1.at';injection hv with e1 e2 e3;subst e1 e2 e3;exact⟨⟨X,h1.in' hle,h2,λj x r hx hr=>(h3 j x r hx hr).1⟩,h2,hle⟩
theorem Chg.cellNe {w:World}{p q:Addr}{v u:Value}(hq:w.cell? q=some u) (hne:p≠q):(w.setCell p v).cell? q=some u:=by
 rw[Ay0 _ _ _ _ hne];exact hq
theorem TabSt.addRow {E:Elt (Int×Int)}{F:Elt (Int×Sl)}{bt:Nat}{w w1:World}{W:Int}{R:List RowD}{O:List Int}{v v' u:Value}(h:TabSt E F bt w W R O v u) {x:Int×Sl}{r:RowD}(hx:kS E w (bt+1) x r) (hxa:0<r.2.length->∀g o,x.2.1=some ⟨g,o,none⟩->v.ownBlock≠some g/\u.ownBlock≠some g/\bt<g)
  (ho:∀X,F.Own w (bt+1) v X->X.length=R.length->F.Own w1 (bt+1) v' (X++[x])) (hc:Chg (λk=>v.ownBlock=some k) w w1) (hv:v'.ownBlock=v.ownBlock\/v'.ownBlock=some w.heap.size\/v'.ownBlock=some (w.heap.size+1)) :
  (w1.cell? ⟨bt,1,none⟩=some v/\w1.frozen? ⟨bt,1,none⟩=false)/\TabSt E F bt (w1.setCell ⟨bt,1,none⟩ v') W (R++[r]) O v' u/\Chg (λk=>bt<=k) w (w1.setCell ⟨bt,1,none⟩ v'):=by
 obtain⟨X,h1,h2,h3⟩:=h.rows;have hlt:=h.lt;have hbl:∀g,v.ownBlock=some g->bt+1<=g/\g<w.heap.size:=λg hg=>h1.blk hg
 have hnb:¬v.ownBlock=some bt:=λe=>by have:=(hbl bt e).1;omega
 have c1:=hc.cellS h.c1 hnb;have z1:=(hc.frozen (p:=⟨bt,1,none⟩) hlt hnb).trans h.z1;have hs:=zA w1 bt 1 v';have hgt:∀g,g<w.heap.size->v.ownBlock≠some g->v'.ownBlock≠some g:=λg hg hne e=>by
  rcases hv with hv|hv|hv
  .rw[hv]at e;exact hne e
  .rw[hv]at e;obtain rfl:=Az3 e;omega
  .rw[hv]at e;obtain rfl:=Az3 e;omega
 have hcs:Chg (λk=>v.ownBlock=some k\/k=bt) w (w1.setCell ⟨bt,1,none⟩ v'):=(hc.mono (λk _ e=>.inl e)).trans (hs.mono (λk _ e=>.inr e));have keep:∀(y:Int×Sl) (q:RowD),kS E w (bt+1) y q->(0<q.2.length->∀g o,y.2.1=some ⟨g,o,none⟩->v.ownBlock≠some g/\u.ownBlock≠some g/\bt<g) ->
  kS E (w1.setCell ⟨bt,1,none⟩ v') (bt+1) y q/\(0<q.2.length->∀g o,y.2.1=some ⟨g,o,none⟩->v'.ownBlock≠some g/\u.ownBlock≠some g/\bt<g):=λy q hy hya=>by
  refine⟨hy.chg0 hcs (λhp g o hg e=>?_),λhp g o hg=>?_⟩
  .obtain⟨k1,k2,k3⟩:=hya hp g o hg
   rcases e with e|e
   .exact k1 e
   .omega
  .obtain⟨k1,k2,k3⟩:=hya hp g o hg
   obtain⟨_,_,g',o',k4,k5⟩:=hy.2.2;have hlt:g<w.heap.size:=by
    have h6:=(k5 hp).1;rw[hg]at h6;injection h6 with h6;injection h6 with h6;subst h6;exact k4.lt (by intro e;rw[e]at hp;simp at hp)
   exact⟨hgt g hlt k1,k2,k3⟩
 refine⟨⟨c1,z1⟩,⟨Chg.cellNe (hc.cellS h.c0 hnb) (by intro e;injection e with _ e;cases e),Az9 _ _ _ c1,(Az4 _ _ _ _).trans z1,Chg.cellNe (hc.cellS h.c2 hnb) (by intro e;injection e with _ e;cases e),(Az4 _ _ _ _).trans ((hc.frozen (p:=⟨bt,2,none⟩) hlt hnb).trans h.z2),
  ⟨X++[x],(ho X h1 h2).chg hs (λg hg _ e=>oM),by simp[h2],λj y q hy hq=>?_⟩,?_,λg hg hu=>?_⟩,hcs.mono (λk _ e=>by
   rcases e with e|e
   .have:=(hbl k e).1;omega
   .omega)⟩
 .by_cases hj:j<X.length
  .rw[Ay8 hj]at hy
   rw[Ay8 oM]at hq;exact keep y q (h3 j y q hy hq).1 (h3 j y q hy hq).2
  .have hjl:=(Az1.1 hy).1
   simp at hjl
   obtain rfl:j=X.length:=oM;rw[Ax4 (Ay _),Au0]at hy;rw[h2,Ax4 (Ay _),Au0]at hq;obtain rfl:=Az3 hy;obtain rfl:=Az3 hq;exact keep _ _ hx hxa
 .refine (h.of.chgB hc (λg hg e=>h.apart g e hg)).chg hs (λg hg _ e=>oM)
 .have:=(h.of.blk hu)
  rcases hv with hv|hv|hv
  .rw[hv]at hg;exact h.apart g hg hu
  .rw[hv]at hg;obtain rfl:=Az3 hg;omega
  .rw[hv]at hg;obtain rfl:=Az3 hg;omega
theorem TabSt.addOf {E:Elt (Int×Int)}{F:Elt (Int×Sl)}{bt:Nat}{w w1:World}{W:Int}{R:List RowD}{O:List Int}{v u u':Value}{i:Int}(h:TabSt E F bt w W R O v u)
  (ho:intE.Own w1 (bt+1) u' (O++[i])) (hc:Chg (λk=>u.ownBlock=some k) w w1) (hu:u'.ownBlock=u.ownBlock\/u'.ownBlock=some w.heap.size\/u'.ownBlock=some (w.heap.size+1)) :
  (w1.cell? ⟨bt,2,none⟩=some u/\w1.frozen? ⟨bt,2,none⟩=false)/\TabSt E F bt (w1.setCell ⟨bt,2,none⟩ u') W R (O++[i]) v u'/\Chg (λk=>bt<=k) w (w1.setCell ⟨bt,2,none⟩ u'):=by
 obtain⟨X,h1,h2,h3⟩:=h.rows;have hlt:=h.lt;have hbl:∀g,u.ownBlock=some g->bt+1<=g/\g<w.heap.size:=λg hg=>h.of.blk hg
 have hnb:¬u.ownBlock=some bt:=λe=>by have:=(hbl bt e).1;omega
 have c2:=hc.cellS h.c2 hnb;have z2:=(hc.frozen (p:=⟨bt,2,none⟩) hlt hnb).trans h.z2;have hs:=zA w1 bt 2 u';have hgt:∀g,g<w.heap.size->u.ownBlock≠some g->u'.ownBlock≠some g:=λg hg hne e=>by
  rcases hu with hv|hv|hv
  .rw[hv]at e;exact hne e
  .rw[hv]at e;obtain rfl:=Az3 e;omega
  .rw[hv]at e;obtain rfl:=Az3 e;omega
 have hcs:Chg (λk=>u.ownBlock=some k\/k=bt) w (w1.setCell ⟨bt,2,none⟩ u'):=(hc.mono (λk _ e=>.inl e)).trans (hs.mono (λk _ e=>.inr e));refine⟨⟨c2,z2⟩,⟨Chg.cellNe (hc.cellS h.c0 hnb) (by intro e;injection e with _ e;cases e),Chg.cellNe (hc.cellS h.c1 hnb) (by intro e;injection e with _ e;cases e),(Az4 _ _ _ _).trans ((hc.frozen (p:=⟨bt,1,none⟩) hlt hnb).trans h.z1),Az9 _ _ _ c2,(Az4 _ _ _ _).trans z2,
  ⟨X,(h1.chgB hc (λg hg e=>h.apart g hg e)).chg hs (λg hg _ e=>oM),h2,λj y q hy hq=>?_⟩,ho.chg hs (λg hg _ e=>oM),λg hg hu'=>?_⟩,hcs.mono (λk _ e=>by
   rcases e with e|e
   .have:=(hbl k e).1;omega
   .omega)⟩
 .obtain⟨hy1,hya⟩:=h3 j y q hy hq
  refine⟨hy1.chg0 hcs (λhp g o hg e=>?_),λhp g o hg=>?_⟩
  .obtain⟨k1,k2,k3⟩:=hya hp g o hg
   rcases e with e|e
   .exact k2 e
   .omega
  .obtain⟨k1,k2,k3⟩:=hya hp g o hg
   obtain⟨_,_,g',o',k4,k5⟩:=hy1.2.2;have hlt:g<w.heap.size:=by
    have h6:=(k5 hp).1;rw[hg]at h6;injection h6 with h6;injection h6 with h6;subst h6;exact k4.lt (by intro e;rw[e]at hp;simp at hp)
   exact⟨k1,hgt g hlt k2,k3⟩
 .exact hgt g (h1.blk hg).2 (λe=>h.apart g hg e) hu'
theorem fG {w:World}{B:Nat}{v:Value}{X Y:List (Int×Sl)}(h:rowE.Own w B v X) (k:rowE.Own w B v Y):X=Y:=by
 have key:∀(n:Nat) (X Y:List (Int×Sl)) (C D:List (Int×Sl)) (g:Nat),X.length=n->Y.length=n->rowE.Row w g C->rowE.Row w g D->X <+: C->Y <+: D->X=Y:=by
  intro n X Y C D g hX hY hC hD hXC hYD
  apply List.ext_getElem oM
  intro i h1 h2;have c:=(hC.at' hXC);have d:=(hD.at' hYD);have ex:X[i]?=some X[i]:=Az h1;have ey:Y[i]?=some Y[i]:=Az h2;have a0:=c.get ex (i:=0) (u:=.int .i64 X[i].1) rfl;have b0:=d.get ey (i:=0) (u:=.int .i64 Y[i].1) rfl;have a1:=c.get ex (i:=1) (u:=slV X[i].2) rfl;have b1:=d.get ey (i:=1) (u:=slV Y[i].2) rfl;rw[a0]at b0;rw[a1]at b1;injection b0 with b0;injection b0 with _ b0;injection b1 with b1;unfold slV at b1;injection b1 with e1 e2 e3;exact Prod.ext b0 (Prod.ext e1 (Prod.ext e2 e3))
 rcases h with ⟨rfl,rfl⟩|⟨g,C,rfl,_,hC,hp,_⟩
 .rcases k with ⟨_,rfl⟩|⟨g,D,e,_⟩
  .rfl
  .cases e
 .rcases k with ⟨e,_⟩|⟨g',D,e,_,hD,hq,_⟩
  .cases e
  .injection e with e1 e2 e3
   injection e1 with e1;injection e1 with e1;subst e1;exact key X.length X Y C D _ rfl e2.symm hC hD hp hq
theorem zSm (bt:Nat) (W:Int) (R:List RowD) (O:List Int) (v u:Value) (d:Int) (L:List (Int×Int)) (ax:Option Addr) (cx:Nat) (w:World) (h:TabSt vN rowE bt w W R O v u) (hx:kS vN w (bt+1) (d,ax,L.length,cx) (d,L)) (hxa:0<L.length->∀g o,ax=some ⟨g,o,none⟩->v.ownBlock≠some g/\u.ownBlock≠some g/\bt<g)
  (hRl:R.length<=1000000) (hOl:O.length<=1000000) (hl:L.length<=1000000000) :
  Calls Tryz.prog 155 #[.pointer (some ⟨bt,0,none⟩),.agg #[.int .i64 d,.slice ax L.length cx]] w λe w'=>∃v' u',e=.returned (.tuple #[])/\TabSt vN rowE bt w' W (addL (R,O) (d,L)).1 (addL (R,O) (d,L)).2 v' u'/\Chg (λk=>bt<=k) w w':=by
 have HT:=jh h;have HX:=jh hx;have HXA:=jh hxa;obtain⟨va,vn,vc,rfl⟩:∃a n c,v=.slice a n c:=by obtain⟨X,h1,_⟩:=h.rows;exact h1.shape3
 obtain⟨ua,un,uc,rfl⟩:=h.of.shape3;obtain⟨hri,rfl,hle⟩:=h.rowsIn;have HRI:=jh hri;obtain⟨wa,hwa⟩:∃wa,wa=w.alloc (.cells #[.int .i64 d,.slice ax L.length cx] 241):=⟨_,rfl⟩;have HWA:Hd (Cf w wa):=jh (by rw[hwa];exact (Chg.refl _ _).alloc _);have HBX:Hd (∀wx,Cf wa wx->wx.cell? ⟨w.heap.size,0,none⟩=some (.int .i64 d)/\wx.cell? ⟨w.heap.size,1,none⟩=some (.slice ax L.length cx)):=jh (λwx hx=>by subst hwa;exact⟨hx.cellS sI iD,hx.cellS sI iD⟩);have HWE:=jh hwa;have HTA:=jh (HT.o.same HWA.o);have hbt:=h.lt;clear h hx hxa hri hwa;rcases tE (vY (d,L)) R with ⟨k,x,h1,-,h3,-,h5⟩|⟨h3,-,h5⟩
 .have HI:=jh h3
  have hkR:=(Az1.1 h1).1;have HAL:Hd (addL (R,O) (d,L)=(R,O++[(k:Int)])):=jh (by unfold addL;rw[show gQ (d,L) (R,O).1=true from h5,if_pos rfl];rw[show idxV (vY (d,L)) (R,O).1=(k:Int) from h3]);clear h1 h3 h5;go_enter Tryz.func155,Tryz.ntmps155
  go_upto_region 1 with (fail)
  rw[<-HWE.o];refine ws (λw'=>Cf wa w') ?_;(iterate 3 (refine rq ?_));(refine rq ?_ (by intro _ w' _ hC;have q:=hC.cellS HTA.o.c1 iD;go_simp;try with_reducible rfl));(refine rf HBX.o ?_);(refine rq ?_)
  refine yS rfl (Value.int .i64 (k:Int) )  178  ( #[.slice va R.length vc,.func (.func 179) #[.agg #[.int .i64 d,.slice ax L.length cx]] #[]]) (λw'=>by go_simp) (λ_ w' _ hC=>?_) (λK hK=>?_)
  .refine (jJ R va vc (bt+1) (bt+1) d L ax cx w' (HRI.o.same (HWA.o.trans hC)) (HX.o.2.2.same (HWA.o.trans hC)) oM hl).mono ?_
   rintro e w2 ⟨rfl,hc2⟩;exact⟨by rw[HI.o],hC.trans hc2⟩
  ((try go_simp);refine hK _ ?_;clear hK K)
  (refine rq ?_);refine zQ ?_;intro w2 hC2;have HC2:=jh hC2;have HT2:=jh (HTA.o.same hC2);have c2:=HT2.o.c2;have c1:=HT2.o.c1;obtain⟨x0,x1⟩:=HBX.o w2 hC2;clear hC2;have HTL:=jh (HT2.o.same ((Chg.refl (λ_=>False) w2).alloc (.cells #[.int .i64 k] 3)));have HBS:Hd (bt+1<=(w2.alloc (.cells #[.int .i64 k] 3)).heap.size):=jh HTL.o.lt;have HOK:Hd (∀x∈[(k:Int)],intE.ok x):=jh (by intro x hx;rw[Ay3]at hx;subst hx;exact⟨oM,oM⟩);have HOL:Hd (O.length+1<=1000000000000):=jh oM;go_wp2_with (at_builtin;refine Elt.wpList_append2 intE rfl (.tmp 33) (.tmp 35) 25 25 rfl rfl (bt+1) (.slice ua un uc) O [(k:Int)] (.slice (some ⟨w2.heap.size,0,none⟩) 1 1) rfl rfl HTL.o.of HBS.o (intE.srcLit 1 HOK.o) HOK.o HOL.o ?_;intro u' w3 H1 H2 H3;obtain⟨ua',ul',uc',hu'⟩:=H1.o.shape3;subst hu';obtain⟨⟨k1,k2⟩,hf1,hf2⟩:=HTL.o.addOf H1.o H3.o.1 (H3.o.2.imp id Or.inl);have HFF:=jh hf1;have HCF:=jh ((HWA.o.trans HC2.o).any.trans (((Chg.refl (λk=>bt<=k) w2).alloc _).trans hf2));clear hf1 hf2)
  go_end0
  exact⟨_,_,rfl,by rw[HAL.o];exact HFF.o,HCF.o⟩
 .have HI:=jh h3
  have HAL:Hd (addL (R,O) (d,L)=(R++[(d,L)],O++[(R.length:Int)])):=jh (by unfold addL;rw[show gQ (d,L) (R,O).1=false from h5];rfl);clear h3 h5;go_enter Tryz.func155,Tryz.ntmps155
  go_upto_region 1 with (fail)
  rw[<-HWE.o];refine ws (λw'=>Cf wa w') ?_;(iterate 3 (refine rq ?_));(refine rq ?_ (by intro _ w' _ hC;have q:=hC.cellS HTA.o.c1 iD;go_simp;try with_reducible rfl));(refine rf HBX.o ?_);(refine rq ?_)
  refine yS rfl (Value.int .i64 (-1) )  178  ( #[.slice va R.length vc,.func (.func 179) #[.agg #[.int .i64 d,.slice ax L.length cx]] #[]]) (λw'=>by go_simp) (λ_ w' _ hC=>?_) (λK hK=>?_)
  .refine (jJ R va vc (bt+1) (bt+1) d L ax cx w' (HRI.o.same (HWA.o.trans hC)) (HX.o.2.2.same (HWA.o.trans hC)) oM hl).mono ?_
   rintro e w2 ⟨rfl,hc2⟩;exact⟨by rw[HI.o],hC.trans hc2⟩
  ((try go_simp);refine hK _ ?_;clear hK K)
  (refine rq ?_);refine zQ ?_;intro w2 hC2;have HC2:=jh hC2;have HT2:=jh (HTA.o.same hC2);have c2:=HT2.o.c2;have c1:=HT2.o.c1;obtain⟨x0,x1⟩:=HBX.o w2 hC2;clear hC2;go_upto_region 4 with (fail)
  obtain⟨we,hwe⟩:∃we,we=w2.drew:=⟨_,rfl⟩;have HWE2:Hd (w2.drew=we):=jh hwe.symm;have HWF:Hd (Cf w2 we):=jh (by rw[hwe];exact (Chg.refl _ _).drew);have HTE:=jh (HT2.o.same HWF.o);have HVB:Hd (∀g,(Value.slice va R.length vc).ownBlock=some g->bt+1<=g/\g<w.heap.size):=jh (λg hg=>by obtain⟨X,h1,_⟩:=HT.o.rows;exact h1.blk hg);have HXE:=jh (HWF.o.cellS x0 iD);have HXF:=jh (HWF.o.cellS x1 iD);clear hwe c1 c2 x0 x1;refine zC (λx=>Chg (λj=>(Value.slice va R.length vc).ownBlock=some j) we x) (λi=>decide (i=10)) kR ?_;show yN _ _ _ _ _ _ 11 (Array.replicate 11 false) _ w2.drew;rw[HWE2.o];have HSS:Hd (Chg (λj=>(Value.slice va R.length vc).ownBlock=some j) we we):=jh cR;have HN1:Hd (¬(Value.slice va R.length vc).ownBlock=some bt):=jh (λe=>by have:=(HVB.o _ e).1;omega);have HN2:Hd (¬(Value.slice va R.length vc).ownBlock=some w.heap.size):=jh (λe=>by have:=(HVB.o _ e).2;omega);(refine lq 0 HSS.o ?_);(refine lq 1 HSS.o ?_);(refine lq 2 HSS.o ?_);(refine lq 3 HSS.o ?_);(refine lq 4 HSS.o ?_ (hr:=by intro w' hC;have q:=hC.cellS HTE.o.c1 HN1.o;go_simp;try with_reducible rfl));(refine lq 5 HSS.o ?_ (hr:=by intro w' hC;have q0:=hC.cellS HXE.o HN2.o;have q1:=hC.cellS HXF.o HN2.o;go_simp;try with_reducible rfl));(refine lt 6 (λ_=>HSS.o.alloc _) ?_);have HTEA:=jh (HTE.o.same ((Chg.refl (λ_=>False) we).alloc (.cells #[.int .i64 d,.slice ax L.length cx] 241)));have HXEA:=jh (HX.o.same ((HWA.o.trans HC2.o).trans (HWF.o.trans ((Chg.refl (λ_=>False) we).alloc (.cells #[.int .i64 d,.slice ax L.length cx] 241)))));refine xE (i:=7) kR rfl rfl (.tmp 23) (.tmp 25) 199 199 rfl (.slice va R.length vc) (.slice (some ⟨we.heap.size,0,none⟩) 1 1) rfl rfl (λv' w1=>(∀X,rowE.Own (we.alloc (.cells #[.int .i64 d,.slice ax L.length cx] 241)) (bt+1) (.slice va R.length vc) X->X.length=R.length->rowE.Own w1 (bt+1) v' (X++[(d,ax,L.length,cx)]))/\Chg (λk=>(Value.slice va R.length vc).ownBlock=some k) (we.alloc (.cells #[.int .i64 d,.slice ax L.length cx] 241)) w1/\(v'.ownBlock=(Value.slice va R.length vc).ownBlock\/v'.ownBlock=some (we.alloc (.cells #[.int .i64 d,.slice ax L.length cx] 241)).heap.size)/\∃a n c,v'=.slice a n c) ?_ ?_
  .obtain⟨X,hX,hXl,-⟩:=HTEA.o.rows
   have hok:∀y∈[(d,ax,L.length,cx)],rowE.ok y:=(by intro y hy;rw[Ay3]at hy;subst hy;exact HX.o.2.1);obtain⟨v',w1,hrun,h1,h2,⟨h3,h4⟩,-⟩:=hX.append (by have:=HTEA.o.lt;omega) 199 (.slice (some ⟨we.heap.size,0,none⟩) 1 1) [(d,ax,L.length,cx)] (rowE.srcLit 1 hok) hok sO 199;rw[hXl]at *;refine⟨v',w1,hrun,λ_=>(HSS.o.alloc _).trans h3,λX' hX' hXl'=>?_,h3,h4,h1.shape3⟩;have:X'=X:=fG hX' hX;rw[this];exact h1
  rintro v' w1 hs ⟨h1,h2,h3,va',vn',vc',rfl⟩ K hK;obtain⟨⟨k1,k2⟩,hf1,hf2⟩:=HTEA.o.addRow HXEA.o HXA.o h1 h2 (h3.imp id Or.inl);have HFT:=jh hf1;have HFC:=jh (((HWA.o.trans (HC2.o.trans HWF.o)).any (S:=λk=>bt<=k)).trans (((Chg.refl _ we).alloc _).trans hf2));have HSL:=jh (hs dE);clear hf1 hf2 h1 h2 h3 hs;(try go_simp)
  refine hK _ ?_;clear hK K;(refine lt 8 (λ_=>HSL.o) ?_);(refine lt 9 (λ_=>HSL.o) ?_);(refine ld 10 ?_);refine yA kR ?_ _;clear k1 k2;obtain⟨wf,hwf⟩:∃wf,wf=w1.setCell ⟨bt,1,none⟩ (.slice va' vn' vc'):=⟨_,rfl⟩;rw[<-hwf]at HFT HFC ⊢;have c2:=HFT.o.c2;clear hwf;have HTL:=jh (HFT.o.same ((Chg.refl (λ_=>False) wf).alloc (.cells #[.int .i64 R.length] 3)));have HBS:Hd (bt+1<=(wf.alloc (.cells #[.int .i64 R.length] 3)).heap.size):=jh HTL.o.lt;have HOK:Hd (∀x∈[(R.length:Int)],intE.ok x):=jh (by intro x hx;rw[Ay3]at hx;subst hx;exact⟨oM,oM⟩);have HOL:Hd (O.length+1<=1000000000000):=jh oM;go_wp2_with (at_builtin;refine Elt.wpList_append2 intE rfl (.tmp 33) (.tmp 35) 25 25 rfl rfl (bt+1) (.slice ua un uc) O [(R.length:Int)] (.slice (some ⟨wf.heap.size,0,none⟩) 1 1) rfl rfl HTL.o.of HBS.o (intE.srcLit 1 HOK.o) HOK.o HOL.o ?_;intro u' w3 H1 H2 H3;obtain⟨ua',ul',uc',hu'⟩:=H1.o.shape3;subst hu';obtain⟨⟨k1,k2⟩,hf1,hf2⟩:=HTL.o.addOf H1.o H3.o.1 (H3.o.2.imp id Or.inl);have HFF:=jh hf1;have HCF:=jh (HFC.o.trans (((Chg.refl (λk=>bt<=k) wf).alloc _).trans hf2));clear hf1 hf2)
  go_end0
  exact⟨_,_,rfl,by rw[HAL.o];exact HFF.o,HCF.o⟩
def yC (LL:List (List Int)):List RowD×List Int:=LL.foldl (λt l=>addL t (rowL l)) ([],[])
theorem zBc (LL:List (List Int)) (l:List Int):yC (LL++[l])=addL (yC LL) (rowL l):=by simp[yC,List.foldl_append]
def pA (W:Int) (l:List Int):Bool:=!uS l && decide ((l.length:Int)=W)
def uG (W:Int) (LL:List (List Int)):Bool:=LL.all (pA W)
theorem zQ1 (t:List RowD×List Int) (r:RowD):(addL t r).1.length<=t.1.length+1/\(addL t r).2.length=t.2.length+1:=by
 unfold addL
 split <;> simp
theorem tC (LL:List (List Int)):(yC LL).1.length<=LL.length/\(yC LL).2.length=LL.length:=by
 have key:∀(LL:List (List Int)) (t:List RowD×List Int),(LL.foldl (λt l=>addL t (rowL l)) t).1.length<=t.1.length+LL.length/\(LL.foldl (λt l=>addL t (rowL l)) t).2.length=t.2.length+LL.length:=by
  intro LL
  induction LL with
  | nil=>intro t;simp
  | cons l LL ih =>
   intro t;have h1:=ih (addL t (rowL l));have h2:=zQ1 t (rowL l);simp only[List.foldl_cons,Ax2];omega
 have:=key LL ([],[]);simpa [yC] using this
def sC (w:World) (B:Nat) (s:Sl) (LL:List (List Int)):Prop:=∃X:List Sl,nW.In w B s X/\X.length=LL.length/\∀(j:Nat) x l,X[j]?=some x->LL[j]?=some l->intE.In w B x l
theorem sC.same {w w':World}{B:Nat}{s:Sl}{LL:List (List Int)}(h:sC w B s LL) (hc:Cf w w'):sC w' B s LL:=by
 obtain⟨X,h1,h2,h3⟩:=h;exact⟨X,h1.same hc,h2,λj x r hx hr=>(h3 j x r hx hr).same hc⟩
theorem sC.get {w:World}{B:Nat}{a:Option Addr}{n c:Nat}{LL:List (List Int)}(h:sC w B (a,n,c) LL) {k:Nat}(hk:k<LL.length) :
  ∃(l:List Int) (g o:Nat) (la:Option Addr) (lc gl ol:Nat),LL[k]?=some l/\a=some ⟨g,o,none⟩/\w.cell? ⟨g,o+k,none⟩=some (.slice la l.length lc)/\l.length<=lc/\I.BytesAt w gl ol l/\(0<l.length->la=some ⟨gl,ol,none⟩/\B<=gl)/\g<w.heap.size/\B<=g:=by
 obtain⟨X,⟨h1,h2,g,o,h3,h4⟩,h5,h6⟩:=h;have hx:X[k]?=some X[k]:=Az oM;have hl:LL[k]?=some LL[k]:=Az hk;obtain⟨k1,k2,gl,ol,k3,k4⟩:=h6 k _ _ hx hl;have hc:=h3.get hx (i:=0) (u:=slV X[k]) rfl;rw[Nat.add_zero,show nW.sz=1 from rfl,Nat.mul_one]at hc;obtain⟨h4,h7⟩:=h4 oM;refine⟨LL[k],g,o,X[k].1,X[k].2.2,gl,ol,hl,h4,?_,oM,zQa.1 k3,k4,h3.lt (by intro e;rw[e]at h5;simp at h5;omega),h7⟩;rw[hc,<-k1]
 rfl
theorem sC.len {w:World}{B:Nat}{a:Option Addr}{n c:Nat}{LL:List (List Int)}(h:sC w B (a,n,c) LL):n=LL.length/\n<=c:=by
 obtain⟨X,⟨h1,h2,_⟩,h5,_⟩:=h;exact⟨by rw[<-h5];exact h1,h2⟩
def OfIn (w:World) (B:Nat) (a:Option Addr) (O:List Int):Prop:=(O=[]/\a=none)\/∃g,a=some ⟨g,0,none⟩/\I.Row w g O/\B<=g
def tabV (W:Int) (ra:Option Addr) (rn rc:Nat) (oa:Option Addr) (on oc:Nat) (e:Int):Value:=.tuple #[.agg #[.int .i64 W,.slice ra rn rc,.slice oa on oc],.int .i64 e]
theorem uN.lower {E:Elt (Int×Int)}{F:Elt (Int×Sl)}{w:World}{B B':Nat}{s:Sl}{R:List RowD}(h:uN E F w B s R) (hB:B'<=B):uN E F w B' s R:=by
 obtain⟨X,h1,h2,h3⟩:=h;exact⟨X,h1.lower hB,h2,λj x r hx hr=>⟨(h3 j x r hx hr).1,(h3 j x r hx hr).2.1,(h3 j x r hx hr).2.2.lower hB⟩⟩
theorem OfIn.lower {w:World}{B B':Nat}{a:Option Addr}{O:List Int}(h:OfIn w B a O) (hB:B'<=B):OfIn w B' a O:=by
 rcases h with h|⟨g,h1,h2,h3⟩
 .exact .inl h
 .exact .inr ⟨g,h1,h2,oM⟩
theorem TabSt.final {E:Elt (Int×Int)}{F:Elt (Int×Sl)}{bt:Nat}{w w':World}{W:Int}{R:List RowD}{O:List Int}{a ua:Option Addr}{n c m uc:Nat}(h:TabSt E F bt w W R O (.slice a n c) (.slice ua m uc)) (hc:Chg (λk=>k<=bt) w w') :
  uN E F w' (bt+1) (a,n,n) R/\OfIn w' (bt+1) ua O/\n=R.length/\m=O.length/\n<=c/\m<=uc:=by
 obtain⟨X,h1,h2,h3⟩:=h.rows;have h1':=h1.chg hc (λg hg _ e=>oM);obtain⟨a',g,c',hv,hle,-⟩:=h1.at';injection hv with e1 e2 e3;subst e1 e2 e3;refine⟨⟨X,h1'.in' (Ay _),h2,λj x r hx hr=>(h3 j x r hx hr).1.chg0 hc (λhp g o hg e=>by have:=((h3 j x r hx hr).2 hp g o hg).2.2;omega)⟩,?_,h2,?_,hle,?_⟩
 .rcases h.of with ⟨e,rfl⟩|⟨g,C,e,hB,hR,hp,_⟩
  .injection e with e1 e2 e3
   exact .inl ⟨rfl,e1⟩
  .injection e with e1 e2 e3
   have hr2:=(hR.chg hc (show ¬g<=bt by omega));refine .inr ⟨g,e1,cG.1 ⟨λk u hk=>?_,hr2.z,hr2.lt,λx hx=>hr2.ok x (hp.subset hx)⟩,hB⟩;have:=(hr2.at' hp).c k u hk;rwa [Ax0]at this
 .rcases h.of with ⟨e,rfl⟩|⟨g,C,e,hB,hR,hp,_⟩
  .injection e
  .injection e
 .rcases h.of with ⟨e,rfl⟩|⟨g,C,e,hB,hR,hp,_⟩
  .injection e with e1 e2 e3
   subst e2 e3;exact Ay _
  .injection e with e1 e2 e3
   subst e2 e3;exact hp.length_le
theorem zJ1 (l:List Int) (h:∀n∈l,I.Byte n):I.Byte (xA l):=by
 rcases qU l with ⟨_,h2⟩|⟨h1,_⟩
 .rw[h2];exact⟨oM,oM⟩
 .exact h _ h1
def zQ3 (w:World) (W:Int) (LL:List (List Int)) (e:Ending) (w':World):Prop :=
 (uG W LL=false/\e=.returned (tabV 0 none 0 0 none 0 0 1)/\Cf w w') \/
 (uG W LL=true/\∃ra oa,e=.returned (tabV W ra (yC LL).1.length (yC LL).1.length oa (yC LL).2.length (yC LL).2.length 0)/\uN vN rowE w' w.heap.size (ra,(yC LL).1.length,(yC LL).1.length) (yC LL).1/\OfIn w' w.heap.size oa (yC LL).2/\Cf w w')
theorem zP5 (W:Int) (LL:List (List Int)) (a:Option Addr) (c B:Nat) (w:World) (h:sC w B (a,LL.length,c) LL) (h0:0<=W) (h1:W<=65536) (hn:LL.length<=65536) (hl:∀l∈LL,l.length<=65536) :
  Calls Tryz.prog 116 #[.int .i64 W,.slice a LL.length c] w (zQ3 w W LL):=by
 have HL:=jh h;have HLL:=jh hl;have d1:decide (W<0)=false:=by simp;omega
 have d2:decide (65536<W)=false:=by simp;omega
 have HC0:=jh ((Chg.refl (λk=>w.heap.size<=k) w).alloc (.cells #[.int .i64 0,.slice none 0 0,.slice none 0 0] 201));have HR0:Hd (∀wr,Chg (λk=>w.heap.size+1<=k) (w.alloc (.cells #[.int .i64 0,.slice none 0 0,.slice none 0 0] 201)) wr->(wr.cell? ⟨w.heap.size,0,none⟩=some (.int .i64 0)/\wr.cell? ⟨w.heap.size,1,none⟩=some (.slice none 0 0)/\wr.cell? ⟨w.heap.size,2,none⟩=some (.slice none 0 0))/\∀j,wr.frozen? ⟨w.heap.size,j,none⟩=false):=jh λwr hc =>
  ⟨⟨hc.cellS sI (by show ¬w.heap.size+1<=w.heap.size;omega),hc.cellS sI (by show ¬w.heap.size+1<=w.heap.size;omega),hc.cellS sI (by show ¬w.heap.size+1<=w.heap.size;omega)⟩,λj=>(hc.frozen (p:=⟨w.heap.size,j,none⟩) sI (by show ¬w.heap.size+1<=w.heap.size;omega)).trans (Az8 _ _ _ _)⟩
 obtain⟨w1,hw1⟩:∃w1,w1=w.alloc (.cells #[.int .i64 0,.slice none 0 0,.slice none 0 0] 201):=⟨_,rfl⟩;have hs1:w1.heap.size=w.heap.size+1:=by rw[hw1];simp
 have HT0:Hd (TabSt vN rowE (w.heap.size+1) (w1.alloc (.cells #[.int .i64 W,.slice none 0 0,.slice none 0 0] 201)) W [] [] (.slice none 0 0) (.slice none 0 0)):=jh (by
  rw[<-hs1];exact⟨by rw[Az7];rfl,by rw[Az7];rfl,Az8 _ _ _ _,by rw[Az7];rfl,Az8 _ _ _ _,⟨[],.nil _ _,rfl,λj x r hx=>by simp at hx⟩,.nil _ _,λg hg=>by cases hg⟩)
 have HC1:Hd (Chg (λk=>w.heap.size+1<=k) w1 (w1.alloc (.cells #[.int .i64 W,.slice none 0 0,.slice none 0 0] 201))):=jh ((Chg.refl _ _).alloc _);rw[<-hw1]at HC0 HR0;have HW1:=jh hw1;clear h hl hw1 hs1;go_enter Tryz.func116,Tryz.ntmps116
 go_wp2;rw[<-HW1.o]
 go_loopw [27] (λq wr=>∃(k:Nat) (v u:Value),k<=LL.length/\q=.int .i64 k/\uG W (LL.take k)=true/\TabSt vN rowE (w.heap.size+1) wr W (yC (LL.take k)).1 (yC (LL.take k)).2 v u/\Chg (λk=>w.heap.size+1<=k) w1 wr) (λq _=>LL.length-(intOf q).toNat)
 case atStart=>exact⟨0,_,_,oM,rfl,rfl,HT0.o,HC1.o⟩
 case round =>
  clear HT0 HC1;obtain⟨k,v,u,hk,rfl,hok,ht,hc⟩:=hrel;have HOK:=jh hok;have HT:=jh ht;have HC:=jh hc;have HCW:=jh ((HC0.o.trans (hc.mono (T:=λk=>w.heap.size<=k) (λk _ e=>oM))).fresh);obtain⟨⟨r0,r1,r2⟩,hz⟩:=HR0.o wr hc;have HR:=jh (And.intro (And.intro r0 (And.intro r1 r2)) hz);clear hok ht hc r0 r1 r2 hz;by_cases hkl:k<LL.length
  .have b28:decide ((k:Int)<(LL.length:Int))=true:=by simp;omega
   obtain⟨l,g,o,la,lc,gl,ol,hlk,rfl,c0,hlc,hla,hlp,-,-⟩:=(HL.o.same HCW.o).get hkl;have HLK:=jh hlk;have HLA:=jh hla;have HLP:Hd (0<l.length->la=some ⟨gl,ol,none⟩):=jh (λh=>(hlp h).1);have hl6:=HLL.o l (Az2 hlk);have HTK:Hd (LL.take (k+1)=LL.take k++[l]):=jh (by rw[Ay1,hlk];rfl);have HBADP:Hd (pA W l=false->uG W LL=false):=jh (λh=>by
    unfold uG;rw[List.all_eq_false];exact⟨l,Az2 HLK.o,by simp[h]⟩)
   clear hlk hla hlp;by_cases hnv:uS l=true
   .have HMB:=jh (HBADP.o (by unfold pA;rw[hnv];rfl))
    go_wp2_with fail
    refine (zS6 l la gl ol lc wr HLA.o HLP.o hl6 hnv).mono ?_;rintro e w2 ⟨rfl,hc2⟩;unfold ofV slV;obtain⟨⟨r0,r1,r2⟩,-⟩:=HR0.o w2 (HC.o.trans hc2.any);obtain⟨-,hz⟩:=HR0.o w2 (HC.o.trans hc2.any);have z0:=hz 0;have z1:=hz 1;have z2:=hz 2;have HC2:=jh (HCW.o.trans hc2);have hlt:w.heap.size<w2.heap.size:=Az6 _ _ r0;clear hc2 hz c0;go_wp2;obtain⟨f0,f1,f2,f3⟩:=eL (.int .i64 0) (.slice none 0 0) (.slice none 0 0) r0 r1 r2;have f0:=((Chg.refl (λ_=>False) _).alloc (.cells #[.int .i64 0,.slice none 0 0] 241)).cellS f0 iD;have f1:=((Chg.refl (λ_=>False) _).alloc (.cells #[.int .i64 0,.slice none 0 0] 241)).cellS f1 iD;have f2:=((Chg.refl (λ_=>False) _).alloc (.cells #[.int .i64 0,.slice none 0 0] 241)).cellS f2 iD;have h4:=(((HC2.o.any (S:=λk=>w.heap.size<=k)).trans (f3.mono (λk _ e=>oM))).alloc (.cells #[.int .i64 0,.slice none 0 0] 241)).fresh;clear f3
    generalize ((((w2.setCell ⟨w.heap.size,0,none⟩ (.int .i64 0)).setCell ⟨w.heap.size,1,none⟩ (.slice none 0 0)).setCell ⟨w.heap.size,2,none⟩ (.slice none 0 0)).alloc (.cells #[.int .i64 0,.slice none 0 0] 241))=WW at *
    exact bodyPost_ret (v:=.tuple #[.agg #[.int .i64 0,.slice none 0 0,.slice none 0 0],.int .i64 1]) (by simp[results,Tryz.results116,go_sem,f0,f1,f2]) rfl (.inl ⟨HMB.o,rfl,h4⟩)
   .have hnv:uS l=false:=by simpa using hnv
    go_wp2_with fail
    refine (zT0 l la gl ol lc wr HLA.o HLP.o hl6 hnv).mono ?_;rintro e w2 ⟨⟨sa,sn,sc⟩,rfl,hin,hc2⟩;obtain rfl:sn=(zG (xA l) 0 l).length:=hin.1;unfold ofV slV;simp only;have HIN:=jh hin;have HC2:=jh hc2;have HT2:=jh (HT.o.same hc2);obtain⟨⟨r0,r1,r2⟩,hz⟩:=HR0.o w2 (HC.o.trans hc2.any);have z0:=hz 0;have z1:=hz 1;have z2:=hz 2;have hlt:w.heap.size<w2.heap.size:=Az6 _ _ r0;clear hin hc2 hz c0;by_cases hlw:(l.length:Int)=W
    .have q1:((l.length:Int) != W)=false:=by simpa using hlw
     have HLO:Hd (pA W l=true):=jh (by unfold pA;rw[hnv];simpa using hlw);have HOK2:Hd (uG W (LL.take (k+1))=true):=jh (by
      have:=HOK.o;unfold uG at this ⊢;rw[HTK.o,List.all_append,this];simp[HLO.o])
     have HML:=jh (tC (LL.take k));have hR1:(yC (LL.take k)).1.length<=1000000:=(by have:=HML.o.1;have:=Au k LL;omega);have hO1:(yC (LL.take k)).2.length<=1000000:=(by have:=HML.o.2;have:=Au k LL;omega);have HBS:Hd (w.heap.size+2<=wr.heap.size):=jh (by have:=HT.o.lt;omega);have HXI:Hd (kS vN (w2.alloc (.cells #[.int .i64 (xA l),.slice sa (zG (xA l) 0 l).length sc] 241)) (w.heap.size+1+1) (xA l,sa,(zG (xA l) 0 l).length,sc) (xA l,zG (xA l) 0 l)):=jh
      ⟨rfl,zJ1 l HLA.o.byte,(HIN.o.lower (by have:=HBS.o;omega)).same ((Chg.refl _ _).alloc _)⟩
     have HXA:Hd (0<(zG (xA l) 0 l).length->∀g o,sa=some ⟨g,o,none⟩->v.ownBlock≠some g/\u.ownBlock≠some g/\w.heap.size+1<g):=jh (λhp g o hg=>by
      obtain⟨_,_,g',o',_,k5⟩:=HIN.o;obtain⟨h6,h7⟩:=k5 hp
      change sa=_ at h6
      rw[hg]at h6;injection h6 with h6;injection h6 with h6;subst h6;obtain⟨X,hX,_⟩:=HT.o.rows;have:=HBS.o;exact⟨λe=>by have:=(hX.blk e).2;omega,λe=>by have:=(HT.o.of.blk e).2;omega,oM⟩)
     have HTA:=jh (HT2.o.same ((Chg.refl (λ_=>False) w2).alloc (.cells #[.int .i64 (xA l),.slice sa (zG (xA l) 0 l).length sc] 241)));have HLL1:Hd ((zG (xA l) 0 l).length<=1000000000):=jh (by have:=uL (xA l) l 0;omega);have HSN:Hd (yC (LL.take (k+1))=addL (yC (LL.take k)) (xA l,zG (xA l) 0 l)):=jh (by rw[HTK.o,zBc];rfl);have HCC:=jh ((HC.o.trans HC2.o.any).alloc (.cells #[.int .i64 (xA l),.slice sa (zG (xA l) 0 l).length sc] 241));obtain⟨du,hdu⟩:∃d,xA l=d:=⟨_,rfl⟩;obtain⟨X,hX⟩:∃X,zG (xA l) 0 l=X:=⟨_,rfl⟩;rw[hX,hdu]at HXI HTA HSN HCC;rw[hX]at HXA HLL1;rw[hX,hdu];clear hX hdu hlw HIN;obtain⟨RR,hRR⟩:∃RR,(yC (LL.take k)).1=RR:=⟨_,rfl⟩;obtain⟨OO,hOO⟩:∃OO,(yC (LL.take k)).2=OO:=⟨_,rfl⟩;have HPE:Hd (yC (LL.take k)=(RR,OO)):=jh (by rw[<-hRR,<-hOO]);rw[hRR,hOO]at HTA;rw[hRR]at hR1;rw[hOO]at hO1;clear hRR hOO;go_wp2_with fail
     refine (zSm (w.heap.size+1) W RR OO v u du X sa sc _ HTA.o HXI.o HXA.o hR1 hO1 HLL1.o).mono ?_;rintro e w3 ⟨v3,u3,rfl,ht3,hc3⟩;have HT3:Hd (TabSt vN rowE (w.heap.size+1) w3 W (yC (LL.take (k+1))).1 (yC (LL.take (k+1))).2 v3 u3):=jh (by rw[HSN.o,HPE.o];exact ht3);have HC3:=jh (HCC.o.trans hc3);clear ht3 hc3 HTA HXI HXA;go_wp2;go_roundw
     case rel=>exact⟨k+1,v3,u3,oM,by go_num,HOK2.o,HT3.o,HC3.o⟩
     case measure=>simp[intOf];omega
    .have q1:((l.length:Int) != W)=true:=by simpa using hlw
     have HMB:=jh (HBADP.o (by unfold pA;rw[hnv];simpa using hlw));clear hlw;obtain⟨X,hX⟩:∃X,zG (xA l) 0 l=X:=⟨_,rfl⟩;rw[hX]at *;clear hX;go_wp2;obtain⟨f0,f1,f2,f3⟩:=eL (.int .i64 0) (.slice none 0 0) (.slice none 0 0) r0 r1 r2;have f0:=((Chg.refl (λ_=>False) _).alloc (.cells #[.int .i64 (xA l),.slice sa X.length sc] 241)).cellS f0 iD;have f1:=((Chg.refl (λ_=>False) _).alloc (.cells #[.int .i64 (xA l),.slice sa X.length sc] 241)).cellS f1 iD;have f2:=((Chg.refl (λ_=>False) _).alloc (.cells #[.int .i64 (xA l),.slice sa X.length sc] 241)).cellS f2 iD;have h4:=((((HCW.o.trans HC2.o).any (S:=λk=>w.heap.size<=k)).trans (f3.mono (λk _ e=>oM))).alloc (.cells #[.int .i64 (xA l),.slice sa X.length sc] 241)).fresh;clear f3
     generalize ((((w2.setCell ⟨w.heap.size,0,none⟩ (.int .i64 0)).setCell ⟨w.heap.size,1,none⟩ (.slice none 0 0)).setCell ⟨w.heap.size,2,none⟩ (.slice none 0 0)).alloc (.cells #[.int .i64 (xA l),.slice sa X.length sc] 241))=WW at *
     exact bodyPost_ret (v:=.tuple #[.agg #[.int .i64 0,.slice none 0 0,.slice none 0 0],.int .i64 1]) (by simp[results,Tryz.results116,go_sem,f0,f1,f2]) rfl (.inl ⟨HMB.o,rfl,h4⟩)
  .obtain rfl:k=LL.length:=oM
   have HOKF:Hd (uG W LL=true):=jh (by have:=HOK.o;rwa [Ay5]at this);have HTF:Hd (TabSt vN rowE (w.heap.size+1) wr W (yC LL).1 (yC LL).2 v u):=jh (by have:=HT.o;rwa [Ay5]at this);obtain⟨va,vn,vc,rfl⟩:∃a n c,v=.slice a n c:=(by obtain⟨X,h1,_⟩:=HTF.o.rows;exact h1.shape3);obtain⟨ua,un,uc,rfl⟩:=HTF.o.of.shape3;obtain⟨-,-,rfl,rfl,hle1,hle2⟩:=HTF.o.final cR;clear HT HOK;go_wp2_with fail
   obtain⟨we,hwe⟩:∃we,we=wr.drew:=⟨_,rfl⟩;have HWE2:Hd (wr.drew=we):=jh hwe.symm;have HWF:Hd (Cf wr we):=jh (by rw[hwe];exact (Chg.refl _ _).drew);have HTE:=jh (HTF.o.same HWF.o);obtain⟨⟨r0,r1,r2⟩,hz⟩:=HR0.o we (HC.o.trans HWF.o.any);have z0:=hz 0;have z1:=hz 1;have z2:=hz 2;have HCE:=jh ((HCW.o.trans HWF.o).any (S:=λk=>w.heap.size<=k));have hbl:w.heap.size+1<we.heap.size:=HTE.o.lt;clear hwe hz;refine zC (λx=>x=we) (λi=>decide (7<=i)) kR ?_;show yN _ _ _ _ _ _ 10 (Array.replicate 10 false) _ wr.drew;rw[HWE2.o];have HSS:Hd (we=we):=jh rfl;(refine lq 0 HSS.o ?_);(refine lq 1 HSS.o ?_ (hr:=by intro w' hC;subst hC;have q:=HTE.o.c1;go_simp;try with_reducible rfl));(refine lq 3 HSS.o ?_);(refine lq 4 HSS.o ?_ (hr:=by intro w' hC;subst hC;have q:=HTE.o.c2;go_simp;try with_reducible rfl));refine yE (i:=2) kR rfl rfl 156 #[.slice va (yC LL).1.length vc] (λq w''=>q=.slice va (yC LL).1.length (yC LL).1.length/\we=w'') (by go_simp) ?_ ?_
   .refine (zNz we va _ vc hle1).mono ?_
    rintro e w2 ⟨rfl,rfl⟩;exact⟨_,rfl,λ_=>rfl,rfl,rfl⟩
   rintro q w''-⟨rfl,rfl⟩ K hK;(try go_simp)
   refine hK _ ?_;clear hK K;refine yE (i:=5) kR rfl rfl 144 #[.slice ua (yC LL).2.length uc] (λq w''=>q=.slice ua (yC LL).2.length (yC LL).2.length/\we=w'') (by go_simp) ?_ ?_
   .refine (zBf we ua _ uc hle2).mono ?_
    rintro e w2 ⟨rfl,rfl⟩;exact⟨_,rfl,λ_=>rfl,rfl,rfl⟩
   rintro q w''-⟨rfl,rfl⟩ K hK;(try go_simp)
   refine hK _ ?_;clear hK K;(refine lt 6 (λ_=>rfl) ?_);have c1:=HTE.o.c1;have y1:=HTE.o.z1;have c0:=HTE.o.c0;have s1:=zA we (w.heap.size+1) 1 (.slice va (yC LL).1.length (yC LL).1.length);have c2:(we.setCell ⟨w.heap.size+1,1,none⟩ (.slice va (yC LL).1.length (yC LL).1.length)).cell? ⟨w.heap.size+1,2,none⟩=some (.slice ua (yC LL).2.length uc):=Chg.cellNe HTE.o.c2 (by intro e;injection e with _ e;cases e);have y2:(we.setCell ⟨w.heap.size+1,1,none⟩ (.slice va (yC LL).1.length (yC LL).1.length)).frozen? ⟨w.heap.size+1,2,none⟩=false:=(Az4 _ _ _ _).trans HTE.o.z2;(refine ld 7 ?_);(refine lt 8 (λh=>absurd h dE) ?_);(refine ld 9 ?_);refine yA kR ?_ _;obtain⟨wg,hwg⟩:∃wg,wg=(we.setCell ⟨w.heap.size+1,1,none⟩ (.slice va (yC LL).1.length (yC LL).1.length)).setCell ⟨w.heap.size+1,2,none⟩ (.slice ua (yC LL).2.length (yC LL).2.length):=⟨_,rfl⟩;rw[<-hwg];have s2:Chg (λk=>k=w.heap.size+1) we wg:=(by rw[hwg];exact s1.trans (zA _ _ _ _));have g0:wg.cell? ⟨w.heap.size+1,0,none⟩=some (.int .i64 W):=(by rw[hwg];exact Chg.cellNe (Chg.cellNe c0 (by intro e;injection e with _ e;cases e)) (by intro e;injection e with _ e;cases e));have g1:wg.cell? ⟨w.heap.size+1,1,none⟩=some (.slice va (yC LL).1.length (yC LL).1.length):=(by rw[hwg];exact Chg.cellNe (Az9 _ _ _ c1) (by intro e;injection e with _ e;cases e));have g2:wg.cell? ⟨w.heap.size+1,2,none⟩=some (.slice ua (yC LL).2.length (yC LL).2.length):=(by rw[hwg];exact Az9 _ _ _ c2);have hne:¬w.heap.size=w.heap.size+1:=oM;have r0:=s2.cellS r0 hne;have r1:=s2.cellS r1 hne;have r2:=s2.cellS r2 hne;have z0:=(s2.frozen (p:=⟨w.heap.size,0,none⟩) (by show w.heap.size<_;omega) hne).trans z0;have z1:=(s2.frozen (p:=⟨w.heap.size,1,none⟩) (by show w.heap.size<_;omega) hne).trans z1;have z2:=(s2.frozen (p:=⟨w.heap.size,2,none⟩) (by show w.heap.size<_;omega) hne).trans z2;have HS2:=jh s2;clear hwg s2 s1 c0 c1 c2 y1 y2;go_wp2;obtain⟨f0,f1,f2,f3⟩:=eL (.int .i64 W) (.slice va (yC LL).1.length (yC LL).1.length) (.slice ua (yC LL).2.length (yC LL).2.length) r0 r1 r2;have h3:=(HS2.o.mono (T:=λk=>k<=w.heap.size+1) (λk _ e=>oM)).trans (f3.mono (λk _ e=>oM));obtain⟨h4,h5,-⟩:=HTE.o.final h3;have h6:=(HCE.o.trans (HS2.o.mono (λk _ e=>oM))).trans (f3.mono (λk _ e=>oM));clear f3 h3
   generalize ((wg.setCell ⟨w.heap.size,0,none⟩ (.int .i64 W)).setCell ⟨w.heap.size,1,none⟩ (.slice va (yC LL).1.length (yC LL).1.length)).setCell ⟨w.heap.size,2,none⟩ (.slice ua (yC LL).2.length (yC LL).2.length)=WW at *
   exact bodyPost_ret (v:=.tuple #[.agg #[.int .i64 W,.slice va (yC LL).1.length (yC LL).1.length,.slice ua (yC LL).2.length (yC LL).2.length],.int .i64 0]) (by simp[results,Tryz.results116,go_sem,f0,f1,f2]) rfl (.inr ⟨HOKF.o,va,ua,rfl,h4.lower oM,h5.lower oM,h6.fresh⟩)
end Go.Proofs.YtgnpmceimpjheaaGreat
namespace Go.Proofs.YtgnpmceimpjheaaGreat
open Go.RowKit
variable {α:Type}{E:Elt α}
end Go.Proofs.YtgnpmceimpjheaaGreat
namespace Go.Proofs.YtgnpmceimpjheaaGreat
open Go.RowKit
structure LexD where
 r:List (Int×Int)
 c:List Int
 n:List (List Int)
 e:List Int
def xS (C:List Int):Int:=C.foldl (λm c=>max m (c+1)) 0
theorem zLg (C:List Int) (c:Int):xS (C++[c])=max (xS C) (c+1):=by simp[xS,List.foldl_append]
theorem bL {C:List Int}{k:Nat}{c:Int}(h:C[k]?=some c):xS (C.take (k+1))=max (xS (C.take k)) (c+1):=by
 rw[Ay1,h];exact zLg _ _
theorem zAb (C:List Int):∀m:Int,m<=C.foldl (λm c=>max m (c+1)) m/\∀c∈C,c+1<=C.foldl (λm c=>max m (c+1)) m:=by
 induction C with
 | nil=>intro m;simp
 | cons x C ih =>
  intro m;obtain⟨h1,h2⟩:=ih (max m (x+1));simp only[List.foldl_cons,Ax3];refine⟨oM,?_⟩;rintro c (rfl|hc)
  .omega
  .exact h2 c hc
theorem tW (C:List Int):0<=xS C:=(zAb C 0).1
theorem zNx {C:List Int}{c:Int}(h:c∈C):c<xS C:=Int.lt_of_add_one_le ((zAb C 0).2 c h)
theorem fY {C:List Int}{m:Int}(hm:0<=m) (h:∀c∈C,c<m):xS C<=m:=by
 have key:∀(C:List Int) (a:Int),a<=m->(∀c∈C,c<m)->C.foldl (λm c=>max m (c+1)) a<=m:=by
  intro C
  induction C with
  | nil=>intro a ha _;exact ha
  | cons x C ih =>
   intro a ha hc;have:=hc x sI;exact ih (max a (x+1)) oM (λc h=>hc c (by simp[h]))
 exact key C 0 hm h
def apOk (R:List (Int×Int)) (i:Nat):Bool:=decide ((R.getD i (0,0)).1<=(R.getD i (0,0)).2) && (decide (i=0) || decide ((R.getD (i-1) (0,0)).2<(R.getD i (0,0)).1))
def jN (R:List (Int×Int)):Bool:=(List.range R.length).all (apOk R)
theorem zC9 {R:List (Int×Int)}(h:∀j,j<R.length->apOk R j=true):jN R=true:=by
 unfold jN;rw[Ax5];intro j hj;exact h j (At2.1 hj)
theorem jL {R:List (Int×Int)}{j:Nat}(hj:j<R.length) (h:apOk R j=false):jN R=false:=by
 unfold jN;rw[List.all_eq_false];exact⟨j,At2.2 hj,by rw[h];simp⟩
def inB (lo hi x:Int):Bool:=decide (lo<=x) && decide (x<hi)
def rowB (cols many:Int) (row:List Int):Bool:=decide ((row.length:Int)=cols) && row.all (inB (-1) many)
def zFn (C:List Int):Bool:=(List.range (xS C).toNat).all (λc=>C.contains (c:Int))
def mayT (t:LexD):Bool :=
 jN t.r && decide (t.c.length=t.r.length/\0<t.n.length/\t.e.length=t.n.length) && t.c.all (inB 0 t.c.length) && zFn t.c && t.e.all (λe=>decide (-1<=e)) && t.n.all (rowB (xS t.c) t.n.length)
structure MayS (t:LexD):Prop where
 ap:jN t.r=true
 cl:t.c.length=t.r.length
 nl:0<t.n.length
 el:t.e.length=t.n.length
 cb:∀c∈t.c,0<=c/\c<t.c.length
 fill:zFn t.c=true
 eb:∀e∈t.e,-1<=e
 row:∀l∈t.n,(l.length:Int)=xS t.c/\∀x∈l,-1<=x/\x<t.n.length
theorem fQ {t:LexD}:mayT t=true↔MayS t:=by
 unfold mayT;simp only[Ay2,decide_eq_true_eq,Ax5,inB,rowB]
 constructor
 .rintro ⟨⟨⟨⟨⟨h1,h2,h3,h4⟩,h5⟩,h6⟩,h7⟩,h8⟩
  exact⟨h1,h2,h3,h4,h5,h6,h7,h8⟩
 .rintro ⟨h1,h2,h3,h4,h5,h6,h7,h8⟩
  exact⟨⟨⟨⟨⟨h1,h2,h3,h4⟩,h5⟩,h6⟩,h7⟩,h8⟩
theorem uU {t:LexD}(h:¬MayS t):mayT t=false:=by
 cases hm:mayT t
 .rfl
 .exact absurd (fQ.1 hm) h
theorem zQf {α:Type}{L:List α}{k:Nat}{z:α}(h:k<L.length):L.getD k z∈L:=by
 rw[Aw2,Az h];exact List.getElem_mem h
abbrev I32 (a:Int):Prop:=-2147483648<=a/\a<=2147483647
abbrev zTz (p:Int×Int):Prop:=I32 p.1/\I32 p.2
def zEj (p:Int×Int):List Value:=[.int .i32 p.1,.int .i32 p.2]
def rngE:Elt (Int×Int) where
 enc:=zEj
 sz:=2
 bs:=8
 e:=117
 sl:=24
 z:=(0,0)
 zv:=.agg #[.int .i32 0,.int .i32 0]
 ok:=zTz
 pos:=oM
 len:=λ_=>rfl
 one:=λa u hu=>by
  simp only[zEj,Ax3,Av0,or_false]at hu;rcases hu with rfl|rfl <;> rfl
 zok:=dE
 info:=kR
 zc:=rfl
 und:=kR
 bsl:=oM
structure TabIn (w:World) (B:Nat) (rs cs ns es:Sl) (t:LexD):Prop where
 r:rngE.In w B rs t.r
 c:intE.In w B cs t.c
 n:sC w B ns t.n
 e:intE.In w B es t.e
theorem Elt.In.chgB {α:Type}{E:Elt α}{S:Nat->Prop}{w w':World}{B:Nat}{s:Sl}{L:List α}(h:E.In w B s L) (hc:Chg S w w') (hs:∀g,B<=g->¬S g):E.In w' B s L:=by
 obtain⟨h1,h2,g,o,h3,h4⟩:=h;exact⟨h1,h2,g,o,h3.chg hc (λhne=>hs g (h4 (by cases L with
  | nil=>exact absurd rfl hne
  | cons x L=>simp)).2),h4⟩
theorem Elt.In.len {α:Type}{E:Elt α}{w:World}{B:Nat}{a:Option Addr}{n c:Nat}{L:List α}(h:E.In w B (a,n,c) L):n=L.length/\n<=c:=⟨h.1,h.2.1⟩
theorem Elt.In.getI {w:World}{B:Nat}{a:Option Addr}{n c:Nat}{L:List Int}(h:intE.In w B (a,n,c) L) {k:Nat}(hk:k<L.length) :
  ∃(x:Int) (g o:Nat),L[k]?=some x/\a=some ⟨g,o,none⟩/\w.cell? ⟨g,o+k,none⟩=some (.int .i64 x)/\-9223372036854775808<=x/\x<=9223372036854775807/\B<=g/\g<w.heap.size:=by
 obtain⟨h1,h2,g,o,h3,h4⟩:=h;have hx:L[k]?=some L[k]:=Az hk;have hc:=h3.get hx (i:=0) (u:=.int .i64 L[k]) rfl;rw[Nat.add_zero,show intE.sz=1 from rfl,Nat.mul_one]at hc;obtain⟨h5,h6⟩:=h4 oM;have hok:=h3.ok _ (List.getElem_mem hk);exact⟨L[k],g,o,hx,h5,hc,hok.1,hok.2,h6,h3.lt (by intro e;rw[e]at hk;simp at hk)⟩
theorem Elt.In.getR {w:World}{B:Nat}{a:Option Addr}{n c:Nat}{L:List (Int×Int)}(h:rngE.In w B (a,n,c) L) {k:Nat}(hk:k<L.length) :
  ∃(x y:Int) (g o:Nat),L[k]?=some (x,y)/\a=some ⟨g,o,none⟩/\w.cell? ⟨g,o+k * 2,none⟩=some (.int .i32 x)/\w.cell? ⟨g,o+k * 2+1,none⟩=some (.int .i32 y)/\(-2147483648<=x/\x<=2147483647)/\(-2147483648<=y/\y<=2147483647)/\B<=g/\g<w.heap.size:=by
 obtain⟨x,g,o,u,v,hx,ha,he,c0,c1,hok,hB,hg⟩:=h.get2 rfl hk;obtain⟨x,y⟩:=x;have he:[Value.int .i32 x,Value.int .i32 y]=[u,v]:=he;injection he with e1 he;injection he with e2;subst e1 e2;exact⟨x,y,g,o,hx,ha,c0,c1,hok.1,hok.2,hB,hg⟩
def zQ2 (w:World) (b:Nat) (rs cs ns es:Sl):Prop :=
 w.cell? ⟨b,0,none⟩=some (.slice rs.1 rs.2.1 rs.2.2)/\w.cell? ⟨b,1,none⟩=some (.slice cs.1 cs.2.1 cs.2.2)/\w.cell? ⟨b,2,none⟩=some (.slice ns.1 ns.2.1 ns.2.2)/\w.cell? ⟨b,3,none⟩=some (.slice es.1 es.2.1 es.2.2)
theorem zQ5 (w:World) (rs cs ns es:Sl) (e:TypeId):zQ2 (w.alloc (.cells #[.slice rs.1 rs.2.1 rs.2.2,.slice cs.1 cs.2.1 cs.2.2,.slice ns.1 ns.2.1 ns.2.2,.slice es.1 es.2.1 es.2.2] e)) w.heap.size rs cs ns es:=by
 refine⟨?_,?_,?_,?_⟩ <;> · rw[Az7];rfl
theorem zQ2.chg {S:Nat->Prop}{w w':World}{b:Nat}{rs cs ns es:Sl}(h:zQ2 w b rs cs ns es) (hc:Chg S w w') (hs:¬S b):zQ2 w' b rs cs ns es :=
 ⟨hc.cellS h.1 hs,hc.cellS h.2.1 hs,hc.cellS h.2.2.1 hs,hc.cellS h.2.2.2 hs⟩
def lexV (rs cs ns es:Sl):Value:=.agg #[.slice rs.1 rs.2.1 rs.2.2,.slice cs.1 cs.2.1 cs.2.2,.slice ns.1 ns.2.1 ns.2.2,.slice es.1 es.2.1 es.2.2]
theorem zTd {w:World}{g o:Nat}{Z:List Int}{a:Option Addr}(c:Nat) (h:BytesAt w g o Z) (ha:0<Z.length->a=some ⟨g,o,none⟩):(convert 45 9 (.slice a Z.length c)).run Tryz.prog w=.ok (.string (strOfNums Z)) w:=by
 rcases Aw4 Z.length with h0|h0
 .have hZ:=Aw9.1 h0
  subst hZ;cases a with
  | none=>exact run_convert_bytes_nil w 45 5 Tryz.underlying45 Tryz.underlying5 0 c 9 Tryz.underlying9
  | some ad =>
   show (convert 45 9 (.slice (some ad) 0 c)).run Tryz.prog w=_;rw[run_convert_bytes_string w 45 9 5 _ 0 c Tryz.underlying45 Tryz.underlying5 Tryz.underlying9,run_bytesToString w _ 0 c [] (run_loadCells_list (P:=Tryz.prog) w ad [] (λj v hj=>by simp at hj))]
   rfl
 .obtain rfl:=ha h0
  refine run_convert_bytes_arg w 45 5 Tryz.underlying45 Tryz.underlying5 g o Z.length c Z rfl (λi hi=>?_) 9 Tryz.underlying9;obtain⟨x,hx,hc,_⟩:=h.get hi;rw[hc,Aw2,hx]
  rfl
theorem zM9 (w:World) (Y:List Int) (e:TypeId) (fr:Nat×Nat) (hY:∀a∈Y,Byte a):BytesAt (w.alloc (.cells (zL Y).toArray e fr)) w.heap.size 0 Y :=
 ⟨λk a hk=>⟨by rw[Ax0,World.cell?_alloc_mark];simp[zL,hk],hY a (Az2 hk)⟩,λ_=>sI⟩
theorem zRm {X Y:List Int}(hX:∀a∈X,Byte a) (hY:∀a∈Y,Byte a) (h:strOfNums X=strOfNums Y):X=Y:=by
 have h1:X.map (λn=>UInt8.ofNat n.toNat)=Y.map (λn=>UInt8.ofNat n.toNat):=by
  have:=congrArg (λs:ByteArray=>s.data.toList) h;simpa [strOfNums] using this
 clear h
 induction X generalizing Y with
 | nil=>cases Y with
  | nil=>rfl
  | cons y Y=>simp at h1
 | cons x X ih=>cases Y with
  | nil=>simp at h1
  | cons y Y =>
   simp only[List.map_cons,List.cons.injEq]at h1;have hx:=hX x sI;have hy:=hY y sI;have h2:=congrArg UInt8.toNat h1.1;simp only[UInt8.toNat_ofNat']at h2;rw[ih (λa ha=>hX a (by simp[ha])) (λa ha=>hY a (by simp[ha])) h1.2,show x=y by omega]
end Go.Proofs.YtgnpmceimpjheaaGreat
namespace Go.Proofs.YtgnpmceimpjheaaGreat
open Go.RowKit
abbrev Str:=ByteArray
def strB (s:Str):List Int:=s.data.toList.map (λb=>((b.toNat:Nat):Int))
theorem fC (s:Str):(strB s).length=s.size:=by simp[strB]
theorem zF8 (s:Str):∀a∈strB s,Byte a:=by
 intro a ha;simp only[strB,At0]at ha;obtain⟨b,_,rfl⟩:=ha;have:=b.toNat_lt;exact⟨oM,oM⟩
theorem zJ7 (s:Str):strOfNums (strB s)=s:=by
 cases s with
 | mk d =>
  simp only[strB,strOfNums,List.map_map]
  congr 1
  apply Array.ext'
  conv=>rhs;rw[<-List.map_id d.toList]
  apply List.map_congr_left
  intro b _;simp
abbrev qS:=Int×Int×Int
abbrev StD:=Int×List qS×List Int
abbrev LsD:=Int×List Int×List (Int×Int)
structure NetD where
 st:List StD
 s:List Int
 p:List Int
 q:List Int
 d:List Int
structure TabsD where
 rl:List Str
 tk:List Str
 dr:List Bool
 lx:LexD
 nt:NetD
 lk:List (List LsD)
abbrev U8 (a:Int):Prop:=0<=a/\a<=255
def strE:Elt Str where
 enc:=λs=>[.string s]
 sz:=1
 bs:=16
 e:=9
 sl:=22
 z:=⟨#[]⟩
 zv:=.string ⟨#[]⟩
 ok:=λ_=>True
 pos:=oM
 len:=λ_=>rfl
 one:=λa u hu=>by
  simp only[Ax3,Av0,or_false]at hu;subst hu;rfl
 zok:=trivial
 info:=kR
 zc:=rfl
 und:=kR
 bsl:=oM
def aA:Elt Bool where
 enc:=λb=>[.bool b]
 sz:=1
 bs:=1
 e:=4
 sl:=23
 z:=false
 zv:=.bool false
 ok:=λ_=>True
 pos:=oM
 len:=λ_=>rfl
 one:=λa u hu=>by
  simp only[Ax3,Av0,or_false]at hu;subst hu;rfl
 zok:=trivial
 info:=kR
 zc:=rfl
 und:=kR
 bsl:=oM
def aY (x:qS):List Value:=[.int .u8 x.1,.int .i64 x.2.1,.int .i64 x.2.2]
def qC:Elt qS where
 enc:=aY
 sz:=3
 bs:=24
 e:=71
 sl:=72
 z:=(0,0,0)
 zv:=.agg #[.int .u8 0,.int .i64 0,.int .i64 0]
 ok:=λx=>U8 x.1/\I.Byte x.2.1/\I.Byte x.2.2
 pos:=oM
 len:=λ_=>rfl
 one:=λa u hu=>by
  simp only[aY,Ax3,Av0,or_false]at hu;rcases hu with rfl|rfl|rfl <;> rfl
 zok:=dE
 info:=kR
 zc:=rfl
 und:=kR
 bsl:=oM
def jA (x:Int×Sl×Sl):List Value:=[.int .i64 x.1,slV x.2.1,slV x.2.2]
def stE:Elt (Int×Sl×Sl) where
 enc:=jA
 sz:=3
 bs:=56
 e:=74
 sl:=29
 z:=(0,(none,0,0),(none,0,0))
 zv:=.agg #[.int .i64 0,.slice none 0 0,.slice none 0 0]
 ok:=λx=>I.Byte x.1
 pos:=oM
 len:=λ_=>rfl
 one:=λa u hu=>by
  simp only[jA,Ax3,Av0,or_false]at hu;rcases hu with rfl|rfl|rfl <;> rfl
 zok:=dE
 info:=kR
 zc:=rfl
 und:=kR
 bsl:=oM
def rY:Elt (Int×Int) where
 enc:=uW
 sz:=2
 bs:=16
 e:=149
 sl:=65
 z:=(0,0)
 zv:=.agg #[.int .i64 0,.int .i64 0]
 ok:=zJj
 pos:=oM
 len:=λ_=>rfl
 one:=λa u hu=>by
  simp only[uW,Ax3,Av0,or_false]at hu;rcases hu with rfl|rfl <;> rfl
 zok:=dE
 info:=kR
 zc:=rfl
 und:=kR
 bsl:=oM
def zGy (x:Int×Sl×Sl):List Value:=[.int .u8 x.1,slV x.2.1,slV x.2.2]
def lsE:Elt (Int×Sl×Sl) where
 enc:=zGy
 sz:=3
 bs:=56
 e:=67
 sl:=61
 z:=(0,(none,0,0),(none,0,0))
 zv:=.agg #[.int .u8 0,.slice none 0 0,.slice none 0 0]
 ok:=λx=>U8 x.1
 pos:=oM
 len:=λ_=>rfl
 one:=λa u hu=>by
  simp only[zGy,Ax3,Av0,or_false]at hu;rcases hu with rfl|rfl|rfl <;> rfl
 zok:=dE
 info:=kR
 zc:=rfl
 und:=kR
 bsl:=oM
def zA7:Elt Sl where
 enc:=λs=>[slV s]
 sz:=1
 bs:=24
 e:=63
 sl:=32
 z:=(none,0,0)
 zv:=.agg #[.slice none 0 0]
 ok:=λ_=>True
 pos:=oM
 len:=λ_=>rfl
 one:=λa u hu=>by
  simp only[Ax3,Av0,or_false]at hu;subst hu;rfl
 zok:=trivial
 info:=kR
 zc:=rfl
 und:=kR
 bsl:=oM
variable {α β δ:Type}{E:Elt α}
def Elt.InS (E:Elt α) (w:World) (S:Nat->Prop) (s:Sl) (L:List α):Prop :=
 s.2.1=L.length/\s.2.1<=s.2.2/\∃g o,E.At w g o L/\(0<L.length->s.1=some ⟨g,o,none⟩/\S g)
theorem Elt.InS.chg {S T:Nat->Prop}{w w':World}{s:Sl}{L:List α}(h:E.InS w S s L) (hc:Chg T w w') (hs:∀g,S g->¬T g):E.InS w' S s L:=by
 obtain⟨h1,h2,g,o,h3,h4⟩:=h;exact⟨h1,h2,g,o,h3.chg hc (λhne=>hs g (h4 (List.length_pos_iff.2 hne)).2),h4⟩
theorem Elt.InS.mono {S S':Nat->Prop}{w:World}{s:Sl}{L:List α}(h:E.InS w S s L) (hs:∀g,g<w.heap.size->S g->S' g):E.InS w S' s L:=by
 obtain⟨h1,h2,g,o,h3,h4⟩:=h;exact⟨h1,h2,g,o,h3,λhp=>⟨(h4 hp).1,hs g (h3.lt (List.length_pos_iff.1 hp)) (h4 hp).2⟩⟩
theorem Elt.InS.in' {w:World}{B:Nat}{S:Nat->Prop}{s:Sl}{L:List α}(h:E.InS w S s L) (hs:∀g,S g->B<=g):E.In w B s L:=by
 obtain⟨h1,h2,g,o,h3,h4⟩:=h;exact⟨h1,h2,g,o,h3,λhp=>⟨(h4 hp).1,hs g (h4 hp).2⟩⟩
theorem Elt.In.inS {w:World}{B:Nat}{s:Sl}{L:List α}(h:E.In w B s L):E.InS w (B<=·) s L:=h
theorem Elt.InS.nil (E:Elt α) (w:World) (S:Nat->Prop):E.InS w S (none,0,0) []:=⟨rfl,Ay _,0,0,.nil _ _ _ _,λh=>absurd h sI⟩
theorem Elt.InS.len {w:World}{S:Nat->Prop}{a:Option Addr}{n c:Nat}{L:List α}(h:E.InS w S (a,n,c) L):n=L.length/\n<=c:=⟨h.1,h.2.1⟩
abbrev Rp (β δ:Type):=World->(Nat->Prop)->β->δ->Prop
structure Good (R:Rp β δ):Prop where
 chg:∀{S T:Nat->Prop}{w w':World}{x:β}{d:δ},R w S x d->Chg T w w'->(∀g,S g->¬T g)->R w' S x d
 mono:∀{S S':Nat->Prop}{w:World}{x:β}{d:δ},R w S x d->(∀g,g<w.heap.size->S g->S' g)->R w S' x d
def zJ (E:Elt β) (R:Rp β δ):Rp Sl (List δ):=λw S s L =>
 ∃X:List β,E.InS w S s X/\X.length=L.length/\∀(j:Nat) x d,X[j]?=some x->L[j]?=some d->R w S x d
theorem zJ.good {E:Elt β}{R:Rp β δ}(hR:Good R):Good (zJ E R) where
 chg:=λ{S T w w' x d} h hc hs=>by
  obtain⟨X,h1,h2,h3⟩:=h;exact⟨X,h1.chg hc hs,h2,λj x d hx hd=>hR.chg (h3 j x d hx hd) hc hs⟩
 mono:=λ{S S' w x d} h hs=>by
  obtain⟨X,h1,h2,h3⟩:=h;exact⟨X,h1.mono hs,h2,λj x d hx hd=>hR.mono (h3 j x d hx hd) hs⟩
def eqR:Rp β β:=λ_ _ x d=>x=d
theorem eqR.good:Good (eqR (β:=β)):=⟨λh _ _=>h,λh _=>h⟩
def inR (E:Elt β):Rp Sl (List β):=λw S s L=>E.InS w S s L
theorem inR.good {E:Elt β}:Good (inR E):=⟨λh hc hs=>h.chg hc hs,λh hs=>h.mono hs⟩
theorem zJ.of {E:Elt β}{w:World}{S:Nat->Prop}{s:Sl}{L:List β}(h:E.InS w S s L):zJ E eqR w S s L:=⟨L,h,rfl,λj x d hx hd=>by rw[hx]at hd;exact Az3 hd⟩
theorem zJ.to {E:Elt β}{w:World}{S:Nat->Prop}{s:Sl}{L:List β}(h:zJ E eqR w S s L):E.InS w S s L:=by
 obtain⟨X,h1,h2,h3⟩:=h;have:X=L:=List.ext_getElem h2 (λj hx hl=>h3 j _ _ (Az hx) (Az hl));rw[<-this];exact h1
theorem zJ.len {E:Elt β}{R:Rp β δ}{w:World}{S:Nat->Prop}{a:Option Addr}{n c:Nat}{L:List δ}(h:zJ E R w S (a,n,c) L):n=L.length/\n<=c:=by
 obtain⟨X,h1,h2,h3⟩:=h;exact⟨by rw[<-h2];exact h1.len.1,h1.len.2⟩
def stR:Rp (Int×Sl×Sl) StD:=λw S x d=>x.1=d.1/\I.Byte d.1/\qC.InS w S x.2.1 d.2.1/\intE.InS w S x.2.2 d.2.2
theorem stR.good:Good stR:=⟨λh hc hs=>⟨h.1,h.2.1,h.2.2.1.chg hc hs,h.2.2.2.chg hc hs⟩,λh hs=>⟨h.1,h.2.1,h.2.2.1.mono hs,h.2.2.2.mono hs⟩⟩
def lsR:Rp (Int×Sl×Sl) LsD:=λw S x d=>x.1=d.1/\U8 d.1/\intE.InS w S x.2.1 d.2.1/\rY.InS w S x.2.2 d.2.2
theorem lsR.good:Good lsR:=⟨λh hc hs=>⟨h.1,h.2.1,h.2.2.1.chg hc hs,h.2.2.2.chg hc hs⟩,λh hs=>⟨h.1,h.2.1,h.2.2.1.mono hs,h.2.2.2.mono hs⟩⟩
def mA:Rp Sl (List LsD):=zJ lsE lsR
theorem zJ.get {E:Elt β}{R:Rp β δ}{w:World}{S:Nat->Prop}{a:Option Addr}{n c:Nat}{L:List δ}(h:zJ E R w S (a,n,c) L) {k:Nat}(hk:k<L.length) :
  ∃(x:β) (d:δ) (g o:Nat),L[k]?=some d/\R w S x d/\a=some ⟨g,o,none⟩/\S g/\g<w.heap.size/\E.ok x/\∀i u,(E.enc x)[i]?=some u->w.cell? ⟨g,o+(k * E.sz+i),none⟩=some u:=by
 obtain⟨X,⟨h1,h2,g,o,h3,h4⟩,h5,h6⟩:=h;have hkX:k<X.length:=oM
 have hx:X[k]?=some X[k]:=Az hkX;have hd:L[k]?=some L[k]:=Az hk;obtain⟨h7,h8⟩:=h4 oM;exact⟨X[k],L[k],g,o,hd,h6 k _ _ hx hd,h7,h8,h3.lt (by intro e;rw[e]at hkX;simp at hkX),h3.ok _ (List.getElem_mem hkX),λi u hi=>h3.get hx hi⟩
structure NetS where
 st:Sl
 s:Sl
 p:Sl
 q:Sl
 d:Sl
structure NetIn (w:World) (S:Nat->Prop) (m:NetS) (n:NetD):Prop where
 st:zJ stE stR w S m.st n.st
 s:intE.InS w S m.s n.s
 p:intE.InS w S m.p n.p
 q:intE.InS w S m.q n.q
 d:intE.InS w S m.d n.d
theorem NetIn.good:Good (λw S m n=>NetIn w S m n) :=
 ⟨λh hc hs=>⟨(zJ.good stR.good).chg h.st hc hs,h.s.chg hc hs,h.p.chg hc hs,h.q.chg hc hs,h.d.chg hc hs⟩,λh hs=>⟨(zJ.good stR.good).mono h.st hs,h.s.mono hs,h.p.mono hs,h.q.mono hs,h.d.mono hs⟩⟩
def netV (m:NetS):Value:=.agg #[slV m.st,slV m.s,slV m.p,slV m.q,slV m.d]
structure LexS where
 r:Sl
 c:Sl
 n:Sl
 e:Sl
structure LexIn (w:World) (S:Nat->Prop) (m:LexS) (t:LexD):Prop where
 r:rngE.InS w S m.r t.r
 c:intE.InS w S m.c t.c
 n:zJ nW (inR intE) w S m.n t.n
 e:intE.InS w S m.e t.e
theorem LexIn.good:Good (λw S m n=>LexIn w S m n) :=
 ⟨λh hc hs=>⟨h.r.chg hc hs,h.c.chg hc hs,(zJ.good inR.good).chg h.n hc hs,h.e.chg hc hs⟩,λh hs=>⟨h.r.mono hs,h.c.mono hs,(zJ.good inR.good).mono h.n hs,h.e.mono hs⟩⟩
theorem LexIn.tab {w:World}{B:Nat}{m:LexS}{t:LexD}(h:LexIn w (B<=·) m t):TabIn w B m.r m.c m.n m.e t:=⟨h.r,h.c,h.n,h.e⟩
structure TabsS where
 rl:Sl
 tk:Sl
 dr:Sl
 lx:LexS
 nt:NetS
 lk:Sl
structure TabsIn (w:World) (S:Nat->Prop) (m:TabsS) (t:TabsD):Prop where
 rl:strE.InS w S m.rl t.rl
 tk:strE.InS w S m.tk t.tk
 dr:aA.InS w S m.dr t.dr
 lx:LexIn w S m.lx t.lx
 nt:NetIn w S m.nt t.nt
 lk:zJ zA7 mA w S m.lk t.lk
theorem mA.good:Good mA:=zJ.good lsR.good
theorem TabsIn.good:Good (λw S m n=>TabsIn w S m n) :=
 ⟨λh hc hs=>⟨h.rl.chg hc hs,h.tk.chg hc hs,h.dr.chg hc hs,LexIn.good.chg h.lx hc hs,NetIn.good.chg h.nt hc hs,(zJ.good mA.good).chg h.lk hc hs⟩,λh hs=>⟨h.rl.mono hs,h.tk.mono hs,h.dr.mono hs,LexIn.good.mono h.lx hs,NetIn.good.mono h.nt hs,(zJ.good mA.good).mono h.lk hs⟩⟩
def zHw (m:LexS):Value:=.agg #[slV m.r,slV m.c,slV m.n,slV m.e]
def gY (m:TabsS):Value:=.agg #[slV m.rl,slV m.tk,slV m.dr,slV m.lx.r,slV m.lx.c,slV m.lx.n,slV m.lx.e,slV m.nt.st,slV m.nt.s,slV m.nt.p,slV m.nt.q,slV m.nt.d,slV m.lk]
end Go.Proofs.YtgnpmceimpjheaaGreat
namespace Go.Proofs.YtgnpmceimpjheaaGreat
open Go.RowKit
theorem zEz (X Y:List Int) (ax ay:Option Addr) (gx ox gy oy cx cy:Nat) (w:World) (hx:BytesAt w gx ox X) (hax:0<X.length->ax=some ⟨gx,ox,none⟩) (hy:BytesAt w gy oy Y) (hay:0<Y.length->ay=some ⟨gy,oy,none⟩) (hl:X.length<=1000000000000) :
  Calls Tryz.prog 48 #[.slice ax X.length cx,.slice ay Y.length cy] w λe w'=>e=.returned (.bool (decide (X=Y)))/\Cf w w':=by
 have HX:=jh hx;have HY:=jh hy;have HAX:=jh hax;have HAY:=jh hay;clear hx hy hax hay;by_cases hxy:X.length=Y.length
 .have b10:((X.length:Int) != (Y.length:Int))=false:=by simp[hxy]
  go_enter Tryz.func48,Tryz.ntmps48
  go_wp2
  go_loopw [5] (λi wr=>∃k:Nat,k<=X.length/\i=.int .i64 k/\Cf w wr/\X.take k=Y.take k) (λi _=>X.length-(intOf i).toNat)
  case atStart=>exact⟨0,oM,rfl,Chg.refl _ _,sI⟩
  case round =>
   obtain⟨k,hk,rfl,hc,he⟩:=hrel;have HC:=jh hc;have HE:=jh he;clear hc he;by_cases hkl:k<X.length
   .have b14:decide ((k:Int)<(X.length:Int))=true:=by simp;omega
    obtain⟨p,hp,c1,p0,p1⟩:=(HX.o.chg HC.o iE).get hkl;obtain⟨q,hq,c2,q0,q1⟩:=(HY.o.chg HC.o iE).get (k:=k) oM;have e1:=HAX.o oM;have e2:=HAY.o oM;subst e1 e2;have HP:=jh hp;have HQ:=jh hq;clear hp hq;by_cases hpq:p=q
    .subst hpq
     have HT:Hd (X.take (k+1)=Y.take (k+1)):=jh (by rw[Ay1,Ay1,HE.o,HP.o,HQ.o]);clear HE HP HQ;go_upto_region 6 with (fail)
     go_still kR
     go_wp2;go_roundw
     case rel=>exact⟨k+1,oM,by go_num,HC.o.drew,HT.o⟩
     case measure=>simp[intOf];omega
    .have b25:(p != q)=true:=by simpa using hpq
     have HD:Hd (decide (X=Y)=false):=jh (by
      apply decide_eq_false
      intro h;rw[h,HQ.o]at HP;exact hpq (Az3 HP.o).symm)
     clear HE HP HQ hpq;go_upto_region 6 with (fail)
     go_still kR
     go_wp2;go_ret
     exact⟨by rw[HD.o];rfl,HC.o.drew⟩
   .obtain rfl:k=X.length:=oM
    have HD:Hd (decide (X=Y)=true):=jh (by
     have:=HE.o;rw[Ay5,hxy,Ay5]at this;simp[this])
    clear HE;go_wp2;go_ret
    exact⟨by rw[HD.o];rfl,HC.o⟩
 .have b10:((X.length:Int) != (Y.length:Int))=true:=by simp;omega
  have HD:Hd (decide (X=Y)=false):=jh (by
   apply decide_eq_false
   intro h;exact hxy (by rw[h]))
  go_enter Tryz.func48,Tryz.ntmps48
  go_wp2;go_ret
  exact⟨by rw[HD.o];rfl,Chg.refl _ _⟩
theorem zG3 (Z:List Int) (a:Option Addr) (g o c:Nat) (w:World) (hz:BytesAt w g o Z) (ha:0<Z.length->a=some ⟨g,o,none⟩) (hl:Z.length<=1000000000) :
  Calls Tryz.prog 101 #[.slice a Z.length c] w λe w'=>∃v,e=.returned v/\Own w' w.heap.size v Z/\Cf w w':=by
 have HZ:=jh hz;have HA:=jh ha;have HB:=jh hz.byte;clear hz ha;have heq:∀(w:World) (a:Option Addr) (n c n' c':Nat),(binOp .eql 45 (.slice a n c) (.slice none n' c')).run Tryz.prog w=.ok (.bool a.isNone) w:=λw a n c n' c'=>Lib.run_eql_slice_nil w _ _ a n c n' c' Tryz.underlying45
 cases a with
 | none =>
  obtain rfl:Z=[]:=Aw9.1 (by rcases Aw4 Z.length with h|h;· exact h
                             .cases HA.o h)
  go_enter Tryz.func101,Tryz.ntmps101
  go_wp2;go_ret
  exact⟨_,rfl,.inl ⟨rfl,rfl⟩,Chg.refl _ _⟩
 | some ad =>
  have HO:Hd (Own (w.alloc (.cells #[] 5)) w.heap.size (.slice (some ⟨w.heap.size,0,none⟩) 0 0) []):=jh (.inr ⟨_,[],rfl,Ay _,Row.alloc w [] _ (λ_ h=>by cases h),Aw6 _,by simp[maxLen]⟩);have HC0:Hd (Cf w (w.alloc (.cells #[] 5))):=jh ((Chg.refl _ _).alloc _);have HS:Hd (w.heap.size<=(w.alloc (.cells #[] 5)).heap.size):=jh HC0.o.size;go_enter Tryz.func101,Tryz.ntmps101
  go_wp2_with (at_builtin;refine xL rfl _ _ 45 rfl w.heap.size (.slice (some ⟨w.heap.size,0,none⟩) 0 0) [] Z (.slice (some ad) Z.length c) rfl rfl HO.o HS.o (tN (HZ.o.chg HC0.o iE) HA.o) HB.o sO ?_;intro v w1 H1 H2 H3)
  go_ret
  exact⟨_,rfl,H1.o,(HC0.o.any.trans H2.o).fresh⟩
theorem Own.some {w:World}{B:Nat}{v:Value}{X:List Int}(h:Own w B v X) (hne:X≠[]):∃(g:Nat) (C:List Int),v=.slice (some ⟨g,0,none⟩) X.length C.length/\B<=g/\Row w g C/\X <+: C/\C.length<=maxLen:=by
 rcases h with ⟨_,rfl⟩|h
 .exact (hne rfl).elim
 .exact h
theorem zFy {w:World}(base:Option Addr) (C0:List Int) (hold:∀w':World,Cf w w'->(Builtin.firstCells 1 C0.length (.slice base C0.length C0.length)).run Tryz.prog w'=.ok (zL C0).toArray w')
  (hX:∀a∈C0,Byte a) (k:Nat) (h0:0<k) (hlen:C0.length+k<=1000000000000) (ty:TypeId) :
  ∃(w':World) (C:List Int),(Builtin.append_ #[45,3] ty #[.slice base C0.length C0.length,.int .i64 k]).run Tryz.prog w=.ok (.slice (some ⟨w.heap.size,0,none⟩) (C0.length+k) C.length) w'/\Row w' w.heap.size C/\C0 <+: C/\C0.length+k<=C.length/\C.length<=maxLen/\Cf w w':=by
 obtain⟨i,hi,hz,h1,h2⟩:=info_parts zCv;have hG:=grownCap_ge w (C0.length+k) C0.length 5;have hG2:=grownCap_le_maxLen w (C0.length+k) C0.length 5 (by unfold maxLen;omega);have hrun:=Lib.run_append_grow_zeros (P:=Tryz.prog) w 45 3 ty 5 i (.int .u8 0) .i64 .i64 Tryz.underlying45 Tryz.underlying3 hi hz base C0.length C0.length (zL C0) (by rw[h1];exact hold _ (Chg.refl _ _).drew) k h0 oM oM oM (by rw[h2];omega)
  (by rw[h2];exact growslice_fits oM oM)
 have e3:∀a b c:List Int,(zL a).toArray++(zL b).toArray++(zL c).toArray=(zL (a++b++c)).toArray:=λa b c=>by simp[zL]
 rw[pY,pY,e3]at hrun;obtain⟨C,hC⟩:∃C,C=C0++List.replicate k 0++List.replicate (grownCap w (C0.length+k) C0.length 5-(C0.length+k)) 0:=⟨_,rfl⟩;rw[<-hC]at hrun;have hl:C.length=grownCap w (C0.length+k) C0.length 5:=by rw[hC];simp only[Az0,Av3];omega
 rw[<-hl]at hrun;refine⟨w.drew.alloc (.cells (zL C).toArray 5),C,hrun,Row.alloc w.drew _ _ (λa ha=>?_),by rw[hC,Az5];exact List.prefix_append _ _,oM,oM,(Chg.refl _ _).drew.alloc _⟩;rw[hC]at ha;simp only[Av2,At3]at ha;rcases ha with (ha|⟨_,rfl⟩)|⟨_,rfl⟩
 .exact hX a ha
 .exact⟨oM,oM⟩
 .exact⟨oM,oM⟩
theorem zFg (w:World) (B:Nat) (v:Value) (X:List Int) (h:Own w B v X) (hB:B<=w.heap.size) (hl:X.length<=1000000000) :
  Calls Tryz.prog 115 #[v,.int .i64 5] w λe w'=>∃(v':Value),e=.returned v'/\Own w' B v' X/\Chg (λk=>B<=k) w w':=by
 rcases h with ⟨rfl,rfl⟩|⟨g,C,rfl,hBg,hR,hp,hC⟩
 .obtain⟨w1,C1,hrun,hR1,hp1,hl1,hm1,hc1⟩:=zFy (w:=w) none [] (λw' _=>run_firstCells_none w' 1 0 0 0) (λ_ h=>by cases h) 5 oM sI 0
  have HRUN:Hd ((Builtin.append_ #[45,3] 0 #[.slice none 0 0,.int .i64 5]).run Tryz.prog w=.ok (.slice (some ⟨w.heap.size,0,none⟩) 5 C1.length) w1):=jh hrun;have HO:Hd (Own w1 B (.slice (some ⟨w.heap.size,0,none⟩) 0 C1.length) []):=jh (.inr ⟨_,C1,rfl,hB,hR1,hp1,hm1⟩);have HC:=jh hc1;unfold maxLen at hm1;clear hrun hR1 hp1 hc1;simp only[Aw5,Ax0]at hl1;go_enter Tryz.func115,Tryz.ntmps115
  go_wp2_with (at_builtin;refine Lib.wpList_append_run _ rfl _ _ _ _ rfl _ _ rfl rfl _ _ HRUN.o ?_)
  go_ret
  exact⟨_,rfl,HO.o,HC.o.any⟩
 .have hpl:=hp.length_le
  unfold maxLen at hC;have h2:wrap64 ((C.length:Int)-(X.length:Int))=(C.length:Int)-(X.length:Int):=by unfold wrap64;omega
  have h3:wrap64 (5-((C.length:Int)-(X.length:Int)))=5-((C.length:Int)-(X.length:Int)):=by unfold wrap64;omega
  by_cases hroom:X.length+5<=C.length
  .have HO:Hd (Own w B (.slice (some ⟨g,0,none⟩) X.length C.length) X):=jh (.inr ⟨g,C,rfl,hBg,hR,hp,by unfold maxLen;omega⟩)
   have h4:¬(5-((C.length:Int)-(X.length:Int)) > 0):=oM;clear hR hp;go_enter Tryz.func115,Tryz.ntmps115
   go_wp2;go_ret
   exact⟨_,rfl,HO.o,Chg.refl _ _⟩
  .obtain⟨w1,C1,hrun,hR1,hp1,hl1,hm1,hc1⟩:=zFy (w:=w) (some ⟨g,0,none⟩) C (λw' hc=>hR.first (Aw6 _) _ w' hc) hR.byte (X.length+5-C.length) oM oM 0
   have h4:5-((C.length:Int)-(X.length:Int)) > 0:=oM;rw[show ((X.length+5-C.length:Nat):Int)=5-((C.length:Int)-(X.length:Int)) by omega,show C.length+(X.length+5-C.length)=X.length+5 by omega]at hrun;have HRUN:=jh hrun;have HO:Hd (Own w1 B (.slice (some ⟨w.heap.size,0,none⟩) X.length C1.length) X):=jh (.inr ⟨_,C1,rfl,hB,hR1,hp.trans hp1,hm1⟩);have HC:=jh hc1;unfold maxLen at hm1;have hl2:X.length+5<=C1.length:=oM;clear hrun hR1 hp1 hc1 hR hp hl1;go_enter Tryz.func115,Tryz.ntmps115
   go_wp2_with (at_builtin;refine Lib.wpList_append_run _ rfl _ _ _ _ rfl _ _ rfl rfl _ _ HRUN.o ?_)
   go_ret
   exact⟨_,rfl,HO.o,HC.o.any⟩
theorem zB2 (w:World) (g n c:Nat) (hn:n<=c) :
  Calls Tryz.prog 73 #[.slice (some ⟨g,0,none⟩) n c] w λe w'=>e=.returned (.slice (some ⟨g,0,none⟩) n n)/\w'=w:=by
 go_enter Tryz.func73,Tryz.ntmps73
 go_wp2;go_ret
 exact⟨rfl,rfl⟩
def putL (n:Nat):List Int:=if n<128 then [(n:Int)] else ((n % 128+128:Nat):Int) :: putL (n / 128)
termination_by n
decreasing_by omega
theorem mQ {n:Nat}(h:n<128):putL n=[(n:Int)]:=by rw[putL,if_pos h]
theorem zAk {n:Nat}(h:128<=n):putL n=((n % 128+128:Nat):Int) :: putL (n / 128):=by rw[putL,if_neg oM]
theorem zAj:∀(k n:Nat),n<128 ^ (k+1)->(putL n).length<=k+1
 | 0,n,h=>by rw[mQ (by simpa using h)];simp
 | k+1,n,h=>by
  by_cases h1:n<128
  .rw[mQ h1];simp
  .rw[zAk oM]
   have:=zAj k (n / 128) (by rw[Nat.pow_succ]at h;exact Nat.div_lt_of_lt_mul (by rw[Nat.mul_comm];exact h));simp only[Ax2];omega
theorem zPu (n:Nat):0<(putL n).length:=by
 rw[putL]
 split <;> simp
theorem dQ (n:Nat):∀a∈putL n,Byte a:=by
 induction n using Nat.strongRecOn with
 | _ n ih =>
  intro a ha;by_cases h1:n<128
  .rw[mQ h1]at ha
   simp at ha
   subst ha;exact⟨oM,oM⟩
  .rw[zAk oM,Ax3]at ha
   rcases ha with rfl|ha
   .exact⟨oM,oM⟩
   .exact ih (n / 128) oM a ha
theorem sG {n:Nat}(h:n<4294967296):(putL n).length<=5:=zAj 4 n oM
theorem zSz:∀k:Fin 256,bits BinOp.or IntKind.u8 (k.val:Int) 128=((k.val % 128+128:Nat):Int):=by decide +kernel
theorem zTw (n:Nat):bits BinOp.or IntKind.u8 ((n:Int) % 256) 128=((n % 128+128:Nat):Int):=by
 have h:=zSz ⟨n % 256,oM⟩;simp only at h;rw[show ((n:Int) % 256)=((n % 256:Nat):Int) by omega,h]
 congr 1
 omega
theorem zMh (Z:List Int) (n:Nat) (a:Option Addr) (g o c:Nat) (w:World) (hz:BytesAt w g o Z) (ha:0<Z.length->a=some ⟨g,o,none⟩) (hl:Z.length<=100000000) (hn:n<4294967296) :
  Calls Tryz.prog 62 #[.slice a Z.length c,.int .u32 n] w λe w'=>∃h,e=.returned (.slice (some ⟨h,0,none⟩) (Z++putL n).length (Z++putL n).length)/\w.heap.size<=h/\Row w' h (Z++putL n)/\Cf w w':=by
 have HZ:=jh hz;have HA:=jh ha;clear hz ha;go_enter Tryz.func62,Tryz.ntmps62
 go_wp2_with fail
 refine (zG3 Z a g o c w HZ.o HA.o oM).mono ?_;rintro e w1 ⟨v1,rfl,ho1,hc1⟩;have HO1:=jh ho1;have HC1:=jh hc1;clear ho1 hc1;go_wp2_with fail
 refine (zFg w1 w.heap.size v1 Z HO1.o HC1.o.size oM).mono ?_;rintro e w2 ⟨v2,rfl,ho2,hc2⟩;have HO2:=jh ho2;have HC2:=jh (HC1.o.any.trans hc2);clear ho2 hc2 HO1 HC1;go_wp2
 go_loopw [1,5] (λm v wr=>∃(n':Nat) (X:List Int),m=.int .u32 n'/\n'<=n/\Own wr w.heap.size v X/\X++putL n'=Z++putL n/\Chg (λk=>w.heap.size<=k) w wr) (λm _ _=>(intOf m).toNat)
 case atStart=>exact⟨n,Z,rfl,Ay _,HO2.o,rfl,HC2.o⟩
 case round =>
  clear HO2 HC2;obtain⟨n',X,rfl,hn',ho,he,hc⟩:=hrel;have HO:=jh ho;have HE:=jh he;have HC:=jh hc;have hX:X.length<=200000000:=by
   have h1:=congrArg List.length he;have h2:=sG hn;simp only[Az0]at h1;omega
  clear ho he hc;by_cases h128:128<=n'
  .obtain⟨b,hb⟩:∃b:Int,bits BinOp.or IntKind.u8 ((n':Int) % 256) 128=b:=⟨_,rfl⟩
   have HB:Hd (b=((n' % 128+128:Nat):Int)):=jh (by rw[<-hb];exact zTw n');have HY:Hd (∀a∈[b],Byte a):=jh (by rw[HB.o];simp;omega);go_upto_region 4 with (fail)
   go_wp2_with (at_builtin;refine xL rfl _ _ 45 rfl w.heap.size _ X [b] (.slice (some ⟨wr.heap.size,0,none⟩) 1 1) rfl rfl (HO.o.chg ((Chg.refl (λ_=>False) wr).alloc _) (λ_ _ _ h=>h)) (Ay4 HC.o.size ((Chg.refl (λ_=>False) wr).alloc _).size) (srcLit 1 HY.o) HY.o sO ?_;intro v3 w3 H1 H2 H3)
   have HF:Hd ((X++[b])++putL (n' / 128)=Z++putL n/\Chg (λk=>w.heap.size<=k) w w3):=jh ⟨by rw[Az5,List.singleton_append,HB.o,<-zAk h128];exact HE.o,HC.o.trans (((Chg.refl _ _).alloc _).trans H2.o)⟩;go_roundw
   case rel=>exact⟨n' / 128,X++[b],by first|rfl|go_num,oM,H1.o,HF.o.1,HF.o.2⟩
   case measure=>simp[intOf];omega
  .have h256:(n':Int) % 256=n':=oM
   have HY:Hd (∀a∈[(n':Int)],Byte a):=jh sO;have HE2:Hd (X++[(n':Int)]=Z++putL n):=jh (by rw[<-mQ oM];exact HE.o);go_upto_region 5 with (fail)
   go_wp2_with (at_builtin;refine xL rfl _ _ 45 rfl w.heap.size _ X [(n':Int)] (.slice (some ⟨wr.heap.size,0,none⟩) 1 1) rfl rfl (HO.o.chg ((Chg.refl (λ_=>False) wr).alloc _) (λ_ _ _ h=>h)) (Ay4 HC.o.size ((Chg.refl (λ_=>False) wr).alloc _).size) (srcLit 1 HY.o) HY.o sO ?_;intro v3 w3 H1 H2 H3)
   obtain⟨g3,C3,e3,hg3,hR3,hp3,hm3⟩:=H1.o.some sI;rw[e3];refine (zB2 w3 g3 _ _ hp3.length_le).mono ?_;rintro e w4 ⟨rfl,rfl⟩;have HF:Hd (Row w4 g3 (Z++putL n)/\Cf w w4):=jh ⟨by rw[<-HE2.o];exact⟨λk a hk=>by have:=(hR3.bytes hp3).c k a hk;rw[Ax0]at this;exact this.1,hR3.z,hR3.lt,λa ha=>hR3.byte a (hp3.subset ha)⟩,(HC.o.trans (((Chg.refl _ _).alloc _).trans H2.o)).fresh⟩;rw[HE2.o];clear hR3 hp3 e3;go_wp2;go_ret
   exact⟨g3,by simp only[Az0];rfl,hg3,HF.o.1,HF.o.2⟩
theorem zD1 (Z:List Int) (n:Nat) (a:Option Addr) (g o c:Nat) (w:World) (hz:BytesAt w g o Z) (ha:0<Z.length->a=some ⟨g,o,none⟩) (hl:Z.length<=100000000) (hn:n<4294967296) :
  Calls Tryz.prog 121 #[.slice a Z.length c,.int .u32 n] w λe w'=>∃h C,e=.returned (.slice (some ⟨h,0,none⟩) (Z++putL n).length C)/\w.heap.size<=h/\Row w' h (Z++putL n)/\Cf w w':=by
 have HZ:=jh hz;have HA:=jh ha;have HBZ:=jh hz.byte;clear hz ha;go_enter Tryz.func121,Tryz.ntmps121
 go_wp2_with (at_builtin;refine xL rfl _ _ 45 rfl w.heap.size (.slice none 0 0) [] Z (.slice a Z.length c) rfl rfl (.inl ⟨rfl,rfl⟩) (Ay _) (tN HZ.o HA.o) HBZ.o sO ?_;intro v2 w2 H1 H2 H3)
 go_loopw [1,5] (λm v wr=>∃(n':Nat) (X:List Int),m=.int .u32 n'/\n'<=n/\Own wr w.heap.size v X/\X++putL n'=Z++putL n/\Chg (λk=>w.heap.size<=k) w wr) (λm _ _=>(intOf m).toNat)
 case atStart=>exact⟨n,Z,rfl,Ay _,H1.o,rfl,H2.o⟩
 case round =>
  clear H1 H2 H3;obtain⟨n',X,rfl,hn',ho,he,hc⟩:=hrel;have HO:=jh ho;have HE:=jh he;have HC:=jh hc;have hX:X.length<=200000000:=by
   have h1:=congrArg List.length he;have h2:=sG hn;simp only[Az0]at h1;omega
  clear ho he hc;by_cases h128:128<=n'
  .obtain⟨b,hb⟩:∃b:Int,(n':Int) % 128+128=b:=⟨_,rfl⟩
   have hb1:b % 256=b:=oM;have hb2:0<=b:=oM;have hb3:b<=255:=oM;have HB:Hd (b=((n' % 128+128:Nat):Int)):=jh (by rw[<-hb];omega);have HY:Hd (∀a∈[b],Byte a):=jh (by rw[HB.o];simp;omega);go_upto_region 3 with (fail)
   go_wp2_with (at_builtin;refine xL rfl _ _ 45 rfl w.heap.size _ X [b] (.slice (some ⟨wr.heap.size,0,none⟩) 1 1) rfl rfl (HO.o.chg ((Chg.refl (λ_=>False) wr).alloc _) (λ_ _ _ h=>h)) (Ay4 HC.o.size ((Chg.refl (λ_=>False) wr).alloc _).size) (srcLit 1 HY.o) HY.o sO ?_;intro v3 w3 H1 H2 H3)
   have HF:Hd ((X++[b])++putL (n' / 128)=Z++putL n/\Chg (λk=>w.heap.size<=k) w w3):=jh ⟨by rw[Az5,List.singleton_append,HB.o,<-zAk h128];exact HE.o,HC.o.trans (((Chg.refl _ _).alloc _).trans H2.o)⟩;go_roundw
   case rel=>exact⟨n' / 128,X++[b],by first|rfl|go_num,oM,H1.o,HF.o.1,HF.o.2⟩
   case measure=>simp[intOf];omega
  .have h256:(n':Int) % 256=n':=oM
   have HY:Hd (∀a∈[(n':Int)],Byte a):=jh sO;have HE2:Hd (X++[(n':Int)]=Z++putL n):=jh (by rw[<-mQ oM];exact HE.o);go_upto_region 5 with (fail)
   go_wp2_with (at_builtin;refine xL rfl _ _ 45 rfl w.heap.size _ X [(n':Int)] (.slice (some ⟨wr.heap.size,0,none⟩) 1 1) rfl rfl (HO.o.chg ((Chg.refl (λ_=>False) wr).alloc _) (λ_ _ _ h=>h)) (Ay4 HC.o.size ((Chg.refl (λ_=>False) wr).alloc _).size) (srcLit 1 HY.o) HY.o sO ?_;intro v3 w3 H1 H2 H3)
   obtain⟨g3,C3,e3,hg3,hR3,hp3,hm3⟩:=H1.o.some sI;have HF:Hd (Row w3 g3 (Z++putL n)/\Cf w w3):=jh ⟨by rw[<-HE2.o];exact⟨λk a hk=>by have:=(hR3.bytes hp3).c k a hk;rw[Ax0]at this;exact this.1,hR3.z,hR3.lt,λa ha=>hR3.byte a (hp3.subset ha)⟩,(HC.o.trans (((Chg.refl _ _).alloc _).trans H2.o)).fresh⟩;rw[e3,HE2.o];clear hR3 hp3 e3;go_ret
   exact⟨g3,_,rfl,hg3,HF.o.1,HF.o.2⟩
def sY:Nat->Nat->List Int->Option (Nat×Nat)
 | _,_,[]=>none
 | i,acc,c :: l=>if 5<=i then none else if 128<=c then sY (i+1) (acc+c.toNat % 128 * 128 ^ i) l
  else if (c=0/\0<i)\/4294967295<acc+c.toNat % 128 * 128 ^ i then none else some (acc+c.toNat % 128 * 128 ^ i,i+1)
def zRg:Option (Nat×Nat)->Value
 | none=>.tuple #[.int .u32 0,.int .i64 0,.int .i64 4]
 | some (n,s)=>.tuple #[.int .u32 n,.int .i64 s,.int .i64 0]
theorem zF4 (i acc:Nat) (Z:List Int) (h:Z=[]\/5<=i):sY i acc Z=none:=by
 cases Z with
 | nil=>rfl
 | cons c l =>
  unfold sY
  rw[if_pos (by rcases h with h|h;· cases h
                .exact h)]
theorem zSk:∀k:Fin 256,bits BinOp.andNot IntKind.u8 (k.val:Int) 128=((k.val % 128:Nat):Int):=by decide +kernel
theorem zL4 (k acc:Nat) (z:Int) (hk:k<5) (hacc:acc<128 ^ k) (hz:Byte z) :
  bits BinOp.or IntKind.u64 (acc:Int) (IntKind.u64.wrap (IntKind.u64.wrap (bits BinOp.andNot IntKind.u8 z 128) * 2 ^ (7 * k)))=((acc+z.toNat % 128 * 128 ^ k:Nat):Int):=by
 obtain⟨h0,h1⟩:=hz;obtain⟨n,rfl⟩:=Aw8 h0;have e1:=zSk ⟨n,oM⟩;simp only at e1;have e1':bits BinOp.andNot IntKind.u8 (Int.ofNat n) 128=((n % 128:Nat):Int):=e1;have hw:∀m:Nat,m<18446744073709551616->IntKind.u64.wrap (m:Int)=m:=λm hm=>by
  simp[IntKind.wrap,IntKind.bits,IntKind.signed]
  omega
 rw[show ((n:Nat):Int)=Int.ofNat n from rfl,e1',hw _ oM,show (Int.ofNat n).toNat=n from rfl];have hm:n % 128<128:=Nat.mod_lt _ oM
 generalize n % 128=m at *
 match k,hk with
 | 0,_ =>
  rw[show ((m:Nat):Int) * 2 ^ (7 * 0)=((m:Nat):Int) by simp,hw _ oM];refine (u64_orv0 (acc:Int) _ oM (by simp at hacc;omega) oM oM oM).trans ?_;simp
 | 1,_ =>
  rw[show ((m:Nat):Int) * 2 ^ (7 * 1)=((m * 128:Nat):Int) by simp,hw _ oM];refine (u64_orv7 (acc:Int) _ oM (by simp at hacc;omega) oM oM oM).trans ?_;simp
 | 2,_ =>
  rw[show ((m:Nat):Int) * 2 ^ (7 * 2)=((m * 16384:Nat):Int) by simp,hw _ oM];refine (u64_orv14 (acc:Int) _ oM (by simp at hacc;omega) oM oM oM).trans ?_;simp
 | 3,_ =>
  rw[show ((m:Nat):Int) * 2 ^ (7 * 3)=((m * 2097152:Nat):Int) by simp,hw _ oM];refine (u64_orv21 (acc:Int) _ oM (by simp at hacc;omega) oM oM oM).trans ?_;simp
 | 4,_ =>
  rw[show ((m:Nat):Int) * 2 ^ (7 * 4)=((m * 268435456:Nat):Int) by simp,hw _ oM];refine (u64_orv28 (acc:Int) _ oM (by simp at hacc;omega) oM oM oM).trans ?_;simp
theorem zRe {k acc:Nat}{z:Int}(hacc:acc<128 ^ k):acc+z.toNat % 128 * 128 ^ k<128 ^ (k+1):=by
 have h1:z.toNat % 128<128:=Nat.mod_lt _ oM;rw[Nat.pow_succ,Nat.mul_comm (128 ^ k) 128];have h2:z.toNat % 128 * 128 ^ k<=127 * 128 ^ k:=Nat.mul_le_mul_right _ oM;omega
theorem zDs {k acc:Nat}{Z:List Int}{z:Int}(hz:Z[k]?=some z) (hk:k<5) :
  sY k acc (Z.drop k)=if 128<=z then sY (k+1) (acc+z.toNat % 128 * 128 ^ k) (Z.drop (k+1))
   else if (z=0/\0<k)\/4294967295<acc+z.toNat % 128 * 128 ^ k then none else some (acc+z.toNat % 128 * 128 ^ k,k+1):=by
 have h1:=(Az1.1 hz).1;rw[Au2 h1,(Az1.1 hz).2,sY,if_neg oM]
theorem gW (Z:List Int) (a:Option Addr) (g o c:Nat) (w:World) (hz:BytesAt w g o Z) (ha:0<Z.length->a=some ⟨g,o,none⟩) (hc:Z.length<=c) (hl:Z.length<=100000000) :
  Calls Tryz.prog 141 #[.slice a Z.length c] w λe w'=>e=.returned (zRg (sY 0 0 Z))/\Cf w w':=by
 have HZ:=jh hz;have HA:=jh ha;clear hz ha;by_cases h5:Z.length<=5
 .go_enter Tryz.func141,Tryz.ntmps141
  go_wp2
  go_loopw [5,14] (λq i wr=>∃(k acc:Nat),k<=Z.length/\i=.int .i64 k/\q=.int .u64 acc/\acc<128 ^ k/\sY 0 0 Z=sY k acc (Z.drop k)/\Cf w wr) (λ_ i _=>Z.length-(intOf i).toNat)
  case atStart=>exact⟨0,0,oM,rfl,rfl,sI,sI,Chg.refl _ _⟩
  case round =>
   obtain⟨k,acc,hk,rfl,rfl,hacc,he,hc⟩:=hrel;have HE:=jh he;have HC:=jh hc;clear he hc;by_cases hkl:k<Z.length
   .have b15:decide ((k:Int)<((Z.length:Nat):Int))=true:=by simp;omega
    obtain⟨z,hz,c1,z0,z1⟩:=(HZ.o.chg HC.o iE).get (k:=k) oM;have e1:=HA.o oM;subst e1;have HZG:=jh hz;obtain⟨A,hA⟩:∃A:Int,bits BinOp.or IntKind.u64 (acc:Int) (IntKind.u64.wrap (IntKind.u64.wrap (bits BinOp.andNot IntKind.u8 z 128) * 2 ^ (7 * k)))=A:=⟨_,rfl⟩;have HAV:Hd (A=((acc+z.toNat % 128 * 128 ^ k:Nat):Int)):=jh (by rw[<-hA];exact zL4 k acc z oM hacc ⟨z0,z1⟩);have HT:=jh (HE.o.trans (zDs hz oM));have HL:=jh (zRe (z:=z) hacc);clear hz hacc HE;by_cases h128:128<=z
    .rw[if_pos h128]at HT
     go_wp2;rw[HAV.o];go_roundw
     case rel=>exact⟨k+1,_,oM,by go_num,rfl,HL.o,HT.o,HC.o⟩
     case measure=>simp[intOf];omega
    .rw[if_neg h128]at HT
     by_cases h0:z=0/\0<k
     .obtain⟨h0,hk0⟩:=h0
      rw[if_pos (.inl ⟨h0,hk0⟩)]at HT;have q1:(z == 0)=true:=(by simpa using h0);have q2:decide (0<(k:Int))=true:=sO;clear h0;go_wp2;go_ret3
      exact⟨by rw[HT.o];rfl,HC.o⟩
     .by_cases hmax:4294967295<acc+z.toNat % 128 * 128 ^ k
      .rw[if_pos (.inr hmax)]at HT
       have q3:decide (4294967295<A)=true:=(by rw[HAV.o];simp only[decide_eq_true_eq];omega);clear hmax;by_cases hz0:z=0
       .have q1:(z == 0)=true:=by simpa using hz0
        have q2:decide (0<(k:Int))=false:=sO;have q5:¬0<k:=oM;clear hz0 h0;go_wp2;go_ret3
        exact⟨by rw[HT.o];rfl,HC.o⟩
       .have q1:(z == 0)=false:=by simpa using hz0
        clear hz0 h0;go_wp2;go_ret3
        exact⟨by rw[HT.o];rfl,HC.o⟩
      .rw[if_neg (by rintro (h|h);· exact h0 h
                     .exact hmax h)]at HT
       have q3:decide (4294967295<A)=false:=(by rw[HAV.o];simp only[decide_eq_false_iff_not];omega);have q4:A % 4294967296=A:=(by rw[HAV.o];omega);clear hmax;by_cases hz0:z=0
       .have q1:(z == 0)=true:=by simpa using hz0
        have q2:decide (0<(k:Int))=false:=sO;have q5:¬0<k:=oM;clear hz0 h0;go_wp2;go_ret3
        exact⟨by rw[HT.o,HAV.o];rfl,HC.o⟩
       .have q1:(z == 0)=false:=by simpa using hz0
        clear hz0 h0;go_wp2;go_ret3
        exact⟨by rw[HT.o,HAV.o];rfl,HC.o⟩
   .have HT:Hd (sY 0 0 Z=none):=jh (by rw[HE.o];exact zF4 _ _ _ (by first|(right;omega)|(left;exact List.drop_eq_nil_of_le oM)))
    obtain rfl:k=Z.length:=oM;go_wp2;go_ret3
    exact⟨by rw[HT.o];rfl,HC.o⟩
 .go_enter Tryz.func141,Tryz.ntmps141
  go_wp2
  go_loopw [5,14] (λq i wr=>∃(k acc:Nat),k<=5/\i=.int .i64 k/\q=.int .u64 acc/\acc<128 ^ k/\sY 0 0 Z=sY k acc (Z.drop k)/\Cf w wr) (λ_ i _=>5-(intOf i).toNat)
  case atStart=>exact⟨0,0,oM,rfl,rfl,sI,sI,Chg.refl _ _⟩
  case round =>
   obtain⟨k,acc,hk,rfl,rfl,hacc,he,hc⟩:=hrel;have HE:=jh he;have HC:=jh hc;clear he hc;by_cases hkl:k<5
   .have b15:decide ((k:Int)<((5:Nat):Int))=true:=by simp;omega
    obtain⟨z,hz,c1,z0,z1⟩:=(HZ.o.chg HC.o iE).get (k:=k) oM;have e1:=HA.o oM;subst e1;have HZG:=jh hz;obtain⟨A,hA⟩:∃A:Int,bits BinOp.or IntKind.u64 (acc:Int) (IntKind.u64.wrap (IntKind.u64.wrap (bits BinOp.andNot IntKind.u8 z 128) * 2 ^ (7 * k)))=A:=⟨_,rfl⟩;have HAV:Hd (A=((acc+z.toNat % 128 * 128 ^ k:Nat):Int)):=jh (by rw[<-hA];exact zL4 k acc z oM hacc ⟨z0,z1⟩);have HT:=jh (HE.o.trans (zDs hz oM));have HL:=jh (zRe (z:=z) hacc);clear hz hacc HE;by_cases h128:128<=z
    .rw[if_pos h128]at HT
     go_wp2;rw[HAV.o];go_roundw
     case rel=>exact⟨k+1,_,oM,by go_num,rfl,HL.o,HT.o,HC.o⟩
     case measure=>simp[intOf];omega
    .rw[if_neg h128]at HT
     by_cases h0:z=0/\0<k
     .obtain⟨h0,hk0⟩:=h0
      rw[if_pos (.inl ⟨h0,hk0⟩)]at HT;have q1:(z == 0)=true:=(by simpa using h0);have q2:decide (0<(k:Int))=true:=sO;clear h0;go_wp2;go_ret3
      exact⟨by rw[HT.o];rfl,HC.o⟩
     .by_cases hmax:4294967295<acc+z.toNat % 128 * 128 ^ k
      .rw[if_pos (.inr hmax)]at HT
       have q3:decide (4294967295<A)=true:=(by rw[HAV.o];simp only[decide_eq_true_eq];omega);clear hmax;by_cases hz0:z=0
       .have q1:(z == 0)=true:=by simpa using hz0
        have q2:decide (0<(k:Int))=false:=sO;have q5:¬0<k:=oM;clear hz0 h0;go_wp2;go_ret3
        exact⟨by rw[HT.o];rfl,HC.o⟩
       .have q1:(z == 0)=false:=by simpa using hz0
        clear hz0 h0;go_wp2;go_ret3
        exact⟨by rw[HT.o];rfl,HC.o⟩
      .rw[if_neg (by rintro (h|h);· exact h0 h
                     .exact hmax h)]at HT
       have q3:decide (4294967295<A)=false:=(by rw[HAV.o];simp only[decide_eq_false_iff_not];omega);have q4:A % 4294967296=A:=(by rw[HAV.o];omega);clear hmax;by_cases hz0:z=0
       .have q1:(z == 0)=true:=by simpa using hz0
        have q2:decide (0<(k:Int))=false:=sO;have q5:¬0<k:=oM;clear hz0 h0;go_wp2;go_ret3
        exact⟨by rw[HT.o,HAV.o];rfl,HC.o⟩
       .have q1:(z == 0)=false:=by simpa using hz0
        clear hz0 h0;go_wp2;go_ret3
        exact⟨by rw[HT.o,HAV.o];rfl,HC.o⟩
   .have HT:Hd (sY 0 0 Z=none):=jh (by rw[HE.o];exact zF4 _ _ _ (by first|(right;omega)|(left;exact List.drop_eq_nil_of_le oM)))
    obtain rfl:k=5:=oM;go_wp2;go_ret3
    exact⟨by rw[HT.o];rfl,HC.o⟩
theorem zL1:∀(m k acc:Nat) (rest:List Int),acc+m * 128 ^ k<4294967296->k+(putL m).length<=5->(m≠0\/k=0) ->
  sY k acc (putL m++rest)=some (acc+m * 128 ^ k,k+(putL m).length):=by
 intro m
 induction m using Nat.strongRecOn with
 | _ m ih =>
  intro k acc rest hlt hl hm;by_cases h:m<128
  .rw[mQ h]at hl ⊢
   simp only[List.length_singleton]at hl;rw[List.singleton_append,sY,if_neg oM,if_neg oM,Ay6,Nat.mod_eq_of_lt h,if_neg (by rintro (h1|h1) <;> omega)]
   rfl
  .rw[zAk oM]at hl ⊢
   simp only[Ax2]at hl;have e1:(((m % 128+128:Nat):Int)).toNat % 128=m % 128:=oM;rw[Au9,sY,if_neg oM,if_pos oM,e1];have e2:acc+m % 128 * 128 ^ k+m / 128 * 128 ^ (k+1)=acc+m * 128 ^ k:=by
    rw[Nat.pow_succ,Nat.mul_comm (128 ^ k) 128,<-Nat.mul_assoc,Av8,<-Nat.add_mul]
    congr 2
    omega
   rw[ih (m / 128) oM (k+1) _ rest (by rw[e2];exact hlt) oM (.inl oM),e2,Ax2]
   congr 2
   omega
theorem zCa {n:Nat}(hn:n<4294967296) (rest:List Int):sY 0 0 (putL n++rest)=some (n,(putL n).length):=by
 have:=zL1 n 0 0 rest (by simpa using hn) (by have:=sG hn;omega) (.inr rfl);simpa using this
theorem zNh (w:World) (k:Nat) (hk:0<k) (hl:k<=1000000000) :
  Calls Tryz.prog 115 #[.slice none 0 0,.int .i64 k] w λe w'=>∃v,e=.returned v/\Own w' w.heap.size v []/\Cf w w':=by
 obtain⟨w1,C1,hrun,hR1,hp1,hl1,hm1,hc1⟩:=zFy (w:=w) none [] (λw' _=>run_firstCells_none w' 1 0 0 0) (λ_ h=>by cases h) k hk sO 0;simp only[Aw5,Ax0]at hl1 hrun;have HRUN:Hd ((Builtin.append_ #[45,3] 0 #[.slice none 0 0,.int .i64 k]).run Tryz.prog w=.ok (.slice (some ⟨w.heap.size,0,none⟩) k C1.length) w1):=jh hrun;have HO:Hd (Own w1 w.heap.size (.slice (some ⟨w.heap.size,0,none⟩) 0 C1.length) []):=jh (.inr ⟨_,C1,rfl,Ay _,hR1,hp1,hm1⟩);have HC:=jh hc1;unfold maxLen at hm1;clear hrun hR1 hp1 hc1;go_enter Tryz.func115,Tryz.ntmps115
 go_wp2_with (at_builtin;refine Lib.wpList_append_run _ rfl _ _ _ _ rfl _ _ rfl rfl _ _ HRUN.o ?_)
 go_ret
 exact⟨_,rfl,HO.o,HC.o⟩
theorem bJ (X Y:List Int) (ax:Option Addr) (gx ox cx hy cy q:Nat) (w:World) (hx:BytesAt w gx ox X) (hax:0<X.length->ax=some ⟨gx,ox,none⟩) (hyr:BytesAt w hy 0 Y) (hyl:0<Y.length) (hxl:X.length<=100000000) (hyl2:Y.length<=100000000)
  (q0:w.cell? ⟨q,0,none⟩=some (.slice ax X.length cx)) (q1:w.cell? ⟨q,1,none⟩=some (.slice (some ⟨hy,0,none⟩) Y.length cy)) :
  Calls Tryz.prog 74 #[.slice (some ⟨q,0,none⟩) 2 2] w λe w'=>∃v,e=.returned v/\Own w' w.heap.size v (X++Y)/\Cf w w':=by
 have HX:=jh hx;have HAX:=jh hax;have HY:=jh hyr;have HQ:Hd (∀w',Cf w w'->w'.cell? ⟨q,0,none⟩=some (.slice ax X.length cx)/\w'.cell? ⟨q,1,none⟩=some (.slice (some ⟨hy,0,none⟩) Y.length cy)):=jh λw' hc=>⟨hc.cellS q0 iD,hc.cellS q1 iD⟩
 have HXB:=jh hx.byte;have HYB:=jh hyr.byte;clear hx hax hyr;go_enter Tryz.func74,Tryz.ntmps74
 go_wp2_with fail
 go_loopw [3,11] (λn i wr=>((i=.int .i64 0/\n=.int .i64 0)\/(i=.int .i64 1/\n=.int .i64 X.length)\/(i=.int .i64 2/\n=.int .i64 ((X.length:Int)+Y.length)))/\wr=w) (λ_ i _=>2-(intOf i).toNat)
 case atStart=>exact⟨.inl ⟨rfl,rfl⟩,rfl⟩
 case round =>
  obtain⟨h,rfl⟩:=hrel;rcases h with ⟨rfl,rfl⟩|⟨rfl,rfl⟩|⟨rfl,rfl⟩
  .go_wp2_with fail
   go_roundw
   case rel=>first|exact⟨.inr (.inl ⟨rfl,rfl⟩),rfl⟩|simp
   case measure=>simp[intOf]
  .go_wp2_with fail
   go_roundw
   case rel=>first|exact⟨.inr (.inr ⟨rfl,rfl⟩),rfl⟩|simp
   case measure=>simp[intOf]
  .clear q0 q1
   go_wp2_with fail
   have hsum:(X.length:Int)+Y.length=((X.length+Y.length:Nat):Int):=oM;rw[hsum];refine (zNh wr (X.length+Y.length) oM oM).mono ?_;rintro e w1 ⟨v1,rfl,h1,hc1⟩;have H1:=jh h1;have HC1:=jh hc1;clear h1 hc1 hsum;go_wp2_with fail
   obtain⟨wo,rfl⟩:∃wo:World,wo=wr:=⟨_,rfl⟩
   go_loopw [6,27] (λv i wr=>((i=.int .i64 0/\Own wr wo.heap.size v [])\/(i=.int .i64 1/\Own wr wo.heap.size v ([]++X))\/(i=.int .i64 2/\Own wr wo.heap.size v ([]++X++Y)))/\Chg (λk=>wo.heap.size<=k) wo wr) (λ_ i _=>2-(intOf i).toNat)
   case atStart=>exact⟨.inl ⟨rfl,H1.o⟩,HC1.o.any⟩
   case round =>
    clear H1 HC1;obtain⟨h,hc⟩:=hrel;have HC:=jh hc;obtain⟨q0,q1⟩:=HQ.o wr hc.fresh;clear hc;rcases h with ⟨rfl,ho⟩|⟨rfl,ho⟩|⟨rfl,ho⟩
    .have HO:=jh ho
     clear ho;go_wp2_with (at_builtin;refine xL rfl _ _ 45 rfl wo.heap.size _ [] X (.slice ax X.length cx) rfl rfl HO.o HC.o.size (tN (HX.o.chg HC.o.fresh iE) HAX.o) HXB.o sO ?_;intro v3 w3 K1 K2 K3)
     go_roundw
     case rel=>exact⟨.inr (.inl ⟨rfl,K1.out⟩),HC.o.trans K2.out⟩
     case measure=>simp[intOf]
    .have HO:=jh ho
     clear ho;go_wp2_with (at_builtin;refine xL rfl _ _ 45 rfl wo.heap.size _ ([]++X) Y (.slice (some ⟨hy,0,none⟩) Y.length cy) rfl rfl HO.o HC.o.size (tN (HY.o.chg HC.o.fresh iE) (λ_=>rfl)) HYB.o sO ?_;intro v3 w3 K1 K2 K3)
     go_roundw
     case rel=>exact⟨.inr (.inr ⟨rfl,K1.out⟩),HC.o.trans K2.out⟩
     case measure=>simp[intOf]
    .have HO:=jh ho
     clear ho q0 q1;go_wp2_with fail
     go_ret
     exact⟨_,rfl,HO.o,HC.o.fresh⟩
end Go.Proofs.YtgnpmceimpjheaaGreat
