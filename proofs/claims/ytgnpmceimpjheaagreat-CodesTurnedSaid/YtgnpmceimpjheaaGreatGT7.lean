/- A part of the proof: TakeTab BackP. -/
import Derived.Test.YtgnpmceimpjheaaGreatGT6
import Derived.Test.YtgnpmceimpjheaaGreatGT4
set_option maxRecDepth 100000
set_option maxHeartbeats 16000000
namespace Go.Proofs.YtgnpmceimpjheaaGreat
open Go.RowKit
theorem TakSt.chg {E:Elt (Int × Int)} {F:Elt (Int × Sl)} {S:Nat→Prop} {bt lo:Nat} {w w':World} {W:Int} {R:List RowD} {O:List Int} {v u:Value} (h:TakSt E F bt lo w W R O v u) (hc:Chg S w w') (hs:∀ g,S g→g≠bt∧g<lo):TakSt E F bt lo w' W R O v u:=by
 obtain⟨X,h1,h2,h3⟩:=h.rows
 have hb:¬ S bt:=fun e=>(hs bt e).1 rfl
 exact⟨hc.cellS h.c0 hb,hc.cellS h.c1 hb,(hc.frozen (p:=⟨bt,1,none⟩) h.lt hb).trans h.z1,hc.cellS h.c2 hb,(hc.frozen (p:=⟨bt,2,none⟩) h.lt hb).trans h.z2,
  ⟨X,h1.chg hc (fun g hg _ e=>by have:=(hs g e).2;omega),h2,fun j x r hx hr=>⟨(h3 j x r hx hr).1.chg0 hc (fun hp g o hg e=>by have:=(hs g e).2;have:=((h3 j x r hx hr).2 hp g o hg).2.2;omega),(h3 j x r hx hr).2⟩⟩,h.of.chg hc (fun g hg _ e=>by have:=(hs g e).2;omega),h.apart,h.blo⟩
structure TkSt (E:Elt (Int × Int)) (F:Elt (Int × Sl)) (b bt lo:Nat) (sl:Value) (w:World) (s:Rd) (W:Int) (R:List RowD) (O:List Int) (v u:Value):Prop where
 t:TakSt E F bt lo w W R O v u
 r:RdAt w b sl s
 z0:w.frozen? ⟨bt,0,none⟩=false
 ne:b≠bt
 lo:b<lo
theorem TkSt.read {E:Elt (Int × Int)} {F:Elt (Int × Sl)} {b bt lo:Nat} {sl:Value} {w w':World} {s s':Rd} {W:Int} {R:List RowD} {O:List Int} {v u:Value} (h:TkSt E F b bt lo sl w s W R O v u) (hr:RdAt w' b sl s') (hc:Chg (fun j=>j=b) w w'):TkSt E F b bt lo sl w' s' W R O v u :=
 ⟨h.t.chg hc (fun g e=>by subst e;exact⟨h.ne,h.lo⟩),hr,(hc.frozen (p:=⟨bt,0,none⟩) h.t.lt (Ne.symm h.ne)).trans h.z0,h.ne,h.lo⟩
theorem TkSt.same {E:Elt (Int × Int)} {F:Elt (Int × Sl)} {b bt lo:Nat} {sl:Value} {w w':World} {s:Rd} {W:Int} {R:List RowD} {O:List Int} {v u:Value} (h:TkSt E F b bt lo sl w s W R O v u) (hc:Chg (fun _=>False) w w'):TkSt E F b bt lo sl w' s W R O v u :=
 ⟨h.t.same hc,h.r.chg hc (fun h=>h),(hc.frozen (p:=⟨bt,0,none⟩) h.t.lt (fun h=>h)).trans h.z0,h.ne,h.lo⟩
theorem TkSt.width {E:Elt (Int × Int)} {F:Elt (Int × Sl)} {b bt lo:Nat} {sl:Value} {w:World} {s:Rd} {W:Int} {R:List RowD} {O:List Int} {v u:Value} (h:TkSt E F b bt lo sl w s W R O v u) (W':Int):TkSt E F b bt lo sl (w.setCell ⟨bt,0,none⟩ (.int .i64 W')) s W' R O v u:=by
 have hs:=setCellChg w bt 0 (.int .i64 W')
 have hblo:=h.t.blo
 obtain⟨X,h1,h2,h3⟩:=h.t.rows
 refine⟨⟨World.cell?_setCell_same _ _ _ h.t.c0,Chg.cellNe h.t.c1 (by intro e;injection e with _ e;cases e),(World.frozen?_setCell _ _ _ _).trans h.t.z1,Chg.cellNe h.t.c2 (by intro e;injection e with _ e;cases e),(World.frozen?_setCell _ _ _ _).trans h.t.z2,
  ⟨X,h1.chg hs (fun g hg _ e=>by omega),h2,fun j x r hx hr=>⟨(h3 j x r hx hr).1.chg0 hs (fun hp g o hg e=>by have:=((h3 j x r hx hr).2 hp g o hg).2.2;omega),(h3 j x r hx hr).2⟩⟩,h.t.of.chg hs (fun g hg _ e=>by omega),h.t.apart,h.t.blo⟩,h.r.chg hs h.ne,(World.frozen?_setCell _ _ _ _).trans h.z0,h.ne,h.lo⟩
theorem TkSt.store {E:Elt (Int × Int)} {F:Elt (Int × Sl)} {b bt lo:Nat} {sl:Value} {w w':World} {s:Rd} {W:Int} {R R':List RowD} {O O':List Int} {v v' u u':Value} (h:TkSt E F b bt lo sl w s W R O v u) (ht:TakSt E F bt lo w' W R' O' v' u') (hr:RdAt w' b sl s) (hz:w'.frozen? ⟨bt,0,none⟩=false):TkSt E F b bt lo sl w' s W R' O' v' u' :=
 ⟨ht,hr,hz,h.ne,h.lo⟩
theorem TkSt.start (E:Elt (Int × Int)) (F:Elt (Int × Sl)) (sl:Value) (w:World) (W:Int) (e e':TypeId) :
  TkSt E F (w.heap.size+1) w.heap.size (w.heap.size+2) sl ((w.alloc (.cells #[.int .i64 W,.slice none 0 0,.slice none 0 0] e)).alloc (.cells #[sl,.int .i64 0,.bool false] e')) (0,false) W [] [] (.slice none 0 0) (.slice none 0 0):=by
 have h1:(w.alloc (.cells #[.int .i64 W,.slice none 0 0,.slice none 0 0] e)).heap.size=w.heap.size+1:=by simp
 have hc:=(Chg.refl (fun _=>False) (w.alloc (.cells #[.int .i64 W,.slice none 0 0,.slice none 0 0] e))).alloc (.cells #[sl,.int .i64 0,.bool false] e')
 refine⟨⟨hc.cellS (by simp) (fun h=>h),hc.cellS (by simp) (fun h=>h),(hc.frozen (p:=⟨w.heap.size,1,none⟩) (by simp) (fun h=>h)).trans (World.frozen?_alloc_new _ _ _ _),hc.cellS (by simp) (fun h=>h),(hc.frozen (p:=⟨w.heap.size,2,none⟩) (by simp) (fun h=>h)).trans (World.frozen?_alloc_new _ _ _ _),
  ⟨[],.nil _ _,rfl,fun j x r hx=>by simp at hx⟩,.nil _ _,fun g hg=>(by cases hg),by omega⟩,?_,(hc.frozen (p:=⟨w.heap.size,0,none⟩) (by simp) (fun h=>h)).trans (World.frozen?_alloc_new _ _ _ _),by omega,by omega⟩
 rw [← h1]
 exact⟨by rw [World.cell?_alloc_new];rfl,by rw [World.cell?_alloc_new];rfl,by rw [World.cell?_alloc_new];rfl,fun j=>World.frozen?_alloc_new _ _ _ _⟩
theorem OfIn.bytes {w:World} {B:Nat} {a:Option Addr} {O:List Int} (h:OfIn w B a O):∃ g,I.BytesAt w g 0 O∧(0<O.length→a=some ⟨g,0,none⟩):=by
 rcases h with ⟨rfl,rfl⟩|⟨g,rfl,h2,_⟩
 ·exact⟨0,⟨fun k a hk=>by simp at hk,fun h=>absurd rfl h⟩,fun h=>absurd h (by simp)⟩
 ·exact⟨g,h2.bytes (List.prefix_refl _),fun _=>rfl⟩
theorem wpC_store {P:Program} {ops:Array Oper} {md:Region.Mode} {C:Cls} {L:Act→Prop} {o:Oper} {rest:List Oper} {i:Nat} {a:Act} (hw:Region.wanted o (yielded ops a.tmps)=true)
  (hrun:∀ listed w,i∈Region.ready md ops listed→C listed w→∃ w',(execOp a.eval o).run P w=.ok .skip w'∧C (listed.setIfInBounds i true) w')
  (h:∀ K:Act→Prop,(∀ a,wpC P ops md C L rest (i+1) a→K a)→K (a.put o.dst undef)):wpC P ops md C L (o :: rest) i a :=
 ⟨undef,.inl ⟨hw,fun listed w hi hc=>by obtain⟨w',h1,h2⟩:=hrun listed w hi hc;rw [h1];exact⟨rfl,h2⟩⟩,h _ (fun _ h=>h)⟩
def LenTo (R:List RowD):Prop:=∀ r∈R,r.2.length≤65536
theorem LenTo.add {R:List RowD} {r:RowD} (h:LenTo R) (hr:r.2.length≤65536):LenTo (R++[r]):=fun x hx=>by
 rcases List.mem_append.1 hx with hx|hx
 ·exact h x hx
 ·rw [List.mem_singleton] at hx;subst hx;exact hr
theorem cellsP_len {Z:List Int} {ms mv:Nat}:∀ {k:Nat} {s:Rd} {x:Int} {acc:List (Int × Int)},(cellsP Z ms mv k s x acc).1.length≤acc.length+k
 | 0,s,x,acc=>Nat.le_refl _
 | k+1,s,x,acc=>by
  cases hs:s.2 with
  | true=>rw [cellsP_wrong (.inl hs)];exact Nat.le_add_right _ _
  | false =>
   rw [cellsP_step hs]
   refine Nat.le_trans cellsP_len ?_
   simp
   omega
theorem rowP_len {Z:List Int} {mw mv:Nat} {s:Rd} (h:s.1≤Z.length):(rowP Z mw mv s).1.2.length≤mw:=by
 refine Nat.le_trans (cellsP_len (Z:=Z) (ms:=mw) (mv:=mv)) ?_
 have:=(numP_le (m:=mw) (numP_le (m:=mv) h).1).2.1
 simpa using this
theorem takeTab_right (Z:List Int) (a:Option Addr) (g o c:Nat) (w:World) (hz:BytesAt w g o Z) (ha:0<Z.length→a=some ⟨g,o,none⟩) (hcz:Z.length≤c) (hn:a=none→c=0) (hl:Z.length≤100000000) (hv0:(takeP Z mostP).2.2=false) :
  Calls Tryz.prog 167 #[.slice a Z.length c] w fun e w'=>(takeOk Z mostP=true∧∃ ra oa,e=.returned (.tuple #[.agg #[.int .i64 (takeP Z mostP).1.1,.slice ra (takeP Z mostP).1.2.1.length (takeP Z mostP).1.2.1.length,.slice oa (takeP Z mostP).1.2.2.length (takeP Z mostP).1.2.2.length],.int .i64 (takeP Z mostP).2.1,.int .i64 0]) ∧
   RowsIn cellE rowE w' w.heap.size (ra,(takeP Z mostP).1.2.1.length,(takeP Z mostP).1.2.1.length) (takeP Z mostP).1.2.1∧OfIn w' w.heap.size oa (takeP Z mostP).1.2.2∧Chg (fun _=>False) w w') ∨
   (takeOk Z mostP=false∧e=.returned (.tuple #[.agg #[.int .i64 0,.slice none 0 0,.slice none 0 0],.int .i64 0,.int .i64 4])∧Chg (fun _=>False) w w'):=by
 have HN:Hid (∀ (s:Rd) (wx:World),s.1≤Z.length→Chg (fun j=>w.heap.size≤j) w wx→RdAt wx (w.heap.size+1) (.slice a Z.length c) s→Calls Tryz.prog 186 #[.pointer (some ⟨w.heap.size+1,0,none⟩),.int .i64 65536] wx fun e w'=>e=.returned (.int .i64 (numP Z 65536 s).1)∧RdAt w' (w.heap.size+1) (.slice a Z.length c) (numP Z 65536 s).2∧Chg (fun j=>j=w.heap.size+1) wx w'):=jh (fun s wx h1 h2 h3 =>
  num_all Z a g o c (w.heap.size+1) 65536 s wx (hz.chg h2 (fun hne e=>by have:=hz.lt hne;omega)) ha hcz hn (by omega) h1 (by omega) h3)
 have HROW:Hid (∀ (mw:Nat) (s:Rd) (wx:World),mw≤65536→s.1≤Z.length→Chg (fun j=>w.heap.size≤j) w wx→RdAt wx (w.heap.size+1) (.slice a Z.length c) s→Calls Tryz.prog 187 #[.pointer (some ⟨w.heap.size+1,0,none⟩),.int .i64 mw] wx fun e w'=>∃ xa,e=.returned (.agg #[.int .i64 (rowP Z mw 16777216 s).1.1,.slice xa (rowP Z mw 16777216 s).1.2.length (rowP Z mw 16777216 s).1.2.length]) ∧
   cellE.In w' wx.heap.size (xa,(rowP Z mw 16777216 s).1.2.length,(rowP Z mw 16777216 s).1.2.length) (rowP Z mw 16777216 s).1.2∧RdAt w' (w.heap.size+1) (.slice a Z.length c) (rowP Z mw 16777216 s).2∧Chg (fun j=>j=w.heap.size+1) wx w'):=jh (fun mw s wx h0 h1 h2 h3 =>
  row_any Z a g o c (w.heap.size+1) mw s wx (hz.chg h2 (fun hne e=>by have:=hz.lt hne;omega)) ha hcz hn (by omega) h1 h0 (fun hne=>by have:=hz.lt hne;omega) h3)
 obtain⟨wt,hwt⟩:∃ x,x=w.alloc (.cells #[.int .i64 0,.slice none 0 0,.slice none 0 0] 201):=⟨_,rfl⟩
 obtain⟨wb,hwb⟩:∃ x,x=wt.alloc (.cells #[.slice a Z.length c,.int .i64 0,.bool false] 274):=⟨_,rfl⟩
 have HST:=jh (TkSt.start cellE rowE (.slice a Z.length c) w 0 201 274)
 rw [← hwt,← hwb] at HST
 have HCB:Hid (Chg (fun j=>w.heap.size≤j) w wb):=jh (by rw [hwb,hwt];exact ((Chg.refl _ _).alloc _).alloc _)
 have hst:wt.heap.size=w.heap.size+1:=by rw [hwt];simp
 obtain⟨P,hP⟩:∃ x,numP Z 65536 (0,false)=x:=⟨_,rfl⟩
 obtain⟨Q,hQ⟩:∃ x,numP Z 65536 P.2=x:=⟨_,rfl⟩
 obtain⟨RR,hRR⟩:∃ x,rowsP Z P.1 16777216 Q.1 Q.2 []=x:=⟨_,rfl⟩
 obtain⟨U,hU⟩:∃ x,numP Z 65536 RR.2=x:=⟨_,rfl⟩
 obtain⟨V,hV⟩:∃ x,ofP Z 65536 U.1 U.2 []=x:=⟨_,rfl⟩
 have htk:takeP Z mostP=(((P.1:Int),RR.1,V.1),V.2):=by
  unfold takeP
  simp only [mostP,id]
  rw [hP,hQ,hRR,hU,hV]
 have hV2:V.2.2=false:=by rw [htk] at hv0;exact hv0
 have hR2:RR.2.2=false:=numP_mono (m:=65536) (Z:=Z) (by rw [hU];exact ofP_mono (Z:=Z) (mm:=65536) (k:=U.1) (acc:=[]) (by rw [hV];exact hV2))
 have HR2:=jh hR2
 clear hR2
 have HV2:=jh hV2
 clear hV2 hv0
 have hPl:=numP_le (Z:=Z) (m:=65536) (s:=(0,false)) (Nat.zero_le _)
 rw [hP] at hPl
 have hQl:=numP_le (m:=65536) hPl.1
 rw [hQ] at hQl
 have HPL:=jh hPl
 have HQL:=jh hQl
 have hP1:=hPl.2.1
 have HP:=jh hP
 have HQ:=jh hQ
 have HRR:=jh hRR
 have HU:=jh hU
 have HV:=jh hV
 have HWT:=jh hwt
 have HWB:=jh hwb
 unfold takeOk
 rw [htk]
 simp only
 clear hz ha hcz hn hwt hwb hP hQ hRR hU hV htk hPl hQl
 go_enter Tryz.func167,Tryz.ntmps167
 go_upto_region 1 with (fail)
 rw [← HWT.out]
 go_upto_region 2 with (fail)
 rw [← HWB.out]
 clear hst
 go_wp2_with fail
 have HN0:=jh (HN.out (0,false) wb (Nat.zero_le _) HCB.out HST.out.r)
 rw [HP.out] at HN0
 refine HN0.out.mono ?_
 rintro e w1 ⟨rfl,hr1,hc1⟩
 have HST1:=jh (HST.out.read hr1 hc1)
 have HC1:=jh (HCB.out.trans (hc1.mono (T:=fun j=>w.heap.size≤j) (fun k _ e=>by omega)))
 have c0:=HST1.out.t.c0
 have z0:=HST1.out.z0
 clear hr1 hc1 HST HCB
 have HSTW:=jh (HST1.out.width (P.1:Int))
 have HCW:=jh (HC1.out.trans ((setCellChg w1 w.heap.size 0 (.int .i64 P.1)).mono (T:=fun j=>w.heap.size≤j) (fun k _ e=>by omega)))
 obtain⟨w2,hw2⟩:∃ x,x=w1.setCell ⟨w.heap.size,0,none⟩ (.int .i64 P.1):=⟨_,rfl⟩
 rw [← hw2] at HSTW HCW
 have HW2:=jh hw2
 clear hw2
 go_upto_region 3 with (fail)
 rw [← HW2.out]
 clear c0 z0
 go_wp2_with fail
 refine (HN.out P.2 w2 HPL.out.1 HCW.out HSTW.out.r).mono ?_
 rw [HQ.out]
 rintro e w3 ⟨rfl,hr3,hc3⟩
 have HST3:=jh (HSTW.out.read hr3 hc3)
 have HC3:=jh (HCW.out.trans (hc3.mono (T:=fun j=>w.heap.size≤j) (fun k _ e=>by omega)))
 clear hr3 hc3 HSTW HCW HST1 HC1
 go_wp2
 go_loopw [6] (fun q wr=>∃ (K:Nat) (s:Rd) (R:List RowD) (v:Value),q=.int .i64 K∧TkSt cellE rowE (w.heap.size+1) w.heap.size (w.heap.size+2) (.slice a Z.length c) wr s P.1 R [] v (.slice none 0 0)∧s.1≤Z.length∧(R.length+K≤65536∧LenTo R)∧rowsP Z P.1 16777216 K s R=RR∧Chg (fun j=>w.heap.size≤j) w wr) (fun q _=>(intOf q).toNat)
 case atStart=>exact⟨Q.1,Q.2,[],_,rfl,HST3.out,HQL.out.1,⟨by have:=HQL.out.2.1;simpa using this,fun r hr=>by cases hr⟩,HRR.out,HC3.out⟩
 case round =>
  clear HST3 HC3 HRR
  obtain⟨K,s,R,v,rfl,hst,hs,⟨hRK,hlt⟩,hT,hc⟩:=hrel
  have HLT:=jh hlt
  have HST:=jh hst
  have HSL:=jh hs
  have HRR:=jh hT
  have HC:=jh hc
  obtain⟨va,vl,vc,rfl⟩:∃ a n c,v=.slice a n c:=by obtain⟨X,h1,_⟩:=hst.t.rows;exact h1.shape3
  obtain⟨sp,sb⟩:=s
  have c2:=hst.r.c2
  simp only at c2
  clear hst hs hT hc hlt
  by_cases hgo:0<K∧sb=false
  ·obtain⟨hK,rfl⟩:=hgo
   obtain⟨m,rfl⟩:∃ m,K=m+1:=⟨K-1,by omega⟩
   have b17:decide (0<m+1)=true:=by simp
   have e25:((m+1:Nat):Int)-1=(m:Int):=by omega
   obtain⟨N,hN⟩:∃ x,rowP Z P.1 16777216 (sp,false)=x:=⟨_,rfl⟩
   have hNl:=rowP_le (mw:=P.1) (mv:=16777216) HSL.out
   have hNi:=rowP_int (mw:=P.1) (mv:=16777216) HSL.out
   have hNn:=rowP_len (mw:=P.1) (mv:=16777216) HSL.out
   rw [hN] at hNl hNi hNn
   have HNL:=jh hNl
   have HNI:=jh hNi
   have HLN:=jh (HLT.out.add (r:=N.1) (by omega))
   have HTN:Hid (rowsP Z P.1 16777216 m N.2 (R++[N.1])=RR):=jh (by
    rw [← HRR.out,rowsP_step rfl,hN])
   have HN':=jh hN
   clear hNl hNi hN hNn
   go_upto_region 6 with (fail)
   obtain⟨wd,hwd⟩:∃ wd,wd=wr.drew:=⟨_,rfl⟩
   have HWE:Hid (wr.drew=wd):=jh hwd.symm
   have HWD:Hid (Chg (fun _=>False) wr wd):=jh (by rw [hwd];exact (Chg.refl _ _).drew)
   have HST6:=jh (HST.out.same HWD.out)
   have HC6:=jh (HC.out.trans HWD.out.any)
   have hlo:w.heap.size+2≤wd.heap.size:=by have:=HST6.out.r.lt;omega
   clear hwd c2
   refine wp_region_late (fun x=>Chg (fun j=>j=w.heap.size+1∨w.heap.size+2≤j) wd x) (fun i=>decide (i=9)) (by kernel_rfl) ?_
   show wpAnyL _ _ _ _ _ _ 10 (Array.replicate 10 false) _ wr.drew
   rw [HWE.out]
   have HSS:Hid (Chg (fun j=>j=w.heap.size+1∨w.heap.size+2≤j) wd wd):=jh (Chg.refl _ _)
   have hneg:¬ (w.heap.size=w.heap.size+1∨w.heap.size+2≤w.heap.size):=by omega
   (refine lrd 0 HSS.out fun K hK=>?_;apply ei;intro w' hC;(go_simp;try with_reducible rfl);(try go_simp);refine hK _ ?_;clear hK K)
   (refine lrd 1 HSS.out fun K hK=>?_;apply ei;intro w' hC;((have q:=hC.cellS HST6.out.t.c1 hneg);go_simp;try with_reducible rfl);(try go_simp);refine hK _ ?_;clear hK K)
   (refine lrd 2 HSS.out fun K hK=>?_;apply ei;intro w' hC;(go_simp;try with_reducible rfl);(try go_simp);refine hK _ ?_;clear hK K)
   (refine lrd 3 HSS.out fun K hK=>?_;apply ei;intro w' hC;(go_simp;try with_reducible rfl);(try go_simp);refine hK _ ?_;clear hK K)
   (refine lrd 4 HSS.out fun K hK=>?_;apply ei;intro w' hC;((have q:=hC.cellS HST6.out.t.c0 hneg);go_simp;try with_reducible rfl);(try go_simp);refine hK _ ?_;clear hK K)
   refine late_call (i:=5) (by kernel_rfl) rfl rfl 187 #[.pointer (some ⟨w.heap.size+1,0,none⟩),.int .i64 P.1] (fun u w''=>∃ xa,u=.agg #[.int .i64 N.1.1,.slice xa N.1.2.length N.1.2.length]∧cellE.In w'' wd.heap.size (xa,N.1.2.length,N.1.2.length) N.1.2∧RdAt w'' (w.heap.size+1) (.slice a Z.length c) N.2∧Chg (fun j=>j=w.heap.size+1) wd w'') (by go_simp) ?_ ?_
   ·refine (HROW.out P.1 (sp,false) wd hP1 HSL.out HC6.out HST6.out.r).mono ?_
    rw [HN'.out]
    rintro e w6 ⟨xa,rfl,h1,h2,h3⟩
    exact⟨_,rfl,fun _=>HSS.out.trans (h3.mono (fun k _ e=>.inl e)),xa,rfl,h1,h2,h3⟩
   rintro u w6 hs6 ⟨xa,rfl,hin,hr6,hc6⟩ K hK
   have HSS:=jh (hs6 (by decide))
   have HIN:=jh hin
   have HST7:=jh (HST6.out.read hr6 hc6)
   have HC7:=jh (HC6.out.trans (hc6.mono (T:=fun j=>w.heap.size≤j) (fun k _ e=>by omega)))
   have HC67:=jh hc6
   clear hs6 hr6 hc6 hin
   (try go_simp)
   refine hK _ ?_
   clear hK K
   have HSTA:=jh (HST7.out.same ((Chg.refl (fun _=>False) w6).alloc (.cells #[.int .i64 N.1.1,.slice xa N.1.2.length N.1.2.length] 241)))
   have HXE:Hid (RowIn cellE (w6.alloc (.cells #[.int .i64 N.1.1,.slice xa N.1.2.length N.1.2.length] 241)) (w.heap.size+2) (N.1.1,xa,N.1.2.length,N.1.2.length) N.1):=jh ⟨rfl,HNI.out,(HIN.out.lower hlo).same ((Chg.refl _ _).alloc _)⟩
   have HXA:Hid (0<N.1.2.length→∀ g o,xa=some ⟨g,o,none⟩→(Value.slice va vl vc).ownBlock≠some g∧(Value.slice none 0 0).ownBlock≠some g∧w.heap.size+2≤g):=jh (fun hp g o hg=>by
    obtain⟨_,_,g',o',-,h4⟩:=HIN.out
    obtain⟨h5,h6⟩:=h4 hp
    simp only at h5
    rw [hg] at h5
    injection h5 with h5
    injection h5 with h5
    subst h5
    obtain⟨X,h7,_⟩:=HST6.out.t.rows
    exact⟨fun e=>by have:=(h7.blk e).2;omega,(fun e=>by cases e),by omega⟩)
   obtain⟨XX,hXX,hXl,-⟩:=HSTA.out.t.rows
   have HXX:=jh hXX
   have HXL:=jh hXl
   have HOKR:Hid (∀ y∈[(N.1.1,xa,N.1.2.length,N.1.2.length)],rowE.ok y):=jh (by intro y hy;rw [List.mem_singleton] at hy;subst hy;exact HNI.out)
   have HBR:Hid (w.heap.size+2≤(w6.alloc (.cells #[.int .i64 N.1.1,.slice xa N.1.2.length N.1.2.length] 241)).heap.size):=jh (by have:=HSTA.out.r.lt;omega)
   clear hXX hXl
   (refine late_turn (i:=6) (by kernel_rfl) rfl rfl fun K hK=>?_;apply Exists.intro;apply Exists.intro;refine⟨?_,?_,?_⟩;(go_simp;try first|with_reducible rfl|exact⟨rfl,rfl⟩);(exact fun _=>HSS.out.alloc _);(try go_simp);refine hK _ _ ?_;clear hK K)
   refine late_append (i:=7) (by kernel_rfl) rfl rfl (.tmp 28) (.tmp 33) 199 199 rfl (.slice va vl vc) (.slice (some ⟨w6.heap.size,0,none⟩) 1 1) rfl rfl (fun v' w9=>rowE.Own w9 (w.heap.size+2) v' (XX++[(N.1.1,xa,N.1.2.length,N.1.2.length)])∧Chg (fun k=>(Value.slice va vl vc).ownBlock=some k) (w6.alloc (.cells #[.int .i64 N.1.1,.slice xa N.1.2.length N.1.2.length] 241)) w9∧(v'.ownBlock=(Value.slice va vl vc).ownBlock∨v'.ownBlock=some (w6.alloc (.cells #[.int .i64 N.1.1,.slice xa N.1.2.length N.1.2.length] 241)).heap.size)) ?_ ?_
   ·obtain⟨v',w9,hrun,h1,h2,⟨h3,h4⟩,-⟩:=HXX.out.append HBR.out 199 (.slice (some ⟨w6.heap.size,0,none⟩) 1 1) [(N.1.1,xa,N.1.2.length,N.1.2.length)] (rowE.srcLit 1 HOKR.out) HOKR.out (by have:=HXL.out;simp;omega) 199
    exact⟨v',w9,hrun,fun _=>(HSS.out.alloc _).trans (h2.mono (fun k _ e=>.inr e)),h1,h3,h4⟩
   rintro v' w9 hs ⟨h1,h2,h3⟩ K hK
   obtain⟨va',vl',vc',hv'⟩:=h1.shape3
   subst hv'
   obtain⟨⟨k1,k2⟩,hf,hcf⟩:=HSTA.out.t.addRow HXE.out HXA.out (fun X' hX' _=>(by rw [rowOwn_unique hX' HXX.out];exact h1)) h2 (h3.imp id Or.inl)
   have HCH:Hid (Chg (fun k=>k=w.heap.size∨w.heap.size+2≤k) (w6.alloc (.cells #[.int .i64 N.1.1,.slice xa N.1.2.length N.1.2.length] 241)) (w9.setCell ⟨w.heap.size,1,none⟩ (.slice va' vl' vc'))):=jh ((h2.mono (fun k _ e=>.inr ((HXX.out.blk e).1))).trans ((setCellChg w9 w.heap.size 1 _).mono (fun k _ e=>.inl e)))
   have hz9:w9.frozen? ⟨w.heap.size,0,none⟩=false:=(h2.frozen (p:=⟨w.heap.size,0,none⟩) HSTA.out.t.lt (fun e=>by have h:w.heap.size+2≤w.heap.size:=(HXX.out.blk e).1;omega)).trans HSTA.out.z0
   have HFF:=jh (HSTA.out.store hf (HSTA.out.r.chg HCH.out (by omega)) ((World.frozen?_setCell _ _ _ _).trans hz9))
   have HCF:=jh ((HC7.out.alloc (.cells #[.int .i64 N.1.1,.slice xa N.1.2.length N.1.2.length] 241)).trans (HCH.out.mono (T:=fun j=>w.heap.size≤j) (fun k _ e=>by omega)))
   have HSL9:=jh (hs (by decide))
   clear hf h1 h2 h3 hs hcf hz9
   (try go_simp)
   refine hK _ ?_
   clear hK K
   (refine late_turn (i:=8) (by kernel_rfl) rfl rfl fun K hK=>?_;apply Exists.intro;apply Exists.intro;refine⟨?_,?_,?_⟩;(go_simp;try first|with_reducible rfl|exact⟨rfl,rfl⟩);(exact fun _=>HSL9.out);(try go_simp);refine hK _ _ ?_;clear hK K)
   (refine late_store (i:=9) (by kernel_rfl) rfl rfl fun K hK=>?_;apply Exists.intro;refine⟨?_,(fun h=>absurd h (by decide)),?_⟩;(go_simp;try first|with_reducible rfl|exact⟨rfl,rfl⟩);(try go_simp);refine hK _ _ ?_;clear hK K)
   refine late_done (by kernel_rfl) ?_ _
   go_wp2
   go_roundw
   case rel=>exact⟨m,N.2,R++[N.1],_,by go_num,HFF.out,HNL.out,⟨by simp;omega,HLN.out⟩,HTN.out,HCF.out⟩
   case measure=>simp [intOf]
  ·have hex:decide (0<K)=false∨(decide (0<K)=true∧sb=true):=by
    rcases Nat.eq_zero_or_pos K with h|h
    ·exact .inl (by simp [h])
    ·exact .inr ⟨by simpa using h,by cases sb;exact absurd ⟨h,rfl⟩ hgo;rfl⟩
   have HRE:Hid (RR=(R,sp,sb)):=jh (by
    rw [← HRR.out]
    apply rowsP_wrong
    rcases Nat.eq_zero_or_pos K with h|h
    ·exact .inr h
    ·exact .inl (by cases sb;exact absurd ⟨h,rfl⟩ hgo;rfl))
   clear hgo
   have b17:decide (0<K)=false:=by
    rcases hex with h|⟨_,h⟩
    ·exact h
    ·have h2:=HR2.out
     rw [HRE.out,h] at h2
     cases h2
   clear hex
   all_goals
    go_upto_region 7 with (fail)
    have hb17:=jh b17
    clear c2 b17
    have HST2:Hid (TkSt cellE rowE (w.heap.size+1) w.heap.size (w.heap.size+2) (.slice a Z.length c) wr RR.2 P.1 RR.1 [] (.slice va vl vc) (.slice none 0 0)):=jh (by rw [HRE.out];exact HST.out)
    have HSL2:Hid (RR.2.1≤Z.length):=jh (by rw [HRE.out];exact HSL.out)
    have hRl:RR.1.length≤65536:=by rw [HRE.out];show R.length≤_;omega
    have HLR:Hid (∀ r∈RR.1,r.2.length≤1000000000):=jh (by rw [HRE.out];intro r hr;have:=HLT.out r hr;omega)
    have hUl:=numP_le (m:=65536) HSL2.out
    rw [HU.out] at hUl
    have HUL:=jh hUl
    have HN7:=jh (HN.out RR.2 wr HSL2.out HC.out HST2.out.r)
    rw [HU.out] at HN7
    clear hUl
    go_wp2_with fail
    refine HN7.out.mono ?_
    rintro e w7 ⟨rfl,hr7,hc7⟩
    have HST7:=jh (HST2.out.read hr7 hc7)
    have HC7:=jh (HC.out.trans (hc7.mono (T:=fun j=>w.heap.size≤j) (fun k _ e=>by omega)))
    clear hr7 hc7 HN7 HST2 HST HC
    go_wp2
    go_loopw [7] (fun q wr=>∃ (K:Nat) (s:Rd) (O:List Int) (u:Value),q=.int .i64 K∧TkSt cellE rowE (w.heap.size+1) w.heap.size (w.heap.size+2) (.slice a Z.length c) wr s P.1 RR.1 O (.slice va vl vc) u∧s.1≤Z.length∧O.length+K≤65536∧ofP Z 65536 K s O=V∧Chg (fun j=>w.heap.size≤j) w wr) (fun q _=>(intOf q).toNat)
    case atStart=>exact⟨U.1,U.2,[],_,rfl,HST7.out,HUL.out.1,by have:=HUL.out.2.1;simpa using this,HV.out,HC7.out⟩
    case round =>
     clear HST7 HC7 HV
     obtain⟨K,s,O,u,rfl,hst,hs,hOK,hT,hc⟩:=hrel
     have HST:=jh hst
     have HSL:=jh hs
     have HV:=jh hT
     have HC:=jh hc
     obtain⟨ua,ul,uc,rfl⟩:=hst.t.of.shape3
     obtain⟨sp,sb⟩:=s
     have c2:=hst.r.c2
     simp only at c2
     clear hst hs hT hc
     by_cases hgo:0<K∧sb=false
     ·obtain⟨hK,rfl⟩:=hgo
      obtain⟨m,rfl⟩:∃ m,K=m+1:=⟨K-1,by omega⟩
      have b39:decide (0<m+1)=true:=by simp
      have e47:((m+1:Nat):Int)-1=(m:Int):=by omega
      obtain⟨N,hN⟩:∃ x,numP Z 65536 (sp,false)=x:=⟨_,rfl⟩
      have hNl:=numP_le (m:=65536) HSL.out
      rw [hN] at hNl
      have HNL:=jh hNl
      have hN1:=hNl.2.1
      have HTN:Hid (ofP Z 65536 m N.2 (O++[(N.1:Int)])=V):=jh (by
       rw [← HV.out,ofP_step rfl,hN])
      have HN':=jh hN
      clear hNl hN
      go_upto_region 10 with (fail)
      obtain⟨wd,hwd⟩:∃ wd,wd=wr.drew:=⟨_,rfl⟩
      have HWE:Hid (wr.drew=wd):=jh hwd.symm
      have HWD:Hid (Chg (fun _=>False) wr wd):=jh (by rw [hwd];exact (Chg.refl _ _).drew)
      have HST6:=jh (HST.out.same HWD.out)
      have HC6:=jh (HC.out.trans HWD.out.any)
      clear hwd c2
      refine wp_region_late (fun x=>Chg (fun j=>j=w.heap.size+1∨w.heap.size+2≤j) wd x) (fun i=>decide (i=7)) (by kernel_rfl) ?_
      show wpAnyL _ _ _ _ _ _ 8 (Array.replicate 8 false) _ wr.drew
      rw [HWE.out]
      have HSS:Hid (Chg (fun j=>j=w.heap.size+1∨w.heap.size+2≤j) wd wd):=jh (Chg.refl _ _)
      have hneg:¬ (w.heap.size=w.heap.size+1∨w.heap.size+2≤w.heap.size):=by omega
      have HN10:=jh (HN.out (sp,false) wd HSL.out HC6.out HST6.out.r)
      rw [HN'.out] at HN10
      (refine lrd 0 HSS.out fun K hK=>?_;apply ei;intro w' hC;(go_simp;try with_reducible rfl);(try go_simp);refine hK _ ?_;clear hK K)
      (refine lrd 1 HSS.out fun K hK=>?_;apply ei;intro w' hC;((have q:=hC.cellS HST6.out.t.c2 hneg);go_simp;try with_reducible rfl);(try go_simp);refine hK _ ?_;clear hK K)
      (refine lrd 2 HSS.out fun K hK=>?_;apply ei;intro w' hC;(go_simp;try with_reducible rfl);(try go_simp);refine hK _ ?_;clear hK K)
      refine late_call (i:=3) (by kernel_rfl) rfl rfl 186 #[.pointer (some ⟨w.heap.size+1,0,none⟩),.int .i64 65536] (fun q w''=>q=.int .i64 N.1∧RdAt w'' (w.heap.size+1) (.slice a Z.length c) N.2∧Chg (fun j=>j=w.heap.size+1) wd w'') (by go_simp) ?_ ?_
      ·refine HN10.out.mono ?_
       rintro e w6 ⟨rfl,h1,h2⟩
       exact⟨_,rfl,fun _=>HSS.out.trans (h2.mono (fun k _ e=>.inl e)),rfl,h1,h2⟩
      rintro q w6 hs6 ⟨rfl,hr6,hc6⟩ K hK
      have HSS:=jh (hs6 (by decide))
      have HST7:=jh (HST6.out.read hr6 hc6)
      have HC7:=jh (HC6.out.trans (hc6.mono (T:=fun j=>w.heap.size≤j) (fun k _ e=>by omega)))
      clear hs6 hr6 hc6 HN10
      (try go_simp)
      refine hK _ ?_
      clear hK K
      have HSTA:=jh (HST7.out.same ((Chg.refl (fun _=>False) w6).alloc (.cells #[.int .i64 N.1] 3)))
      have HOKI:Hid (∀ y∈[(N.1:Int)],intE.ok y):=jh (by intro y hy;rw [List.mem_singleton] at hy;subst hy;exact⟨by omega,by omega⟩)
      have HBR:Hid (w.heap.size+2≤(w6.alloc (.cells #[.int .i64 N.1] 3)).heap.size):=jh (by have:=HSTA.out.r.lt;omega)
      (refine late_turn (i:=4) (by kernel_rfl) rfl rfl fun K hK=>?_;apply Exists.intro;apply Exists.intro;refine⟨?_,?_,?_⟩;(go_simp;try first|with_reducible rfl|exact⟨rfl,rfl⟩);(exact fun _=>HSS.out.alloc _);(try go_simp);refine hK _ _ ?_;clear hK K)
      refine late_append (i:=5) (by kernel_rfl) rfl rfl (.tmp 50) (.tmp 53) 25 25 rfl (.slice ua ul uc) (.slice (some ⟨w6.heap.size,0,none⟩) 1 1) rfl rfl (fun v' w9=>intE.Own w9 (w.heap.size+2) v' (O++[(N.1:Int)])∧Chg (fun k=>(Value.slice ua ul uc).ownBlock=some k) (w6.alloc (.cells #[.int .i64 N.1] 3)) w9∧(v'.ownBlock=(Value.slice ua ul uc).ownBlock∨v'.ownBlock=some (w6.alloc (.cells #[.int .i64 N.1] 3)).heap.size)) ?_ ?_
      ·obtain⟨v',w9,hrun,h1,h2,⟨h3,h4⟩,-⟩:=HSTA.out.t.of.append HBR.out 25 (.slice (some ⟨w6.heap.size,0,none⟩) 1 1) [(N.1:Int)] (intE.srcLit 1 HOKI.out) HOKI.out (by simp;omega) 25
       exact⟨v',w9,hrun,fun _=>(HSS.out.alloc _).trans (h2.mono (fun k _ e=>.inr e)),h1,h3,h4⟩
      rintro v' w9 hs ⟨h1,h2,h3⟩ K hK
      obtain⟨va',vl',vc',hv'⟩:=h1.shape3
      subst hv'
      obtain⟨⟨k1,k2⟩,hf,hcf⟩:=HSTA.out.t.addOf h1 h2 (h3.imp id Or.inl)
      have HCH:Hid (Chg (fun k=>k=w.heap.size∨w.heap.size+2≤k) (w6.alloc (.cells #[.int .i64 N.1] 3)) (w9.setCell ⟨w.heap.size,2,none⟩ (.slice va' vl' vc'))):=jh ((h2.mono (fun k _ e=>.inr ((HSTA.out.t.of.blk e).1))).trans ((setCellChg w9 w.heap.size 2 _).mono (fun k _ e=>.inl e)))
      have hz9:w9.frozen? ⟨w.heap.size,0,none⟩=false:=(h2.frozen (p:=⟨w.heap.size,0,none⟩) HSTA.out.t.lt (fun e=>by have h:w.heap.size+2≤w.heap.size:=(HSTA.out.t.of.blk e).1;omega)).trans HSTA.out.z0
      have HFF:=jh (HSTA.out.store hf (HSTA.out.r.chg HCH.out (by omega)) ((World.frozen?_setCell _ _ _ _).trans hz9))
      have HCF:=jh ((HC7.out.alloc (.cells #[.int .i64 N.1] 3)).trans (HCH.out.mono (T:=fun j=>w.heap.size≤j) (fun k _ e=>by omega)))
      have HSL9:=jh (hs (by decide))
      clear hf h1 h2 h3 hs hcf hz9
      (try go_simp)
      refine hK _ ?_
      clear hK K
      (refine late_turn (i:=6) (by kernel_rfl) rfl rfl fun K hK=>?_;apply Exists.intro;apply Exists.intro;refine⟨?_,?_,?_⟩;(go_simp;try first|with_reducible rfl|exact⟨rfl,rfl⟩);(exact fun _=>HSL9.out);(try go_simp);refine hK _ _ ?_;clear hK K)
      (refine late_store (i:=7) (by kernel_rfl) rfl rfl fun K hK=>?_;apply Exists.intro;refine⟨?_,(fun h=>absurd h (by decide)),?_⟩;(go_simp;try first|with_reducible rfl|exact⟨rfl,rfl⟩);(try go_simp);refine hK _ _ ?_;clear hK K)
      refine late_done (by kernel_rfl) ?_ _
      go_wp2
      go_roundw
      case rel=>exact⟨m,N.2,O++[(N.1:Int)],_,by go_num,HFF.out,HNL.out.1,by simp;omega,HTN.out,HCF.out⟩
      case measure=>simp [intOf]
     ·have hex:decide (0<K)=false∨(decide (0<K)=true∧sb=true):=by
       rcases Nat.eq_zero_or_pos K with h|h
       ·exact .inl (by simp [h])
       ·exact .inr ⟨by simpa using h,by cases sb;exact absurd ⟨h,rfl⟩ hgo;rfl⟩
      have HVE:Hid (V=(O,sp,sb)):=jh (by
       rw [← HV.out]
       apply ofP_wrong
       rcases Nat.eq_zero_or_pos K with h|h
       ·exact .inr h
       ·exact .inl (by cases sb;exact absurd ⟨h,rfl⟩ hgo;rfl))
      clear hgo
      have b39:decide (0<K)=false:=by
       rcases hex with h|⟨_,h⟩
       ·exact h
       ·have h2:=HV2.out
        rw [HVE.out,h] at h2
        cases h2
      clear hex
      all_goals
       go_upto_region 11 with (fail)
       clear c2 b39
       have HSTV:Hid (TkSt cellE rowE (w.heap.size+1) w.heap.size (w.heap.size+2) (.slice a Z.length c) wr V.2 P.1 RR.1 V.1 (.slice va vl vc) (.slice ua ul uc)):=jh (by rw [HVE.out];exact HST.out)
       have hOl:V.1.length≤65536:=by rw [HVE.out];show O.length≤_;omega
       obtain⟨-,hvl,hle1⟩:=HSTV.out.t.rowsIn
       obtain⟨-,hof,-,hul,-,hle2⟩:=HSTV.out.t.final (Chg.refl _ _)
       subst hvl hul
       have HRI:=jh HSTV.out.t.rowsIn.1
       obtain⟨gq,hoat,hop⟩:=hof.bytes
       have HMAY:=jh (may_any P.1 RR.1 V.1 va ua vc uc _ gq 0 wr ⟨by omega,by omega⟩ HRI.out (by omega) HLR.out hoat hop (by omega))
       obtain⟨M,hM⟩:∃ x,mayL ((P.1:Int),RR.1,V.1)=x:=⟨_,rfl⟩
       rw [hM] at HMAY
       have c2:=HSTV.out.r.c2
       have HM:=jh hM
       clear hoat hop hof hM HST HSL HRI
       by_cases hbad:V.2.2=true∨M=false
       ·have HRES:Hid ((!V.2.2 && mayL ((P.1:Int),RR.1,V.1))=false):=jh (by
         rw [HM.out]
         rcases hbad with h|h
         ·rw [h];rfl
         ·rw [h];exact Bool.and_false _)
        by_cases hv:V.2.2=true
        ·rw [HV2.out] at hv;cases hv
        ·have hm:M=false:=hbad.resolve_left hv
         have hv:V.2.2=false:=by simpa using hv
         rw [hv] at c2
         rw [hm] at HMAY
         have c0:=HSTV.out.t.c0
         have c1:=HSTV.out.t.c1
         have c3:=HSTV.out.t.c2
         clear hbad hv hm
         go_wp2_with fail
         refine HMAY.out.mono ?_
         rintro e w8 ⟨rfl,hc8⟩
         have HST8:=jh (HSTV.out.same hc8)
         have HC8:=jh (HC.out.trans hc8.any)
         clear hc8 c0 c1 c2 c3
         have c0:=HST8.out.t.c0
         have c1:=HST8.out.t.c1
         have c3:=HST8.out.t.c2
         have z0:=HST8.out.z0
         have z1:=HST8.out.t.z1
         have z2:=HST8.out.t.z2
         go_wp2
         obtain⟨f0,f1,f2,f3⟩:=store3 (.int .i64 0) (.slice none 0 0) (.slice none 0 0) c0 c1 c3
         have h4:=(HC8.out.trans (f3.mono (T:=fun j=>w.heap.size≤j) (fun k _ e=>by omega))).fresh
         clear f3
         generalize ((w8.setCell ⟨w.heap.size,0,none⟩ (.int .i64 0)).setCell ⟨w.heap.size,1,none⟩ (.slice none 0 0)).setCell ⟨w.heap.size,2,none⟩ (.slice none 0 0)=WW at *
         exact bodyPost_ret (v:=.tuple #[.agg #[.int .i64 0,.slice none 0 0,.slice none 0 0],.int .i64 0,.int .i64 4]) (by simp [results,Tryz.results167,go_sem,f0,f1,f2]) rfl (.inr ⟨HRES.out,rfl,h4⟩)
       ·have hv:V.2.2=false:=by
         cases h:V.2.2 with
         | false=>rfl
         | true=>exact absurd (.inl h) hbad
        have hm:M=true:=by
         cases M with
         | true=>rfl
         | false=>exact absurd (.inr rfl) hbad
        have HRES:Hid (V.2.2=false∧mayL ((P.1:Int),RR.1,V.1)=true):=jh ⟨hv,by rw [HM.out,hm]⟩
        rw [hv] at c2
        rw [hm] at HMAY
        have c0:=HSTV.out.t.c0
        have c1:=HSTV.out.t.c1
        have c3:=HSTV.out.t.c2
        clear hbad hv hm
        go_wp2_with fail
        refine HMAY.out.mono ?_
        rintro e w8 ⟨rfl,hc8⟩
        have HST8:=jh (HSTV.out.same hc8)
        have HC8:=jh (HC.out.trans hc8.any)
        clear hc8 c0 c1 c2 c3
        go_upto_region 13 with (fail)
        obtain⟨we,hwe⟩:∃ we,we=w8.drew:=⟨_,rfl⟩
        have HWE2:Hid (w8.drew=we):=jh hwe.symm
        have HWF:Hid (Chg (fun _=>False) w8 we):=jh (by rw [hwe];exact (Chg.refl _ _).drew)
        have HTE:=jh (HST8.out.same HWF.out)
        have HCE:=jh (HC8.out.trans HWF.out.any)
        clear hwe
        refine wp_region_late (fun x=>x=we) (fun i=>decide (7≤i)) (by kernel_rfl) ?_
        show wpAnyL _ _ _ _ _ _ 10 (Array.replicate 10 false) _ w8.drew
        rw [HWE2.out]
        have HSS:Hid (we=we):=jh rfl
        (refine lrd 0 HSS.out fun K hK=>?_;apply ei;intro w' hC;(go_simp;try with_reducible rfl);(try go_simp);refine hK _ ?_;clear hK K)
        (refine lrd 1 HSS.out fun K hK=>?_;apply ei;intro w' hC;((subst hC;have q:=HTE.out.t.c1);go_simp;try with_reducible rfl);(try go_simp);refine hK _ ?_;clear hK K)
        (refine lrd 3 HSS.out fun K hK=>?_;apply ei;intro w' hC;(go_simp;try with_reducible rfl);(try go_simp);refine hK _ ?_;clear hK K)
        (refine lrd 4 HSS.out fun K hK=>?_;apply ei;intro w' hC;((subst hC;have q:=HTE.out.t.c2);go_simp;try with_reducible rfl);(try go_simp);refine hK _ ?_;clear hK K)
        refine late_call (i:=2) (by kernel_rfl) rfl rfl 156 #[.slice va RR.1.length vc] (fun q w''=>q=.slice va RR.1.length RR.1.length∧we=w'') (by go_simp) ?_ ?_
        ·refine (clipRow we va _ vc hle1).mono ?_
         rintro e w2 ⟨rfl,rfl⟩
         exact⟨_,rfl,fun _=>rfl,rfl,rfl⟩
        rintro q w''-⟨rfl,rfl⟩ K hK
        (try go_simp)
        refine hK _ ?_
        clear hK K
        (refine lrd 6 HSS.out fun K hK=>?_;apply ei;intro w' hC;(go_simp;try with_reducible rfl);(try go_simp);refine hK _ ?_;clear hK K)
        refine late_call (i:=5) (by kernel_rfl) rfl rfl 144 #[.slice ua V.1.length uc] (fun q w''=>q=.slice ua V.1.length V.1.length∧we=w'') (by go_simp) ?_ ?_
        ·refine (clipInt we ua _ uc hle2).mono ?_
         rintro e w2 ⟨rfl,rfl⟩
         exact⟨_,rfl,fun _=>rfl,rfl,rfl⟩
        rintro q w''-⟨rfl,rfl⟩ K hK
        (try go_simp)
        refine hK _ ?_
        clear hK K
        have c1:=HTE.out.t.c1
        have y1:=HTE.out.t.z1
        have c0:=HTE.out.t.c0
        have s1:=setCellChg we w.heap.size 1 (.slice va RR.1.length RR.1.length)
        have c2:(we.setCell ⟨w.heap.size,1,none⟩ (.slice va RR.1.length RR.1.length)).cell? ⟨w.heap.size,2,none⟩=some (.slice ua V.1.length uc):=Chg.cellNe HTE.out.t.c2 (by intro e;injection e with _ e;cases e)
        have y2:(we.setCell ⟨w.heap.size,1,none⟩ (.slice va RR.1.length RR.1.length)).frozen? ⟨w.heap.size,2,none⟩=false:=(World.frozen?_setCell _ _ _ _).trans HTE.out.t.z2
        (refine late_store (i:=7) (by kernel_rfl) rfl rfl fun K hK=>?_;apply Exists.intro;refine⟨?_,(fun h=>absurd h (by decide)),?_⟩;(go_simp;try first|with_reducible rfl|exact⟨rfl,rfl⟩);(try go_simp);refine hK _ _ ?_;clear hK K)
        (refine late_turn (i:=8) (by kernel_rfl) rfl rfl fun K hK=>?_;apply Exists.intro;apply Exists.intro;refine⟨?_,?_,?_⟩;(go_simp;try first|with_reducible rfl|exact⟨rfl,rfl⟩);(exact fun h=>absurd h (by decide));(try go_simp);refine hK _ _ ?_;clear hK K)
        (refine late_store (i:=9) (by kernel_rfl) rfl rfl fun K hK=>?_;apply Exists.intro;refine⟨?_,(fun h=>absurd h (by decide)),?_⟩;(go_simp;try first|with_reducible rfl|exact⟨rfl,rfl⟩);(try go_simp);refine hK _ _ ?_;clear hK K)
        refine late_done (by kernel_rfl) ?_ _
        obtain⟨wg,hwg⟩:∃ wg,wg=(we.setCell ⟨w.heap.size,1,none⟩ (.slice va RR.1.length RR.1.length)).setCell ⟨w.heap.size,2,none⟩ (.slice ua V.1.length V.1.length):=⟨_,rfl⟩
        rw [← hwg]
        have s2:Chg (fun k=>k=w.heap.size) we wg:=by rw [hwg];exact s1.trans (setCellChg _ _ _ _)
        have g0:wg.cell? ⟨w.heap.size,0,none⟩=some (.int .i64 P.1):=by rw [hwg];exact Chg.cellNe (Chg.cellNe c0 (by intro e;injection e with _ e;cases e)) (by intro e;injection e with _ e;cases e)
        have g1:wg.cell? ⟨w.heap.size,1,none⟩=some (.slice va RR.1.length RR.1.length):=by rw [hwg];exact Chg.cellNe (World.cell?_setCell_same _ _ _ c1) (by intro e;injection e with _ e;cases e)
        have g2:wg.cell? ⟨w.heap.size,2,none⟩=some (.slice ua V.1.length V.1.length):=by rw [hwg];exact World.cell?_setCell_same _ _ _ c2
        have y0:wg.frozen? ⟨w.heap.size,0,none⟩=false:=by rw [hwg];exact (World.frozen?_setCell _ _ _ _).trans ((World.frozen?_setCell _ _ _ _).trans HTE.out.z0)
        have y1':wg.frozen? ⟨w.heap.size,1,none⟩=false:=by rw [hwg];exact (World.frozen?_setCell _ _ _ _).trans ((World.frozen?_setCell _ _ _ _).trans y1)
        have y2':wg.frozen? ⟨w.heap.size,2,none⟩=false:=by rw [hwg];exact (World.frozen?_setCell _ _ _ _).trans y2
        have HRG:=jh (HTE.out.r.chg s2 (by omega))
        have HS2:=jh s2
        clear hwg s2 s1 c0 c1 c2 y1 y2
        go_upto_region 14 with (fail)
        have hlt:w.heap.size<wg.heap.size:=World.block_lt_of_cell? _ _ g0
        have HCG:Hid (∀ x,Chg (fun _=>False) wg x→((x.cell? ⟨w.heap.size,0,none⟩=some (.int .i64 P.1)∧x.cell? ⟨w.heap.size,1,none⟩=some (.slice va RR.1.length RR.1.length)∧x.cell? ⟨w.heap.size,2,none⟩=some (.slice ua V.1.length V.1.length))∧x.cell? ⟨w.heap.size+1,1,none⟩=some (.int .i64 V.2.1)∧x.frozen? ⟨w.heap.size,0,none⟩=false∧x.frozen? ⟨w.heap.size,1,none⟩=false∧x.frozen? ⟨w.heap.size,2,none⟩=false)):=jh (fun x hx =>
         ⟨⟨hx.cellS g0 (fun h=>h),hx.cellS g1 (fun h=>h),hx.cellS g2 (fun h=>h)⟩,hx.cellS HRG.out.c1 (fun h=>h),(hx.frozen (p:=⟨w.heap.size,0,none⟩) hlt (fun h=>h)).trans y0,(hx.frozen (p:=⟨w.heap.size,1,none⟩) hlt (fun h=>h)).trans y1',(hx.frozen (p:=⟨w.heap.size,2,none⟩) hlt (fun h=>h)).trans y2'⟩)
        clear g0 g1 g2 y0 y1' y2' hlt
        refine wp_region_same (fun x=>((x.cell? ⟨w.heap.size,0,none⟩=some (.int .i64 P.1)∧x.cell? ⟨w.heap.size,1,none⟩=some (.slice va RR.1.length RR.1.length)∧x.cell? ⟨w.heap.size,2,none⟩=some (.slice ua V.1.length V.1.length))∧x.cell? ⟨w.heap.size+1,1,none⟩=some (.int .i64 V.2.1)∧x.frozen? ⟨w.heap.size,0,none⟩=false∧x.frozen? ⟨w.heap.size,1,none⟩=false∧x.frozen? ⟨w.heap.size,2,none⟩=false)∧Chg (fun k=>k=w.heap.size) wg x) (by kernel_rfl) (by kernel_rfl) ?_ ?_
        ·exact⟨HCG.out _ (Chg.refl _ _).drew,(Chg.refl _ _).drew⟩
        (refine rdC fun K hK=>?_;apply ei;intro _ w' _ hC;((obtain⟨⟨⟨q0,q1,q2⟩,q3,x0,x1,x2⟩,hh⟩:=hC);go_simp;try with_reducible rfl);(try go_simp);refine hK _ ?_;clear hK K)
        (refine rdC fun K hK=>?_;apply ei;intro _ w' _ hC;(go_simp;try with_reducible rfl);(try go_simp);refine hK _ ?_;clear hK K)
        (refine rdC fun K hK=>?_;apply ei;intro _ w' _ hC;(go_simp;try with_reducible rfl);(try go_simp);refine hK _ ?_;clear hK K)
        (refine rdC fun K hK=>?_;apply ei;intro _ w' _ hC;(go_simp;try with_reducible rfl);(try go_simp);refine hK _ ?_;clear hK K)
        (refine rdC fun K hK=>?_;apply ei;intro _ w' _ hC;((obtain⟨⟨⟨q0,q1,q2⟩,q3,x0,x1,x2⟩,hh⟩:=hC);go_simp;try with_reducible rfl);(try go_simp);refine hK _ ?_;clear hK K)
        refine wpC_store rfl (fun _ w' _ hC=>?_) (fun K hK=>?_)
        ·obtain⟨⟨⟨q0,q1,q2⟩,q3,x0,x1,x2⟩,hh⟩:=hC
         obtain⟨f0,f1,f2,f3⟩:=store3 (.int .i64 P.1) (.slice va RR.1.length RR.1.length) (.slice ua V.1.length V.1.length) q0 q1 q2
         refine⟨((w'.setCell ⟨w.heap.size,0,none⟩ (.int .i64 P.1)).setCell ⟨w.heap.size,1,none⟩ (.slice va RR.1.length RR.1.length)).setCell ⟨w.heap.size,2,none⟩ (.slice ua V.1.length V.1.length),?_,⟨⟨f0,f1,f2⟩,f3.cellS q3 (by show ¬ w.heap.size+1=w.heap.size;omega),(World.frozen?_setCell _ _ _ _).trans ((World.frozen?_setCell _ _ _ _).trans ((World.frozen?_setCell _ _ _ _).trans x0)),(World.frozen?_setCell _ _ _ _).trans ((World.frozen?_setCell _ _ _ _).trans ((World.frozen?_setCell _ _ _ _).trans x1)),(World.frozen?_setCell _ _ _ _).trans ((World.frozen?_setCell _ _ _ _).trans ((World.frozen?_setCell _ _ _ _).trans x2))⟩,hh.trans f3⟩
         clear f0 f1 f2 f3 hh
         go_simp
        ((try go_simp);refine hK _ ?_;clear hK K)
        (refine rdC fun K hK=>?_;apply ei;intro _ w' _ hC;(go_simp;try with_reducible rfl);(try go_simp);refine hK _ ?_;clear hK K)
        (refine rdC fun K hK=>?_;apply ei;intro _ w' _ hC;(go_simp;try with_reducible rfl);(try go_simp);refine hK _ ?_;clear hK K)
        refine wpC_nil ?_
        rintro WW ⟨⟨⟨f0,f1,f2⟩,-⟩,hcw⟩
        have h3:=HS2.out.trans hcw
        obtain⟨h5,h6,-⟩:=HTE.out.t.final (h3.mono (T:=fun k=>k<w.heap.size+2) (fun k _ e=>by omega))
        have h7:=(HCE.out.trans (h3.mono (T:=fun j=>w.heap.size≤j) (fun k _ e=>by omega))).fresh
        clear h3 hcw
        go_wp2
        exact bodyPost_ret (v:=.tuple #[.agg #[.int .i64 P.1,.slice va RR.1.length RR.1.length,.slice ua V.1.length V.1.length],.int .i64 V.2.1,.int .i64 0]) (by simp [results,Tryz.results167,go_sem,f0,f1,f2]) rfl (.inl ⟨by first|exact HRES.out|(simp only [HRES.out.1,HRES.out.2];rfl),va,ua,rfl,h5.lower (by omega),h6.lower (by omega),h7⟩)
theorem takeTab_wrong (Z:List Int) (a:Option Addr) (g o c:Nat) (w:World) (hz:BytesAt w g o Z) (ha:0<Z.length→a=some ⟨g,o,none⟩) (hcz:Z.length≤c) (hn:a=none→c=0) (hl:Z.length≤100000000) (hv0:(takeP Z mostP).2.2=true) :
  Calls Tryz.prog 167 #[.slice a Z.length c] w fun e w'=>(takeOk Z mostP=true∧∃ ra oa,e=.returned (.tuple #[.agg #[.int .i64 (takeP Z mostP).1.1,.slice ra (takeP Z mostP).1.2.1.length (takeP Z mostP).1.2.1.length,.slice oa (takeP Z mostP).1.2.2.length (takeP Z mostP).1.2.2.length],.int .i64 (takeP Z mostP).2.1,.int .i64 0]) ∧
   RowsIn cellE rowE w' w.heap.size (ra,(takeP Z mostP).1.2.1.length,(takeP Z mostP).1.2.1.length) (takeP Z mostP).1.2.1∧OfIn w' w.heap.size oa (takeP Z mostP).1.2.2∧Chg (fun _=>False) w w') ∨
   (takeOk Z mostP=false∧e=.returned (.tuple #[.agg #[.int .i64 0,.slice none 0 0,.slice none 0 0],.int .i64 0,.int .i64 4])∧Chg (fun _=>False) w w'):=by
 have HN:Hid (∀ (s:Rd) (wx:World),s.1≤Z.length→Chg (fun j=>w.heap.size≤j) w wx→RdAt wx (w.heap.size+1) (.slice a Z.length c) s→Calls Tryz.prog 186 #[.pointer (some ⟨w.heap.size+1,0,none⟩),.int .i64 65536] wx fun e w'=>e=.returned (.int .i64 (numP Z 65536 s).1)∧RdAt w' (w.heap.size+1) (.slice a Z.length c) (numP Z 65536 s).2∧Chg (fun j=>j=w.heap.size+1) wx w'):=jh (fun s wx h1 h2 h3 =>
  num_all Z a g o c (w.heap.size+1) 65536 s wx (hz.chg h2 (fun hne e=>by have:=hz.lt hne;omega)) ha hcz hn (by omega) h1 (by omega) h3)
 have HROW:Hid (∀ (mw:Nat) (s:Rd) (wx:World),mw≤65536→s.1≤Z.length→Chg (fun j=>w.heap.size≤j) w wx→RdAt wx (w.heap.size+1) (.slice a Z.length c) s→Calls Tryz.prog 187 #[.pointer (some ⟨w.heap.size+1,0,none⟩),.int .i64 mw] wx fun e w'=>∃ xa,e=.returned (.agg #[.int .i64 (rowP Z mw 16777216 s).1.1,.slice xa (rowP Z mw 16777216 s).1.2.length (rowP Z mw 16777216 s).1.2.length]) ∧
   cellE.In w' wx.heap.size (xa,(rowP Z mw 16777216 s).1.2.length,(rowP Z mw 16777216 s).1.2.length) (rowP Z mw 16777216 s).1.2∧RdAt w' (w.heap.size+1) (.slice a Z.length c) (rowP Z mw 16777216 s).2∧Chg (fun j=>j=w.heap.size+1) wx w'):=jh (fun mw s wx h0 h1 h2 h3 =>
  row_any Z a g o c (w.heap.size+1) mw s wx (hz.chg h2 (fun hne e=>by have:=hz.lt hne;omega)) ha hcz hn (by omega) h1 h0 (fun hne=>by have:=hz.lt hne;omega) h3)
 obtain⟨wt,hwt⟩:∃ x,x=w.alloc (.cells #[.int .i64 0,.slice none 0 0,.slice none 0 0] 201):=⟨_,rfl⟩
 obtain⟨wb,hwb⟩:∃ x,x=wt.alloc (.cells #[.slice a Z.length c,.int .i64 0,.bool false] 274):=⟨_,rfl⟩
 have HST:=jh (TkSt.start cellE rowE (.slice a Z.length c) w 0 201 274)
 rw [← hwt,← hwb] at HST
 have HCB:Hid (Chg (fun j=>w.heap.size≤j) w wb):=jh (by rw [hwb,hwt];exact ((Chg.refl _ _).alloc _).alloc _)
 have hst:wt.heap.size=w.heap.size+1:=by rw [hwt];simp
 obtain⟨P,hP⟩:∃ x,numP Z 65536 (0,false)=x:=⟨_,rfl⟩
 obtain⟨Q,hQ⟩:∃ x,numP Z 65536 P.2=x:=⟨_,rfl⟩
 obtain⟨RR,hRR⟩:∃ x,rowsP Z P.1 16777216 Q.1 Q.2 []=x:=⟨_,rfl⟩
 obtain⟨U,hU⟩:∃ x,numP Z 65536 RR.2=x:=⟨_,rfl⟩
 obtain⟨V,hV⟩:∃ x,ofP Z 65536 U.1 U.2 []=x:=⟨_,rfl⟩
 have htk:takeP Z mostP=(((P.1:Int),RR.1,V.1),V.2):=by
  unfold takeP
  simp only [mostP,id]
  rw [hP,hQ,hRR,hU,hV]
 have hV2:V.2.2=true:=by rw [htk] at hv0;exact hv0
 have HV2:=jh hV2
 clear hV2 hv0
 have hPl:=numP_le (Z:=Z) (m:=65536) (s:=(0,false)) (Nat.zero_le _)
 rw [hP] at hPl
 have hQl:=numP_le (m:=65536) hPl.1
 rw [hQ] at hQl
 have HPL:=jh hPl
 have HQL:=jh hQl
 have hP1:=hPl.2.1
 have HP:=jh hP
 have HQ:=jh hQ
 have HRR:=jh hRR
 have HU:=jh hU
 have HV:=jh hV
 have HWT:=jh hwt
 have HWB:=jh hwb
 unfold takeOk
 rw [htk]
 simp only
 clear hz ha hcz hn hwt hwb hP hQ hRR hU hV htk hPl hQl
 go_enter Tryz.func167,Tryz.ntmps167
 go_upto_region 1 with (fail)
 rw [← HWT.out]
 go_upto_region 2 with (fail)
 rw [← HWB.out]
 clear hst
 go_wp2_with fail
 have HN0:=jh (HN.out (0,false) wb (Nat.zero_le _) HCB.out HST.out.r)
 rw [HP.out] at HN0
 refine HN0.out.mono ?_
 rintro e w1 ⟨rfl,hr1,hc1⟩
 have HST1:=jh (HST.out.read hr1 hc1)
 have HC1:=jh (HCB.out.trans (hc1.mono (T:=fun j=>w.heap.size≤j) (fun k _ e=>by omega)))
 have c0:=HST1.out.t.c0
 have z0:=HST1.out.z0
 clear hr1 hc1 HST HCB
 have HSTW:=jh (HST1.out.width (P.1:Int))
 have HCW:=jh (HC1.out.trans ((setCellChg w1 w.heap.size 0 (.int .i64 P.1)).mono (T:=fun j=>w.heap.size≤j) (fun k _ e=>by omega)))
 obtain⟨w2,hw2⟩:∃ x,x=w1.setCell ⟨w.heap.size,0,none⟩ (.int .i64 P.1):=⟨_,rfl⟩
 rw [← hw2] at HSTW HCW
 have HW2:=jh hw2
 clear hw2
 go_upto_region 3 with (fail)
 rw [← HW2.out]
 clear c0 z0
 go_wp2_with fail
 refine (HN.out P.2 w2 HPL.out.1 HCW.out HSTW.out.r).mono ?_
 rw [HQ.out]
 rintro e w3 ⟨rfl,hr3,hc3⟩
 have HST3:=jh (HSTW.out.read hr3 hc3)
 have HC3:=jh (HCW.out.trans (hc3.mono (T:=fun j=>w.heap.size≤j) (fun k _ e=>by omega)))
 clear hr3 hc3 HSTW HCW HST1 HC1
 go_wp2
 go_loopw [6] (fun q wr=>∃ (K:Nat) (s:Rd) (R:List RowD) (v:Value),q=.int .i64 K∧TkSt cellE rowE (w.heap.size+1) w.heap.size (w.heap.size+2) (.slice a Z.length c) wr s P.1 R [] v (.slice none 0 0)∧s.1≤Z.length∧(R.length+K≤65536∧LenTo R)∧rowsP Z P.1 16777216 K s R=RR∧Chg (fun j=>w.heap.size≤j) w wr) (fun q _=>(intOf q).toNat)
 case atStart=>exact⟨Q.1,Q.2,[],_,rfl,HST3.out,HQL.out.1,⟨by have:=HQL.out.2.1;simpa using this,fun r hr=>by cases hr⟩,HRR.out,HC3.out⟩
 case round =>
  clear HST3 HC3 HRR
  obtain⟨K,s,R,v,rfl,hst,hs,⟨hRK,hlt⟩,hT,hc⟩:=hrel
  have HLT:=jh hlt
  have HST:=jh hst
  have HSL:=jh hs
  have HRR:=jh hT
  have HC:=jh hc
  obtain⟨va,vl,vc,rfl⟩:∃ a n c,v=.slice a n c:=by obtain⟨X,h1,_⟩:=hst.t.rows;exact h1.shape3
  obtain⟨sp,sb⟩:=s
  have c2:=hst.r.c2
  simp only at c2
  clear hst hs hT hc hlt
  by_cases hgo:0<K∧sb=false
  ·obtain⟨hK,rfl⟩:=hgo
   obtain⟨m,rfl⟩:∃ m,K=m+1:=⟨K-1,by omega⟩
   have b17:decide (0<m+1)=true:=by simp
   have e25:((m+1:Nat):Int)-1=(m:Int):=by omega
   obtain⟨N,hN⟩:∃ x,rowP Z P.1 16777216 (sp,false)=x:=⟨_,rfl⟩
   have hNl:=rowP_le (mw:=P.1) (mv:=16777216) HSL.out
   have hNi:=rowP_int (mw:=P.1) (mv:=16777216) HSL.out
   have hNn:=rowP_len (mw:=P.1) (mv:=16777216) HSL.out
   rw [hN] at hNl hNi hNn
   have HNL:=jh hNl
   have HNI:=jh hNi
   have HLN:=jh (HLT.out.add (r:=N.1) (by omega))
   have HTN:Hid (rowsP Z P.1 16777216 m N.2 (R++[N.1])=RR):=jh (by
    rw [← HRR.out,rowsP_step rfl,hN])
   have HN':=jh hN
   clear hNl hNi hN hNn
   go_upto_region 6 with (fail)
   obtain⟨wd,hwd⟩:∃ wd,wd=wr.drew:=⟨_,rfl⟩
   have HWE:Hid (wr.drew=wd):=jh hwd.symm
   have HWD:Hid (Chg (fun _=>False) wr wd):=jh (by rw [hwd];exact (Chg.refl _ _).drew)
   have HST6:=jh (HST.out.same HWD.out)
   have HC6:=jh (HC.out.trans HWD.out.any)
   have hlo:w.heap.size+2≤wd.heap.size:=by have:=HST6.out.r.lt;omega
   clear hwd c2
   refine wp_region_late (fun x=>Chg (fun j=>j=w.heap.size+1∨w.heap.size+2≤j) wd x) (fun i=>decide (i=9)) (by kernel_rfl) ?_
   show wpAnyL _ _ _ _ _ _ 10 (Array.replicate 10 false) _ wr.drew
   rw [HWE.out]
   have HSS:Hid (Chg (fun j=>j=w.heap.size+1∨w.heap.size+2≤j) wd wd):=jh (Chg.refl _ _)
   have hneg:¬ (w.heap.size=w.heap.size+1∨w.heap.size+2≤w.heap.size):=by omega
   (refine lrd 0 HSS.out fun K hK=>?_;apply ei;intro w' hC;(go_simp;try with_reducible rfl);(try go_simp);refine hK _ ?_;clear hK K)
   (refine lrd 1 HSS.out fun K hK=>?_;apply ei;intro w' hC;((have q:=hC.cellS HST6.out.t.c1 hneg);go_simp;try with_reducible rfl);(try go_simp);refine hK _ ?_;clear hK K)
   (refine lrd 2 HSS.out fun K hK=>?_;apply ei;intro w' hC;(go_simp;try with_reducible rfl);(try go_simp);refine hK _ ?_;clear hK K)
   (refine lrd 3 HSS.out fun K hK=>?_;apply ei;intro w' hC;(go_simp;try with_reducible rfl);(try go_simp);refine hK _ ?_;clear hK K)
   (refine lrd 4 HSS.out fun K hK=>?_;apply ei;intro w' hC;((have q:=hC.cellS HST6.out.t.c0 hneg);go_simp;try with_reducible rfl);(try go_simp);refine hK _ ?_;clear hK K)
   refine late_call (i:=5) (by kernel_rfl) rfl rfl 187 #[.pointer (some ⟨w.heap.size+1,0,none⟩),.int .i64 P.1] (fun u w''=>∃ xa,u=.agg #[.int .i64 N.1.1,.slice xa N.1.2.length N.1.2.length]∧cellE.In w'' wd.heap.size (xa,N.1.2.length,N.1.2.length) N.1.2∧RdAt w'' (w.heap.size+1) (.slice a Z.length c) N.2∧Chg (fun j=>j=w.heap.size+1) wd w'') (by go_simp) ?_ ?_
   ·refine (HROW.out P.1 (sp,false) wd hP1 HSL.out HC6.out HST6.out.r).mono ?_
    rw [HN'.out]
    rintro e w6 ⟨xa,rfl,h1,h2,h3⟩
    exact⟨_,rfl,fun _=>HSS.out.trans (h3.mono (fun k _ e=>.inl e)),xa,rfl,h1,h2,h3⟩
   rintro u w6 hs6 ⟨xa,rfl,hin,hr6,hc6⟩ K hK
   have HSS:=jh (hs6 (by decide))
   have HIN:=jh hin
   have HST7:=jh (HST6.out.read hr6 hc6)
   have HC7:=jh (HC6.out.trans (hc6.mono (T:=fun j=>w.heap.size≤j) (fun k _ e=>by omega)))
   have HC67:=jh hc6
   clear hs6 hr6 hc6 hin
   (try go_simp)
   refine hK _ ?_
   clear hK K
   have HSTA:=jh (HST7.out.same ((Chg.refl (fun _=>False) w6).alloc (.cells #[.int .i64 N.1.1,.slice xa N.1.2.length N.1.2.length] 241)))
   have HXE:Hid (RowIn cellE (w6.alloc (.cells #[.int .i64 N.1.1,.slice xa N.1.2.length N.1.2.length] 241)) (w.heap.size+2) (N.1.1,xa,N.1.2.length,N.1.2.length) N.1):=jh ⟨rfl,HNI.out,(HIN.out.lower hlo).same ((Chg.refl _ _).alloc _)⟩
   have HXA:Hid (0<N.1.2.length→∀ g o,xa=some ⟨g,o,none⟩→(Value.slice va vl vc).ownBlock≠some g∧(Value.slice none 0 0).ownBlock≠some g∧w.heap.size+2≤g):=jh (fun hp g o hg=>by
    obtain⟨_,_,g',o',-,h4⟩:=HIN.out
    obtain⟨h5,h6⟩:=h4 hp
    simp only at h5
    rw [hg] at h5
    injection h5 with h5
    injection h5 with h5
    subst h5
    obtain⟨X,h7,_⟩:=HST6.out.t.rows
    exact⟨fun e=>by have:=(h7.blk e).2;omega,(fun e=>by cases e),by omega⟩)
   obtain⟨XX,hXX,hXl,-⟩:=HSTA.out.t.rows
   have HXX:=jh hXX
   have HXL:=jh hXl
   have HOKR:Hid (∀ y∈[(N.1.1,xa,N.1.2.length,N.1.2.length)],rowE.ok y):=jh (by intro y hy;rw [List.mem_singleton] at hy;subst hy;exact HNI.out)
   have HBR:Hid (w.heap.size+2≤(w6.alloc (.cells #[.int .i64 N.1.1,.slice xa N.1.2.length N.1.2.length] 241)).heap.size):=jh (by have:=HSTA.out.r.lt;omega)
   clear hXX hXl
   (refine late_turn (i:=6) (by kernel_rfl) rfl rfl fun K hK=>?_;apply Exists.intro;apply Exists.intro;refine⟨?_,?_,?_⟩;(go_simp;try first|with_reducible rfl|exact⟨rfl,rfl⟩);(exact fun _=>HSS.out.alloc _);(try go_simp);refine hK _ _ ?_;clear hK K)
   refine late_append (i:=7) (by kernel_rfl) rfl rfl (.tmp 28) (.tmp 33) 199 199 rfl (.slice va vl vc) (.slice (some ⟨w6.heap.size,0,none⟩) 1 1) rfl rfl (fun v' w9=>rowE.Own w9 (w.heap.size+2) v' (XX++[(N.1.1,xa,N.1.2.length,N.1.2.length)])∧Chg (fun k=>(Value.slice va vl vc).ownBlock=some k) (w6.alloc (.cells #[.int .i64 N.1.1,.slice xa N.1.2.length N.1.2.length] 241)) w9∧(v'.ownBlock=(Value.slice va vl vc).ownBlock∨v'.ownBlock=some (w6.alloc (.cells #[.int .i64 N.1.1,.slice xa N.1.2.length N.1.2.length] 241)).heap.size)) ?_ ?_
   ·obtain⟨v',w9,hrun,h1,h2,⟨h3,h4⟩,-⟩:=HXX.out.append HBR.out 199 (.slice (some ⟨w6.heap.size,0,none⟩) 1 1) [(N.1.1,xa,N.1.2.length,N.1.2.length)] (rowE.srcLit 1 HOKR.out) HOKR.out (by have:=HXL.out;simp;omega) 199
    exact⟨v',w9,hrun,fun _=>(HSS.out.alloc _).trans (h2.mono (fun k _ e=>.inr e)),h1,h3,h4⟩
   rintro v' w9 hs ⟨h1,h2,h3⟩ K hK
   obtain⟨va',vl',vc',hv'⟩:=h1.shape3
   subst hv'
   obtain⟨⟨k1,k2⟩,hf,hcf⟩:=HSTA.out.t.addRow HXE.out HXA.out (fun X' hX' _=>(by rw [rowOwn_unique hX' HXX.out];exact h1)) h2 (h3.imp id Or.inl)
   have HCH:Hid (Chg (fun k=>k=w.heap.size∨w.heap.size+2≤k) (w6.alloc (.cells #[.int .i64 N.1.1,.slice xa N.1.2.length N.1.2.length] 241)) (w9.setCell ⟨w.heap.size,1,none⟩ (.slice va' vl' vc'))):=jh ((h2.mono (fun k _ e=>.inr ((HXX.out.blk e).1))).trans ((setCellChg w9 w.heap.size 1 _).mono (fun k _ e=>.inl e)))
   have hz9:w9.frozen? ⟨w.heap.size,0,none⟩=false:=(h2.frozen (p:=⟨w.heap.size,0,none⟩) HSTA.out.t.lt (fun e=>by have h:w.heap.size+2≤w.heap.size:=(HXX.out.blk e).1;omega)).trans HSTA.out.z0
   have HFF:=jh (HSTA.out.store hf (HSTA.out.r.chg HCH.out (by omega)) ((World.frozen?_setCell _ _ _ _).trans hz9))
   have HCF:=jh ((HC7.out.alloc (.cells #[.int .i64 N.1.1,.slice xa N.1.2.length N.1.2.length] 241)).trans (HCH.out.mono (T:=fun j=>w.heap.size≤j) (fun k _ e=>by omega)))
   have HSL9:=jh (hs (by decide))
   clear hf h1 h2 h3 hs hcf hz9
   (try go_simp)
   refine hK _ ?_
   clear hK K
   (refine late_turn (i:=8) (by kernel_rfl) rfl rfl fun K hK=>?_;apply Exists.intro;apply Exists.intro;refine⟨?_,?_,?_⟩;(go_simp;try first|with_reducible rfl|exact⟨rfl,rfl⟩);(exact fun _=>HSL9.out);(try go_simp);refine hK _ _ ?_;clear hK K)
   (refine late_store (i:=9) (by kernel_rfl) rfl rfl fun K hK=>?_;apply Exists.intro;refine⟨?_,(fun h=>absurd h (by decide)),?_⟩;(go_simp;try first|with_reducible rfl|exact⟨rfl,rfl⟩);(try go_simp);refine hK _ _ ?_;clear hK K)
   refine late_done (by kernel_rfl) ?_ _
   go_wp2
   go_roundw
   case rel=>exact⟨m,N.2,R++[N.1],_,by go_num,HFF.out,HNL.out,⟨by simp;omega,HLN.out⟩,HTN.out,HCF.out⟩
   case measure=>simp [intOf]
  ·have hex:decide (0<K)=false∨(decide (0<K)=true∧sb=true):=by
    rcases Nat.eq_zero_or_pos K with h|h
    ·exact .inl (by simp [h])
    ·exact .inr ⟨by simpa using h,by cases sb;exact absurd ⟨h,rfl⟩ hgo;rfl⟩
   have HRE:Hid (RR=(R,sp,sb)):=jh (by
    rw [← HRR.out]
    apply rowsP_wrong
    rcases Nat.eq_zero_or_pos K with h|h
    ·exact .inr h
    ·exact .inl (by cases sb;exact absurd ⟨h,rfl⟩ hgo;rfl))
   clear hgo
   rcases hex with b17|⟨b17,rfl⟩
   all_goals
    go_upto_region 7 with (fail)
    have hb17:=jh b17
    clear c2 b17
    have HST2:Hid (TkSt cellE rowE (w.heap.size+1) w.heap.size (w.heap.size+2) (.slice a Z.length c) wr RR.2 P.1 RR.1 [] (.slice va vl vc) (.slice none 0 0)):=jh (by rw [HRE.out];exact HST.out)
    have HSL2:Hid (RR.2.1≤Z.length):=jh (by rw [HRE.out];exact HSL.out)
    have hRl:RR.1.length≤65536:=by rw [HRE.out];show R.length≤_;omega
    have HLR:Hid (∀ r∈RR.1,r.2.length≤1000000000):=jh (by rw [HRE.out];intro r hr;have:=HLT.out r hr;omega)
    have hUl:=numP_le (m:=65536) HSL2.out
    rw [HU.out] at hUl
    have HUL:=jh hUl
    have HN7:=jh (HN.out RR.2 wr HSL2.out HC.out HST2.out.r)
    rw [HU.out] at HN7
    clear hUl
    go_wp2_with fail
    refine HN7.out.mono ?_
    rintro e w7 ⟨rfl,hr7,hc7⟩
    have HST7:=jh (HST2.out.read hr7 hc7)
    have HC7:=jh (HC.out.trans (hc7.mono (T:=fun j=>w.heap.size≤j) (fun k _ e=>by omega)))
    clear hr7 hc7 HN7 HST2 HST HC
    go_wp2
    go_loopw [7] (fun q wr=>∃ (K:Nat) (s:Rd) (O:List Int) (u:Value),q=.int .i64 K∧TkSt cellE rowE (w.heap.size+1) w.heap.size (w.heap.size+2) (.slice a Z.length c) wr s P.1 RR.1 O (.slice va vl vc) u∧s.1≤Z.length∧O.length+K≤65536∧ofP Z 65536 K s O=V∧Chg (fun j=>w.heap.size≤j) w wr) (fun q _=>(intOf q).toNat)
    case atStart=>exact⟨U.1,U.2,[],_,rfl,HST7.out,HUL.out.1,by have:=HUL.out.2.1;simpa using this,HV.out,HC7.out⟩
    case round =>
     clear HST7 HC7 HV
     obtain⟨K,s,O,u,rfl,hst,hs,hOK,hT,hc⟩:=hrel
     have HST:=jh hst
     have HSL:=jh hs
     have HV:=jh hT
     have HC:=jh hc
     obtain⟨ua,ul,uc,rfl⟩:=hst.t.of.shape3
     obtain⟨sp,sb⟩:=s
     have c2:=hst.r.c2
     simp only at c2
     clear hst hs hT hc
     by_cases hgo:0<K∧sb=false
     ·obtain⟨hK,rfl⟩:=hgo
      obtain⟨m,rfl⟩:∃ m,K=m+1:=⟨K-1,by omega⟩
      have b39:decide (0<m+1)=true:=by simp
      have e47:((m+1:Nat):Int)-1=(m:Int):=by omega
      obtain⟨N,hN⟩:∃ x,numP Z 65536 (sp,false)=x:=⟨_,rfl⟩
      have hNl:=numP_le (m:=65536) HSL.out
      rw [hN] at hNl
      have HNL:=jh hNl
      have hN1:=hNl.2.1
      have HTN:Hid (ofP Z 65536 m N.2 (O++[(N.1:Int)])=V):=jh (by
       rw [← HV.out,ofP_step rfl,hN])
      have HN':=jh hN
      clear hNl hN
      go_upto_region 10 with (fail)
      obtain⟨wd,hwd⟩:∃ wd,wd=wr.drew:=⟨_,rfl⟩
      have HWE:Hid (wr.drew=wd):=jh hwd.symm
      have HWD:Hid (Chg (fun _=>False) wr wd):=jh (by rw [hwd];exact (Chg.refl _ _).drew)
      have HST6:=jh (HST.out.same HWD.out)
      have HC6:=jh (HC.out.trans HWD.out.any)
      clear hwd c2
      refine wp_region_late (fun x=>Chg (fun j=>j=w.heap.size+1∨w.heap.size+2≤j) wd x) (fun i=>decide (i=7)) (by kernel_rfl) ?_
      show wpAnyL _ _ _ _ _ _ 8 (Array.replicate 8 false) _ wr.drew
      rw [HWE.out]
      have HSS:Hid (Chg (fun j=>j=w.heap.size+1∨w.heap.size+2≤j) wd wd):=jh (Chg.refl _ _)
      have hneg:¬ (w.heap.size=w.heap.size+1∨w.heap.size+2≤w.heap.size):=by omega
      have HN10:=jh (HN.out (sp,false) wd HSL.out HC6.out HST6.out.r)
      rw [HN'.out] at HN10
      (refine lrd 0 HSS.out fun K hK=>?_;apply ei;intro w' hC;(go_simp;try with_reducible rfl);(try go_simp);refine hK _ ?_;clear hK K)
      (refine lrd 1 HSS.out fun K hK=>?_;apply ei;intro w' hC;((have q:=hC.cellS HST6.out.t.c2 hneg);go_simp;try with_reducible rfl);(try go_simp);refine hK _ ?_;clear hK K)
      (refine lrd 2 HSS.out fun K hK=>?_;apply ei;intro w' hC;(go_simp;try with_reducible rfl);(try go_simp);refine hK _ ?_;clear hK K)
      refine late_call (i:=3) (by kernel_rfl) rfl rfl 186 #[.pointer (some ⟨w.heap.size+1,0,none⟩),.int .i64 65536] (fun q w''=>q=.int .i64 N.1∧RdAt w'' (w.heap.size+1) (.slice a Z.length c) N.2∧Chg (fun j=>j=w.heap.size+1) wd w'') (by go_simp) ?_ ?_
      ·refine HN10.out.mono ?_
       rintro e w6 ⟨rfl,h1,h2⟩
       exact⟨_,rfl,fun _=>HSS.out.trans (h2.mono (fun k _ e=>.inl e)),rfl,h1,h2⟩
      rintro q w6 hs6 ⟨rfl,hr6,hc6⟩ K hK
      have HSS:=jh (hs6 (by decide))
      have HST7:=jh (HST6.out.read hr6 hc6)
      have HC7:=jh (HC6.out.trans (hc6.mono (T:=fun j=>w.heap.size≤j) (fun k _ e=>by omega)))
      clear hs6 hr6 hc6 HN10
      (try go_simp)
      refine hK _ ?_
      clear hK K
      have HSTA:=jh (HST7.out.same ((Chg.refl (fun _=>False) w6).alloc (.cells #[.int .i64 N.1] 3)))
      have HOKI:Hid (∀ y∈[(N.1:Int)],intE.ok y):=jh (by intro y hy;rw [List.mem_singleton] at hy;subst hy;exact⟨by omega,by omega⟩)
      have HBR:Hid (w.heap.size+2≤(w6.alloc (.cells #[.int .i64 N.1] 3)).heap.size):=jh (by have:=HSTA.out.r.lt;omega)
      (refine late_turn (i:=4) (by kernel_rfl) rfl rfl fun K hK=>?_;apply Exists.intro;apply Exists.intro;refine⟨?_,?_,?_⟩;(go_simp;try first|with_reducible rfl|exact⟨rfl,rfl⟩);(exact fun _=>HSS.out.alloc _);(try go_simp);refine hK _ _ ?_;clear hK K)
      refine late_append (i:=5) (by kernel_rfl) rfl rfl (.tmp 50) (.tmp 53) 25 25 rfl (.slice ua ul uc) (.slice (some ⟨w6.heap.size,0,none⟩) 1 1) rfl rfl (fun v' w9=>intE.Own w9 (w.heap.size+2) v' (O++[(N.1:Int)])∧Chg (fun k=>(Value.slice ua ul uc).ownBlock=some k) (w6.alloc (.cells #[.int .i64 N.1] 3)) w9∧(v'.ownBlock=(Value.slice ua ul uc).ownBlock∨v'.ownBlock=some (w6.alloc (.cells #[.int .i64 N.1] 3)).heap.size)) ?_ ?_
      ·obtain⟨v',w9,hrun,h1,h2,⟨h3,h4⟩,-⟩:=HSTA.out.t.of.append HBR.out 25 (.slice (some ⟨w6.heap.size,0,none⟩) 1 1) [(N.1:Int)] (intE.srcLit 1 HOKI.out) HOKI.out (by simp;omega) 25
       exact⟨v',w9,hrun,fun _=>(HSS.out.alloc _).trans (h2.mono (fun k _ e=>.inr e)),h1,h3,h4⟩
      rintro v' w9 hs ⟨h1,h2,h3⟩ K hK
      obtain⟨va',vl',vc',hv'⟩:=h1.shape3
      subst hv'
      obtain⟨⟨k1,k2⟩,hf,hcf⟩:=HSTA.out.t.addOf h1 h2 (h3.imp id Or.inl)
      have HCH:Hid (Chg (fun k=>k=w.heap.size∨w.heap.size+2≤k) (w6.alloc (.cells #[.int .i64 N.1] 3)) (w9.setCell ⟨w.heap.size,2,none⟩ (.slice va' vl' vc'))):=jh ((h2.mono (fun k _ e=>.inr ((HSTA.out.t.of.blk e).1))).trans ((setCellChg w9 w.heap.size 2 _).mono (fun k _ e=>.inl e)))
      have hz9:w9.frozen? ⟨w.heap.size,0,none⟩=false:=(h2.frozen (p:=⟨w.heap.size,0,none⟩) HSTA.out.t.lt (fun e=>by have h:w.heap.size+2≤w.heap.size:=(HSTA.out.t.of.blk e).1;omega)).trans HSTA.out.z0
      have HFF:=jh (HSTA.out.store hf (HSTA.out.r.chg HCH.out (by omega)) ((World.frozen?_setCell _ _ _ _).trans hz9))
      have HCF:=jh ((HC7.out.alloc (.cells #[.int .i64 N.1] 3)).trans (HCH.out.mono (T:=fun j=>w.heap.size≤j) (fun k _ e=>by omega)))
      have HSL9:=jh (hs (by decide))
      clear hf h1 h2 h3 hs hcf hz9
      (try go_simp)
      refine hK _ ?_
      clear hK K
      (refine late_turn (i:=6) (by kernel_rfl) rfl rfl fun K hK=>?_;apply Exists.intro;apply Exists.intro;refine⟨?_,?_,?_⟩;(go_simp;try first|with_reducible rfl|exact⟨rfl,rfl⟩);(exact fun _=>HSL9.out);(try go_simp);refine hK _ _ ?_;clear hK K)
      (refine late_store (i:=7) (by kernel_rfl) rfl rfl fun K hK=>?_;apply Exists.intro;refine⟨?_,(fun h=>absurd h (by decide)),?_⟩;(go_simp;try first|with_reducible rfl|exact⟨rfl,rfl⟩);(try go_simp);refine hK _ _ ?_;clear hK K)
      refine late_done (by kernel_rfl) ?_ _
      go_wp2
      go_roundw
      case rel=>exact⟨m,N.2,O++[(N.1:Int)],_,by go_num,HFF.out,HNL.out.1,by simp;omega,HTN.out,HCF.out⟩
      case measure=>simp [intOf]
     ·have hex:decide (0<K)=false∨(decide (0<K)=true∧sb=true):=by
       rcases Nat.eq_zero_or_pos K with h|h
       ·exact .inl (by simp [h])
       ·exact .inr ⟨by simpa using h,by cases sb;exact absurd ⟨h,rfl⟩ hgo;rfl⟩
      have HVE:Hid (V=(O,sp,sb)):=jh (by
       rw [← HV.out]
       apply ofP_wrong
       rcases Nat.eq_zero_or_pos K with h|h
       ·exact .inr h
       ·exact .inl (by cases sb;exact absurd ⟨h,rfl⟩ hgo;rfl))
      clear hgo
      rcases hex with b39|⟨b39,rfl⟩
      all_goals
       go_upto_region 11 with (fail)
       clear c2 b39
       have HSTV:Hid (TkSt cellE rowE (w.heap.size+1) w.heap.size (w.heap.size+2) (.slice a Z.length c) wr V.2 P.1 RR.1 V.1 (.slice va vl vc) (.slice ua ul uc)):=jh (by rw [HVE.out];exact HST.out)
       have hOl:V.1.length≤65536:=by rw [HVE.out];show O.length≤_;omega
       obtain⟨-,hvl,hle1⟩:=HSTV.out.t.rowsIn
       obtain⟨-,hof,-,hul,-,hle2⟩:=HSTV.out.t.final (Chg.refl _ _)
       subst hvl hul
       have HRI:=jh HSTV.out.t.rowsIn.1
       obtain⟨gq,hoat,hop⟩:=hof.bytes
       have HMAY:=jh (may_any P.1 RR.1 V.1 va ua vc uc _ gq 0 wr ⟨by omega,by omega⟩ HRI.out (by omega) HLR.out hoat hop (by omega))
       obtain⟨M,hM⟩:∃ x,mayL ((P.1:Int),RR.1,V.1)=x:=⟨_,rfl⟩
       rw [hM] at HMAY
       have c2:=HSTV.out.r.c2
       have HM:=jh hM
       clear hoat hop hof hM HST HSL HRI
       by_cases hbad:V.2.2=true∨M=false
       ·have HRES:Hid ((!V.2.2 && mayL ((P.1:Int),RR.1,V.1))=false):=jh (by
         rw [HM.out]
         rcases hbad with h|h
         ·rw [h];rfl
         ·rw [h];exact Bool.and_false _)
        by_cases hv:V.2.2=true
        ·rw [hv] at c2
         clear hbad hv
         have c0:=HSTV.out.t.c0
         have c1:=HSTV.out.t.c1
         have c3:=HSTV.out.t.c2
         have z0:=HSTV.out.z0
         have z1:=HSTV.out.t.z1
         have z2:=HSTV.out.t.z2
         go_wp2
         obtain⟨f0,f1,f2,f3⟩:=store3 (.int .i64 0) (.slice none 0 0) (.slice none 0 0) c0 c1 c3
         have h4:=(HC.out.trans (f3.mono (T:=fun j=>w.heap.size≤j) (fun k _ e=>by omega))).fresh
         clear f3
         generalize ((wr.setCell ⟨w.heap.size,0,none⟩ (.int .i64 0)).setCell ⟨w.heap.size,1,none⟩ (.slice none 0 0)).setCell ⟨w.heap.size,2,none⟩ (.slice none 0 0)=WW at *
         exact bodyPost_ret (v:=.tuple #[.agg #[.int .i64 0,.slice none 0 0,.slice none 0 0],.int .i64 0,.int .i64 4]) (by simp [results,Tryz.results167,go_sem,f0,f1,f2]) rfl (.inr ⟨HRES.out,rfl,h4⟩)
        ·exact absurd HV2.out hv
       ·exact absurd (.inl HV2.out) hbad
theorem takeTab_any (Z:List Int) (a:Option Addr) (g o c:Nat) (w:World) (hz:BytesAt w g o Z) (ha:0<Z.length→a=some ⟨g,o,none⟩) (hcz:Z.length≤c) (hn:a=none→c=0) (hl:Z.length≤100000000) :
  Calls Tryz.prog 167 #[.slice a Z.length c] w fun e w'=>(takeOk Z mostP=true∧∃ ra oa,e=.returned (.tuple #[.agg #[.int .i64 (takeP Z mostP).1.1,.slice ra (takeP Z mostP).1.2.1.length (takeP Z mostP).1.2.1.length,.slice oa (takeP Z mostP).1.2.2.length (takeP Z mostP).1.2.2.length],.int .i64 (takeP Z mostP).2.1,.int .i64 0]) ∧
   RowsIn cellE rowE w' w.heap.size (ra,(takeP Z mostP).1.2.1.length,(takeP Z mostP).1.2.1.length) (takeP Z mostP).1.2.1∧OfIn w' w.heap.size oa (takeP Z mostP).1.2.2∧Chg (fun _=>False) w w') ∨
   (takeOk Z mostP=false∧e=.returned (.tuple #[.agg #[.int .i64 0,.slice none 0 0,.slice none 0 0],.int .i64 0,.int .i64 4])∧Chg (fun _=>False) w w'):=by
 cases h:(takeP Z mostP).2.2 with
 | false=>exact takeTab_right Z a g o c w hz ha hcz hn hl h
 | true=>exact takeTab_wrong Z a g o c w hz ha hcz hn hl h
end Go.Proofs.YtgnpmceimpjheaaGreat
namespace Go.Proofs.YtgnpmceimpjheaaGreat
open Go.RowKit
-- more bytes behind
theorem takeL_more:∀ {X:List Int} {i acc:Nat} {r:Nat × Nat} (M:List Int),takeL i acc X=some r→takeL i acc (X++M)=some r
 | [],i,acc,r,M,h=>by simp [takeL] at h
 | c :: l,i,acc,r,M,h=>by
  rw [List.cons_append]
  unfold takeL at h ⊢
  split at h
  ·cases h
  rename_i h1
  rw [if_neg h1]
  split at h
  ·rename_i h2
   rw [if_pos h2]
   exact takeL_more M h
  ·rename_i h2
   rw [if_neg h2]
   exact h
theorem numP_more {Z M:List Int} {m:Nat} {s:Rd} (hs:s.1≤Z.length) (h:(numP Z m s).2.2=false):numP (Z++M) m s=numP Z m s:=by
 rcases numP_spec Z m s with ⟨n,k,h0,h1,h2,h3,h4,e⟩|e
 ·have h5:=takeL_more M h0
  rw [e]
  unfold numP
  rw [List.drop_append_of_le_length hs,h5]
  simp only
  rw [if_pos h1]
 ·rw [e] at h;cases h
theorem cellsP_more {Z M:List Int} {ms mv:Nat}:∀ {k:Nat} {s:Rd} {x:Int} {acc:List (Int × Int)},s.1≤Z.length→(cellsP Z ms mv k s x acc).2.2=false→cellsP (Z++M) ms mv k s x acc=cellsP Z ms mv k s x acc
 | 0,s,x,acc,_,h=>rfl
 | k+1,s,x,acc,hl,h=>by
  have hs:=cellsP_mono h
  rw [cellsP_step hs] at h ⊢
  have h3:=cellsP_mono h
  have l1:=(numP_le (m:=ms) hl).1
  have e1:=numP_more (M:=M) hl (numP_mono h3)
  have e2:=numP_more (M:=M) l1 h3
  rw [cellsP_step hs,e1,e2]
  exact cellsP_more (numP_le l1).1 h
theorem cellsP_le' {Z:List Int} {ms mv:Nat}:∀ {k:Nat} {s:Rd} {x:Int} {acc:List (Int × Int)},s.1≤Z.length→(cellsP Z ms mv k s x acc).2.1≤Z.length
 | 0,s,x,acc,h=>h
 | k+1,s,x,acc,h=>by
  cases hs:s.2 with
  | true=>rw [cellsP_wrong (.inl hs)];exact h
  | false=>rw [cellsP_step hs];exact cellsP_le' (numP_le (numP_le h).1).1
theorem rowP_le' {Z:List Int} {mw mv:Nat} {s:Rd} (h:s.1≤Z.length):(rowP Z mw mv s).2.1≤Z.length:=cellsP_le' (numP_le (numP_le h).1).1
theorem rowP_more {Z M:List Int} {mw mv:Nat} {s:Rd} (hl:s.1≤Z.length) (h:(rowP Z mw mv s).2.2=false):rowP (Z++M) mw mv s=rowP Z mw mv s:=by
 have h3:=cellsP_mono (show (cellsP Z mw mv (numP Z mw (numP Z mv s).2).1 (numP Z mw (numP Z mv s).2).2 0 []).2.2=false from h)
 have l1:=(numP_le (m:=mv) hl).1
 have e1:=numP_more (M:=M) hl (numP_mono h3)
 have e2:=numP_more (M:=M) l1 h3
 unfold rowP
 rw [e1,e2,cellsP_more (numP_le l1).1 h]
theorem rowsP_le' {Z:List Int} {mw mv:Nat}:∀ {k:Nat} {s:Rd} {acc:List RowD},s.1≤Z.length→(rowsP Z mw mv k s acc).2.1≤Z.length
 | 0,s,acc,h=>h
 | k+1,s,acc,h=>by
  cases hs:s.2 with
  | true=>rw [rowsP_wrong (.inl hs)];exact h
  | false=>rw [rowsP_step hs];exact rowsP_le' (rowP_le' h)
theorem rowsP_more {Z M:List Int} {mw mv:Nat}:∀ {k:Nat} {s:Rd} {acc:List RowD},s.1≤Z.length→(rowsP Z mw mv k s acc).2.2=false→rowsP (Z++M) mw mv k s acc=rowsP Z mw mv k s acc
 | 0,s,acc,_,h=>rfl
 | k+1,s,acc,hl,h=>by
  have hs:=rowsP_mono h
  rw [rowsP_step hs] at h ⊢
  rw [rowsP_step hs,rowP_more hl (rowsP_mono h)]
  exact rowsP_more (rowP_le' hl) h
theorem ofP_le' {Z:List Int} {mm:Nat}:∀ {k:Nat} {s:Rd} {acc:List Int},s.1≤Z.length→(ofP Z mm k s acc).2.1≤Z.length
 | 0,s,acc,h=>h
 | k+1,s,acc,h=>by
  cases hs:s.2 with
  | true=>rw [ofP_wrong (.inl hs)];exact h
  | false=>rw [ofP_step hs];exact ofP_le' (numP_le h).1
theorem ofP_more {Z M:List Int} {mm:Nat}:∀ {k:Nat} {s:Rd} {acc:List Int},s.1≤Z.length→(ofP Z mm k s acc).2.2=false→ofP (Z++M) mm k s acc=ofP Z mm k s acc
 | 0,s,acc,_,h=>rfl
 | k+1,s,acc,hl,h=>by
  have hs:=ofP_mono h
  rw [ofP_step hs] at h ⊢
  rw [ofP_step hs,numP_more hl (ofP_mono h)]
  exact ofP_more (numP_le hl).1 h
theorem takeP_more {Z M:List Int} {B:Most} (h:(takeP Z B).2.2=false):takeP (Z++M) B=takeP Z B∧(takeP Z B).2.1≤Z.length:=by
 have h5:(ofP Z B.mm (numP Z B.mm (rowsP Z (B.mw (numP Z B.mm (0,false)).1) B.mv (numP Z B.mm (numP Z B.mm (0,false)).2).1 (numP Z B.mm (numP Z B.mm (0,false)).2).2 []).2).1 (numP Z B.mm (rowsP Z (B.mw (numP Z B.mm (0,false)).1) B.mv (numP Z B.mm (numP Z B.mm (0,false)).2).1 (numP Z B.mm (numP Z B.mm (0,false)).2).2 []).2).2 []).2.2=false:=h
 have h4:=ofP_mono h5
 have h3:=numP_mono h4
 have h2:=rowsP_mono h3
 have h1:=numP_mono h2
 have l1:=(numP_le (Z:=Z) (m:=B.mm) (s:=(0,false)) (Nat.zero_le _)).1
 have l2:=(numP_le (m:=B.mm) l1).1
 have l3:=rowsP_le' (mw:=B.mw (numP Z B.mm (0,false)).1) (mv:=B.mv) (k:=(numP Z B.mm (numP Z B.mm (0,false)).2).1) (acc:=[]) l2
 have l4:=(numP_le (m:=B.mm) l3).1
 have e1:=numP_more (M:=M) (Nat.zero_le _) h1
 have e2:=numP_more (M:=M) l1 h2
 have e3:=rowsP_more (M:=M) l2 h3
 have e4:=numP_more (M:=M) l3 h4
 have e5:=ofP_more (M:=M) l4 h5
 refine⟨?_,ofP_le' l4⟩
 unfold takeP
 simp only
 rw [e1,e2,e3,e4,e5]
-- numbers that were put
theorem numP_put {Z X R:List Int} {p m:Nat} {n:Int} {f:Bool} (h:Z.drop p=bytesOf (n :: X)++R) (h0:0≤n) (h1:n<4294967296) (h2:n≤m) :
  numP Z m (p,f)=(n.toNat,p+(putL n.toNat).length,f)∧Z.drop (p+(putL n.toNat).length)=bytesOf X++R:=by
 have e:bytesOf (n :: X)=putL n.toNat++bytesOf X:=rfl
 rw [e,List.append_assoc] at h
 constructor
 ·unfold numP
  rw [h,takeL_whole (by omega)]
  simp only
  rw [if_pos (by omega)]
 ·rw [← List.drop_drop,h,List.drop_left]
theorem bytesOf_cons (n:Int) (X:List Int):(bytesOf (n :: X)).length=(putL n.toNat).length+(bytesOf X).length:=by
 have e:bytesOf (n :: X)=putL n.toNat++bytesOf X:=rfl
 rw [e,List.length_append]
theorem cellsP_put {Z X R:List Int} {W:Nat} {d:Int} (hW:W≤65536):∀ (cs:List (Int × Int)) (p:Nat) (lf x:Int) (acc:List (Int × Int)),fineCells W d lf cs=true→x≤lf+1→0≤x→Z.drop p=bytesOf (cellsPut x cs++X)++R →
  cellsP Z W 16777216 cs.length (p,false) x acc=(acc++cs,p+(bytesOf (cellsPut x cs)).length,false)∧Z.drop (p+(bytesOf (cellsPut x cs)).length)=bytesOf X++R
 | [],p,lf,x,acc,_,_,_,h=>⟨by simp [cellsP,cellsPut,bytesOf],by simpa [cellsPut,bytesOf] using h⟩
 | c :: cs,p,lf,x,acc,hf,h1,h2,h=>by
  simp only [fineCells,Bool.and_eq_true,decide_eq_true_eq] at hf
  obtain⟨⟨⟨⟨g1,g2⟩,g3⟩,-⟩,g5⟩:=hf
  obtain⟨c0,c1⟩:=c
  simp only at g1 g2 g3 g5
  have h':Z.drop p=bytesOf ((c0-x) :: ((c1+1) :: (cellsPut c0 cs++X)))++R:=h
  obtain⟨a1,a2⟩:=numP_put (m:=W) (f:=false) h' (by omega) (by omega) (by omega)
  obtain⟨b1,b2⟩:=numP_put (m:=16777216) (f:=false) a2 (by have:=g3.1;omega) (by have:=g3.2;omega) (by have:=g3.2;omega)
  obtain⟨e1,e2⟩:=cellsP_put hW cs _ c0 c0 (acc++[(c0,c1)]) g5 (by omega) (by omega) b2
  have hx:x+((c0-x).toNat:Int)=c0:=by omega
  have hv:(((c1+1).toNat:Nat):Int)-1=c1:=by have:=g3.1;omega
  have hlen:(bytesOf (cellsPut x ((c0,c1) :: cs))).length=(putL (c0-x).toNat).length+((putL (c1+1).toNat).length+(bytesOf (cellsPut c0 cs)).length):=by
   have e:cellsPut x ((c0,c1) :: cs)=(c0-x) :: (c1+1) :: cellsPut c0 cs:=rfl
   rw [e,bytesOf_cons,bytesOf_cons]
  refine⟨?_,?_⟩
  ·rw [List.length_cons,cellsP_step rfl,a1,b1]
   simp only
   rw [hx,hv,e1,hlen,List.append_assoc]
   simp only [List.cons_append,List.nil_append,Nat.add_assoc]
  ·rw [hlen,← Nat.add_assoc,← Nat.add_assoc]
   exact e2
theorem rowP_put {Z X R:List Int} {W p:Nat} {r:RowD} (hW:W≤65536) (hf:fineL W r=true) (h:Z.drop p=bytesOf (rowPut r++X)++R) :
  rowP Z W 16777216 (p,false)=(r,p+(bytesOf (rowPut r)).length,false)∧Z.drop (p+(bytesOf (rowPut r)).length)=bytesOf X++R:=by
 obtain⟨h1,h2,h3⟩:=fine_bounds hW hf
 obtain⟨d,cs⟩:=r
 simp only at h1 h2
 have h':Z.drop p=bytesOf ((d+1) :: ((cs.length:Int) :: (cellsPut 0 cs++X)))++R:=h
 obtain⟨a1,a2⟩:=numP_put (m:=16777216) (f:=false) h' (by have:=h1.1;omega) (by have:=h1.2;omega) (by have:=h1.2;omega)
 obtain⟨b1,b2⟩:=numP_put (m:=W) (f:=false) a2 (by omega) (by omega) (by omega)
 have hlen:(bytesOf (rowPut (d,cs))).length=(putL (d+1).toNat).length+((putL cs.length).length+(bytesOf (cellsPut 0 cs)).length):=by
  have e:rowPut (d,cs)=(d+1) :: (cs.length:Int) :: cellsPut 0 cs:=rfl
  rw [e,bytesOf_cons,bytesOf_cons,Int.toNat_natCast]
 rw [Int.toNat_natCast] at b1 b2
 have hc:cellsP Z W 16777216 cs.length (p+(putL (d+1).toNat).length+(putL cs.length).length,false) 0 []=([]++cs,p+(putL (d+1).toNat).length+(putL cs.length).length+(bytesOf (cellsPut 0 cs)).length,false)∧Z.drop (p+(putL (d+1).toNat).length+(putL cs.length).length+(bytesOf (cellsPut 0 cs)).length)=bytesOf X++R:=by
  by_cases h0:W=0
  ·subst h0
   simp only [fineL,if_true,Bool.and_eq_true,decide_eq_true_eq] at hf
   obtain⟨-,rfl⟩:=hf
   exact⟨by simp [cellsP,cellsPut,bytesOf],by simpa [cellsPut,bytesOf] using b2⟩
  ·simp only [fineL,if_neg h0,Bool.and_eq_true,decide_eq_true_eq] at hf
   exact cellsP_put hW cs _ (-1) 0 [] hf.1.1.1 (by omega) (by omega) b2
 refine⟨?_,?_⟩
 ·unfold rowP
  rw [a1]
  simp only
  rw [b1]
  simp only
  rw [hc.1,hlen]
  simp only [List.nil_append,Nat.add_assoc]
  have:(((d+1).toNat:Nat):Int)-1=d:=by have:=h1.1;omega
  rw [this]
 ·rw [hlen,← Nat.add_assoc,← Nat.add_assoc]
  exact hc.2
theorem bytesOf_app (X Y:List Int):(bytesOf (X++Y)).length=(bytesOf X).length+(bytesOf Y).length:=by rw [bytesOf_append,List.length_append]
theorem rowsP_put {Z X R:List Int} {W:Nat} (hW:W≤65536):∀ (rs:List RowD) (p:Nat) (acc:List RowD),(∀ r∈rs,fineL W r=true)→Z.drop p=bytesOf (rs.flatMap rowPut++X)++R →
  rowsP Z W 16777216 rs.length (p,false) acc=(acc++rs,p+(bytesOf (rs.flatMap rowPut)).length,false)∧Z.drop (p+(bytesOf (rs.flatMap rowPut)).length)=bytesOf X++R
 | [],p,acc,_,h=>⟨by simp [rowsP,bytesOf],by simpa [bytesOf] using h⟩
 | r :: rs,p,acc,hf,h=>by
  have e:(r :: rs).flatMap rowPut=rowPut r++rs.flatMap rowPut:=rfl
  rw [e] at h ⊢
  rw [List.append_assoc] at h
  obtain⟨a1,a2⟩:=rowP_put hW (hf r (List.mem_cons_self)) h
  obtain⟨e1,e2⟩:=rowsP_put hW rs _ (acc++[r]) (fun x hx=>hf x (List.mem_cons_of_mem _ hx)) a2
  refine⟨?_,?_⟩
  ·rw [List.length_cons,rowsP_step rfl,a1,e1,bytesOf_app,List.append_assoc,Nat.add_assoc]
   rfl
  ·rw [bytesOf_app,← Nat.add_assoc]
   exact e2
theorem ofP_put {Z R:List Int}:∀ (os:List Int) (p:Nat) (acc:List Int),(∀ n∈os,0≤n∧n≤65536)→Z.drop p=bytesOf os++R →
  ofP Z 65536 os.length (p,false) acc=(acc++os,p+(bytesOf os).length,false)
 | [],p,acc,_,h=>by simp [ofP,bytesOf]
 | n :: os,p,acc,hf,h=>by
  obtain⟨h0,h1⟩:=hf n (List.mem_cons_self)
  obtain⟨a1,a2⟩:=numP_put (m:=65536) (f:=false) h h0 (by omega) (by omega)
  have e1:=ofP_put os _ (acc++[n]) (fun x hx=>hf x (List.mem_cons_of_mem _ hx)) a2
  rw [List.length_cons,ofP_step rfl,a1]
  simp only
  rw [Int.toNat_of_nonneg h0,e1,bytesOf_cons,List.append_assoc,Nat.add_assoc]
  rfl
theorem take_put {W:Int} {R:List RowD} {O:List Int} (h:mayL (W,R,O)=true) (M:List Int):takeP (putTab (W,R,O)++M) mostP=((W,R,O),(putTab (W,R,O)).length,false):=by
 obtain⟨⟨w0,w1,w2⟩,h2,h3,-⟩:=mayL_spec h
 have hle:=(tabNums_ok h).2
 have hz:(putTab (W,R,O)++M).drop 0=bytesOf (W :: ((R.length:Int) :: (R.flatMap rowPut++(O.length:Int) :: O)))++M:=rfl
 obtain⟨a1,a2⟩:=numP_put (m:=65536) (f:=false) hz w0 (by omega) (by omega)
 obtain⟨b1,b2⟩:=numP_put (m:=65536) (f:=false) a2 (by omega) (by omega) (by omega)
 obtain⟨c1,c2⟩:=rowsP_put (W:=W.toNat) (by omega) R _ [] h3 b2
 obtain⟨d1,d2⟩:=numP_put (m:=65536) (f:=false) c2 (by omega) (by omega) (by omega)
 have e1:=ofP_put O _ [] (fun n hn=>by have:=nextL_mem O 0 R.length _ h2 n hn;omega) d2
 simp only [Int.toNat_natCast] at b1 c1 d1 e1
 have hlen:(putTab (W,R,O)).length=(putL W.toNat).length+((putL R.length).length+((bytesOf (R.flatMap rowPut)).length+((putL O.length).length+(bytesOf O).length))):=by
  have e:putTab (W,R,O)=bytesOf (W :: ((R.length:Int) :: (R.flatMap rowPut++(O.length:Int) :: O))):=rfl
  rw [e,bytesOf_cons,bytesOf_cons,bytesOf_app,bytesOf_cons,Int.toNat_natCast,Int.toNat_natCast]
 unfold takeP
 simp only [mostP,id]
 rw [a1]
 simp only
 rw [b1]
 simp only
 rw [c1]
 simp only
 rw [d1]
 simp only
 rw [e1,hlen,Int.toNat_of_nonneg w0]
 simp only [List.nil_append,Nat.zero_add,Nat.add_assoc]
theorem takeOk_put {W:Int} {R:List RowD} {O:List Int} (h:mayL (W,R,O)=true) (M:List Int):takeOk (putTab (W,R,O)++M) mostP=true:=by
 unfold takeOk
 rw [take_put h M]
 simp [h]
end Go.Proofs.YtgnpmceimpjheaaGreat
