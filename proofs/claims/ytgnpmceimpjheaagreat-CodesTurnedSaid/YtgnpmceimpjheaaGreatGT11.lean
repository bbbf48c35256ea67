/- A part of the proof: CodC CodD CodO OthA. -/
import Derived.Test.YtgnpmceimpjheaaGreatGT10
import Derived.Test.YtgnpmceimpjheaaGreatGT3
import Derived.Test.YtgnpmceimpjheaaGreatGT2
import Derived.Test.YtgnpmceimpjheaaGreatGT5
set_option maxRecDepth 100000
set_option maxHeartbeats 16000000
namespace Go.Proofs.YtgnpmceimpjheaaGreat
open Go.RowKit
def strangeR (r:Int × Int):Bool:=decide (r.1<0) || decide (1114111<r.2)
def lexerB (t:LexD) (tk:Nat):Bool:=mayT t && decide (t.n.length≤65536) && decide ((t.n.length:Int) * colsL t.c≤4194304) && !t.r.any strangeR && decide (maxI t.e<(tk:Int))
theorem gives_strange (S:Nat→Prop) (w:World):GivesE rngE rngVal eqR S 83 #[] strangeR w:=by
 intro y d w' hyd hok hc
 obtain rfl:y=d:=hyd
 obtain⟨lo,hi⟩:=y
 obtain⟨⟨o1,o2⟩,o3,o4⟩:=hok
 simp only at o1 o2 o3 o4
 show Calls Tryz.prog 83 #[.agg #[.int .i32 lo,.int .i32 hi]] w' _
 by_cases h1:lo<0
 ·have d1:decide (lo<0)=true:=decide_eq_true h1
  have HF:Hid (strangeR (lo,hi)=true):=jh (by simp only [strangeR,d1,Bool.true_or])
  go_enter Tryz.func83,Tryz.ntmps83
  go_wp2
  go_ret
  exact⟨by rw [HF.out];rfl,(Chg.refl _ w').alloc _⟩
 ·have d1:decide (lo<0)=false:=decide_eq_false h1
  have HF:Hid (strangeR (lo,hi)=decide (1114111<hi)):=jh (by simp only [strangeR,d1,Bool.false_or])
  go_enter Tryz.func83,Tryz.ntmps83
  go_wp2
  go_ret
  exact⟨by rw [HF.out];rfl,(Chg.refl _ w').alloc _⟩
theorem lexerMay_any (t:LexD) (m:LexS) (tk:Nat) (S:Nat→Prop) (w:World) (h:LexIn w S m t) (hf:Fair t) :
  Calls Tryz.prog 37 #[lexV' m,.int .i64 tk] w fun e w'=>e=.returned (.bool (lexerB t tk))∧Chg (fun _=>False) w w':=by
 obtain⟨⟨ra,rn,rc⟩,⟨ca,cn,cc⟩,⟨na,nn,nc⟩,⟨ea,en,ec⟩⟩:=m
 obtain⟨h0,h1,h2,h3⟩:=LexIn.good.mono h (S':=(0≤·)) (fun _ _ _=>Nat.zero_le _)
 obtain⟨rfl,-⟩:=h0.len
 obtain⟨rfl,-⟩:=h1.len
 obtain⟨rfl,-⟩:=h2.len
 obtain⟨rfl,-⟩:=h3.len
 have HT0:Hid (LexIn w (0≤·) ⟨(ra,t.r.length,rc),(ca,t.c.length,cc),(na,t.n.length,nc),(ea,t.e.length,ec)⟩ t):=jh ⟨h0,h1,h2,h3⟩
 have HFR:=jh hf
 clear h h0 h1 h2 h3
 show Calls Tryz.prog 37 #[.agg #[.slice ra t.r.length rc,.slice ca t.c.length cc,.slice na t.n.length nc,.slice ea t.e.length ec],.int .i64 tk] w _
 have eg:=enters_of Tryz.func83 (by kernel_rfl) rfl
 go_enter Tryz.func37,Tryz.ntmps37
 go_upto_region 2 with (fail)
 obtain⟨wv,hwv⟩:∃ W,W=w.alloc (.cells #[.slice ra t.r.length rc,.slice ca t.c.length cc,.slice na t.n.length nc,.slice ea t.e.length ec] 28):=⟨_,rfl⟩
 rw [← hwv]
 have HQV:Hid (wv.cell? ⟨w.heap.size,0,none⟩=some (.slice ra t.r.length rc)∧wv.cell? ⟨w.heap.size,1,none⟩=some (.slice ca t.c.length cc)∧wv.cell? ⟨w.heap.size,2,none⟩=some (.slice na t.n.length nc)∧wv.cell? ⟨w.heap.size,3,none⟩=some (.slice ea t.e.length ec)):=jh (by
  rw [hwv]
  exact⟨allocAt _ rfl rfl,allocAt _ rfl rfl,allocAt _ rfl rfl,allocAt _ rfl rfl⟩)
 obtain⟨wd,hwd⟩:∃ W,W=wv.drew:=⟨_,rfl⟩
 have HCA:Hid (Chg (fun _=>False) w wd):=jh (by rw [hwd,hwv];exact ((Chg.refl _ w).alloc _).drew)
 have HQ:Hid (∀ w',Chg (fun _=>False) wd w'→w'.cell? ⟨w.heap.size,0,none⟩=some (.slice ra t.r.length rc)∧w'.cell? ⟨w.heap.size,1,none⟩=some (.slice ca t.c.length cc)∧w'.cell? ⟨w.heap.size,2,none⟩=some (.slice na t.n.length nc)∧w'.cell? ⟨w.heap.size,3,none⟩=some (.slice ea t.e.length ec)):=jh (fun w' hc=>by
  have hd:Chg (fun _=>False) wv w':=Chg.trans (by rw [hwd];exact (Chg.refl _ _).drew) hc
  exact⟨hd.cellS HQV.out.1 (fun h=>h),hd.cellS HQV.out.2.1 (fun h=>h),hd.cellS HQV.out.2.2.1 (fun h=>h),hd.cellS HQV.out.2.2.2 (fun h=>h)⟩)
 have HIN:Hid (∀ w',Chg (fun _=>False) wd w'→LexIn w' (0≤·) ⟨(ra,t.r.length,rc),(ca,t.c.length,cc),(na,t.n.length,nc),(ea,t.e.length,ec)⟩ t):=jh (fun w' hc=>LexIn.good.chg HT0.out (HCA.out.trans hc) (fun _ _ h=>h))
 have HMT0:Hid (∀ w',Chg (fun _=>False) wd w'→Calls Tryz.prog 84 #[.agg #[.slice ra t.r.length rc,.slice ca t.c.length cc,.slice na t.n.length nc,.slice ea t.e.length ec]] w' fun e w''=>e=.returned (.bool (mayT t))∧Chg (fun _=>False) w' w''):=jh (fun w' hc=>lexMay_any t (ra,t.r.length,rc) (ca,t.c.length,cc) (na,t.n.length,nc) (ea,t.e.length,ec) 0 w' (HIN.out w' hc).tab HFR.out)
 clear hwv
 cases hmt:mayT t with
 | false =>
  have HF:Hid (lexerB t tk=false):=jh (by simp only [lexerB,hmt,Bool.false_and])
  have HMT:Hid (∀ w',Chg (fun _=>False) wd w'→Calls Tryz.prog 84 #[.agg #[.slice ra t.r.length rc,.slice ca t.c.length cc,.slice na t.n.length nc,.slice ea t.e.length ec]] w' fun e w''=>e=.returned (.bool false)∧Chg (fun _=>False) w' w''):=jh (by rw [← hmt];exact HMT0.out)
  clear hmt HMT0
  refine wp_region_same (fun x=>Chg (fun _=>False) wd x) (by kernel_rfl) (by kernel_rfl) ?_ ?_
  ·rw [hwd];exact Chg.refl _ _
  (refine rdC fun K hK=>?_;apply ei;intro _ w' _ hC;((obtain⟨q0,q1,q2,q3⟩:=HQ.out w' hC);go_simp;try with_reducible rfl);(try go_simp);refine hK _ ?_;clear hK K)
  refine wpC_call rfl (.bool false )  84  ( #[.agg #[.slice ra t.r.length rc,.slice ca t.c.length cc,.slice na t.n.length nc,.slice ea t.e.length ec]]) (fun w'=>by go_simp) (fun _ w' _ hC=>?_) (fun K hK=>?_)
  ·refine (HMT.out w' hC).mono ?_
   rintro e w'' ⟨rfl,h⟩
   exact⟨rfl,hC.trans h⟩
  ((try go_simp);refine hK _ ?_;clear hK K)
  (refine rdC fun K hK=>?_;apply ei;intro _ w' _ hC;(go_simp;try with_reducible rfl);(try go_simp);refine hK _ ?_;clear hK K)
  (refine wpC_skip rfl (fun _ _ _ h=>h) fun K hK=>?_;(try go_simp);refine hK _ ?_;clear hK K)
  (refine wpC_skip rfl (fun _ _ _ h=>h) fun K hK=>?_;(try go_simp);refine hK _ ?_;clear hK K)
  (refine wpC_skip rfl (fun _ _ _ h=>h) fun K hK=>?_;(try go_simp);refine hK _ ?_;clear hK K)
  (refine wpC_skip rfl (fun _ _ _ h=>h) fun K hK=>?_;(try go_simp);refine hK _ ?_;clear hK K)
  (refine rdC fun K hK=>?_;apply ei;intro _ w' _ hC;(go_simp;try with_reducible rfl);(try go_simp);refine hK _ ?_;clear hK K)
  (refine rdC fun K hK=>?_;apply ei;intro _ w' _ hC;(go_simp;try with_reducible rfl);(try go_simp);refine hK _ ?_;clear hK K)
  (refine wpC_skip rfl (fun _ _ _ h=>h) fun K hK=>?_;(try go_simp);refine hK _ ?_;clear hK K)
  (refine wpC_skip rfl (fun _ _ _ h=>h) fun K hK=>?_;(try go_simp);refine hK _ ?_;clear hK K)
  (refine wpC_skip rfl (fun _ _ _ h=>h) fun K hK=>?_;(try go_simp);refine hK _ ?_;clear hK K)
  (refine wpC_skip rfl (fun _ _ _ h=>h) fun K hK=>?_;(try go_simp);refine hK _ ?_;clear hK K)
  (refine wpC_skip rfl (fun _ _ _ h=>h) fun K hK=>?_;(try go_simp);refine hK _ ?_;clear hK K)
  (refine wpC_skip rfl (fun _ _ _ h=>h) fun K hK=>?_;(try go_simp);refine hK _ ?_;clear hK K)
  (refine wpC_skip rfl (fun _ _ _ h=>h) fun K hK=>?_;(try go_simp);refine hK _ ?_;clear hK K)
  (refine rdC fun K hK=>?_;apply ei;intro _ w' _ hC;(go_simp;try with_reducible rfl);(try go_simp);refine hK _ ?_;clear hK K)
  (refine rdC fun K hK=>?_;apply ei;intro _ w' _ hC;(go_simp;try with_reducible rfl);(try go_simp);refine hK _ ?_;clear hK K)
  (refine wpC_skip rfl (fun _ _ _ h=>h) fun K hK=>?_;(try go_simp);refine hK _ ?_;clear hK K)
  (refine wpC_skip rfl (fun _ _ _ h=>h) fun K hK=>?_;(try go_simp);refine hK _ ?_;clear hK K)
  (refine wpC_skip rfl (fun _ _ _ h=>h) fun K hK=>?_;(try go_simp);refine hK _ ?_;clear hK K)
  (refine wpC_skip rfl (fun _ _ _ h=>h) fun K hK=>?_;(try go_simp);refine hK _ ?_;clear hK K)
  (refine wpC_skip rfl (fun _ _ _ h=>h) fun K hK=>?_;(try go_simp);refine hK _ ?_;clear hK K)
  (refine rdC fun K hK=>?_;apply ei;intro _ w' _ hC;(go_simp;try with_reducible rfl);(try go_simp);refine hK _ ?_;clear hK K)
  (refine rdC fun K hK=>?_;apply ei;intro _ w' _ hC;(go_simp;try with_reducible rfl);(try go_simp);refine hK _ ?_;clear hK K)
  (refine wpC_skip rfl (fun _ _ _ h=>h) fun K hK=>?_;(try go_simp);refine hK _ ?_;clear hK K)
  (refine wpC_skip rfl (fun _ _ _ h=>h) fun K hK=>?_;(try go_simp);refine hK _ ?_;clear hK K)
  (refine wpC_skip rfl (fun _ _ _ h=>h) fun K hK=>?_;(try go_simp);refine hK _ ?_;clear hK K)
  (refine wpC_skip rfl (fun _ _ _ h=>h) fun K hK=>?_;(try go_simp);refine hK _ ?_;clear hK K)
  (refine wpC_skip rfl (fun _ _ _ h=>h) fun K hK=>?_;(try go_simp);refine hK _ ?_;clear hK K)
  (refine rdC fun K hK=>?_;apply ei;intro _ w' _ hC;(go_simp;try with_reducible rfl);(try go_simp);refine hK _ ?_;clear hK K)
  (refine rdC fun K hK=>?_;apply ei;intro _ w' _ hC;(go_simp;try with_reducible rfl);(try go_simp);refine hK _ ?_;clear hK K)
  refine wpC_nil ?_
  intro w2 hc2
  have HC2:=jh (HCA.out.trans hc2)
  clear hc2
  go_wp2
  go_ret
  exact⟨by rw [HF.out];rfl,HC2.out⟩
 | true =>
  have HMT:Hid (∀ w',Chg (fun _=>False) wd w'→Calls Tryz.prog 84 #[.agg #[.slice ra t.r.length rc,.slice ca t.c.length cc,.slice na t.n.length nc,.slice ea t.e.length ec]] w' fun e w''=>e=.returned (.bool true)∧Chg (fun _=>False) w' w''):=jh (by rw [← hmt];exact HMT0.out)
  have HM:=jh hmt
  have HMS:=jh (mayT_iff.1 hmt)
  clear hmt HMT0
  by_cases c1:t.n.length≤65536
  ·have D1:Hid (decide (t.n.length≤65536)=true∧decide ((t.n.length:Int)≤65536)=true):=jh ⟨decide_eq_true c1,decide_eq_true (by omega)⟩
   have HCO0:Hid (∀ w',Chg (fun _=>False) wd w'→Calls Tryz.prog 64 #[.agg #[.slice ra t.r.length rc,.slice ca t.c.length cc,.slice na t.n.length nc,.slice ea t.e.length ec]] w' fun e w''=>e=.returned (.int .i64 (colsL t.c))∧Chg (fun _=>False) w' w''):=jh (fun w' hc=>columns_any t.c ra na ea ca t.r.length rc t.n.length nc t.e.length ec cc 0 w' (HIN.out w' hc).c HFR.out.c (fun c hc=>by have h1:=HMS.out.cb c hc;have h2:=HFR.out.c;omega))
   have hcl0:0≤colsL t.c:=colsL_nonneg _
   have hcl1:colsL t.c≤t.c.length:=colsL_le (by omega) (fun c hc=>(HMS.out.cb c hc).2)
   obtain⟨cl,hcl⟩:∃ cl,colsL t.c=cl:=⟨_,rfl⟩
   have HCL:=jh hcl
   rw [hcl] at hcl0 hcl1
   have HCO:Hid (∀ w',Chg (fun _=>False) wd w'→Calls Tryz.prog 64 #[.agg #[.slice ra t.r.length rc,.slice ca t.c.length cc,.slice na t.n.length nc,.slice ea t.e.length ec]] w' fun e w''=>e=.returned (.int .i64 cl)∧Chg (fun _=>False) w' w''):=jh (by rw [← hcl];exact HCO0.out)
   clear hcl HCO0
   have DW:Hid (IntKind.i64.wrap ((t.n.length:Int) * cl)=(t.n.length:Int) * cl):=jh (by
    obtain⟨cn,rfl⟩:∃ cn:Nat,cl=cn:=⟨cl.toNat,by omega⟩
    have h1:t.n.length * cn≤65536 * 1000000000:=Nat.mul_le_mul c1 (by have:=HFR.out.c;omega)
    rw [← Int.natCast_mul,IntKind.wrap_i64]
    generalize t.n.length * cn=P at h1
    omega)
   by_cases c2:(t.n.length:Int) * cl≤4194304
   ·have D2:Hid (decide ((t.n.length:Int) * cl≤4194304)=true):=jh (decide_eq_true c2)
    have HST0:Hid (∀ w',Chg (fun _=>False) wd w'→Calls Tryz.prog 85 #[.slice ra t.r.length rc,.func (.func 83) #[] #[]] w' fun e w''=>e=.returned (.bool (t.r.any strangeR))∧Chg (fun _=>False) w' w''):=jh (fun w' hc=>containsidxRng eqR.good _ _ strangeR t.r ra rc w' eg (ListR.of (HIN.out w' hc).r) (gives_strange (0≤·) w') HFR.out.r)
    cases hst:t.r.any strangeR with
    | true =>
     have HF:Hid (lexerB t tk=false):=jh (by simp only [lexerB,hst,Bool.not_true,Bool.and_false,Bool.false_and])
     have HST:Hid (∀ w',Chg (fun _=>False) wd w'→Calls Tryz.prog 85 #[.slice ra t.r.length rc,.func (.func 83) #[] #[]] w' fun e w''=>e=.returned (.bool true)∧Chg (fun _=>False) w' w''):=jh (by rw [← hst];exact HST0.out)
     clear hst HST0 c1 c2 hcl0 hcl1 hf
     refine wp_region_same (fun x=>Chg (fun _=>False) wd x) (by kernel_rfl) (by kernel_rfl) ?_ ?_
     ·rw [hwd];exact Chg.refl _ _
     (refine rdC fun K hK=>?_;apply ei;intro _ w' _ hC;((obtain⟨q0,q1,q2,q3⟩:=HQ.out w' hC);go_simp;try with_reducible rfl);(try go_simp);refine hK _ ?_;clear hK K)
     refine wpC_call rfl (.bool true )  84  ( #[.agg #[.slice ra t.r.length rc,.slice ca t.c.length cc,.slice na t.n.length nc,.slice ea t.e.length ec]]) (fun w'=>by go_simp) (fun _ w' _ hC=>?_) (fun K hK=>?_)
     ·refine (HMT.out w' hC).mono ?_
      rintro e w'' ⟨rfl,h⟩
      exact⟨rfl,hC.trans h⟩
     ((try go_simp);refine hK _ ?_;clear hK K)
     (refine rdC fun K hK=>?_;apply ei;intro _ w' _ hC;(go_simp;try with_reducible rfl);(try go_simp);refine hK _ ?_;clear hK K)
     (refine rdC fun K hK=>?_;apply ei;intro _ w' _ hC;(go_simp;try with_reducible rfl);(try go_simp);refine hK _ ?_;clear hK K)
     (refine rdC fun K hK=>?_;apply ei;intro _ w' _ hC;((obtain⟨q0,q1,q2,q3⟩:=HQ.out w' hC);go_simp;try with_reducible rfl);(try go_simp);refine hK _ ?_;clear hK K)
     (refine rdC fun K hK=>?_;apply ei;intro _ w' _ hC;(go_simp;try with_reducible rfl);(try go_simp);refine hK _ ?_;clear hK K)
     (refine rdC fun K hK=>?_;apply ei;intro _ w' _ hC;((have d1:=D1.out.1;have d1b:=D1.out.2);go_simp;try with_reducible rfl);(try go_simp);refine hK _ ?_;clear hK K)
     (refine rdC fun K hK=>?_;apply ei;intro _ w' _ hC;(go_simp;try with_reducible rfl);(try go_simp);refine hK _ ?_;clear hK K)
     (refine rdC fun K hK=>?_;apply ei;intro _ w' _ hC;(go_simp;try with_reducible rfl);(try go_simp);refine hK _ ?_;clear hK K)
     (refine rdC fun K hK=>?_;apply ei;intro _ w' _ hC;(go_simp;try with_reducible rfl);(try go_simp);refine hK _ ?_;clear hK K)
     (refine rdC fun K hK=>?_;apply ei;intro _ w' _ hC;((obtain⟨q0,q1,q2,q3⟩:=HQ.out w' hC);go_simp;try with_reducible rfl);(try go_simp);refine hK _ ?_;clear hK K)
     (refine rdC fun K hK=>?_;apply ei;intro _ w' _ hC;(go_simp;try with_reducible rfl);(try go_simp);refine hK _ ?_;clear hK K)
     (refine rdC fun K hK=>?_;apply ei;intro _ w' _ hC;((obtain⟨q0,q1,q2,q3⟩:=HQ.out w' hC);go_simp;try with_reducible rfl);(try go_simp);refine hK _ ?_;clear hK K)
     refine wpC_call rfl (.int .i64 cl )  64  ( #[.agg #[.slice ra t.r.length rc,.slice ca t.c.length cc,.slice na t.n.length nc,.slice ea t.e.length ec]]) (fun w'=>by go_simp) (fun _ w' _ hC=>?_) (fun K hK=>?_)
     ·refine (HCO.out w' hC).mono ?_
      rintro e w'' ⟨rfl,h⟩
      exact⟨rfl,hC.trans h⟩
     ((try go_simp);refine hK _ ?_;clear hK K)
     (refine rdC fun K hK=>?_;apply ei;intro _ w' _ hC;((have dw:=DW.out);go_simp;try with_reducible rfl);(try go_simp);refine hK _ ?_;clear hK K)
     (refine rdC fun K hK=>?_;apply ei;intro _ w' _ hC;((have d2:=D2.out);go_simp;try with_reducible rfl);(try go_simp);refine hK _ ?_;clear hK K)
     (refine rdC fun K hK=>?_;apply ei;intro _ w' _ hC;(go_simp;try with_reducible rfl);(try go_simp);refine hK _ ?_;clear hK K)
     (refine rdC fun K hK=>?_;apply ei;intro _ w' _ hC;(go_simp;try with_reducible rfl);(try go_simp);refine hK _ ?_;clear hK K)
     (refine rdC fun K hK=>?_;apply ei;intro _ w' _ hC;(go_simp;try with_reducible rfl);(try go_simp);refine hK _ ?_;clear hK K)
     (refine rdC fun K hK=>?_;apply ei;intro _ w' _ hC;((obtain⟨q0,q1,q2,q3⟩:=HQ.out w' hC);go_simp;try with_reducible rfl);(try go_simp);refine hK _ ?_;clear hK K)
     (refine rdC fun K hK=>?_;apply ei;intro _ w' _ hC;(go_simp;try with_reducible rfl);(try go_simp);refine hK _ ?_;clear hK K)
     refine wpC_call rfl (.bool true )  85  ( #[.slice ra t.r.length rc,.func (.func 83) #[] #[]]) (fun w'=>by go_simp) (fun _ w' _ hC=>?_) (fun K hK=>?_)
     ·refine (HST.out w' hC).mono ?_
      rintro e w'' ⟨rfl,h⟩
      exact⟨rfl,hC.trans h⟩
     ((try go_simp);refine hK _ ?_;clear hK K)
     (refine rdC fun K hK=>?_;apply ei;intro _ w' _ hC;(go_simp;try with_reducible rfl);(try go_simp);refine hK _ ?_;clear hK K)
     (refine rdC fun K hK=>?_;apply ei;intro _ w' _ hC;(go_simp;try with_reducible rfl);(try go_simp);refine hK _ ?_;clear hK K)
     (refine rdC fun K hK=>?_;apply ei;intro _ w' _ hC;(go_simp;try with_reducible rfl);(try go_simp);refine hK _ ?_;clear hK K)
     (refine wpC_skip rfl (fun _ _ _ h=>h) fun K hK=>?_;(try go_simp);refine hK _ ?_;clear hK K)
     (refine wpC_skip rfl (fun _ _ _ h=>h) fun K hK=>?_;(try go_simp);refine hK _ ?_;clear hK K)
     (refine wpC_skip rfl (fun _ _ _ h=>h) fun K hK=>?_;(try go_simp);refine hK _ ?_;clear hK K)
     (refine wpC_skip rfl (fun _ _ _ h=>h) fun K hK=>?_;(try go_simp);refine hK _ ?_;clear hK K)
     (refine wpC_skip rfl (fun _ _ _ h=>h) fun K hK=>?_;(try go_simp);refine hK _ ?_;clear hK K)
     (refine rdC fun K hK=>?_;apply ei;intro _ w' _ hC;(go_simp;try with_reducible rfl);(try go_simp);refine hK _ ?_;clear hK K)
     (refine rdC fun K hK=>?_;apply ei;intro _ w' _ hC;(go_simp;try with_reducible rfl);(try go_simp);refine hK _ ?_;clear hK K)
     refine wpC_nil ?_
     intro w2 hc2
     have HC2:=jh (HCA.out.trans hc2)
     clear hc2
     go_wp2
     go_ret
     exact⟨by rw [HF.out];rfl,HC2.out⟩
    | false =>
     have HST:Hid (∀ w',Chg (fun _=>False) wd w'→Calls Tryz.prog 85 #[.slice ra t.r.length rc,.func (.func 83) #[] #[]] w' fun e w''=>e=.returned (.bool false)∧Chg (fun _=>False) w' w''):=jh (by rw [← hst];exact HST0.out)
     have hep:0<t.e.length:=by have:=HMS.out.nl;have:=HMS.out.el;omega
     have HMX0:Hid (∀ w',Chg (fun _=>False) wd w'→Calls Tryz.prog 86 #[.slice ea t.e.length ec] w' fun e w''=>e=.returned (.int .i64 (maxI t.e))∧Chg (fun _=>False) w' w''):=jh (fun w' hc=>(max_any t.e ea ec 0 w' (HIN.out w' hc).e HFR.out.e hep).mono (fun e w'' h=>⟨h.1,by rw [h.2];exact Chg.refl _ _⟩))
     have HLB:Hid (lexerB t tk=decide (maxI t.e<(tk:Int))):=jh (by simp only [lexerB,HM.out,HCL.out,hst,decide_eq_true c1,decide_eq_true c2,Bool.not_false,Bool.true_and])
     obtain⟨me,hme⟩:∃ me,maxI t.e=me:=⟨_,rfl⟩
     have HMX:Hid (∀ w',Chg (fun _=>False) wd w'→Calls Tryz.prog 86 #[.slice ea t.e.length ec] w' fun e w''=>e=.returned (.int .i64 me)∧Chg (fun _=>False) w' w''):=jh (by rw [← hme];exact HMX0.out)
     rw [hme] at HLB
     clear hme HMX0 hep hst HST0 c1 c2 hcl0 hcl1 hf
     obtain⟨b,hb⟩:∃ b,decide (me<(tk:Int))=b:=⟨_,rfl⟩
     have HF:Hid (lexerB t tk=b):=jh (by rw [HLB.out,hb])
     have D4:Hid (decide (me<(tk:Int))=b∧True):=jh ⟨hb,trivial⟩
     clear hb
     refine wp_region_same (fun x=>Chg (fun _=>False) wd x) (by kernel_rfl) (by kernel_rfl) ?_ ?_
     ·rw [hwd];exact Chg.refl _ _
     (refine rdC fun K hK=>?_;apply ei;intro _ w' _ hC;((obtain⟨q0,q1,q2,q3⟩:=HQ.out w' hC);go_simp;try with_reducible rfl);(try go_simp);refine hK _ ?_;clear hK K)
     refine wpC_call rfl (.bool true )  84  ( #[.agg #[.slice ra t.r.length rc,.slice ca t.c.length cc,.slice na t.n.length nc,.slice ea t.e.length ec]]) (fun w'=>by go_simp) (fun _ w' _ hC=>?_) (fun K hK=>?_)
     ·refine (HMT.out w' hC).mono ?_
      rintro e w'' ⟨rfl,h⟩
      exact⟨rfl,hC.trans h⟩
     ((try go_simp);refine hK _ ?_;clear hK K)
     (refine rdC fun K hK=>?_;apply ei;intro _ w' _ hC;(go_simp;try with_reducible rfl);(try go_simp);refine hK _ ?_;clear hK K)
     (refine rdC fun K hK=>?_;apply ei;intro _ w' _ hC;(go_simp;try with_reducible rfl);(try go_simp);refine hK _ ?_;clear hK K)
     (refine rdC fun K hK=>?_;apply ei;intro _ w' _ hC;((obtain⟨q0,q1,q2,q3⟩:=HQ.out w' hC);go_simp;try with_reducible rfl);(try go_simp);refine hK _ ?_;clear hK K)
     (refine rdC fun K hK=>?_;apply ei;intro _ w' _ hC;(go_simp;try with_reducible rfl);(try go_simp);refine hK _ ?_;clear hK K)
     (refine rdC fun K hK=>?_;apply ei;intro _ w' _ hC;((have d1:=D1.out.1;have d1b:=D1.out.2);go_simp;try with_reducible rfl);(try go_simp);refine hK _ ?_;clear hK K)
     (refine rdC fun K hK=>?_;apply ei;intro _ w' _ hC;(go_simp;try with_reducible rfl);(try go_simp);refine hK _ ?_;clear hK K)
     (refine rdC fun K hK=>?_;apply ei;intro _ w' _ hC;(go_simp;try with_reducible rfl);(try go_simp);refine hK _ ?_;clear hK K)
     (refine rdC fun K hK=>?_;apply ei;intro _ w' _ hC;(go_simp;try with_reducible rfl);(try go_simp);refine hK _ ?_;clear hK K)
     (refine rdC fun K hK=>?_;apply ei;intro _ w' _ hC;((obtain⟨q0,q1,q2,q3⟩:=HQ.out w' hC);go_simp;try with_reducible rfl);(try go_simp);refine hK _ ?_;clear hK K)
     (refine rdC fun K hK=>?_;apply ei;intro _ w' _ hC;(go_simp;try with_reducible rfl);(try go_simp);refine hK _ ?_;clear hK K)
     (refine rdC fun K hK=>?_;apply ei;intro _ w' _ hC;((obtain⟨q0,q1,q2,q3⟩:=HQ.out w' hC);go_simp;try with_reducible rfl);(try go_simp);refine hK _ ?_;clear hK K)
     refine wpC_call rfl (.int .i64 cl )  64  ( #[.agg #[.slice ra t.r.length rc,.slice ca t.c.length cc,.slice na t.n.length nc,.slice ea t.e.length ec]]) (fun w'=>by go_simp) (fun _ w' _ hC=>?_) (fun K hK=>?_)
     ·refine (HCO.out w' hC).mono ?_
      rintro e w'' ⟨rfl,h⟩
      exact⟨rfl,hC.trans h⟩
     ((try go_simp);refine hK _ ?_;clear hK K)
     (refine rdC fun K hK=>?_;apply ei;intro _ w' _ hC;((have dw:=DW.out);go_simp;try with_reducible rfl);(try go_simp);refine hK _ ?_;clear hK K)
     (refine rdC fun K hK=>?_;apply ei;intro _ w' _ hC;((have d2:=D2.out);go_simp;try with_reducible rfl);(try go_simp);refine hK _ ?_;clear hK K)
     (refine rdC fun K hK=>?_;apply ei;intro _ w' _ hC;(go_simp;try with_reducible rfl);(try go_simp);refine hK _ ?_;clear hK K)
     (refine rdC fun K hK=>?_;apply ei;intro _ w' _ hC;(go_simp;try with_reducible rfl);(try go_simp);refine hK _ ?_;clear hK K)
     (refine rdC fun K hK=>?_;apply ei;intro _ w' _ hC;(go_simp;try with_reducible rfl);(try go_simp);refine hK _ ?_;clear hK K)
     (refine rdC fun K hK=>?_;apply ei;intro _ w' _ hC;((obtain⟨q0,q1,q2,q3⟩:=HQ.out w' hC);go_simp;try with_reducible rfl);(try go_simp);refine hK _ ?_;clear hK K)
     (refine rdC fun K hK=>?_;apply ei;intro _ w' _ hC;(go_simp;try with_reducible rfl);(try go_simp);refine hK _ ?_;clear hK K)
     refine wpC_call rfl (.bool false )  85  ( #[.slice ra t.r.length rc,.func (.func 83) #[] #[]]) (fun w'=>by go_simp) (fun _ w' _ hC=>?_) (fun K hK=>?_)
     ·refine (HST.out w' hC).mono ?_
      rintro e w'' ⟨rfl,h⟩
      exact⟨rfl,hC.trans h⟩
     ((try go_simp);refine hK _ ?_;clear hK K)
     (refine rdC fun K hK=>?_;apply ei;intro _ w' _ hC;(go_simp;try with_reducible rfl);(try go_simp);refine hK _ ?_;clear hK K)
     (refine rdC fun K hK=>?_;apply ei;intro _ w' _ hC;(go_simp;try with_reducible rfl);(try go_simp);refine hK _ ?_;clear hK K)
     (refine rdC fun K hK=>?_;apply ei;intro _ w' _ hC;(go_simp;try with_reducible rfl);(try go_simp);refine hK _ ?_;clear hK K)
     (refine rdC fun K hK=>?_;apply ei;intro _ w' _ hC;(go_simp;try with_reducible rfl);(try go_simp);refine hK _ ?_;clear hK K)
     (refine rdC fun K hK=>?_;apply ei;intro _ w' _ hC;((obtain⟨q0,q1,q2,q3⟩:=HQ.out w' hC);go_simp;try with_reducible rfl);(try go_simp);refine hK _ ?_;clear hK K)
     refine wpC_call rfl (.int .i64 me )  86  ( #[.slice ea t.e.length ec]) (fun w'=>by go_simp) (fun _ w' _ hC=>?_) (fun K hK=>?_)
     ·refine (HMX.out w' hC).mono ?_
      rintro e w'' ⟨rfl,h⟩
      exact⟨rfl,hC.trans h⟩
     ((try go_simp);refine hK _ ?_;clear hK K)
     (refine rdC fun K hK=>?_;apply ei;intro _ w' _ hC;(go_simp;try with_reducible rfl);(try go_simp);refine hK _ ?_;clear hK K)
     (refine rdC fun K hK=>?_;apply ei;intro _ w' _ hC;((have d4:=D4.out.1;have d4b:=D4.out.2);go_simp;try with_reducible rfl);(try go_simp);refine hK _ ?_;clear hK K)
     (refine rdC fun K hK=>?_;apply ei;intro _ w' _ hC;(go_simp;try with_reducible rfl);(try go_simp);refine hK _ ?_;clear hK K)
     (refine rdC fun K hK=>?_;apply ei;intro _ w' _ hC;(go_simp;try with_reducible rfl);(try go_simp);refine hK _ ?_;clear hK K)
     refine wpC_nil ?_
     intro w2 hc2
     have HC2:=jh (HCA.out.trans hc2)
     clear hc2
     go_wp2
     go_ret
     exact⟨by rw [HF.out];rfl,HC2.out⟩
   ·have D2:Hid (decide ((t.n.length:Int) * cl≤4194304)=false):=jh (decide_eq_false c2)
    have HF:Hid (lexerB t tk=false):=jh (by simp only [lexerB,HCL.out,decide_eq_false c2,Bool.and_false,Bool.false_and])
    clear c1 c2 hcl0 hcl1 hf
    refine wp_region_same (fun x=>Chg (fun _=>False) wd x) (by kernel_rfl) (by kernel_rfl) ?_ ?_
    ·rw [hwd];exact Chg.refl _ _
    (refine rdC fun K hK=>?_;apply ei;intro _ w' _ hC;((obtain⟨q0,q1,q2,q3⟩:=HQ.out w' hC);go_simp;try with_reducible rfl);(try go_simp);refine hK _ ?_;clear hK K)
    refine wpC_call rfl (.bool true )  84  ( #[.agg #[.slice ra t.r.length rc,.slice ca t.c.length cc,.slice na t.n.length nc,.slice ea t.e.length ec]]) (fun w'=>by go_simp) (fun _ w' _ hC=>?_) (fun K hK=>?_)
    ·refine (HMT.out w' hC).mono ?_
     rintro e w'' ⟨rfl,h⟩
     exact⟨rfl,hC.trans h⟩
    ((try go_simp);refine hK _ ?_;clear hK K)
    (refine rdC fun K hK=>?_;apply ei;intro _ w' _ hC;(go_simp;try with_reducible rfl);(try go_simp);refine hK _ ?_;clear hK K)
    (refine rdC fun K hK=>?_;apply ei;intro _ w' _ hC;(go_simp;try with_reducible rfl);(try go_simp);refine hK _ ?_;clear hK K)
    (refine rdC fun K hK=>?_;apply ei;intro _ w' _ hC;((obtain⟨q0,q1,q2,q3⟩:=HQ.out w' hC);go_simp;try with_reducible rfl);(try go_simp);refine hK _ ?_;clear hK K)
    (refine rdC fun K hK=>?_;apply ei;intro _ w' _ hC;(go_simp;try with_reducible rfl);(try go_simp);refine hK _ ?_;clear hK K)
    (refine rdC fun K hK=>?_;apply ei;intro _ w' _ hC;((have d1:=D1.out.1;have d1b:=D1.out.2);go_simp;try with_reducible rfl);(try go_simp);refine hK _ ?_;clear hK K)
    (refine rdC fun K hK=>?_;apply ei;intro _ w' _ hC;(go_simp;try with_reducible rfl);(try go_simp);refine hK _ ?_;clear hK K)
    (refine rdC fun K hK=>?_;apply ei;intro _ w' _ hC;(go_simp;try with_reducible rfl);(try go_simp);refine hK _ ?_;clear hK K)
    (refine rdC fun K hK=>?_;apply ei;intro _ w' _ hC;(go_simp;try with_reducible rfl);(try go_simp);refine hK _ ?_;clear hK K)
    (refine rdC fun K hK=>?_;apply ei;intro _ w' _ hC;((obtain⟨q0,q1,q2,q3⟩:=HQ.out w' hC);go_simp;try with_reducible rfl);(try go_simp);refine hK _ ?_;clear hK K)
    (refine rdC fun K hK=>?_;apply ei;intro _ w' _ hC;(go_simp;try with_reducible rfl);(try go_simp);refine hK _ ?_;clear hK K)
    (refine rdC fun K hK=>?_;apply ei;intro _ w' _ hC;((obtain⟨q0,q1,q2,q3⟩:=HQ.out w' hC);go_simp;try with_reducible rfl);(try go_simp);refine hK _ ?_;clear hK K)
    refine wpC_call rfl (.int .i64 cl )  64  ( #[.agg #[.slice ra t.r.length rc,.slice ca t.c.length cc,.slice na t.n.length nc,.slice ea t.e.length ec]]) (fun w'=>by go_simp) (fun _ w' _ hC=>?_) (fun K hK=>?_)
    ·refine (HCO.out w' hC).mono ?_
     rintro e w'' ⟨rfl,h⟩
     exact⟨rfl,hC.trans h⟩
    ((try go_simp);refine hK _ ?_;clear hK K)
    (refine rdC fun K hK=>?_;apply ei;intro _ w' _ hC;((have dw:=DW.out);go_simp;try with_reducible rfl);(try go_simp);refine hK _ ?_;clear hK K)
    (refine rdC fun K hK=>?_;apply ei;intro _ w' _ hC;((have d2:=D2.out);go_simp;try with_reducible rfl);(try go_simp);refine hK _ ?_;clear hK K)
    (refine rdC fun K hK=>?_;apply ei;intro _ w' _ hC;(go_simp;try with_reducible rfl);(try go_simp);refine hK _ ?_;clear hK K)
    (refine rdC fun K hK=>?_;apply ei;intro _ w' _ hC;(go_simp;try with_reducible rfl);(try go_simp);refine hK _ ?_;clear hK K)
    (refine wpC_skip rfl (fun _ _ _ h=>h) fun K hK=>?_;(try go_simp);refine hK _ ?_;clear hK K)
    (refine wpC_skip rfl (fun _ _ _ h=>h) fun K hK=>?_;(try go_simp);refine hK _ ?_;clear hK K)
    (refine wpC_skip rfl (fun _ _ _ h=>h) fun K hK=>?_;(try go_simp);refine hK _ ?_;clear hK K)
    (refine wpC_skip rfl (fun _ _ _ h=>h) fun K hK=>?_;(try go_simp);refine hK _ ?_;clear hK K)
    (refine wpC_skip rfl (fun _ _ _ h=>h) fun K hK=>?_;(try go_simp);refine hK _ ?_;clear hK K)
    (refine rdC fun K hK=>?_;apply ei;intro _ w' _ hC;(go_simp;try with_reducible rfl);(try go_simp);refine hK _ ?_;clear hK K)
    (refine rdC fun K hK=>?_;apply ei;intro _ w' _ hC;(go_simp;try with_reducible rfl);(try go_simp);refine hK _ ?_;clear hK K)
    (refine wpC_skip rfl (fun _ _ _ h=>h) fun K hK=>?_;(try go_simp);refine hK _ ?_;clear hK K)
    (refine wpC_skip rfl (fun _ _ _ h=>h) fun K hK=>?_;(try go_simp);refine hK _ ?_;clear hK K)
    (refine wpC_skip rfl (fun _ _ _ h=>h) fun K hK=>?_;(try go_simp);refine hK _ ?_;clear hK K)
    (refine wpC_skip rfl (fun _ _ _ h=>h) fun K hK=>?_;(try go_simp);refine hK _ ?_;clear hK K)
    (refine wpC_skip rfl (fun _ _ _ h=>h) fun K hK=>?_;(try go_simp);refine hK _ ?_;clear hK K)
    (refine rdC fun K hK=>?_;apply ei;intro _ w' _ hC;(go_simp;try with_reducible rfl);(try go_simp);refine hK _ ?_;clear hK K)
    (refine rdC fun K hK=>?_;apply ei;intro _ w' _ hC;(go_simp;try with_reducible rfl);(try go_simp);refine hK _ ?_;clear hK K)
    refine wpC_nil ?_
    intro w2 hc2
    have HC2:=jh (HCA.out.trans hc2)
    clear hc2
    go_wp2
    go_ret
    exact⟨by rw [HF.out];rfl,HC2.out⟩
  ·have D1:Hid (decide (t.n.length≤65536)=false∧decide ((t.n.length:Int)≤65536)=false):=jh ⟨decide_eq_false c1,decide_eq_false (by omega)⟩
   have HF:Hid (lexerB t tk=false):=jh (by simp only [lexerB,decide_eq_false c1,Bool.and_false,Bool.false_and])
   clear c1 hf
   refine wp_region_same (fun x=>Chg (fun _=>False) wd x) (by kernel_rfl) (by kernel_rfl) ?_ ?_
   ·rw [hwd];exact Chg.refl _ _
   (refine rdC fun K hK=>?_;apply ei;intro _ w' _ hC;((obtain⟨q0,q1,q2,q3⟩:=HQ.out w' hC);go_simp;try with_reducible rfl);(try go_simp);refine hK _ ?_;clear hK K)
   refine wpC_call rfl (.bool true )  84  ( #[.agg #[.slice ra t.r.length rc,.slice ca t.c.length cc,.slice na t.n.length nc,.slice ea t.e.length ec]]) (fun w'=>by go_simp) (fun _ w' _ hC=>?_) (fun K hK=>?_)
   ·refine (HMT.out w' hC).mono ?_
    rintro e w'' ⟨rfl,h⟩
    exact⟨rfl,hC.trans h⟩
   ((try go_simp);refine hK _ ?_;clear hK K)
   (refine rdC fun K hK=>?_;apply ei;intro _ w' _ hC;(go_simp;try with_reducible rfl);(try go_simp);refine hK _ ?_;clear hK K)
   (refine rdC fun K hK=>?_;apply ei;intro _ w' _ hC;(go_simp;try with_reducible rfl);(try go_simp);refine hK _ ?_;clear hK K)
   (refine rdC fun K hK=>?_;apply ei;intro _ w' _ hC;((obtain⟨q0,q1,q2,q3⟩:=HQ.out w' hC);go_simp;try with_reducible rfl);(try go_simp);refine hK _ ?_;clear hK K)
   (refine rdC fun K hK=>?_;apply ei;intro _ w' _ hC;(go_simp;try with_reducible rfl);(try go_simp);refine hK _ ?_;clear hK K)
   (refine rdC fun K hK=>?_;apply ei;intro _ w' _ hC;((have d1:=D1.out.1;have d1b:=D1.out.2);go_simp;try with_reducible rfl);(try go_simp);refine hK _ ?_;clear hK K)
   (refine rdC fun K hK=>?_;apply ei;intro _ w' _ hC;(go_simp;try with_reducible rfl);(try go_simp);refine hK _ ?_;clear hK K)
   (refine rdC fun K hK=>?_;apply ei;intro _ w' _ hC;(go_simp;try with_reducible rfl);(try go_simp);refine hK _ ?_;clear hK K)
   (refine wpC_skip rfl (fun _ _ _ h=>h) fun K hK=>?_;(try go_simp);refine hK _ ?_;clear hK K)
   (refine wpC_skip rfl (fun _ _ _ h=>h) fun K hK=>?_;(try go_simp);refine hK _ ?_;clear hK K)
   (refine wpC_skip rfl (fun _ _ _ h=>h) fun K hK=>?_;(try go_simp);refine hK _ ?_;clear hK K)
   (refine wpC_skip rfl (fun _ _ _ h=>h) fun K hK=>?_;(try go_simp);refine hK _ ?_;clear hK K)
   (refine wpC_skip rfl (fun _ _ _ h=>h) fun K hK=>?_;(try go_simp);refine hK _ ?_;clear hK K)
   (refine wpC_skip rfl (fun _ _ _ h=>h) fun K hK=>?_;(try go_simp);refine hK _ ?_;clear hK K)
   (refine wpC_skip rfl (fun _ _ _ h=>h) fun K hK=>?_;(try go_simp);refine hK _ ?_;clear hK K)
   (refine rdC fun K hK=>?_;apply ei;intro _ w' _ hC;(go_simp;try with_reducible rfl);(try go_simp);refine hK _ ?_;clear hK K)
   (refine rdC fun K hK=>?_;apply ei;intro _ w' _ hC;(go_simp;try with_reducible rfl);(try go_simp);refine hK _ ?_;clear hK K)
   (refine wpC_skip rfl (fun _ _ _ h=>h) fun K hK=>?_;(try go_simp);refine hK _ ?_;clear hK K)
   (refine wpC_skip rfl (fun _ _ _ h=>h) fun K hK=>?_;(try go_simp);refine hK _ ?_;clear hK K)
   (refine wpC_skip rfl (fun _ _ _ h=>h) fun K hK=>?_;(try go_simp);refine hK _ ?_;clear hK K)
   (refine wpC_skip rfl (fun _ _ _ h=>h) fun K hK=>?_;(try go_simp);refine hK _ ?_;clear hK K)
   (refine wpC_skip rfl (fun _ _ _ h=>h) fun K hK=>?_;(try go_simp);refine hK _ ?_;clear hK K)
   (refine rdC fun K hK=>?_;apply ei;intro _ w' _ hC;(go_simp;try with_reducible rfl);(try go_simp);refine hK _ ?_;clear hK K)
   (refine rdC fun K hK=>?_;apply ei;intro _ w' _ hC;(go_simp;try with_reducible rfl);(try go_simp);refine hK _ ?_;clear hK K)
   (refine wpC_skip rfl (fun _ _ _ h=>h) fun K hK=>?_;(try go_simp);refine hK _ ?_;clear hK K)
   (refine wpC_skip rfl (fun _ _ _ h=>h) fun K hK=>?_;(try go_simp);refine hK _ ?_;clear hK K)
   (refine wpC_skip rfl (fun _ _ _ h=>h) fun K hK=>?_;(try go_simp);refine hK _ ?_;clear hK K)
   (refine wpC_skip rfl (fun _ _ _ h=>h) fun K hK=>?_;(try go_simp);refine hK _ ?_;clear hK K)
   (refine wpC_skip rfl (fun _ _ _ h=>h) fun K hK=>?_;(try go_simp);refine hK _ ?_;clear hK K)
   (refine rdC fun K hK=>?_;apply ei;intro _ w' _ hC;(go_simp;try with_reducible rfl);(try go_simp);refine hK _ ?_;clear hK K)
   (refine rdC fun K hK=>?_;apply ei;intro _ w' _ hC;(go_simp;try with_reducible rfl);(try go_simp);refine hK _ ?_;clear hK K)
   refine wpC_nil ?_
   intro w2 hc2
   have HC2:=jh (HCA.out.trans hc2)
   clear hc2
   go_wp2
   go_ret
   exact⟨by rw [HF.out];rfl,HC2.out⟩
end Go.Proofs.YtgnpmceimpjheaaGreat
namespace Go.Proofs.YtgnpmceimpjheaaGreat
open Go.RowKit
def namedB (s:Str):Bool:=decide (0<s.size) && decide (s.size≤64)
theorem named_any (s:Str) (w:World) (hl:s.size≤1000000000000):Calls Tryz.prog 35 #[.string s] w fun e w'=>e=.returned (.bool (namedB s))∧w'=w:=by
 by_cases h0:s.size=0
 ·obtain rfl:s=⟨#[]⟩:=by
   cases s with
   | mk d =>
    have:d.size=0:=h0
    rw [Array.size_eq_zero_iff.1 this]
  go_enter Tryz.func35,Tryz.ntmps35
  go_wp2
  go_ret
  exact⟨rfl,rfl⟩
 ·have HF:Hid (namedB s=decide (s.size≤64)):=jh (by simp only [namedB,decide_eq_true (show 0<s.size by omega),Bool.true_and])
  have hne:¬ s.toList=[]:=fun e=>h0 (by
   rw [ByteArray.toList_eq] at e
   show s.data.size=0
   rw [← Array.length_toList,e];rfl)
  have he:s.toList.isEmpty=false:=by
   cases h:s.toList with
   | nil=>exact absurd h hne
   | cons _ _=>rfl
  obtain⟨b,hb⟩:∃ b,decide (s.size≤64)=b:=⟨_,rfl⟩
  have hb2:decide ((s.size:Int)≤64)=b:=by rw [← hb,Bool.eq_iff_iff];simp <;> omega
  rw [hb] at HF
  go_enter Tryz.func35,Tryz.ntmps35
  go_wp2
  go_ret
  exact⟨by rw [HF.out];rfl,rfl⟩
theorem gives_named (S:Nat→Prop) (w:World):GivesE strE strVal (bR eqR (fun s=>s.size≤1000000000000)) S 34 #[] (fun s=>!namedB s) w:=by
 intro y d w' hyd hok hc
 obtain⟨hyd,hl⟩:=hyd
 obtain rfl:y=d:=hyd
 have HN:=jh (named_any y w' hl)
 show Calls Tryz.prog 34 #[.string y] w' _
 obtain⟨b,hb⟩:∃ b,namedB y=b:=⟨_,rfl⟩
 rw [hb] at HN
 have HB:=jh hb
 clear hb hl
 go_enter Tryz.func34,Tryz.ntmps34
 go_wp2_with fail
 refine HN.out.mono ?_
 rintro e w2 ⟨rfl,rfl⟩
 go_wp2
 go_ret
 exact⟨by show Ending.returned (.bool (!b))=_;rw [← HB.out],Chg.refl _ _⟩
def tokBad (tk:Nat) (e:EdgeD):Bool:=decide (e.1=1) && decide ((tk:Int)≤e.2.1)
theorem gives_tok (q tk:Nat) (S:Nat→Prop) (w:World) (hq:w.cell? ⟨q,0,none⟩=some (.int .i64 tk)):GivesE edgeE edgeVal eqR S 43 #[.pointer (some ⟨q,0,none⟩)] (tokBad tk) w:=by
 intro y d w' hyd hok hc
 obtain rfl:y=d:=hyd
 obtain⟨k,x,t⟩:=y
 have hq':=allocOld (.cells #[.int .u8 k,.int .i64 x,.int .i64 t] 71) (hc.cellS hq (fun h=>h))
 clear hq
 show Calls Tryz.prog 43 #[.agg #[.int .u8 k,.int .i64 x,.int .i64 t],.pointer (some ⟨q,0,none⟩)] w' _
 by_cases h1:k=1
 ·subst h1
  have HF:Hid (tokBad tk (1,x,t)=decide ((tk:Int)≤x)):=jh (by simp only [tokBad,decide_true,Bool.true_and])
  go_enter Tryz.func43,Tryz.ntmps43
  go_wp2
  go_ret
  exact⟨by rw [HF.out];rfl,(Chg.refl _ w').alloc _⟩
 ·have b1:(k == 1)=false:=by simpa using h1
  have HF:Hid (tokBad tk (k,x,t)=false):=jh (by simp only [tokBad,decide_eq_false h1,Bool.false_and])
  clear h1
  go_enter Tryz.func43,Tryz.ntmps43
  go_wp2
  go_ret
  exact⟨by rw [HF.out];rfl,(Chg.refl _ w').alloc _⟩
theorem gives_toks (q tk:Nat) (S:Nat→Prop) (w:World) (hq:w.cell? ⟨q,0,none⟩=some (.int .i64 tk)):GivesE stE stVal (bR stR stB) S 41 #[.pointer (some ⟨q,0,none⟩)] (fun s=>s.2.1.any (tokBad tk)) w:=by
 intro y d w' ⟨⟨hy1,hk,hya,hye⟩,hb1,hb2⟩ hok hc
 obtain⟨dr,al,ed⟩:=d
 obtain⟨yk,⟨aa,an,ac⟩,⟨ea,en,ec⟩⟩:=y
 simp only at hy1 hk hya hye hb1 hb2
 obtain⟨rfl,-⟩:=hya.len
 obtain⟨rfl,-⟩:=hye.len
 subst hy1
 have hmf:∀ (fn:Fn) (first cap:Array Value) (w:World),(Instr.makeFunc fn first cap).run Tryz.prog w=.ok (.func fn first cap) w:=fun _ _ _ _=>rfl
 have eg:=enters_of Tryz.func43 (by kernel_rfl) rfl
 have hd:=(Chg.refl (fun _=>False) w').alloc (.cells #[.int .i64 yk,.slice aa al.length ac,.slice ea ed.length ec] 74)
 have HC:=jh (containsidxEdge eqR.good 43 #[.pointer (some ⟨q,0,none⟩)] (tokBad tk) al aa ac _ eg (ListR.of (hya.chg hd (fun _ _ h=>h))) (gives_tok q tk S _ (allocOld _ (hc.cellS hq (fun h=>h)))) hb1)
 clear hd hya hye hq
 show Calls Tryz.prog 41 #[.agg #[.int .i64 yk,.slice aa al.length ac,.slice ea ed.length ec],.pointer (some ⟨q,0,none⟩)] w' _
 simp only
 obtain⟨b,hb⟩:∃ b,al.any (tokBad tk)=b:=⟨_,rfl⟩
 rw [hb] at HC ⊢
 clear hb
 go_enter Tryz.func41,Tryz.ntmps41
 go_wp2_with fail
 refine HC.out.mono ?_
 rintro e w2 ⟨rfl,hc2⟩
 have HC2:=jh (((Chg.refl _ w').alloc _).trans hc2)
 clear hc2
 go_wp2
 go_ret
 exact⟨rfl,HC2.out⟩
end Go.Proofs.YtgnpmceimpjheaaGreat
namespace Go.Proofs.YtgnpmceimpjheaaGreat
open Go.RowKit
def looksOk (t:TabsD):Bool:=(List.range t.nt.d.length).all (fun i=>mayAuto (t.lk.getD i []) ((t.nt.st.getD (t.nt.d.getD i 0).toNat (0,[],[])).2.2.length:Nat) t.tk.length)
def mayTabs (t:TabsD):Bool :=
 decide (1≤t.rl.length) && decide (t.rl.length≤64) && decide (t.tk.length≤64) && decide (t.dr.length=t.tk.length) && !t.rl.any (fun s=>!namedB s) && !t.tk.any (fun s=>!namedB s) && lexerB t.lx t.tk.length && mayNet t.nt && decide (t.nt.s.length=t.rl.length) && decide (t.nt.st.length≤65536) && decide (t.lk.length=t.nt.d.length) && looksOk t && !t.nt.st.any (fun s=>s.2.1.any (tokBad t.tk.length))
structure FairTabs (t:TabsD):Prop where
 rl:t.rl.length≤100000000
 tk:t.tk.length≤100000000
 dr:t.dr.length≤100000000
 rs:∀ s∈t.rl,s.size≤1000000000000
 ts:∀ s∈t.tk,s.size≤1000000000000
 lx:Fair t.lx
 nt:FairN t.nt
 lk:t.lk.length≤1000000000
 la:∀ A∈t.lk,A.length≤1000000000∧∀ d∈A,lsB d
theorem decsFrom_spec:∀ (L:List StD) (k:Nat) (d:Int),d∈decsFrom k L→∃ j:Nat,d=((k+j:Nat):Int)∧j<L.length
 | [],_,_,h=>by cases h
 | s :: L,k,d,h=>by
  simp only [decsFrom] at h
  have rest:d∈decsFrom (k+1) L→∃ j:Nat,d=((k+j:Nat):Int)∧j<(s :: L).length:=fun h=>by
   obtain⟨j,h1,h2⟩:=decsFrom_spec L (k+1) d h
   exact⟨j+1,by rw [h1];congr 1;omega,by simp;omega⟩
  split at h
  ·rcases List.mem_cons.1 h with rfl|h
   ·exact⟨0,rfl,by simp⟩
   ·exact rest h
  ·exact rest h
theorem may_tabs (t:TabsD) (m:TabsS) (S:Nat→Prop) (w:World) (h:TabsIn w S m t) (hf:FairTabs t) :
  Calls Tryz.prog 12 #[tabsV m] w fun e w'=>e=.returned (.bool (mayTabs t))∧Chg (fun _=>False) w w':=by
 obtain⟨⟨ra,rn,rc⟩,⟨ka,kn,kc⟩,⟨da,dn,dc⟩,⟨⟨x0,z0,y0⟩,⟨x1,z1,y1⟩,⟨x2,z2,y2⟩,⟨x3,z3,y3⟩⟩,⟨⟨n0,o0,m0⟩,⟨n1,o1,m1⟩,⟨n2,o2,m2⟩,⟨n3,o3,m3⟩,⟨n4,o4,m4⟩⟩,⟨la,ln,lc⟩⟩:=m
 have HT:=jh h
 obtain⟨h0,h1,h2,⟨h3,h4,h5,h6⟩,⟨h7,h8,h9,h10,h11⟩,h12⟩:=h
 obtain⟨rfl,-⟩:=h0.len
 obtain⟨rfl,-⟩:=h1.len
 obtain⟨rfl,-⟩:=h2.len
 obtain⟨rfl,-⟩:=h3.len
 obtain⟨rfl,-⟩:=h4.len
 obtain⟨rfl,-⟩:=h5.len
 obtain⟨rfl,-⟩:=h6.len
 obtain⟨rfl,-⟩:=h7.len
 obtain⟨rfl,-⟩:=h8.len
 obtain⟨rfl,-⟩:=h9.len
 obtain⟨rfl,-⟩:=h10.len
 obtain⟨rfl,-⟩:=h11.len
 obtain⟨rfl,-⟩:=h12.len
 clear h0 h1 h2 h3 h4 h5 h6 h7 h8 h9 h10 h11 h12
 have HFT:=jh hf
 have f_rl:=hf.rl
 have f_tk:=hf.tk
 have f_dr:=hf.dr
 have f_lk:=hf.lk
 have f_st:=hf.nt.st
 have f_d:=hf.nt.d
 clear hf
 have eg1:=enters_of Tryz.func34 (by kernel_rfl) rfl
 have eg2:=enters_of Tryz.func41 (by kernel_rfl) rfl
 have hmf:∀ (fn:Fn) (first cap:Array Value) (w:World),(Instr.makeFunc fn first cap).run Tryz.prog w=.ok (.func fn first cap) w:=fun _ _ _ _=>rfl
 show Calls Tryz.prog 12 #[.agg #[.slice ra t.rl.length rc,.slice ka t.tk.length kc,.slice da t.dr.length dc,.slice x0 t.lx.r.length y0,.slice x1 t.lx.c.length y1,.slice x2 t.lx.n.length y2,.slice x3 t.lx.e.length y3,.slice n0 t.nt.st.length m0,.slice n1 t.nt.s.length m1,.slice n2 t.nt.p.length m2,.slice n3 t.nt.q.length m3,.slice n4 t.nt.d.length m4,.slice la t.lk.length lc]] w _
 go_enter Tryz.func12,Tryz.ntmps12
 go_upto_region 1 with (fail)
 obtain⟨wv,hwv⟩:∃ W,W=w.alloc (.cells #[.slice ra t.rl.length rc,.slice ka t.tk.length kc,.slice da t.dr.length dc,.slice x0 t.lx.r.length y0,.slice x1 t.lx.c.length y1,.slice x2 t.lx.n.length y2,.slice x3 t.lx.e.length y3,.slice n0 t.nt.st.length m0,.slice n1 t.nt.s.length m1,.slice n2 t.nt.p.length m2,.slice n3 t.nt.q.length m3,.slice n4 t.nt.d.length m4,.slice la t.lk.length lc] 34):=⟨_,rfl⟩
 rw [← hwv]
 have HQV:Hid (∀ w',Chg (fun _=>False) wv w'→w'.cell? ⟨w.heap.size,0,none⟩=some (.slice ra t.rl.length rc)∧w'.cell? ⟨w.heap.size,1,none⟩=some (.slice ka t.tk.length kc)∧w'.cell? ⟨w.heap.size,2,none⟩=some (.slice da t.dr.length dc)∧w'.cell? ⟨w.heap.size,3,none⟩=some (.slice x0 t.lx.r.length y0)∧w'.cell? ⟨w.heap.size,4,none⟩=some (.slice x1 t.lx.c.length y1)∧w'.cell? ⟨w.heap.size,5,none⟩=some (.slice x2 t.lx.n.length y2)∧w'.cell? ⟨w.heap.size,6,none⟩=some (.slice x3 t.lx.e.length y3)∧w'.cell? ⟨w.heap.size,7,none⟩=some (.slice n0 t.nt.st.length m0)∧w'.cell? ⟨w.heap.size,8,none⟩=some (.slice n1 t.nt.s.length m1)∧w'.cell? ⟨w.heap.size,9,none⟩=some (.slice n2 t.nt.p.length m2)∧w'.cell? ⟨w.heap.size,10,none⟩=some (.slice n3 t.nt.q.length m3)∧w'.cell? ⟨w.heap.size,11,none⟩=some (.slice n4 t.nt.d.length m4)∧w'.cell? ⟨w.heap.size,12,none⟩=some (.slice la t.lk.length lc)):=jh (fun w' hc=>by
  rw [hwv] at hc
  exact⟨hc.cellS (allocAt _ rfl rfl) (fun h=>h),hc.cellS (allocAt _ rfl rfl) (fun h=>h),hc.cellS (allocAt _ rfl rfl) (fun h=>h),hc.cellS (allocAt _ rfl rfl) (fun h=>h),hc.cellS (allocAt _ rfl rfl) (fun h=>h),hc.cellS (allocAt _ rfl rfl) (fun h=>h),hc.cellS (allocAt _ rfl rfl) (fun h=>h),hc.cellS (allocAt _ rfl rfl) (fun h=>h),hc.cellS (allocAt _ rfl rfl) (fun h=>h),hc.cellS (allocAt _ rfl rfl) (fun h=>h),hc.cellS (allocAt _ rfl rfl) (fun h=>h),hc.cellS (allocAt _ rfl rfl) (fun h=>h),hc.cellS (allocAt _ rfl rfl) (fun h=>h)⟩)
 have HVS:Hid (wv.heap.size=w.heap.size+1):=jh (by rw [hwv];simp)
 obtain⟨wd,hwd⟩:∃ W,wv.drew=W:=⟨_,rfl⟩
 have HVD:Hid (Chg (fun _=>False) wv wd):=jh (by rw [← hwd];exact (Chg.refl _ _).drew)
 have HCD:Hid (Chg (fun _=>False) w wd):=jh (by rw [← hwd,hwv];exact ((Chg.refl _ w).alloc _).drew)
 have HDS:Hid (wd.heap.size=w.heap.size+1):=jh (by rw [← hwd];exact HVS.out)
 refine wp_region_late (fun x=>Chg (fun _=>False) wd x) (fun i=>decide (8≤i)) (by kernel_rfl) ?_
 show wpAnyL _ _ _ _ _ _ 9 (Array.replicate 9 false) _ wv.drew
 rw [hwd]
 clear hwd hwv
 have HSS:Hid (Chg (fun _=>False) wd wd):=jh (Chg.refl _ _)
 (refine lrd 0 HSS.out fun K hK=>?_;apply ei;intro w' hC;(go_simp;try with_reducible rfl);(try go_simp);refine hK _ ?_;clear hK K)
 (refine lrd 1 HSS.out fun K hK=>?_;apply ei;intro w' hC;((obtain⟨q0,-⟩:=HQV.out w' (HVD.out.trans hC));go_simp;try with_reducible rfl);(try go_simp);refine hK _ ?_;clear hK K)
 (refine lrd 2 HSS.out fun K hK=>?_;apply ei;intro w' hC;(go_simp;try with_reducible rfl);(try go_simp);refine hK _ ?_;clear hK K)
 (refine lrd 3 HSS.out fun K hK=>?_;apply ei;intro w' hC;(go_simp;try with_reducible rfl);(try go_simp);refine hK _ ?_;clear hK K)
 (refine lrd 4 HSS.out fun K hK=>?_;apply ei;intro w' hC;((obtain⟨-,q1,-⟩:=HQV.out w' (HVD.out.trans hC));go_simp;try with_reducible rfl);(try go_simp);refine hK _ ?_;clear hK K)
 (refine lrd 5 HSS.out fun K hK=>?_;apply ei;intro w' hC;(go_simp;try with_reducible rfl);(try go_simp);refine hK _ ?_;clear hK K)
 (refine late_turn (i:=6) (by kernel_rfl) rfl rfl fun K hK=>?_;apply Exists.intro;apply Exists.intro;refine⟨?_,?_,?_⟩;(go_simp;try first|with_reducible rfl|exact⟨rfl,rfl⟩);(exact fun _=>(Chg.refl _ _).alloc _);(try go_simp);refine hK _ _ ?_;clear hK K)
 (refine late_turn (i:=7) (by kernel_rfl) rfl rfl fun K hK=>?_;apply Exists.intro;apply Exists.intro;refine⟨?_,?_,?_⟩;(go_simp;try first|with_reducible rfl|exact⟨rfl,rfl⟩);(exact fun _=>(Chg.refl _ _).alloc _);(try go_simp);refine hK _ _ ?_;clear hK K)
 (refine late_store (i:=8) (by kernel_rfl) rfl rfl fun K hK=>?_;apply Exists.intro;refine⟨?_,(fun h=>absurd h (by decide)),?_⟩;(go_simp;try first|with_reducible rfl|exact⟨rfl,rfl⟩);(try go_simp);refine hK _ _ ?_;clear hK K)
 refine late_done (by kernel_rfl) ?_ _
 obtain⟨we,hwe⟩:∃ W,W=wd.alloc (.cells #[.int .i64 t.tk.length] 3):=⟨_,rfl⟩
 have HCE:Hid (Chg (fun _=>False) w we):=jh (by rw [hwe];exact HCD.out.alloc _)
 have HQ:Hid (∀ w',Chg (fun _=>False) we w'→(w'.cell? ⟨w.heap.size,0,none⟩=some (.slice ra t.rl.length rc)∧w'.cell? ⟨w.heap.size,1,none⟩=some (.slice ka t.tk.length kc)∧w'.cell? ⟨w.heap.size,2,none⟩=some (.slice da t.dr.length dc)∧w'.cell? ⟨w.heap.size,3,none⟩=some (.slice x0 t.lx.r.length y0)∧w'.cell? ⟨w.heap.size,4,none⟩=some (.slice x1 t.lx.c.length y1)∧w'.cell? ⟨w.heap.size,5,none⟩=some (.slice x2 t.lx.n.length y2)∧w'.cell? ⟨w.heap.size,6,none⟩=some (.slice x3 t.lx.e.length y3)∧w'.cell? ⟨w.heap.size,7,none⟩=some (.slice n0 t.nt.st.length m0)∧w'.cell? ⟨w.heap.size,8,none⟩=some (.slice n1 t.nt.s.length m1)∧w'.cell? ⟨w.heap.size,9,none⟩=some (.slice n2 t.nt.p.length m2)∧w'.cell? ⟨w.heap.size,10,none⟩=some (.slice n3 t.nt.q.length m3)∧w'.cell? ⟨w.heap.size,11,none⟩=some (.slice n4 t.nt.d.length m4)∧w'.cell? ⟨w.heap.size,12,none⟩=some (.slice la t.lk.length lc))∧w'.cell? ⟨wd.heap.size,0,none⟩=some (.int .i64 t.tk.length)):=jh (fun w' hc=>⟨HQV.out w' ((HVD.out.trans (by rw [hwe];exact (Chg.refl _ _).alloc _)).trans hc),hc.cellS (by rw [hwe];exact allocNew _ _ rfl) (fun h=>h)⟩)
 have HIN:Hid (∀ w',Chg (fun _=>False) we w'→TabsIn w' S ⟨(ra,t.rl.length,rc),(ka,t.tk.length,kc),(da,t.dr.length,dc),⟨(x0,t.lx.r.length,y0),(x1,t.lx.c.length,y1),(x2,t.lx.n.length,y2),(x3,t.lx.e.length,y3)⟩,⟨(n0,t.nt.st.length,m0),(n1,t.nt.s.length,m1),(n2,t.nt.p.length,m2),(n3,t.nt.q.length,m3),(n4,t.nt.d.length,m4)⟩,(la,t.lk.length,lc)⟩ t):=jh (fun w' hc=>TabsIn.good.chg HT.out (HCE.out.trans hc) (fun _ _ h=>h))
 rw [← hwe]
 clear hwe HQV HVS HVD HCD HDS HSS
 obtain⟨bt,hbt⟩:∃ b,wd.heap.size=b:=⟨_,rfl⟩
 rw [hbt] at HQ ⊢
 clear hbt
 obtain⟨⟨q0,q1,q2,q3,q4,q5,q6,q7,q8,q9,q10,q11,q12⟩,qt⟩:=HQ.out we (Chg.refl _ _)
 by_cases c1:t.rl.length<1
 ·have d1:decide (t.rl.length<1)=true:=decide_eq_true c1
  have d1':decide ((t.rl.length:Int)<1)=true:=decide_eq_true (by omega)
  have HF:Hid (mayTabs t=false):=jh (by simp only [mayTabs,decide_eq_false (show ¬ 1≤t.rl.length by omega),Bool.false_and])
  go_wp2
  go_ret
  exact⟨by rw [HF.out];rfl,HCE.out⟩
 have d1:decide (t.rl.length<1)=false:=decide_eq_false c1
 have d1':decide ((t.rl.length:Int)<1)=false:=decide_eq_false (by omega)
 by_cases c2:64<t.rl.length
 ·have d2:decide (64<t.rl.length)=true:=decide_eq_true c2
  have d2':decide ((64:Int)<(t.rl.length:Int))=true:=decide_eq_true (by omega)
  have HF:Hid (mayTabs t=false):=jh (by simp only [mayTabs,decide_eq_false (show ¬ t.rl.length≤64 by omega),Bool.and_false,Bool.false_and])
  go_wp2
  go_ret
  exact⟨by rw [HF.out];rfl,HCE.out⟩
 have d2:decide (64<t.rl.length)=false:=decide_eq_false c2
 have d2':decide ((64:Int)<(t.rl.length:Int))=false:=decide_eq_false (by omega)
 by_cases c3:64<t.tk.length
 ·have d3:decide (64<t.tk.length)=true:=decide_eq_true c3
  have d3':decide ((64:Int)<(t.tk.length:Int))=true:=decide_eq_true (by omega)
  have HF:Hid (mayTabs t=false):=jh (by simp only [mayTabs,decide_eq_false (show ¬ t.tk.length≤64 by omega),Bool.and_false,Bool.false_and])
  go_wp2
  go_ret
  exact⟨by rw [HF.out];rfl,HCE.out⟩
 have d3:decide (64<t.tk.length)=false:=decide_eq_false c3
 have d3':decide ((64:Int)<(t.tk.length:Int))=false:=decide_eq_false (by omega)
 by_cases c4:t.dr.length=t.tk.length
 rotate_left
 ·have d4:((t.dr.length:Int) != (t.tk.length:Int))=true:=by rw [bne_iff_ne];omega
  have d4':(t.dr.length != t.tk.length)=true:=by rw [bne_iff_ne];omega
  have HF:Hid (mayTabs t=false):=jh (by simp only [mayTabs,decide_eq_false c4,Bool.and_false,Bool.false_and])
  clear c4
  go_wp2
  go_ret
  exact⟨by rw [HF.out];rfl,HCE.out⟩
 have d4:((t.dr.length:Int) != (t.tk.length:Int))=false:=by rw [bne_eq_false_iff_eq];omega
 have d4':(t.dr.length != t.tk.length)=false:=by rw [bne_eq_false_iff_eq];omega
 have HA:Hid (1≤t.rl.length∧t.rl.length≤64∧t.tk.length≤64∧t.dr.length=t.tk.length):=jh ⟨by omega,by omega,by omega,c4⟩
 have htk64:t.tk.length≤64:=by omega
 clear c1 c2 c3 c4
 have HCR0:=containsidxStr (bR.good eqR.good) 34 #[] (fun s=>!namedB s) t.rl ra rc we eg1 (ListR.bnd (ListR.of (HIN.out we (Chg.refl _ _)).rl) HFT.out.rs) (gives_named S we) (by omega)
 cases hn1:t.rl.any (fun s=>!namedB s) with
 | true =>
  have HF:Hid (mayTabs t=false):=jh (by simp only [mayTabs,hn1,Bool.not_true,Bool.and_false,Bool.false_and])
  rw [hn1] at HCR0
  have HCR:=jh HCR0
  clear HCR0 hn1
  go_wp2_with fail
  refine HCR.out.mono ?_
  rintro e w1 ⟨rfl,h1⟩
  have HC1:=jh (HCE.out.trans h1)
  clear h1 q0 q1 q2 q3 q4 q5 q6 q7 q8 q9 q10 q11 q12 qt
  go_wp2
  go_ret
  exact⟨by rw [HF.out];rfl,HC1.out⟩
 | false =>
 rw [hn1] at HCR0
 have HCR:=jh HCR0
 have HN1:=jh hn1
 clear HCR0 hn1
 go_wp2_with fail
 refine HCR.out.mono ?_
 rintro e w1 ⟨rfl,h1⟩
 have HE1:=jh h1
 clear h1 HCR d1 d1' d2 d2' d3 d3' d4 d4' q0 q1 q2 q3 q4 q5 q6 q7 q8 q9 q10 q11 q12 qt
 obtain⟨⟨q0,q1,q2,q3,q4,q5,q6,q7,q8,q9,q10,q11,q12⟩,qt⟩:=HQ.out w1 HE1.out
 have HCR0:=containsidxStr (bR.good eqR.good) 34 #[] (fun s=>!namedB s) t.tk ka kc w1 eg1 (ListR.bnd (ListR.of (HIN.out w1 HE1.out).tk) HFT.out.ts) (gives_named S w1) (by omega)
 cases hn2:t.tk.any (fun s=>!namedB s) with
 | true =>
  have HF:Hid (mayTabs t=false):=jh (by simp only [mayTabs,hn2,Bool.not_true,Bool.and_false,Bool.false_and])
  rw [hn2] at HCR0
  have HCR:=jh HCR0
  clear HCR0 hn2
  go_wp2_with fail
  refine HCR.out.mono ?_
  rintro e w2 ⟨rfl,h2⟩
  have HC1:=jh (HCE.out.trans (HE1.out.trans h2))
  clear h2 q0 q1 q2 q3 q4 q5 q6 q7 q8 q9 q10 q11 q12 qt
  go_wp2
  go_ret
  exact⟨by rw [HF.out];rfl,HC1.out⟩
 | false =>
 rw [hn2] at HCR0
 have HCR:=jh HCR0
 have HN2:=jh hn2
 clear HCR0 hn2
 go_wp2_with fail
 refine HCR.out.mono ?_
 rintro e w2 ⟨rfl,h2⟩
 have HE2:=jh (HE1.out.trans h2)
 clear h2 HCR HE1 q0 q1 q2 q3 q4 q5 q6 q7 q8 q9 q10 q11 q12 qt
 obtain⟨⟨q0,q1,q2,q3,q4,q5,q6,q7,q8,q9,q10,q11,q12⟩,qt⟩:=HQ.out w2 HE2.out
 have HLX0:=lexerMay_any t.lx ⟨(x0,t.lx.r.length,y0),(x1,t.lx.c.length,y1),(x2,t.lx.n.length,y2),(x3,t.lx.e.length,y3)⟩ t.tk.length S w2 (HIN.out w2 HE2.out).lx HFT.out.lx
 cases hlx:lexerB t.lx t.tk.length with
 | false =>
  have HF:Hid (mayTabs t=false):=jh (by simp only [mayTabs,hlx,Bool.and_false,Bool.false_and])
  rw [hlx] at HLX0
  have HLX:=jh HLX0
  clear HLX0 hlx
  go_wp2_with fail
  refine HLX.out.mono ?_
  rintro e w3 ⟨rfl,h3⟩
  have HC1:=jh (HCE.out.trans (HE2.out.trans h3))
  clear h3 q0 q1 q2 q3 q4 q5 q6 q7 q8 q9 q10 q11 q12 qt
  go_wp2
  go_ret
  exact⟨by rw [HF.out];rfl,HC1.out⟩
 | true =>
 rw [hlx] at HLX0
 have HLX:=jh HLX0
 have HLB:=jh hlx
 clear HLX0 hlx
 go_wp2_with fail
 refine HLX.out.mono ?_
 rintro e w3 ⟨rfl,h3⟩
 have HE3:=jh (HE2.out.trans h3)
 clear h3 HLX HE2 q0 q1 q2 q3 q4 q5 q6 q7 q8 q9 q10 q11 q12 qt
 obtain⟨⟨q0,q1,q2,q3,q4,q5,q6,q7,q8,q9,q10,q11,q12⟩,qt⟩:=HQ.out w3 HE3.out
 have HNT0:=netMay_any t.nt ⟨(n0,t.nt.st.length,m0),(n1,t.nt.s.length,m1),(n2,t.nt.p.length,m2),(n3,t.nt.q.length,m3),(n4,t.nt.d.length,m4)⟩ S w3 (HIN.out w3 HE3.out).nt HFT.out.nt
 cases hnt:mayNet t.nt with
 | false =>
  have HF:Hid (mayTabs t=false):=jh (by simp only [mayTabs,hnt,Bool.and_false,Bool.false_and])
  rw [hnt] at HNT0
  have HNT:=jh HNT0
  clear HNT0 hnt
  go_wp2_with fail
  refine HNT.out.mono ?_
  rintro e w4 ⟨rfl,h4⟩
  have HC1:=jh (HCE.out.trans (HE3.out.trans h4))
  clear h4 q0 q1 q2 q3 q4 q5 q6 q7 q8 q9 q10 q11 q12 qt
  go_wp2
  go_ret
  exact⟨by rw [HF.out];rfl,HC1.out⟩
 | true =>
 rw [hnt] at HNT0
 have HNT:=jh HNT0
 have HNB:=jh hnt
 clear HNT0 hnt
 go_wp2_with fail
 refine HNT.out.mono ?_
 rintro e w4 ⟨rfl,h4⟩
 have HE4:=jh (HE3.out.trans h4)
 clear h4 HNT HE3 q0 q1 q2 q3 q4 q5 q6 q7 q8 q9 q10 q11 q12 qt
 obtain⟨⟨q0,q1,q2,q3,q4,q5,q6,q7,q8,q9,q10,q11,q12⟩,qt⟩:=HQ.out w4 HE4.out
 have HC4:Hid (Chg (fun _=>False) w w4):=jh (HCE.out.trans HE4.out)
 by_cases c5:t.nt.s.length=t.rl.length
 rotate_left
 ·have d5:((t.nt.s.length:Int) != (t.rl.length:Int))=true:=by rw [bne_iff_ne];omega
  have d5':(t.nt.s.length != t.rl.length)=true:=by rw [bne_iff_ne];omega
  have HF:Hid (mayTabs t=false):=jh (by simp only [mayTabs,decide_eq_false c5,Bool.and_false,Bool.false_and])
  clear c5
  go_wp2
  go_ret
  exact⟨by rw [HF.out];rfl,HC4.out⟩
 have d5:((t.nt.s.length:Int) != (t.rl.length:Int))=false:=by rw [bne_eq_false_iff_eq];omega
 have d5':(t.nt.s.length != t.rl.length)=false:=by rw [bne_eq_false_iff_eq];omega
 have H5:=jh c5
 clear c5
 by_cases c6:65536<t.nt.st.length
 ·have d6:decide (65536<t.nt.st.length)=true:=decide_eq_true c6
  have d6':decide ((65536:Int)<(t.nt.st.length:Int))=true:=decide_eq_true (by omega)
  have HF:Hid (mayTabs t=false):=jh (by simp only [mayTabs,decide_eq_false (show ¬ t.nt.st.length≤65536 by omega),Bool.and_false,Bool.false_and])
  go_wp2
  go_ret
  exact⟨by rw [HF.out];rfl,HC4.out⟩
 have d6:decide (65536<t.nt.st.length)=false:=decide_eq_false c6
 have d6':decide ((65536:Int)<(t.nt.st.length:Int))=false:=decide_eq_false (by omega)
 by_cases c7:t.lk.length=t.nt.d.length
 rotate_left
 ·have d7:((t.lk.length:Int) != (t.nt.d.length:Int))=true:=by rw [bne_iff_ne];omega
  have d7':(t.lk.length != t.nt.d.length)=true:=by rw [bne_iff_ne];omega
  have HF:Hid (mayTabs t=false):=jh (by simp only [mayTabs,decide_eq_false c7,Bool.and_false,Bool.false_and])
  clear c7
  go_wp2
  go_ret
  exact⟨by rw [HF.out];rfl,HC4.out⟩
 have d7:((t.lk.length:Int) != (t.nt.d.length:Int))=false:=by rw [bne_eq_false_iff_eq];omega
 have d7':(t.lk.length != t.nt.d.length)=false:=by rw [bne_eq_false_iff_eq];omega
 have H7:Hid (t.lk.length=t.nt.d.length∧t.nt.st.length≤65536):=jh ⟨c7,by omega⟩
 clear c6 c7
 have HDS:Hid (decsOf t.nt.st=t.nt.d):=jh (by
  have h:=HNB.out
  simp only [mayNet,Bool.and_eq_true,decide_eq_true_eq] at h
  exact h.2)
 have HMB:Hid (mayTabs t=(looksOk t && !t.nt.st.any (fun s=>s.2.1.any (tokBad t.tk.length)))):=jh (by
  simp only [mayTabs,HN1.out,HN2.out,HLB.out,HNB.out,decide_eq_true HA.out.1,decide_eq_true HA.out.2.1,decide_eq_true HA.out.2.2.1,decide_eq_true HA.out.2.2.2,decide_eq_true H5.out,decide_eq_true H7.out.1,decide_eq_true H7.out.2,Bool.not_false,Bool.true_and])
 go_wp2
 clear d5 d5' d6 d6' d7 d7' q0 q1 q2 q3 q4 q5 q6 q7 q8 q9 q10 q11 q12 qt
 go_loopw [69] (fun q wr=>∃ i:Nat,i≤t.nt.d.length∧q=.int .i64 i∧(∀ j,j<i→mayAuto (t.lk.getD j []) ((t.nt.st.getD (t.nt.d.getD j 0).toNat (0,[],[])).2.2.length:Nat) t.tk.length=true)∧Chg (fun _=>False) we wr) (fun q _=>t.nt.d.length-(intOf q).toNat)
 case atStart=>exact⟨0,by omega,rfl,fun j h=>absurd h (Nat.not_lt_zero _),HE4.out⟩
 case round =>
  clear HC4 HE4
  obtain⟨i,hi,rfl,hb,hc⟩:=hrel
  have HB:=jh hb
  have HC:=jh hc
  have HCW:Hid (Chg (fun _=>False) w wr):=jh (HCE.out.trans hc)
  have HTW:=jh (HIN.out wr hc)
  clear hb hc
  by_cases hil:i<t.nt.d.length
  ·have b9:decide ((i:Int)<(t.nt.d.length:Int))=true:=by simp;omega
   have hib:i<1000000000:=by omega
   obtain⟨x,gd,od,hx,rfl,cd,-,-,-,-⟩:=HTW.out.nt.d.getI hil
   obtain⟨j,hj,hjl⟩:=decsFrom_spec t.nt.st 0 x (by rw [show decsFrom 0 t.nt.st=t.nt.d from HDS.out];exact List.mem_of_getElem? hx)
   rw [Nat.zero_add] at hj
   subst hj
   have hjb:j<1000000000:=by omega
   obtain⟨xs,⟨sr,sa,se⟩,gs,os,hs,hsr,hga,-,-,-,hcells⟩:=HTW.out.nt.st.get3 (f:=encSt) rfl hjl rfl
   obtain⟨xr,⟨aa,an,ac⟩,⟨ea,en,ec⟩⟩:=xs
   obtain⟨-,-,-,hse⟩:=hsr
   simp only at hse
   obtain⟨rfl,-⟩:=hse.len
   obtain⟨-,-,ce⟩:=hcells _ _ _ rfl
   unfold slV at ce
   simp only at ce
   have hga:=hga.symm
   subst hga
   have hlk:i<t.lk.length:=by have:=H7.out.1;omega
   obtain⟨⟨ua,un,uc⟩,A,gl,ol,hA,hAR,hgl,-,-,cl⟩:=HTW.out.lk.get1 (f:=slV) rfl hlk (fun _=>rfl)
   have hgl:=hgl.symm
   subst hgl
   obtain⟨rfl,-⟩:=ListR.len hAR
   unfold slV at cl
   simp only at cl
   have HARR:=jh hAR
   have HAB:=jh (HFT.out.la A (List.mem_of_getElem? hA))
   have hseb:se.length≤1000000000:=(HFT.out.nt.e _ (List.mem_of_getElem? hs)).2
   have HME:Hid (mayAuto (t.lk.getD i []) ((t.nt.st.getD (t.nt.d.getD i 0).toNat (0,[],[])).2.2.length:Nat) t.tk.length=mayAuto A se.length t.tk.length):=jh (by
    rw [List.getD_eq_getElem?_getD,hA,List.getD_eq_getElem?_getD,List.getD_eq_getElem?_getD,hx]
    simp only [Option.getD_some,Int.toNat_natCast]
    rw [hs]
    rfl)
   clear hx hs hAR hA hse hcells
   go_upto_region 21 with (fail)
   obtain⟨wd2,hwd⟩:∃ W,wr.drew=W:=⟨_,rfl⟩
   have HDD:Hid (Chg (fun _=>False) wr wd2):=jh (by rw [← hwd];exact (Chg.refl _ _).drew)
   have HPM:Hid (∀ w',Chg (fun _=>False) wd2 w'→Calls Tryz.prog 39 #[.agg #[.slice ua A.length uc],.int .i64 se.length,.int .i64 t.tk.length] w' fun e w''=>e=.returned (.bool (mayAuto A se.length t.tk.length))∧Chg (fun _=>False) w' w''):=jh (fun w' hc=>prunesMay_any A ua uc se.length t.tk.length S w' (autoR.good.chg HARR.out (HDD.out.trans hc) (fun _ _ h=>h)) HAB.out.1 HAB.out.2 hseb (by omega))
   obtain⟨b,hb⟩:∃ b,mayAuto A se.length t.tk.length=b:=⟨_,rfl⟩
   rw [hb] at HPM HME
   clear hb
   have HCEL:Hid (∀ w',Chg (fun _=>False) wd2 w'→w'.cell? ⟨w.heap.size,12,none⟩=some (.slice (some ⟨gl,ol,none⟩) t.lk.length lc)∧w'.cell? ⟨gl,ol+i,none⟩=some (.slice ua A.length uc)∧w'.cell? ⟨w.heap.size,7,none⟩=some (.slice (some ⟨gs,os,none⟩) t.nt.st.length m0)∧w'.cell? ⟨gs,os+j * 3+2,none⟩=some (.slice ea se.length ec)∧w'.cell? ⟨bt,0,none⟩=some (.int .i64 t.tk.length)):=jh (fun w' hc=>by
    have hd:=HDD.out.trans hc
    obtain⟨⟨-,-,-,-,-,-,-,q7,-,-,-,-,q12⟩,qt⟩:=HQ.out wr HC.out
    exact⟨hd.cellS q12 (fun h=>h),hd.cellS cl (fun h=>h),hd.cellS q7 (fun h=>h),hd.cellS ce (fun h=>h),hd.cellS qt (fun h=>h)⟩)
   clear cl ce cd
   refine wp_region_same (fun x=>Chg (fun _=>False) wd2 x) (by kernel_rfl) (by kernel_rfl) ?_ ?_
   ·rw [hwd];exact Chg.refl _ _
   (refine rdC fun K hK=>?_;apply ei;intro _ w' _ hC;(go_simp;try with_reducible rfl);(try go_simp);refine hK _ ?_;clear hK K)
   (refine rdC fun K hK=>?_;apply ei;intro _ w' _ hC;((obtain⟨s0,s1,s2,s3,s4⟩:=HCEL.out w' hC);go_simp;try with_reducible rfl);(try go_simp);refine hK _ ?_;clear hK K)
   (refine rdC fun K hK=>?_;apply ei;intro _ w' _ hC;(go_simp;try with_reducible rfl);(try go_simp);refine hK _ ?_;clear hK K)
   (refine rdC fun K hK=>?_;apply ei;intro _ w' _ hC;(go_simp;try with_reducible rfl);(try go_simp);refine hK _ ?_;clear hK K)
   (refine rdC fun K hK=>?_;apply ei;intro _ w' _ hC;((obtain⟨s0,s1,s2,s3,s4⟩:=HCEL.out w' hC);go_simp;try with_reducible rfl);(try go_simp);refine hK _ ?_;clear hK K)
   (refine rdC fun K hK=>?_;apply ei;intro _ w' _ hC;(go_simp;try with_reducible rfl);(try go_simp);refine hK _ ?_;clear hK K)
   (refine rdC fun K hK=>?_;apply ei;intro _ w' _ hC;(go_simp;try with_reducible rfl);(try go_simp);refine hK _ ?_;clear hK K)
   (refine rdC fun K hK=>?_;apply ei;intro _ w' _ hC;((obtain⟨s0,s1,s2,s3,s4⟩:=HCEL.out w' hC);go_simp;try with_reducible rfl);(try go_simp);refine hK _ ?_;clear hK K)
   (refine rdC fun K hK=>?_;apply ei;intro _ w' _ hC;(go_simp;try with_reducible rfl);(try go_simp);refine hK _ ?_;clear hK K)
   (refine rdC fun K hK=>?_;apply ei;intro _ w' _ hC;(go_simp;try with_reducible rfl);(try go_simp);refine hK _ ?_;clear hK K)
   (refine rdC fun K hK=>?_;apply ei;intro _ w' _ hC;(go_simp;try with_reducible rfl);(try go_simp);refine hK _ ?_;clear hK K)
   (refine rdC fun K hK=>?_;apply ei;intro _ w' _ hC;((obtain⟨s0,s1,s2,s3,s4⟩:=HCEL.out w' hC);go_simp;try with_reducible rfl);(try go_simp);refine hK _ ?_;clear hK K)
   (refine rdC fun K hK=>?_;apply ei;intro _ w' _ hC;(go_simp;try with_reducible rfl);(try go_simp);refine hK _ ?_;clear hK K)
   (refine rdC fun K hK=>?_;apply ei;intro _ w' _ hC;((obtain⟨s0,s1,s2,s3,s4⟩:=HCEL.out w' hC);go_simp;try with_reducible rfl);(try go_simp);refine hK _ ?_;clear hK K)
   refine wpC_call rfl (Value.bool b )  39  ( #[.agg #[.slice ua A.length uc],.int .i64 se.length,.int .i64 t.tk.length]) (fun w'=>by go_simp) (fun _ w' _ hC=>?_) (fun K hK=>?_)
   ·refine (HPM.out w' hC).mono ?_
    rintro e w'' ⟨rfl,h⟩
    exact⟨rfl,hC.trans h⟩
   ((try go_simp);refine hK _ ?_;clear hK K)
   (refine rdC fun K hK=>?_;apply ei;intro _ w' _ hC;(go_simp;try with_reducible rfl);(try go_simp);refine hK _ ?_;clear hK K)
   refine wpC_nil ?_
   intro w6 hc6
   have HC6:=jh (HC.out.trans (HDD.out.trans hc6))
   have HCW6:=jh (HCE.out.trans HC6.out)
   clear hc6 HPM HCEL hwd
   cases b with
   | false =>
    have HF:Hid (mayTabs t=false):=jh (by
     have:looksOk t=false:=by
      rw [looksOk,List.all_eq_false]
      exact⟨i,List.mem_range.2 hil,by rw [HME.out];exact Bool.false_ne_true⟩
     rw [HMB.out,this,Bool.false_and])
    go_wp2
    go_ret
    exact⟨by rw [HF.out];rfl,HCW6.out⟩
   | true =>
    have HB2:Hid (∀ j,j<i+1→mayAuto (t.lk.getD j []) ((t.nt.st.getD (t.nt.d.getD j 0).toNat (0,[],[])).2.2.length:Nat) t.tk.length=true):=jh (fun j' hj'=>by
     by_cases hji:j'=i
     ·subst hji;exact HME.out
     ·exact HB.out j' (by omega))
    go_wp2
    go_roundw
    case rel=>exact⟨i+1,by omega,by go_num,HB2.out,HC6.out⟩
    case measure=>simp [intOf];omega
  ·obtain rfl:i=t.nt.d.length:=by omega
   have b9:decide ((t.nt.d.length:Int)<(t.nt.d.length:Int))=false:=by simp
   have HLK:Hid (looksOk t=true):=jh (by
    rw [looksOk,List.all_eq_true]
    intro i hi
    exact HB.out i (List.mem_range.1 hi))
   have HMC:Hid (mayTabs t=!t.nt.st.any (fun s=>s.2.1.any (tokBad t.tk.length))):=jh (by rw [HMB.out,HLK.out,Bool.true_and])
   obtain⟨⟨-,-,-,-,-,-,-,q7,-,-,-,-,-⟩,qt⟩:=HQ.out wr HC.out
   have HCT:=jh (containsidxSt (bR.good stR.good) 41 #[.pointer (some ⟨bt,0,none⟩)] (fun s=>s.2.1.any (tokBad t.tk.length)) t.nt.st n0 m0 wr eg2 (ListR.bnd HTW.out.nt.st HFT.out.nt.e) (gives_toks bt t.tk.length S wr qt) f_st)
   obtain⟨b,hb⟩:∃ b,t.nt.st.any (fun s=>s.2.1.any (tokBad t.tk.length))=b:=⟨_,rfl⟩
   rw [hb] at HCT HMC
   clear hb qt
   go_wp2_with fail
   refine HCT.out.mono ?_
   rintro e w6 ⟨rfl,hc6⟩
   have HC6:=jh (HCW.out.trans hc6)
   clear hc6
   go_wp2
   go_ret
   exact⟨by rw [HMC.out];rfl,HC6.out⟩
end Go.Proofs.YtgnpmceimpjheaaGreat
namespace Go.Proofs.YtgnpmceimpjheaaGreat
open Go.RowKit
section
variable {β δ:Type} {E:Elt β} {R:Rp β δ}
structure Mk (E:Elt β) (R:Rp β δ) (bx bo off:Nat) (w:World) (v:Value) (acc:List δ):Prop where
 c:w.cell? ⟨bo,off,none⟩=some v
 z:w.frozen? ⟨bo,off,none⟩=false
 ex:∃ X,E.Own w (bo+1) v X∧X.length=acc.length∧∀ (j:Nat) x d,X[j]?=some x→acc[j]?=some d→R w (fun k=>(k≠bo∧k≠bx)∧v.ownBlock≠some k) x d
theorem Mk.lt {bx bo off:Nat} {w:World} {v:Value} {acc:List δ} (h:Mk E R bx bo off w v acc):bo<w.heap.size:=World.block_lt_of_cell? _ _ h.c
theorem Mk.chg (hR:Good R) {bx bo off:Nat} {S:Nat→Prop} {w w':World} {v:Value} {acc:List δ} (h:Mk E R bx bo off w v acc) (hc:Chg S w w') (hs:∀ k,S k→w.heap.size≤k):Mk E R bx bo off w' v acc:=by
 have hc':Chg (fun _=>False) w w':=hc.mono (fun k hk e=>by have:=hs k e;omega)
 obtain⟨X,h1,h2,h3⟩:=h.ex
 exact⟨hc'.cellS h.c (fun h=>h),(hc'.frozen (p:=⟨bo,off,none⟩) h.lt (fun h=>h)).trans h.z,X,h1.chg hc' (fun _ _ _ h=>h),h2,fun j x d hx hd=>hR.chg (h3 j x d hx hd) hc' (fun _ _ h=>h)⟩
theorem Mk.step (hR:Good R) {bx bo off:Nat} {w wa wb:World} {v v':Value} {acc:List δ} {X:List β} {y:β} {d:δ} (h:Mk E R bx bo off w v acc) (hX:X.length=acc.length) (hrel:∀ (j:Nat) x d,X[j]?=some x→acc[j]?=some d→R w (fun k=>(k≠bo∧k≠bx)∧v.ownBlock≠some k) x d)
  (hob:∀ k,v.ownBlock=some k→bo<k∧k<w.heap.size) (ha:Chg (fun _=>False) w wa) (hy:R wa (fun k=>(k≠bo∧k≠bx)∧v.ownBlock≠some k) y d) (ho:E.Own wb (bo+1) v' (X++[y])) (hb:Chg (fun k=>v.ownBlock=some k) wa wb) (hv:v'.ownBlock=v.ownBlock∨v'.ownBlock=some wa.heap.size) :
  (wb.cell? ⟨bo,off,none⟩=some v∧wb.frozen? ⟨bo,off,none⟩=false)∧Mk E R bx bo off (wb.setCell ⟨bo,off,none⟩ v') v' (acc++[d])∧Chg (fun k=>k=bo∨v.ownBlock=some k) w (wb.setCell ⟨bo,off,none⟩ v') ∧
   ∀ j u,j≠off→w.cell? ⟨bo,j,none⟩=some u→(wb.setCell ⟨bo,off,none⟩ v').cell? ⟨bo,j,none⟩=some u:=by
 have hlt:=h.lt
 have hsa:=ha.size
 have nob:¬ v.ownBlock=some bo:=fun e=>by have:=(hob bo e).1;omega
 have hab:Chg (fun k=>v.ownBlock=some k) w wb:=ha.any.trans (hb.mono (fun _ _ e=>e))
 have cb:=hab.cellS h.c nob
 have zb:=(hab.frozen (p:=⟨bo,off,none⟩) hlt nob).trans h.z
 obtain⟨w',hw'⟩:∃ W,W=wb.setCell ⟨bo,off,none⟩ v':=⟨_,rfl⟩
 have hs:Chg (·=bo) wb w':=by rw [hw'];exact setCellChg wb bo off v'
 have nv:∀ g,v'.ownBlock=some g→¬ g=bo:=fun g hg e=>by
  rcases hv with hv|hv
  ·rw [hv] at hg;have:=(hob g hg).1;omega
  ·rw [hv] at hg;have:=Option.some.inj hg;omega
 have hab2:Chg (fun k=>v.ownBlock=some k∨k=bo) wa w':=(hb.mono (fun _ _ e=>.inl e)).trans (hs.mono (fun _ _ e=>.inr e))
 have key:∀ {x:β} {d:δ},R wa (fun k=>(k≠bo∧k≠bx)∧v.ownBlock≠some k) x d→R w' (fun k=>(k≠bo∧k≠bx)∧v'.ownBlock≠some k) x d:=fun hx=>by
  have r1:=hR.mono hx (S':=fun k=>((k≠bo∧k≠bx)∧v.ownBlock≠some k)∧k<wa.heap.size) (fun g hg hs=>⟨hs,hg⟩)
  have r2:=hR.chg r1 hab2 (fun g hg e=>e.elim hg.1.2 hg.1.1.1)
  refine hR.mono r2 (fun g _ hg=>⟨hg.1.1,fun e=>?_⟩)
  rcases hv with hv|hv
  ·rw [hv] at e;exact hg.1.2 e
  ·rw [hv] at e;have:=Option.some.inj e;omega
 rw [← hw']
 refine⟨⟨cb,zb⟩,⟨by rw [hw'];exact World.cell?_setCell_same _ _ _ cb,by rw [hw'];exact (World.frozen?_setCell _ _ _ _).trans zb,X++[y],ho.chgB hs (fun g hg e=>nv g hg e),by simp [hX],fun j x d' hx hd=>?_⟩,(hab.mono (fun _ _ e=>.inr e)).trans (hs.mono (fun _ _ e=>.inl e)),fun j u hj hu=>by
  rw [hw',World.cell?_setCell_other _ _ _ _ (by intro e;injection e with _ e;exact hj e.symm)]
  exact hab.cellS hu nob⟩
 rw [List.getElem?_append] at hx hd
 by_cases hj:j<X.length
 ·rw [if_pos hj] at hx
  rw [if_pos (by omega)] at hd
  exact key (hR.chg (hrel j x d' hx hd) ha (fun _ _ h=>h))
 ·rw [if_neg hj] at hx
  rw [if_neg (by omega)] at hd
  have hj0:j-X.length=0:=by
   have:=(List.getElem?_eq_some_iff.1 hx).1
   simp at this;omega
  rw [hj0] at hx
  rw [show j-acc.length=0 by omega] at hd
  simp at hx hd
  subst hx hd
  exact key hy
theorem Mk.own {bx bo off:Nat} {w:World} {v:Value} {acc:List δ} (h:Mk E R bx bo off w v acc):∃ a n c,v=.slice a n c:=by
 obtain⟨X,h1,-⟩:=h.ex
 exact h1.shape3
theorem Mk.list {bx bo off:Nat} {w:World} {a:Option Addr} {n c:Nat} {acc:List δ} (h:Mk E R bx bo off w (.slice a n c) acc) (hR:Good R) (hbx:bx≤bo):n=acc.length∧ListR E R w (fun k=>k≠bo∧k≠bx) (a,n,c) acc:=by
 obtain⟨X,h1,h2,h3⟩:=h.ex
 obtain⟨a',g,c',e1,e2,e3,e4⟩:=h1.at'
 injection e1 with e1 e5 e6
 subst e1 e5 e6
 refine⟨h2,X,⟨rfl,e2,g,0,e3,fun hp=>⟨(e4 hp).1,by have:=(e4 hp).2;omega,by have:=(e4 hp).2;omega⟩⟩,h2,fun j x d hx hd=>hR.mono (h3 j x d hx hd) (fun k _ hk=>hk.1)⟩
end
section
variable {P:Program} {ops:Array Oper} {Q:Exit→Act→World→Prop} {md:Region.Mode} {S:World→Prop} {late:Nat→Bool}
theorem late_call_or {i j:Nat} {oi oj:Oper} {fuel:Nat} {listed:Array Bool} {a:Act} {w:World} (hr:Region.ready md ops listed=[i,j]) (hi:ops[i]?=some oi) (hj:ops[j]?=some oj)
  (hwi:Region.wanted oi (yielded ops a.tmps)=true) (hwj:Region.wanted oj (yielded ops a.tmps)=true) (f:FuncId) (args:Array Value) (R:Value→World→Prop) (hrun:(execOp a.eval oi).run P w=.ok (.enter f args) w)
  (hcall:Calls P f args w (fun e w''=>∃ v,e=.returned v∧(late i=false→S w'')∧R v w''))
  (h:∀ v w'',(late i=false→S w'')→R v w''→∀ K:Act→Prop,(∀ a,wpAnyL P md ops Q S late fuel (listed.setIfInBounds i true) a w''→K a)→K (a.put oi.dst v))
  (hturn:∀ K:Act→World→Prop,(∀ a w,wpAnyL P md ops Q S late fuel (listed.setIfInBounds j true) a w→K a w)→∃ v w'',(execOp a.eval oj).run P w=.ok (.value v) w''∧(late j=false→S w'')∧K (a.put oj.dst v) w'') :
  wpAnyL P md ops Q S late (fuel+1) listed a w:=by
 refine⟨fun h0=>(by rw [hr] at h0;cases h0),fun k hk=>?_⟩
 rw [hr,List.mem_cons,List.mem_singleton] at hk
 rcases hk with rfl|rfl
 ·unfold Go.wpOp
  simp only [hi,hwi,if_true,Oper.wp,hrun,Oper.upon]
  refine .inl (hcall.mono fun e w'' ⟨v,he,hS,hR⟩=>?_)
  subst he
  exact⟨hS,h v w'' hS hR _ (fun _ h=>h)⟩
 ·obtain⟨v,w'',hx,hS,hK⟩:=hturn _ (fun _ _ h=>h)
  unfold Go.wpOp
  simp only [hj,hwj,if_true,Oper.wp,hx,Oper.upon]
  exact .inl ⟨hS,hK⟩
theorem late_append_or {i j:Nat} {oi oj:Oper} {fuel:Nat} {listed:Array Bool} {a:Act} {w:World} (hr:Region.ready md ops listed=[i,j]) (hi:ops[i]?=some oi) (hj:ops[j]?=some oj)
  (hwi:Region.wanted oi (yielded ops a.tmps)=true) (hwj:Region.wanted oj (yielded ops a.tmps)=true) (s x:Operand) (tl tx:TypeId) (ho:oi.op=.call { callee:=.builtin .append,args:=#[s,x],argTypes:=#[tl,tx] }) (v u:Value) (hv:a.eval s=v) (hu:a.eval x=u)
  (R:Value→World→Prop) (hrun:∃ v' w'',(Builtin.append_ #[tl,tx] oi.type #[v,u]).run P w=.ok v' w''∧(late i=false→S w'')∧R v' w'')
  (h:∀ v' w'',(late i=false→S w'')→R v' w''→∀ K:Act→Prop,(∀ a,wpAnyL P md ops Q S late fuel (listed.setIfInBounds i true) a w''→K a)→K (a.put oi.dst v'))
  (hturn:∀ K:Act→World→Prop,(∀ a w,wpAnyL P md ops Q S late fuel (listed.setIfInBounds j true) a w→K a w)→∃ v w'',(execOp a.eval oj).run P w=.ok (.value v) w''∧(late j=false→S w'')∧K (a.put oj.dst v) w'') :
  wpAnyL P md ops Q S late (fuel+1) listed a w:=by
 obtain⟨v',w'',hrun,hS,hR⟩:=hrun
 have hx:(execOp a.eval oi).run P w=.ok (.value v') w'':=by
  simp [execOp,ho,resolve,invoke,builtin,hv,hu,hrun,Result.andThen]
 refine⟨fun h0=>(by rw [hr] at h0;cases h0),fun k hk=>?_⟩
 rw [hr,List.mem_cons,List.mem_singleton] at hk
 rcases hk with rfl|rfl
 ·unfold Go.wpOp
  simp only [hi,hwi,if_true,Oper.wp,hx,Oper.upon]
  exact .inl ⟨hS,h v' w'' hS hR _ (fun _ h=>h)⟩
 ·obtain⟨v,w'',hx,hS,hK⟩:=hturn _ (fun _ _ h=>h)
  unfold Go.wpOp
  simp only [hj,hwj,if_true,Oper.wp,hx,Oper.upon]
  exact .inl ⟨hS,hK⟩
end
theorem otherLex_any (a0 a1 a2 a3:Option Addr) (n0 n1 n2 n3 c0 c1 c2 c3:Nat) (w:World):Calls Tryz.prog 22 #[.agg #[.slice a0 n0 c0,.slice a1 n1 c1,.slice a2 n2 c2,.slice a3 n3 c3]] w fun e w'=>e=.returned (.agg #[.slice a0 n0 c0,.slice a1 n1 c1,.slice a2 n2 c2,.slice a3 n3 c3])∧Chg (fun _=>False) w w':=by
 obtain⟨w0,hw0⟩:∃ W,W=(w.alloc (.cells #[.slice a0 n0 c0,.slice a1 n1 c1,.slice a2 n2 c2,.slice a3 n3 c3] 28)).alloc (.cells #[.slice none 0 0,.slice none 0 0,.slice none 0 0,.slice none 0 0] 37):=⟨_,rfl⟩
 have HC0:Hid (Chg (fun _=>False) w w0):=jh (by rw [hw0];exact ((Chg.refl _ w).alloc _).alloc _)
 have d0:w0.cell? ⟨w.heap.size,0,none⟩=some (.slice a0 n0 c0):=by rw [hw0];exact allocOld _ (allocAt _ rfl rfl)
 have d1:w0.cell? ⟨w.heap.size,1,none⟩=some (.slice a1 n1 c1):=by rw [hw0];exact allocOld _ (allocAt _ rfl rfl)
 have d2:w0.cell? ⟨w.heap.size,2,none⟩=some (.slice a2 n2 c2):=by rw [hw0];exact allocOld _ (allocAt _ rfl rfl)
 have d3:w0.cell? ⟨w.heap.size,3,none⟩=some (.slice a3 n3 c3):=by rw [hw0];exact allocOld _ (allocAt _ rfl rfl)
 obtain⟨b,hb⟩:∃ b,b=w.heap.size+1:=⟨_,rfl⟩
 have e0:w0.cell? ⟨b,0,none⟩=some (.slice none 0 0):=by rw [hw0,hb];exact allocAt _ (by simp) rfl
 have e1:w0.cell? ⟨b,1,none⟩=some (.slice none 0 0):=by rw [hw0,hb];exact allocAt _ (by simp) rfl
 have e2:w0.cell? ⟨b,2,none⟩=some (.slice none 0 0):=by rw [hw0,hb];exact allocAt _ (by simp) rfl
 have e3:w0.cell? ⟨b,3,none⟩=some (.slice none 0 0):=by rw [hw0,hb];exact allocAt _ (by simp) rfl
 have hz:∀ j,w0.frozen? ⟨b,j,none⟩=false:=fun j=>by
  have e:b=(w.alloc (.cells #[.slice a0 n0 c0,.slice a1 n1 c1,.slice a2 n2 c2,.slice a3 n3 c3] 28)).heap.size:=by rw [hb];simp
  rw [hw0,e]
  exact World.frozen?_alloc_new _ _ _ _
 have z0:=hz 0
 have z1:=hz 1
 have z2:=hz 2
 have z3:=hz 3
 obtain⟨w1,hw1⟩:∃ W,W=setAll b 0 [.slice a0 n0 c0,.slice a1 n1 c1,.slice a2 n2 c2,.slice a3 n3 c3] w0:=⟨_,rfl⟩
 obtain⟨k1,-,k3,-⟩:=setAll_spec b [.slice a0 n0 c0,.slice a1 n1 c1,.slice a2 n2 c2,.slice a3 n3 c3] 0 w0 (fun j hj=>by
  simp only [List.length_cons,List.length_nil] at hj
  rcases (by omega:j=0∨j=1∨j=2∨j=3) with rfl|rfl|rfl|rfl
  ·rw [e0];rfl
  ·rw [e1];rfl
  ·rw [e2];rfl
  ·rw [e3];rfl)
 rw [← hw1] at k1 k3
 have HF:Hid (Chg (fun _=>False) w w1):=jh (HC0.out.trans2 k3 (fun k hk e=>by omega))
 have s0:=k1 0 _ rfl
 have s1:=k1 1 _ rfl
 have s2:=k1 2 _ rfl
 have s3:=k1 3 _ rfl
 simp only [Nat.zero_add] at s0 s1 s2 s3
 simp only [setAll,Nat.zero_add,Nat.reduceAdd] at hw1
 have HW1:=jh hw1
 clear hz hw1 k1 k3
 go_enter Tryz.func22,Tryz.ntmps22
 go_upto_region 1 with (fail)
 rw [← hw0,← hb]
 clear hw0 hb
 go_wp2
 rw [← HW1.out]
 exact bodyPost_ret (v:=.agg #[.slice a0 n0 c0,.slice a1 n1 c1,.slice a2 n2 c2,.slice a3 n3 c3]) (by simp [results,Tryz.results22,go_sem,s0,s1,s2,s3]) rfl ⟨rfl,HF.out⟩
end Go.Proofs.YtgnpmceimpjheaaGreat
