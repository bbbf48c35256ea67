/- A part of the proof: RowsB CountM RowsC RowsF RowsM Late Ints. -/
import Derived.Test.YtgnpmceimpjheaaGreatGT1
import Derived.Maps.RangeWalk
import Derived.Maps.OwnOps
import Derived.OrdersHeld
set_option maxRecDepth 100000
set_option maxHeartbeats 16000000
namespace Go.Proofs.YtgnpmceimpjheaaGreat
open Go.RowKit
theorem pairOf {x:Int × Int} {u v:Value} (h:encPair x=[u,v]):u=.int .i64 x.1∧v=.int .i64 x.2:=by
 unfold encPair at h
 simp only [List.cons.injEq,and_true] at h
 exact⟨h.1.symm,h.2.symm⟩
theorem equalCell_any (X Y:List (Int × Int)) (ax ay:Option Addr) (cx cy Bx By:Nat) (w:World) (hx:cellE.In w Bx (ax,X.length,cx) X) (hy:cellE.In w By (ay,Y.length,cy) Y) (hl:X.length≤1000000000) :
  Calls Tryz.prog 190 #[.slice ax X.length cx,.slice ay Y.length cy] w fun e w'=>e=.returned (.bool (decide (X=Y)))∧Chg (fun _=>False) w w':=by
 have HX:=jh hx
 have HY:=jh hy
 clear hx hy
 by_cases hxy:X.length=Y.length
 ·have b10:((X.length:Int) != (Y.length:Int))=false:=by simp [hxy]
  have HXY:=jh hxy
  clear hxy
  go_enter Tryz.func190,Tryz.ntmps190
  go_wp2
  go_loopw [13] (fun i wr=>∃ k:Nat,k≤X.length∧i=.int .i64 k∧Chg (fun _=>False) w wr∧X.take k=Y.take k) (fun i _=>X.length-(intOf i).toNat)
  case atStart=>exact⟨0,by omega,rfl,Chg.refl _ _,by simp⟩
  case round =>
   obtain⟨k,hk,rfl,hc,he⟩:=hrel
   have HC:=jh hc
   have HE:=jh he
   clear hc he
   by_cases hkl:k<X.length
   ·have b14:decide ((k:Int)<(X.length:Int))=true:=by simp;omega
    have hkl2:k<Y.length:=by have:=HXY.out;omega
    obtain⟨p,g,o,u,v,hp,rfl,he,c0,c1,-,-,-⟩:=(HX.out.same HC.out).get2 rfl hkl
    obtain⟨rfl,rfl⟩:=pairOf he
    obtain⟨q,g2,o2,u,v,hq,rfl,he2,c2,c3,-,-,-⟩:=(HY.out.same HC.out).get2 rfl hkl2
    obtain⟨rfl,rfl⟩:=pairOf he2
    obtain⟨p0,p1⟩:=p
    obtain⟨q0,q1⟩:=q
    have HP:=jh hp
    have HQ:=jh hq
    clear hp hq he he2
    by_cases hpq:(p0,p1)=(q0,q1)
    ·injection hpq with h1 h2
     subst h1 h2
     have HT:Hid (X.take (k+1)=Y.take (k+1)):=jh (by rw [List.take_add_one,List.take_add_one,HE.out,HP.out,HQ.out])
     clear HE HP HQ
     go_upto_region 6 with (fail)
     go_still (by kernel_rfl)
     go_wp2
     go_roundw
     case rel=>first|exact⟨k+1,by omega,by go_num,HC.out.drew,HT.out⟩|((repeat apply Exists.intro);exact⟨⟨k+1,by omega,rfl,HC.out.drew,HT.out⟩,by (repeat' apply And.intro) <;> first|rfl|go_num⟩)
     case measure=>simp [intOf];omega
    ·have HD:Hid (decide (X=Y)=false):=jh (by
      apply decide_eq_false
      intro h
      rw [h,HQ.out] at HP
      exact hpq (Option.some.inj HP.out).symm)
     have hp3:¬ p0=q0∨(p0=q0∧¬ p1=q1):=by
      by_cases h:p0=q0
      ·exact .inr ⟨h,fun h2=>hpq (by rw [h,h2])⟩
      ·exact .inl h
     clear HE HP HQ hpq
     rcases hp3 with hp3|⟨hp3,hp4⟩
     ·go_upto_region 6 with (fail)
      go_still (by kernel_rfl)
      go_wp2
      go_ret
      exact⟨by rw [HD.out];rfl,HC.out.drew⟩
     ·subst hp3
      go_upto_region 6 with (fail)
      go_still (by kernel_rfl)
      go_wp2
      go_ret
      exact⟨by rw [HD.out];rfl,HC.out.drew⟩
   ·obtain rfl:k=X.length:=by omega
    have HD:Hid (decide (X=Y)=true):=jh (by
     have:=HE.out
     rw [List.take_length,HXY.out,List.take_length] at this
     simp [this])
    clear HE
    go_wp2
    go_ret
    exact⟨by rw [HD.out];rfl,HC.out⟩
 ·have b10:((X.length:Int) != (Y.length:Int))=true:=by simp;omega
  have HD:Hid (decide (X=Y)=false):=jh (by
   apply decide_eq_false
   intro h
   exact hxy (by rw [h]))
  go_enter Tryz.func190,Tryz.ntmps190
  go_wp2
  go_ret
  exact⟨by rw [HD.out];rfl,Chg.refl _ _⟩
def rowEq (r s:RowD):Bool:=decide (r=s)
theorem eqPair (d d2:Int) (X Y:List (Int × Int)):rowEq (d,X) (d2,Y)=(decide (d=d2) && decide (X=Y)):=by
 unfold rowEq
 by_cases h:d=d2 <;> by_cases h2:X=Y <;> simp [h,h2]
theorem same_row (d d2:Int) (X Y:List (Int × Int)) (ax ay:Option Addr) (cx cy Bx By:Nat) (w:World) (hx:cellE.In w Bx (ax,X.length,cx) X) (hy:cellE.In w By (ay,Y.length,cy) Y) (hl:X.length≤1000000000) :
  Calls Tryz.prog 179 #[.agg #[.int .i64 d,.slice ax X.length cx],.agg #[.int .i64 d2,.slice ay Y.length cy]] w fun e w'=>e=.returned (.bool (rowEq (d,X) (d2,Y)))∧Chg (fun _=>False) w w':=by
 have HX:=jh hx
 have HY:=jh hy
 have HC0:=jh (((Chg.refl (fun _=>False) w).alloc (.cells #[.int .i64 d,.slice ax X.length cx] 241)).alloc (.cells #[.int .i64 d2,.slice ay Y.length cy] 241))
 have HE:=jh (eqPair d d2 X Y)
 clear hx hy
 by_cases hd:d=d2
 ·subst hd
  have q1:(d == d)=true:=by simp
  have HD:Hid (rowEq (d,X) (d,Y)=decide (X=Y)):=jh (by rw [HE.out];simp)
  clear HE
  go_enter Tryz.func179,Tryz.ntmps179
  go_wp2_with fail
  refine (equalCell_any X Y ax ay cx cy Bx By _ (HX.out.same HC0.out) (HY.out.same HC0.out) hl).mono ?_
  rintro e w2 ⟨rfl,hc2⟩
  rw [← HD.out]
  have HC2:=jh (HC0.out.trans hc2)
  clear hc2
  obtain⟨r,hr⟩:∃ r,rowEq (d,X) (d,Y)=r:=⟨_,rfl⟩
  rw [hr]
  have HR:=jh hr
  clear hr HD
  go_wp2
  go_ret
  exact⟨by rw [HR.out];rfl,HC2.out⟩
 ·have q1:(d == d2)=false:=by simpa using hd
  have HD:Hid (rowEq (d,X) (d2,Y)=false):=jh (by rw [HE.out];simp [hd])
  clear HE hd
  go_enter Tryz.func179,Tryz.ntmps179
  go_wp2
  go_ret
  exact⟨by rw [HD.out];rfl,HC0.out⟩
end Go.Proofs.YtgnpmceimpjheaaGreat
namespace Go.Proofs.YtgnpmceimpjheaaGreat
open Go.RowKit
structure Counts (D:DataW Unit) (L:List Int):Prop where
 isMap:Maps.IsMap D
 at':∀ x:Int,D.atKey (.int .i64 x) (.lit (.int .i64 0))=.lit (.int .i64 (L.count x))
 has:∀ x:Int,Maps.has D (.int .i64 x)=decide (x∈L)
theorem Counts.start:Counts (.map []) []:=⟨Maps.isMap_empty,fun _=>rfl,fun _=>rfl⟩
theorem Counts.step {D:DataW Unit} {L:List Int} (h:Counts D L) (x:Int):Counts (D.put (.int .i64 x) (.lit (.int .i64 ((L.count x:Int)+1)))) (L++[x]):=by
 refine⟨h.isMap.put _ _,fun y=>?_,fun y=>?_⟩
 ·by_cases he:y=x
  ·subst he
   rw [Maps.atKey_put_same h.isMap (by trivial)]
   simp
  ·rw [Maps.atKey_put_other (by intro e;injection e with _ e;exact he e),h.at']
   simp [List.count_append,Ne.symm he]
 ·by_cases he:y=x
  ·subst he
   rw [Maps.has_put_same h.isMap (by trivial)]
   simp
  ·rw [Maps.has_put_other (by intro e;injection e with _ e;exact he e),h.has]
   simp [he]
theorem lawI:Maps.Keyed Tryz.prog 3:=Maps.int_keyed Tryz.underlying3
theorem zeroI (w:World):(zeroValue 3).run Tryz.prog w=.ok (.int .i64 0) w:=by kernel_rfl
theorem wfI {x:Int} (h0:-9223372036854775808≤x) (h1:x≤9223372036854775807):(Lit.int .i64 x).wf=true:=by
 simp [Lit.wf,IntKind.min,IntKind.max,IntKind.signed,IntKind.bits]
 omega
def BestOf (L:List Int) (left:Lit→Bool) (b t:Int):Prop :=
 ((b=-1∧t=0∧∀ x∈L,left (.int .i64 x)=true)∨(b∈L∧t=L.count b))∧∀ x∈L,left (.int .i64 x)=false→(L.count x:Int)<t∨((L.count x:Int)=t∧b≤x)
theorem BestOf.done {L:List Int} {left:Lit→Bool} {b t:Int} (h:BestOf L left b t) (hl:∀ kl,left kl=false):b=usualL L:=by
 refine Usual.unique (L:=L) ?_ (usual_usualL L)
 obtain⟨h1,h2⟩:=h
 rcases h1 with ⟨rfl,rfl,h3⟩|⟨h1,rfl⟩
 ·refine .inl ⟨?_,rfl⟩
  cases L with
  | nil=>rfl
  | cons x L=>have:=h3 x (by simp);rw [hl] at this;cases this
 ·refine .inr ⟨h1,fun n hn=>?_⟩
  have:=h2 n hn (hl _)
  omega
theorem BestOf.next {L:List Int} {left:Lit→Bool} {b t x:Int} (h:BestOf L left b t) (hx:x∈L) (b' t':Int) (hb:(b'=x∧t'=L.count x∧(t<L.count x∨(L.count x=t∧x<b)))∨(b'=b∧t'=t∧((L.count x:Int)<t∨((L.count x:Int)=t∧b≤x)))) :
  BestOf L (fun z=>left z && !z.sameKey (.int .i64 x)) b' t':=by
 obtain⟨h1,h2⟩:=h
 have hpos:0<L.count x:=List.count_pos_iff.2 hx
 have hstay:∀ y:Int,(left (.int .i64 y) && !(Lit.int .i64 y).sameKey (.int .i64 x))=false→y≠x→left (.int .i64 y)=false:=fun y hy hne=>by
  rw [Maps.sameKey_ne (by intro e;injection e with _ e;exact hne e)] at hy
  simpa using hy
 rcases hb with ⟨rfl,rfl,hb⟩|⟨rfl,rfl,hb⟩
 ·refine⟨.inr ⟨hx,rfl⟩,fun y hy hl=>?_⟩
  by_cases he:y=b'
  ·subst he;omega
  ·have h3:=h2 y hy (hstay y hl he)
   rcases h1 with ⟨rfl,rfl,h4⟩|⟨h4,rfl⟩ <;> omega
 ·refine⟨?_,fun y hy hl=>?_⟩
  ·rcases h1 with ⟨rfl,rfl,h4⟩|h4
   ·omega
   ·exact .inr h4
  ·by_cases he:y=x
   ·subst he;exact hb
   ·exact h2 y hy (hstay y hl he)
theorem usual_any (Z:List Int) (a:Option Addr) (g o c:Nat) (w:World) (hz:I.BytesAt w g o Z) (ha:0<Z.length→a=some ⟨g,o,none⟩) (hl:Z.length≤1000000000) :
  Calls Tryz.prog 176 #[.slice a Z.length c] w fun e w'=>e=.returned (.int .i64 (usualL Z))∧Chg (fun _=>False) w w':=by
 have hmm:=@run_makeMap Tryz.prog
 have HZ:=jh hz
 have HA:=jh ha
 clear hz ha
 go_enter Tryz.func176,Tryz.ntmps176
 go_wp2
 go_loopw [13] (fun i wr=>∃ (k:Nat) (D:DataW Unit),k≤Z.length∧i=.int .i64 k∧wr.ownsMap Tryz.prog 3 (plainElem Tryz.prog 3) w.heap.size k D∧Counts D (Z.take k)∧Chg (fun k=>w.heap.size≤k) w wr) (fun i _=>Z.length-(intOf i).toNat)
 case atStart=>exact⟨0,_,Nat.zero_le _,rfl,World.ownsMap_made _ _ _ _,Counts.start,(Chg.refl _ _).alloc _⟩
 case round =>
  obtain⟨k,D,hk,rfl,hown,hcnt,hc⟩:=hrel
  have HOWN:=jh hown
  have HCNT:=jh hcnt
  have HC:=jh hc
  clear hown hcnt hc
  by_cases hkl:k<Z.length
  ·have b14:decide ((k:Int)<(Z.length:Int))=true:=by simp;omega
   obtain⟨z,hz,c1,z0,z1⟩:=(HZ.out.chg HC.out.fresh (fun _ h=>h)).get hkl
   have e1:=HA.out (by omega)
   subst e1
   have HZK:=jh hz
   have hle:(Z.take k).count z≤k:=Nat.le_trans List.count_le_length (List.length_take_le _ _)
   clear hz
   go_wp2_with (first
    | (at_lookup;refine wpList_lookup_own_int _ rfl _ _ 277 rfl 3 3 .i64 lawI Tryz.underlying277 Tryz.underlying3 (zeroI _) w.heap.size k _ rfl HOWN.out _ _ rfl (Maps.keyOf_int_mk Tryz.underlying3 (wfI z0 z1)) ?_;intro c hat hwc;rw [HCNT.out.at'] at hat;injection hat with hat;injection hat with _ hat;subst hat;clear hwc)
    | (at_mapUpdate;refine wpList_mapUpdate_own _ rfl _ _ _ 277 rfl 3 3 lawI Tryz.underlying277 _ w.heap.size k _ rfl HOWN.out (by unfold maxLen;omega) _ _ _ rfl rfl (Maps.keyOf_int_mk Tryz.underlying3 (wfI z0 z1)) _ [] (plainElem_int Tryz.underlying3 (wfI (by omega) (by omega))) ?_;intro w1 hown1 hgrow1)
    | fail)
   have HF:Hid (w1.ownsMap Tryz.prog 3 (plainElem Tryz.prog 3) w.heap.size (k+1) (D.put (.int .i64 z) (.lit (.int .i64 (((Z.take k).count z:Int)+1))))∧Counts (D.put (.int .i64 z) (.lit (.int .i64 (((Z.take k).count z:Int)+1)))) (Z.take (k+1))∧Chg (fun k=>w.heap.size≤k) w w1):=jh ⟨hown1,by rw [List.take_add_one,HZK.out];exact HCNT.out.step z,HC.out.grown hgrow1 (fun j hj=>by cases hj;exact .inl (Nat.le_refl _))⟩
   clear hown1 hgrow1
   go_roundw
   case rel=>exact⟨k+1,_,by omega,by go_num,HF.out⟩
   case measure=>simp [intOf];omega
  ·obtain rfl:k=Z.length:=by omega
   have HCN:Hid (Counts D Z):=jh (by have:=HCNT.out;rwa [List.take_length] at this)
   have HCLE:Hid (∀ x,(Z.count x:Int)≤1000000000):=jh (fun x=>by have:=List.count_le_length (a:=x) (l:=Z);omega)
   clear HCNT
   go_wp2_with (first
    | (at_range;refine wpList_range_own _ rfl _ 277 rfl 3 3 lawI Tryz.underlying277 _ w.heap.size Z.length _ rfl HOWN.out ?_;intro w0 hrg0 hg0 hs0)
    | fail)
   go_frame
   have HRG:=jh hrg0
   have HC0:=jh (HC.out.grown hg0 (fun j hj=>by cases hj))
   obtain⟨wo,rfl⟩:∃ wo:World,wo=wr:=⟨_,rfl⟩
   have hsz:w.heap.size≤wo.heap.size:=HC.out.size
   clear hrg0 hg0 hs0 HOWN HC
   go_loopw [6,7] (fun bv tv wr=>∃ (left:Lit→Bool) (cnt:Nat) (b t:Int),bv=.int .i64 b∧tv=.int .i64 t∧(-9223372036854775808≤b∧b≤9223372036854775807∧0≤t∧t≤1000000000)∧wr.ranges Tryz.prog 3 (plainElem Tryz.prog 3) w.heap.size wo.heap.size Z.length D left cnt∧BestOf Z left b t∧(∀ x,left (.int .i64 x)=true→x∈Z)∧Chg (fun k=>w.heap.size≤k) w wr)
    (fun _ _ wr=>wr.rangeLeft w.heap.size wo.heap.size)
   case atStart=>exact⟨_,_,-1,0,rfl,rfl,by omega,HRG.out,⟨.inl ⟨rfl,rfl,fun x hx=>by rw [HCN.out.has];simpa using hx⟩,fun x hx h=>by rw [HCN.out.has] at h;simp [hx] at h⟩,fun x h=>by rw [HCN.out.has] at h;simpa using h,HC0.out⟩
   case round =>
    clear HRG HC0
    obtain⟨left,cnt,b,t,rfl,rfl,⟨b0,b1,t0,t1⟩,hrg,hbest,hin,hc⟩:=hrel
    have HRG:=jh hrg
    have HB:=jh hbest
    have HIN:=jh hin
    have HC:=jh hc
    clear hrg hbest hin hc
    go_wp2_with (first
     | (at_next;refine wpList_next_ranges_ii _ rfl _ rfl 3 3 .i64 .i64 lawI Tryz.underlying3 Tryz.underlying3 w.heap.size wo.heap.size Z.length _ _ _ rfl HRG.out ?_ ?_)
     | fail)
    ·intro _ hl0
     have HE:=jh (HB.out.done hl0)
     clear hl0 HB
     go_wp2
     go_ret
     exact⟨by rw [HE.out];rfl,HC.out.fresh⟩
    ·intro x c w1 cnt1 hwx hwc hlx hat hrg1 hlt hg1 hs1 hen
     have hxZ:=HIN.out x hlx
     have hcc:c=(Z.count x:Int):=by
      have:=hat (.lit (.int .i64 0))
      rw [HCN.out.at'] at this
      injection this with this
      injection this with _ this
      exact this.symm
     have hxb:-9223372036854775808≤x∧x≤9223372036854775807:=by
      have:=HZ.out.byte x hxZ
      exact this
     have hcb:0≤c∧c≤1000000000:=by
      have:=HCLE.out x
      omega
     obtain⟨xb0,xb1⟩:=hxb
     obtain⟨cb0,cb1⟩:=hcb
     have HCC:=jh hcc
     have HXZ:=jh hxZ
     have HRG1:=jh hrg1
     have HLT:=jh hlt
     have HC1:=jh (HC.out.grown hg1 (fun j hj=>by cases hj;exact .inl hsz))
     have HIN1:Hid (∀ y,(left (.int .i64 y) && !(Lit.int .i64 y).sameKey (.int .i64 x))=true→y∈Z):=jh (fun y hy=>by simp at hy;exact HIN.out y hy.1)
     clear hwx hwc hlx hat hrg1 hlt hg1 hs1 hcc hxZ HIN HC
     by_cases h1:t<c
     ·have d1:decide (t<c)=true:=by simpa using h1
      have HBN:=jh (HB.out.next HXZ.out x c (.inl ⟨rfl,HCC.out,.inl (by have:=HCC.out;omega)⟩))
      clear HB
      go_wp2
      go_roundw
      case rel=>exact⟨_,cnt1,x,c,rfl,rfl,by omega,HRG1.out,HBN.out,HIN1.out,HC1.out⟩
      case measure=>rw [HRG1.out.left_eq,HRG.out.left_eq];exact HLT.out
     ·by_cases h2:c=t
      ·subst h2
       have d1:decide (c<c)=false:=by simp
       by_cases h3:x<b
       ·have d3:decide (x<b)=true:=by simpa using h3
        have HBN:=jh (HB.out.next HXZ.out x c (.inl ⟨rfl,HCC.out,.inr ⟨by have:=HCC.out;omega,h3⟩⟩))
        clear HB
        go_wp2
        go_roundw
        case rel=>exact⟨_,cnt1,x,c,rfl,rfl,by omega,HRG1.out,HBN.out,HIN1.out,HC1.out⟩
        case measure=>rw [HRG1.out.left_eq,HRG.out.left_eq];exact HLT.out
       ·have d3:decide (x<b)=false:=by simpa using h3
        have HBN:=jh (HB.out.next HXZ.out b c (.inr ⟨rfl,rfl,.inr ⟨by have:=HCC.out;omega,by omega⟩⟩))
        clear HB
        go_wp2
        go_roundw
        case rel=>exact⟨_,cnt1,b,c,rfl,rfl,by omega,HRG1.out,HBN.out,HIN1.out,HC1.out⟩
        case measure=>rw [HRG1.out.left_eq,HRG.out.left_eq];exact HLT.out
      ·have d1:decide (t<c)=false:=by simpa using h1
       have d2:(c == t)=false:=by simpa using h2
       have HBN:=jh (HB.out.next HXZ.out b t (.inr ⟨rfl,rfl,.inl (by have:=HCC.out;omega)⟩))
       clear HB
       go_wp2
       go_roundw
       case rel=>exact⟨_,cnt1,b,t,rfl,rfl,by omega,HRG1.out,HBN.out,HIN1.out,HC1.out⟩
       case measure=>rw [HRG1.out.left_eq,HRG.out.left_eq];exact HLT.out
end Go.Proofs.YtgnpmceimpjheaaGreat
namespace Go.Proofs.YtgnpmceimpjheaaGreat
open Go.RowKit
def valB (n:Int):Bool:=decide (isVal n)
theorem valB_true {n:Int} (h:isVal n):valB n=true:=by simpa [valB] using h
theorem valB_false {n:Int} (h:¬ isVal n):valB n=false:=by simpa [valB] using h
theorem value_any (n:Int) (w:World):Calls Tryz.prog 175 #[.int .i64 n] w fun e w'=>e=.returned (.bool (valB n))∧w=w':=by
 by_cases h1:-1≤n
 ·by_cases h2:n≤16777215
  ·have HV:=jh (valB_true (n:=n) ⟨h1,h2⟩)
   go_enter Tryz.func175,Tryz.ntmps175
   go_wp2
   go_ret
   exact⟨by rw [HV.out];rfl,rfl⟩
  ·have HV:=jh (valB_false (n:=n) (fun h=>h2 h.2))
   go_enter Tryz.func175,Tryz.ntmps175
   go_wp2
   go_ret
   exact⟨by rw [HV.out];rfl,rfl⟩
 ·have HV:=jh (valB_false (n:=n) (fun h=>h1 h.1))
  have q1:decide (-1≤n)=false:=by simpa using h1
  go_enter Tryz.func175,Tryz.ntmps175
  go_wp2
  go_ret
  exact⟨by rw [HV.out];rfl,rfl⟩
theorem noVal_any (n:Int) (w:World):Calls Tryz.prog 174 #[.int .i64 n] w fun e w'=>e=.returned (.bool (!valB n))∧w=w':=by
 go_enter Tryz.func174,Tryz.ntmps174
 go_wp2_with fail
 refine (value_any n _).mono ?_
 rintro e w2 ⟨rfl,rfl⟩
 go_wp2
 go_ret
 exact⟨rfl,rfl⟩
theorem indexVal_any (Z:List Int) (a:Option Addr) (g o c:Nat) (w:World) (hz:I.BytesAt w g o Z) (ha:0<Z.length→a=some ⟨g,o,none⟩) (hl:Z.length≤1000000000) :
  Calls Tryz.prog 131 #[.slice a Z.length c,.func (.func 174) #[] #[]] w fun e w'=>e=.returned (.int .i64 (idxV (fun n=>!valB n) Z))∧w=w':=by
 have HZ:=jh hz
 have HA:=jh ha
 clear hz ha
 go_enter Tryz.func131,Tryz.ntmps131
 go_wp2
 go_loop [8] (fun q=>∃ k:Nat,k≤Z.length∧q=.int .i64 k∧(∀ (j:Nat) y,j<k→Z[j]?=some y→(!valB y)=false)) (fun q=>Z.length-(intOf q).toNat)
 case atStart=>exact⟨0,by omega,rfl,fun j y h=>absurd h (Nat.not_lt_zero _)⟩
 case round =>
  obtain⟨k,hk,rfl,hb⟩:=hrel
  have HB:=jh hb
  clear hb
  by_cases hkl:k<Z.length
  ·have b9:decide ((k:Int)<(Z.length:Int))=true:=by simp;omega
   obtain⟨z,hz,c1,z0,z1⟩:=HZ.out.get hkl
   have e1:=HA.out (by omega)
   subst e1
   have HX:=jh hz
   clear hz
   by_cases hv:(!valB z)=true
   ·go_wp2_with fail
    refine (noVal_any z w).mono ?_
    rintro e w2 ⟨rfl,rfl⟩
    rw [hv]
    have HF:Hid (idxV (fun n=>!valB n) Z=k):=jh (idxV_found HX.out hv HB.out)
    go_wp2
    go_ret
    exact⟨by rw [HF.out];rfl,rfl⟩
   ·have hv':(!valB z)=false:=by simpa using hv
    have HB2:Hid (∀ (j:Nat) y,j<k+1→Z[j]?=some y→(!valB y)=false):=jh (fun j y hj hy=>by
     by_cases he:j=k
     ·subst he;rw [HX.out] at hy;obtain rfl:=Option.some.inj hy;exact hv'
     ·exact HB.out j y (by omega) hy)
    go_wp2_with fail
    refine (noVal_any z w).mono ?_
    rintro e w2 ⟨rfl,rfl⟩
    rw [hv']
    clear hv hv'
    go_wp2
    go_round
    case rel=>exact⟨k+1,by omega,by go_num,HB2.out⟩
    case measure=>simp [intOf];omega
  ·obtain rfl:k=Z.length:=by omega
   have HF:Hid (idxV (fun n=>!valB n) Z=-1):=jh (idxV_none HB.out)
   go_wp2
   go_ret
   exact⟨by rw [HF.out];rfl,rfl⟩
def noValB (Z:List Int):Bool:=Z.any (fun n=>!valB n)
theorem noValB_false {Z:List Int}:noValB Z=false↔∀ n∈Z,isVal n:=by simp [noValB,valB]
theorem containsVal_any (Z:List Int) (a:Option Addr) (g o c:Nat) (w:World) (hz:I.BytesAt w g o Z) (ha:0<Z.length→a=some ⟨g,o,none⟩) (hl:Z.length≤1000000000) :
  Calls Tryz.prog 89 #[.slice a Z.length c,.func (.func 174) #[] #[]] w fun e w'=>e=.returned (.bool (noValB Z))∧w=w':=by
 have HZ:=jh hz
 have HA:=jh ha
 clear hz ha
 rcases idx_cases (fun n=>!valB n) Z with ⟨k,x,-,-,h3,-,h5⟩|⟨h3,-,h5⟩
 ·have HI:=jh h3
  have HN:Hid (noValB Z=true):=jh h5
  clear h3 h5
  go_enter Tryz.func89,Tryz.ntmps89
  go_wp2_with fail
  refine (indexVal_any Z a g o c _ HZ.out HA.out hl).mono ?_
  rintro e w2 ⟨rfl,rfl⟩
  rw [HI.out]
  go_wp2
  go_ret
  exact⟨by rw [HN.out];rfl,rfl⟩
 ·have HI:=jh h3
  have HN:Hid (noValB Z=false):=jh h5
  clear h3 h5
  go_enter Tryz.func89,Tryz.ntmps89
  go_wp2_with fail
  refine (indexVal_any Z a g o c _ HZ.out HA.out hl).mono ?_
  rintro e w2 ⟨rfl,rfl⟩
  rw [HI.out]
  go_wp2
  go_ret
  exact⟨by rw [HN.out];rfl,rfl⟩
theorem clipCell (w:World) (a:Option Addr) (n c:Nat) (hn:n≤c) :
  Calls Tryz.prog 177 #[.slice a n c] w fun e w'=>e=.returned (.slice a n n)∧w=w':=by
 go_enter Tryz.func177,Tryz.ntmps177
 go_wp2
 go_ret
 exact⟨rfl,rfl⟩
theorem clipRow (w:World) (a:Option Addr) (n c:Nat) (hn:n≤c) :
  Calls Tryz.prog 156 #[.slice a n c] w fun e w'=>e=.returned (.slice a n n)∧w=w':=by
 go_enter Tryz.func156,Tryz.ntmps156
 go_wp2
 go_ret
 exact⟨rfl,rfl⟩
theorem clipInt (w:World) (a:Option Addr) (n c:Nat) (hn:n≤c) :
  Calls Tryz.prog 144 #[.slice a n c] w fun e w'=>e=.returned (.slice a n n)∧w=w':=by
 go_enter Tryz.func144,Tryz.ntmps144
 go_wp2
 go_ret
 exact⟨rfl,rfl⟩
def ofV (d:Int) (s:Sl) (e:Int):Value:=.tuple #[.agg #[.int .i64 d,slV s],.int .i64 e]
theorem of_bad (Z:List Int) (a:Option Addr) (g o c:Nat) (w:World) (hz:I.BytesAt w g o Z) (ha:0<Z.length→a=some ⟨g,o,none⟩) (hl:Z.length≤65536) (hv:noValB Z=true) :
  Calls Tryz.prog 154 #[.slice a Z.length c] w fun e w'=>e=.returned (ofV 0 (none,0,0) 1)∧Chg (fun _=>False) w w':=by
 have HZ:=jh hz
 have HA:=jh ha
 have HN:=jh hv
 have HC0:=jh ((Chg.refl (fun _=>False) w).alloc (.cells #[.int .i64 0,.slice none 0 0] 241))
 clear hz ha hv
 go_enter Tryz.func154,Tryz.ntmps154
 go_wp2_with fail
 refine (containsVal_any Z a g o c _ (HZ.out.chg HC0.out (fun _ h=>h)) HA.out (by omega)).mono ?_
 rintro e w2 ⟨rfl,rfl⟩
 rw [HN.out]
 go_wp2
 refine bodyPost_ret (v:=.tuple #[.agg #[.int .i64 0,.slice none 0 0],.int .i64 1]) (by simp [results,Tryz.results154,go_sem]) rfl ⟨rfl,HC0.out⟩
theorem of_ok (Z:List Int) (a:Option Addr) (g o c:Nat) (w:World) (hz:I.BytesAt w g o Z) (ha:0<Z.length→a=some ⟨g,o,none⟩) (hl:Z.length≤65536) (hv:noValB Z=false) :
  Calls Tryz.prog 154 #[.slice a Z.length c] w fun e w'=>∃ s,e=.returned (ofV (usualL Z) s 0)∧cellE.In w' w.heap.size s (cellsFrom (usualL Z) 0 Z)∧Chg (fun _=>False) w w':=by
 have HZ:=jh hz
 have HA:=jh ha
 have HN:=jh hv
 have HV:=jh (noValB_false.1 hv)
 have HC0:=jh ((Chg.refl (fun _=>False) w).alloc (.cells #[.int .i64 0,.slice none 0 0] 241))
 clear hz ha hv
 obtain⟨d,hd⟩:∃ d,usualL Z=d:=⟨_,rfl⟩
 rw [hd]
 have HD:=jh hd
 clear hd
 go_enter Tryz.func154,Tryz.ntmps154
 go_wp2_with fail
 refine (containsVal_any Z a g o c _ (HZ.out.chg HC0.out (fun _ h=>h)) HA.out (by omega)).mono ?_
 rintro e w2 ⟨rfl,rfl⟩
 rw [HN.out]
 go_wp2_with fail
 refine (usual_any Z a g o c _ (HZ.out.chg HC0.out (fun _ h=>h)) HA.out (by omega)).mono ?_
 rintro e w2 ⟨rfl,hc2⟩
 rw [HD.out]
 have hsz:w.heap.size<w2.heap.size:=by have:=hc2.size;simp at this;omega
 have r0:=hc2.cellS (p:=⟨w.heap.size,0,none⟩) (v:=.int .i64 0) (by simp) (fun h=>h)
 have r1:=hc2.cellS (p:=⟨w.heap.size,1,none⟩) (v:=.slice none 0 0) (by simp) (fun h=>h)
 have r2:=(hc2.frozen (p:=⟨w.heap.size,0,none⟩) (by simp) (fun h=>h)).trans (World.frozen?_alloc_new _ _ _ _)
 have r3:=(hc2.frozen (p:=⟨w.heap.size,1,none⟩) (by simp) (fun h=>h)).trans (World.frozen?_alloc_new _ _ _ _)
 have HR:Hid (w2.cell? ⟨w.heap.size,0,none⟩=some (.int .i64 0)∧w2.cell? ⟨w.heap.size,1,none⟩=some (.slice none 0 0)∧w2.frozen? ⟨w.heap.size,0,none⟩=false∧w2.frozen? ⟨w.heap.size,1,none⟩=false):=jh ⟨r0,r1,r2,r3⟩
 have HC2:=jh (HC0.out.trans hc2)
 clear hc2 r0 r1 r2 r3
 go_wp2_with fail
 go_loopw [20] (fun q wr=>∃ (k:Nat) (v:Value),k≤Z.length∧q=.int .i64 k∧Fld cellE w2.heap.size 1 wr v (cellsFrom d 0 (Z.take k))∧wr.cell? ⟨w2.heap.size,0,none⟩=some (.int .i64 d)∧Chg (fun k=>w2.heap.size≤k) w2 wr) (fun q _=>Z.length-(intOf q).toNat)
 case atStart=>exact⟨0,_,by omega,rfl,⟨by simp,by simp,.nil _ _⟩,by simp,(Chg.refl _ _).alloc _⟩
 case round =>
  obtain⟨k,v,hk,rfl,hf,c0,hc⟩:=hrel
  have HF:=jh hf
  have HC:=jh hc
  have HC02:=jh c0
  have c1:=hf.c
  have z1:=hf.z
  clear hf hc
  have HRR:Hid (wr.cell? ⟨w.heap.size,0,none⟩=some (.int .i64 0)∧wr.cell? ⟨w.heap.size,1,none⟩=some (.slice none 0 0)∧wr.frozen? ⟨w.heap.size,0,none⟩=false∧wr.frozen? ⟨w.heap.size,1,none⟩=false):=jh ⟨HC.out.cellS HR.out.1 (by show ¬ w2.heap.size≤w.heap.size;omega),HC.out.cellS HR.out.2.1 (by show ¬ w2.heap.size≤w.heap.size;omega),(HC.out.frozen (p:=⟨w.heap.size,0,none⟩) hsz (by show ¬ w2.heap.size≤w.heap.size;omega)).trans HR.out.2.2.1,(HC.out.frozen (p:=⟨w.heap.size,1,none⟩) hsz (by show ¬ w2.heap.size≤w.heap.size;omega)).trans HR.out.2.2.2⟩
  by_cases hkl:k<Z.length
  ·have b21:decide ((k:Int)<(Z.length:Int))=true:=by simp;omega
   obtain⟨z,hz,q1,z0,z2⟩:=(HZ.out.chg (HC2.out.trans HC.out.fresh) (fun _ h=>h)).get hkl
   have e1:=HA.out (by omega)
   subst e1
   have HX:=jh hz
   have htk:(Z.take k).length=k:=by rw [List.length_take];omega
   have HTK:=jh (cellsFrom_snoc d (Z.take k) z 0)
   rw [htk,Nat.zero_add] at HTK
   have HTT:Hid (Z.take (k+1)=Z.take k++[z]):=jh (by rw [List.take_add_one,HX.out];rfl)
   clear hz htk
   by_cases hzd:z=d
   ·subst hzd
    have b28:(z != z)=false:=by simp
    have HFN:Hid (Fld cellE w2.heap.size 1 wr v (cellsFrom z 0 (Z.take (k+1)))):=jh (by rw [HTT.out,HTK.out,if_pos rfl];exact HF.out)
    clear HF HTK HTT
    go_wp2
    go_roundw
    case rel=>exact⟨k+1,v,by omega,by go_num,HFN.out,HC02.out,HC.out⟩
    case measure=>simp [intOf];omega
   ·have b28:(z != d)=true:=by simpa using hzd
    have HLE:Hid ((cellsFrom d 0 (Z.take k)).length≤65536):=jh (by have:=cellsFrom_le d (Z.take k) 0;have:=List.length_take_le k Z;omega)
    have HTE:Hid (cellsFrom d 0 (Z.take (k+1))=cellsFrom d 0 (Z.take k)++[((k:Int),z)]):=jh (by rw [HTT.out,HTK.out,if_neg hzd])
    have HOK:Hid (∀ x∈[((k:Int),z)],cellE.ok x):=jh (by
     intro x hx
     simp only [List.mem_singleton] at hx
     subst hx
     exact⟨⟨by show -9223372036854775808≤(k:Int);omega,by show (k:Int)≤9223372036854775807;omega⟩,⟨z0,z2⟩⟩)
    have HF1:=jh (HF.out.chg ((Chg.refl (fun _=>False) wr).alloc (.cells #[.int .i64 k,.int .i64 z] 246)) (fun _ _ _ h=>h))
    have HBS:Hid (w2.heap.size+1≤(wr.alloc (.cells #[.int .i64 k,.int .i64 z] 246)).heap.size):=jh (by have:=HF.out.lt;simp;omega)
    have HFIN:Hid (∀ v' w1,cellE.Own w1 (w2.heap.size+1) v' (cellsFrom d 0 (Z.take k)++[((k:Int),z)])→Chg (fun j=>w2.heap.size+1≤j) (wr.alloc (.cells #[.int .i64 k,.int .i64 z] 246)) w1 →
      (w1.cell? ⟨w2.heap.size,1,none⟩=some v∧w1.frozen? ⟨w2.heap.size,1,none⟩=false)∧Fld cellE w2.heap.size 1 (w1.setCell ⟨w2.heap.size,1,none⟩ v') v' (cellsFrom d 0 (Z.take (k+1)))∧(w1.setCell ⟨w2.heap.size,1,none⟩ v').cell? ⟨w2.heap.size,0,none⟩=some (.int .i64 d)∧Chg (fun k=>w2.heap.size≤k) w2 (w1.setCell ⟨w2.heap.size,1,none⟩ v')):=jh (by
     intro v' w1 h1 h2
     obtain⟨k1,k2,k3,k4⟩:=HF1.out.step h1 h2
     refine⟨k1,by rw [HTE.out];exact k2,k4 0 _ (by omega) (((Chg.refl (fun _=>False) wr).alloc _).cellS HC02.out (fun h=>h)),HC.out.trans (((Chg.refl _ wr).alloc _).trans k3)⟩)
    go_wp2_with (at_builtin;refine Elt.wpList_append cellE rfl _ _ 239 239 rfl rfl (w2.heap.size+1) v (cellsFrom d 0 (Z.take k)) [((k:Int),z)] (.slice (some ⟨wr.heap.size,0,none⟩) 1 1) rfl rfl HF1.out.own HBS.out (cellE.srcLit 1 HOK.out) HOK.out (by have:=HLE.out;simp;omega) ?_;intro v' w1 H1 H2 H3;obtain⟨va,vl,vc,hv'⟩:=H1.out.shape3;subst hv';obtain⟨⟨k1,k2⟩,hf⟩:=HFIN.out _ w1 H1.out H2.out;have HFF:=jh hf;clear hf)
    go_roundw
    case rel=>exact⟨k+1,_,by omega,by go_num,HFF.out.1,HFF.out.2.1,HFF.out.2.2⟩
    case measure=>simp [intOf];omega
  ·obtain rfl:k=Z.length:=by omega
   obtain⟨va,vg,vc,rfl,hle,-,-⟩:=HF.out.own.at'
   obtain⟨r0,r1,r2,r3⟩:=HRR.out
   have hne:w.heap.size≠w2.heap.size:=by omega
   have hlt2:=HF.out.lt
   have HTE:Hid (Z.take Z.length=Z):=jh (List.take_length)
   rw [HTE.out] at hle c1
   have hlen:=cellsFrom_le d Z 0
   have HO:=jh (HF.out.own.lower (B':=w.heap.size) (by omega))
   rw [HTE.out] at HO
   obtain⟨X,hX⟩:∃ X,cellsFrom d 0 Z=X:=⟨_,rfl⟩
   rw [hX] at hle c1 hlen HO
   have HIN:=jh (HF.out.own)
   rw [HTE.out,hX] at HIN
   have HXE:=jh hX
   clear hX HF
   go_wp2_with fail
   refine (clipCell _ va _ vc hle).mono ?_
   rintro e w3 ⟨rfl,rfl⟩
   go_wp2
   have hcs:=setCellChg wr w2.heap.size 1 (.slice va X.length X.length)
   obtain⟨f0,f1,f2⟩:=store2 (.int .i64 d) (.slice va X.length X.length) (hcs.cellS r0 hne) (hcs.cellS r1 hne)
   have hcc:=(hcs.mono (T:=fun k=>k=w2.heap.size∨k=w.heap.size) (fun k _ e=>.inl e)).trans (f2.mono (fun k _ e=>.inr e))
   have h3:=((HIN.out.chg hcc (fun g hg _ e=>by omega)).in' (Nat.le_refl _)).lower (B':=w.heap.size) (by omega)
   have h4:=((HC2.out.any.trans (HC.out.mono (T:=fun k=>w.heap.size≤k) (fun k _ e=>by omega))).trans (hcc.mono (fun k _ e=>by omega))).fresh
   clear f2 hcc hcs
   generalize ((wr.setCell ⟨w2.heap.size,1,none⟩ (.slice va X.length X.length)).setCell ⟨w.heap.size,0,none⟩ (.int .i64 d)).setCell ⟨w.heap.size,1,none⟩ (.slice va X.length X.length)=W at *
   exact bodyPost_ret (v:=.tuple #[.agg #[.int .i64 d,.slice va X.length X.length],.int .i64 0]) (by simp [results,Tryz.results154,go_sem,f0,f1]) rfl ⟨(va,X.length,X.length),rfl,by rw [HXE.out];exact h3,h4⟩
end Go.Proofs.YtgnpmceimpjheaaGreat
namespace Go.Proofs.YtgnpmceimpjheaaGreat
open Go.RowKit
def valsOf (L:List (Int × Int)):List Int:=L.map (·.2)
theorem valsOf_le (L:List (Int × Int)) (x:Int):(valsOf L).count x≤L.length:=Nat.le_trans List.count_le_length (by rw [valsOf,List.length_map];exact Nat.le_refl _)
theorem valsOf_snoc (L:List (Int × Int)) (x:Int × Int):valsOf (L++[x])=valsOf L++[x.2]:=by simp [valsOf]
def SelOf (L:List Int) (left:Lit→Bool) (m d:Int):Prop:=∀ n∈L,left (.int .i64 n)=false→(L.count n:Int)<m∨((L.count n:Int)=m∧d≤n)
theorem SelOf.next {L:List Int} {left:Lit→Bool} {m d x:Int} (h:SelOf L left m d) (hx:(L.count x:Int)<m∨((L.count x:Int)=m∧d≤x)):SelOf L (fun z=>left z && !z.sameKey (.int .i64 x)) m d:=fun y hy hl=>by
 by_cases he:y=x
 ·subst he;exact hx
 ·refine h y hy ?_
  have hl2:(left (.int .i64 y) && !(Lit.int .i64 y).sameKey (.int .i64 x))=false:=hl
  rw [Maps.sameKey_ne (by intro e;injection e with _ e;exact he e)] at hl2
  simpa using hl2
theorem fineL_zero (d:Int) (L:List (Int × Int)):fineL 0 (d,L)=(decide (d=-1) && decide (L=[])):=by simp only [fineL,if_true]
theorem fineL_pos {W:Nat} (hW:W≠0) (d:Int) (L:List (Int × Int)):fineL W (d,L)=(fineCells W d (-1) L && (valsOf L).all (fun n=>decide (((valsOf L).count n:Int)<(W:Int)-L.length∨(((valsOf L).count n:Int)=(W:Int)-L.length∧d≤n))) && decide (isVal d) && decide (0<(W:Int)-L.length)):=by
 simp only [fineL,valsOf]
 rw [if_neg hW]
 rfl
theorem fineL_bad {W:Nat} (hW:W≠0) {d:Int} {L:List (Int × Int)} (h:fineCells W d (-1) L=false):fineL W (d,L)=false:=by rw [fineL_pos hW,h];rfl
theorem fineL_often {W:Nat} (hW:W≠0) {d x:Int} {L:List (Int × Int)} (hx:x∈valsOf L) (h:¬ (((valsOf L).count x:Int)<(W:Int)-L.length∨(((valsOf L).count x:Int)=(W:Int)-L.length∧d≤x))):fineL W (d,L)=false:=by
 rw [fineL_pos hW]
 have:(valsOf L).all (fun n=>decide (((valsOf L).count n:Int)<(W:Int)-L.length∨(((valsOf L).count n:Int)=(W:Int)-L.length∧d≤n)))=false:=by
  rw [List.all_eq_false]
  exact⟨x,hx,by simpa using h⟩
 rw [this]
 simp
theorem fineL_good {W:Nat} (hW:W≠0) {d:Int} {L:List (Int × Int)} (h1:fineCells W d (-1) L=true) {left:Lit→Bool} (h2:SelOf (valsOf L) left ((W:Int)-L.length) d) (hl:∀ kl,left kl=false):fineL W (d,L)=(valB d && decide (0<(W:Int)-L.length)):=by
 rw [fineL_pos hW,h1]
 have:(valsOf L).all (fun n=>decide (((valsOf L).count n:Int)<(W:Int)-L.length∨(((valsOf L).count n:Int)=(W:Int)-L.length∧d≤n)))=true:=by
  rw [List.all_eq_true]
  intro n hn
  simpa using h2 n hn (hl _)
 rw [this]
 simp [valB]
theorem fineCells_step {W d last:Int} {L:List (Int × Int)} {k:Nat} {x:Int × Int} (hx:L[k]?=some x):fineCells W d last (L.drop k)=(decide (last<x.1) && decide (x.1<W) && valB x.2 && !decide (x.2=d) && fineCells W d x.1 (L.drop (k+1))):=by
 have h1:=(List.getElem?_eq_some_iff.1 hx).1
 rw [List.drop_eq_getElem_cons h1,(List.getElem?_eq_some_iff.1 hx).2]
 rfl
theorem fine_any (W:Nat) (d:Int) (L:List (Int × Int)) (a:Option Addr) (c B:Nat) (w:World) (h:cellE.In w B (a,L.length,c) L) (hl:L.length≤1000000000) (hW:W≤65536) (hd:I.Byte d) :
  Calls Tryz.prog 180 #[.agg #[.int .i64 d,.slice a L.length c],.int .i64 W] w fun e w'=>e=.returned (.bool (fineL W (d,L)))∧Chg (fun _=>False) w w':=by
 have HL:=jh h
 obtain⟨hd0,hd1⟩:=hd
 have hmm:=@run_makeMap Tryz.prog
 have HC0:=jh ((Chg.refl (fun k=>w.heap.size≤k) w).alloc (.cells #[.int .i64 d,.slice a L.length c] 241))
 have HB0:Hid (∀ wr,Chg (fun k=>w.heap.size+1≤k) (w.alloc (.cells #[.int .i64 d,.slice a L.length c] 241)) wr→wr.cell? ⟨w.heap.size,0,none⟩=some (.int .i64 d)∧wr.cell? ⟨w.heap.size,1,none⟩=some (.slice a L.length c)):=jh fun wr hc=>⟨hc.cellS (by simp) (by show ¬ w.heap.size+1≤w.heap.size;omega),hc.cellS (by simp) (by show ¬ w.heap.size+1≤w.heap.size;omega)⟩
 clear h
 by_cases hW0:W=0
 ·subst hW0
  by_cases hd1:d=-1
  ·subst hd1
   by_cases hL0:L.length=0
   ·have hL:=List.length_eq_zero_iff.1 hL0
    subst hL
    have HV:Hid (fineL 0 (-1,[])=true):=jh rfl
    go_enter Tryz.func180,Tryz.ntmps180
    go_wp2
    go_ret
    exact⟨by rw [HV.out];rfl,HC0.out.fresh⟩
   ·have HV:Hid (fineL 0 (-1,L)=false):=jh (by
     rw [fineL_zero]
     have:L≠[]:=fun e=>hL0 (by rw [e];rfl)
     simp [this])
    have q1:((L.length:Int) == 0)=false:=beq_eq_false_iff_ne.2 (by omega)
    clear hL0
    go_enter Tryz.func180,Tryz.ntmps180
    go_wp2
    go_ret
    exact⟨by rw [HV.out];rfl,HC0.out.fresh⟩
  ·have HV:Hid (fineL 0 (d,L)=false):=jh (by
    rw [fineL_zero]
    simp [hd1])
   have q1:(d == -1)=false:=by simpa using hd1
   clear hd1
   go_enter Tryz.func180,Tryz.ntmps180
   go_wp2
   go_ret
   exact⟨by rw [HV.out];rfl,HC0.out.fresh⟩
 ·have HW0:=jh hW0
  have q0:((W:Int) == 0)=false:=by simp;omega
  have HM0:=jh (HC0.out.alloc (.map #[] 0))
  have HM1:=jh ((Chg.refl (fun k=>w.heap.size+1≤k) (w.alloc (.cells #[.int .i64 d,.slice a L.length c] 241))).alloc (.map #[] 0))
  clear hW0
  go_enter Tryz.func180,Tryz.ntmps180
  go_wp2
  go_loopw [6,32] (fun lv q wr=>∃ (k:Nat) (last:Int) (D:DataW Unit),k≤L.length∧q=.int .i64 k∧lv=.int .i64 last∧fineCells W d (-1) L=fineCells W d last (L.drop k)∧wr.ownsMap Tryz.prog 3 (plainElem Tryz.prog 3) (w.heap.size+1) k D∧Counts D (valsOf (L.take k))∧Chg (fun k=>w.heap.size+1≤k) (w.alloc (.cells #[.int .i64 d,.slice a L.length c] 241)) wr) (fun _ q _=>L.length-(intOf q).toNat)
  case atStart=>exact⟨0,-1,_,by omega,rfl,rfl,by simp,by have:=World.ownsMap_made (H:=Unit) (w.alloc (.cells #[.int .i64 d,.slice a L.length c] 241)) Tryz.prog 3 (plainElem Tryz.prog 3);simpa using this,Counts.start,HM1.out⟩
  case round =>
   clear HM0 HM1
   obtain⟨k,last,D,hk,rfl,rfl,he,hown,hcnt,hc⟩:=hrel
   have HE:=jh he
   have HOWN:=jh hown
   have HCNT:=jh hcnt
   have HC:=jh hc
   have HCW:=jh (HC0.out.trans (hc.mono (T:=fun k=>w.heap.size≤k) (fun k _ e=>by omega)))
   obtain⟨b0,b1⟩:=HB0.out wr hc
   clear he hown hcnt hc
   by_cases hkl:k<L.length
   ·have b33:decide ((k:Int)<(L.length:Int))=true:=by simp;omega
    obtain⟨x,g,o,u,v,hx,rfl,hp,c0,c1,hok,-,-⟩:=(HL.out.same HCW.out.fresh).get2 rfl hkl
    obtain⟨rfl,rfl⟩:=pairOf hp
    obtain⟨x0,x1⟩:=x
    obtain⟨⟨p0,p1⟩,⟨p2,p3⟩⟩:=hok
    simp only at c0 c1 p0 p1 p2 p3
    have HX:=jh hx
    obtain⟨b2,b3⟩:=HB0.out (wr.alloc (.cells #[.int .i64 x0,.int .i64 x1] 246)) (HC.out.alloc _)
    have HST:=jh (fineCells_step (W:=(W:Int)) (d:=d) (last:=last) hx)
    clear hx hp
    by_cases h1:last<x0
    ·have d1:decide (x0≤last)=false:=by simp;omega
     by_cases h2:x0<(W:Int)
     ·have d2:decide ((W:Int)≤x0)=false:=by simp;omega
      by_cases h3:valB x1=true
      ·by_cases h4:x1=d
       ·subst h4
        have d4:(x1 == x1)=true:=by simp
        have HF:Hid (fineL W (x1,L)=false):=jh (fineL_bad HW0.out (by rw [HE.out,HST.out];simp))
        go_wp2_with fail
        refine (value_any x1 _).mono ?_
        rintro e w2 ⟨rfl,rfl⟩
        rw [h3]
        go_wp2
        go_ret
        exact⟨by rw [HF.out];rfl,(HCW.out.alloc _).fresh⟩
       ·have d4:(x1 == d)=false:=by simpa using h4
        have HE2:Hid (fineCells W d (-1) L=fineCells W d x0 (L.drop (k+1))):=jh (by rw [HE.out,HST.out];simp [h1,h2,h3,h4])
        have HTK:Hid (valsOf (L.take (k+1))=valsOf (L.take k)++[x1]):=jh (by rw [List.take_add_one,HX.out];exact valsOf_snoc _ _)
        have hle:(valsOf (L.take k)).count x1≤k:=Nat.le_trans (valsOf_le _ _) (List.length_take_le _ _)
        have HOWA:=jh (HOWN.out.alloc (.cells #[.int .i64 x0,.int .i64 x1] 246))
        have HCA:=jh (HC.out.alloc (.cells #[.int .i64 x0,.int .i64 x1] 246))
        clear HE HST h4
        go_wp2_with fail
        refine (value_any x1 _).mono ?_
        rintro e w2 ⟨rfl,rfl⟩
        rw [h3]
        clear h3
        go_wp2_with (first
         | (at_lookup;refine wpList_lookup_own_int _ rfl _ _ 277 rfl 3 3 .i64 lawI Tryz.underlying277 Tryz.underlying3 (zeroI _) (w.heap.size+1) k _ rfl HOWA.out _ _ rfl (Maps.keyOf_int_mk Tryz.underlying3 (wfI p2 p3)) ?_;intro c hat hwc;rw [HCNT.out.at'] at hat;injection hat with hat;injection hat with _ hat;subst hat;clear hwc)
         | (at_mapUpdate;refine wpList_mapUpdate_own _ rfl _ _ _ 277 rfl 3 3 lawI Tryz.underlying277 _ (w.heap.size+1) k _ rfl HOWA.out (by unfold maxLen;omega) _ _ _ rfl rfl (Maps.keyOf_int_mk Tryz.underlying3 (wfI p2 p3)) _ [] (plainElem_int Tryz.underlying3 (wfI (by omega) (by omega))) ?_;intro w1 hown1 hgrow1)
         | fail)
        have HF:Hid (w1.ownsMap Tryz.prog 3 (plainElem Tryz.prog 3) (w.heap.size+1) (k+1) (D.put (.int .i64 x1) (.lit (.int .i64 (((valsOf (L.take k)).count x1:Int)+1))))∧Counts (D.put (.int .i64 x1) (.lit (.int .i64 (((valsOf (L.take k)).count x1:Int)+1)))) (valsOf (L.take (k+1)))∧Chg (fun k=>w.heap.size+1≤k) (w.alloc (.cells #[.int .i64 d,.slice (some ⟨g,o,none⟩) L.length c] 241)) w1):=jh ⟨hown1,by rw [HTK.out];exact HCNT.out.step x1,HCA.out.grown hgrow1 (fun j hj=>by cases hj;exact .inr (Nat.le_refl _))⟩
        clear hown1 hgrow1
        go_roundw
        case rel=>exact⟨k+1,x0,_,by omega,by go_num,rfl,HE2.out,HF.out⟩
        case measure=>simp [intOf];omega
      ·have h3':valB x1=false:=by simpa using h3
       have HF:Hid (fineL W (d,L)=false):=jh (fineL_bad HW0.out (by rw [HE.out,HST.out];simp [h3']))
       clear h3
       go_wp2_with fail
       refine (value_any x1 _).mono ?_
       rintro e w2 ⟨rfl,rfl⟩
       rw [h3']
       clear h3'
       go_wp2
       go_ret
       exact⟨by rw [HF.out];rfl,(HCW.out.alloc _).fresh⟩
     ·have d2:decide ((W:Int)≤x0)=true:=by simp;omega
      have HF:Hid (fineL W (d,L)=false):=jh (fineL_bad HW0.out (by rw [HE.out,HST.out];simp [h2]))
      go_wp2
      go_ret
      exact⟨by rw [HF.out];rfl,(HCW.out.alloc _).fresh⟩
    ·have d1:decide (x0≤last)=true:=by simp;omega
     have HF:Hid (fineL W (d,L)=false):=jh (fineL_bad HW0.out (by rw [HE.out,HST.out];simp [h1]))
     go_wp2
     go_ret
     exact⟨by rw [HF.out];rfl,(HCW.out.alloc _).fresh⟩
   ·obtain rfl:k=L.length:=by omega
    have HFC:Hid (fineCells W d (-1) L=true):=jh (by rw [HE.out,List.drop_length];rfl)
    have HCN:Hid (Counts D (valsOf L)):=jh (by have:=HCNT.out;rwa [List.take_length] at this)
    have HCLE:Hid (∀ x,((valsOf L).count x:Int)≤1000000000):=jh (fun x=>by have:=valsOf_le L x;omega)
    have HVB:Hid (∀ x∈valsOf L,I.Byte x):=jh (fun x hx=>by
     obtain⟨y,hy,rfl⟩:=List.mem_map.1 hx
     obtain⟨_,_,g,o,h3,_⟩:=HL.out
     exact (h3.ok y hy).2)
    clear HCNT HE HL
    go_wp2_with (first
     | (at_range;refine wpList_range_own _ rfl _ 277 rfl 3 3 lawI Tryz.underlying277 _ (w.heap.size+1) L.length _ rfl HOWN.out ?_;intro w0 hrg0 hg0 hs0)
     | fail)
    go_frame
    have HRG:=jh hrg0
    have HC1:=jh (HC.out.grown hg0 (fun j hj=>by cases hj))
    obtain⟨wo,rfl⟩:∃ wo:World,wo=wr:=⟨_,rfl⟩
    have hsz:w.heap.size+1≤wo.heap.size:=by have:=HC.out.size;simpa using this
    clear hrg0 hg0 hs0 HOWN HC b0 b1 HCW
    go_loopw [] (fun wr=>∃ (left:Lit→Bool) (cnt:Nat),wr.ranges Tryz.prog 3 (plainElem Tryz.prog 3) (w.heap.size+1) wo.heap.size L.length D left cnt∧SelOf (valsOf L) left ((W:Int)-L.length) d∧(∀ x,left (.int .i64 x)=true→x∈valsOf L)∧Chg (fun k=>w.heap.size+1≤k) (w.alloc (.cells #[.int .i64 d,.slice a L.length c] 241)) wr)
     (fun wr=>wr.rangeLeft (w.heap.size+1) wo.heap.size)
    case atStart=>exact⟨_,_,HRG.out,fun x hx h=>by rw [HCN.out.has] at h;simp only [decide_eq_false_iff_not] at h;exact absurd hx h,fun x h=>by rw [HCN.out.has] at h;simpa using h,HC1.out⟩
    case round =>
     clear HRG HC1
     obtain⟨left,cnt,hrg,hsel,hin,hc⟩:=hrel
     have HRG:=jh hrg
     have HS:=jh hsel
     have HIN:=jh hin
     have HC:=jh hc
     obtain⟨b0,b1⟩:=HB0.out wr hc
     clear hrg hsel hin hc
     go_wp2_with (first
      | (at_next;refine wpList_next_ranges_ii _ rfl _ rfl 3 3 .i64 .i64 lawI Tryz.underlying3 Tryz.underlying3 (w.heap.size+1) wo.heap.size L.length _ _ _ rfl HRG.out ?_ ?_)
      | fail)
     ·intro _ hl0
      have HE:=jh (fineL_good HW0.out HFC.out HS.out hl0)
      have HCF:=jh ((HC0.out.trans (HC.out.mono (T:=fun k=>w.heap.size≤k) (fun k _ e=>by omega))).fresh)
      clear hl0 HS
      go_wp2_with fail
      refine (value_any d _).mono ?_
      rintro e w2 ⟨rfl,rfl⟩
      by_cases hv:valB d=true
      ·rw [hv]
       rw [hv,Bool.true_and] at HE
       by_cases hlt:L.length<W
       ·have HT:Hid (fineL W (d,L)=true):=jh (by rw [HE.out];simp;omega)
        have d1:decide (0<(W:Int)-L.length)=true:=by simp;omega
        clear HE
        go_wp2
        go_ret
        exact⟨by rw [HT.out];rfl,HCF.out⟩
       ·have HT:Hid (fineL W (d,L)=false):=jh (by rw [HE.out];simp;omega)
        have d1:decide (0<(W:Int)-L.length)=false:=by simp;omega
        clear HE
        go_wp2
        go_ret
        exact⟨by rw [HT.out];rfl,HCF.out⟩
      ·have hv':valB d=false:=by simpa using hv
       rw [hv']
       rw [hv',Bool.false_and] at HE
       clear hv hv'
       go_wp2
       go_ret
       exact⟨by rw [HE.out];rfl,HCF.out⟩
     ·intro x cv w1 cnt1 hwx hwc hlx hat hrg1 hlt hg1 hs1 hen
      have hxZ:=HIN.out x hlx
      have hcc:cv=((valsOf L).count x:Int):=by
       have:=hat (.lit (.int .i64 0))
       rw [HCN.out.at'] at this
       injection this with this
       injection this with _ this
       exact this.symm
      obtain⟨xb0,xb1⟩:=HVB.out x hxZ
      have hcb:0≤cv∧cv≤1000000000:=by
       have:=HCLE.out x
       omega
      obtain⟨cb0,cb1⟩:=hcb
      have HCC:=jh hcc
      have HXZ:=jh hxZ
      have HRG1:=jh hrg1
      have HLT:=jh hlt
      have HC1:=jh (HC.out.grown hg1 (fun j hj=>by cases hj;exact .inr hsz))
      have HIN1:Hid (∀ y,(left (.int .i64 y) && !(Lit.int .i64 y).sameKey (.int .i64 x))=true→y∈valsOf L):=jh (fun y hy=>by simp at hy;exact HIN.out y hy.1)
      have HCF:=jh ((HC0.out.trans (HC1.out.mono (T:=fun k=>w.heap.size≤k) (fun k _ e=>by omega))).fresh)
      obtain⟨b0,b1⟩:=HB0.out w1 HC1.out
      clear hwx hwc hlx hat hrg1 hlt hg1 hs1 hcc hxZ HIN HC
      by_cases h1:(W:Int)-L.length<cv
      ·have d1:decide ((W:Int)-L.length<cv)=true:=by simpa using h1
       have HF:Hid (fineL W (d,L)=false):=jh (fineL_often HW0.out HXZ.out (by have:=HCC.out;omega))
       clear HS
       go_wp2
       go_ret
       exact⟨by rw [HF.out];rfl,HCF.out⟩
      ·have d1:decide ((W:Int)-L.length<cv)=false:=by simpa using h1
       by_cases h2:cv=(W:Int)-L.length
       ·have d2:(cv == (W:Int)-L.length)=true:=by simpa using h2
        by_cases h3:x<d
        ·have d3:decide (x<d)=true:=by simpa using h3
         have HF:Hid (fineL W (d,L)=false):=jh (fineL_often HW0.out HXZ.out (by have:=HCC.out;omega))
         clear HS h2
         go_wp2
         go_ret
         exact⟨by rw [HF.out];rfl,HCF.out⟩
        ·have d3:decide (x<d)=false:=by simpa using h3
         have HSN:=jh (HS.out.next (x:=x) (.inr ⟨by have:=HCC.out;omega,by omega⟩))
         clear HS h2
         go_wp2
         go_roundw
         case rel=>exact⟨_,cnt1,HRG1.out,HSN.out,HIN1.out,HC1.out⟩
         case measure=>rw [HRG1.out.left_eq,HRG.out.left_eq];exact HLT.out
       ·have d2:(cv == (W:Int)-L.length)=false:=by simpa using h2
        have HSN:=jh (HS.out.next (x:=x) (.inl (by have:=HCC.out;omega)))
        clear HS h2
        go_wp2
        go_roundw
        case rel=>exact⟨_,cnt1,HRG1.out,HSN.out,HIN1.out,HC1.out⟩
        case measure=>rw [HRG1.out.left_eq,HRG.out.left_eq];exact HLT.out
end Go.Proofs.YtgnpmceimpjheaaGreat
namespace Go.Proofs.YtgnpmceimpjheaaGreat
open Go.RowKit
def nextL:Int→Int→List Int→Option Int
 | next,_,[]=>some next
 | next,m,i :: l=>if i<0∨next<i∨m≤i then none else nextL (if i=next then next+1 else next) m l
theorem nextL_le:∀ (l:List Int) (next m r:Int),nextL next m l=some r→next≤r∧r≤next+l.length
 | [],next,m,r,h=>by
  simp only [nextL,Option.some.injEq] at h
  simp
  omega
 | i :: l,next,m,r,h=>by
  simp only [nextL] at h
  split at h
  ·cases h
  ·have:=nextL_le l _ m r h
   simp only [List.length_cons]
   split at this <;> omega
def mayL:TabD→Bool
 | (W,R,O)=>decide (0≤W∧W≤65536∧O.length≤65536) && decide (nextL 0 R.length O=some (R.length:Int)) && R.all (fineL W.toNat) && decide R.Nodup
theorem mayL_width {W:Int} {R:List RowD} {O:List Int} (h:¬ (0≤W∧W≤65536∧O.length≤65536)):mayL (W,R,O)=false:=by
 simp only [mayL,decide_eq_false h,Bool.false_and]
theorem mayL_next {W:Int} {R:List RowD} {O:List Int} (h:nextL 0 R.length O≠some (R.length:Int)):mayL (W,R,O)=false:=by
 simp only [mayL,decide_eq_false h,Bool.false_and,Bool.and_false]
theorem mayL_fine {W:Int} {R:List RowD} {O:List Int} {r:RowD} (hr:r∈R) (h:fineL W.toNat r=false):mayL (W,R,O)=false:=by
 have:R.all (fineL W.toNat)=false:=by rw [List.all_eq_false];exact⟨r,hr,by simp [h]⟩
 simp only [mayL,this,Bool.false_and,Bool.and_false]
theorem mayL_twice {W:Int} {R:List RowD} {O:List Int} (h:¬ R.Nodup):mayL (W,R,O)=false:=by
 simp only [mayL,decide_eq_false h,Bool.and_false]
theorem mayL_good {W:Int} {R:List RowD} {O:List Int} (h1:0≤W∧W≤65536∧O.length≤65536) (h3:∀ r∈R,fineL W.toNat r=true) (h4:R.Nodup):mayL (W,R,O)=decide (nextL 0 R.length O=some (R.length:Int)):=by
 have:R.all (fineL W.toNat)=true:=List.all_eq_true.2 h3
 simp only [mayL,decide_eq_true h1,this,decide_eq_true h4,Bool.true_and,Bool.and_true]
theorem mayL_spec {W:Int} {R:List RowD} {O:List Int} (h:mayL (W,R,O)=true):(0≤W∧W≤65536∧O.length≤65536)∧nextL 0 R.length O=some (R.length:Int)∧(∀ r∈R,fineL W.toNat r=true)∧R.Nodup:=by
 simp only [mayL,Bool.and_eq_true,decide_eq_true_eq,List.all_eq_true] at h
 exact⟨h.1.1.1,h.1.1.2,h.1.2,h.2⟩
theorem RowsIn.get {E:Elt (Int × Int)} {F:Elt (Int × Sl)} {w:World} {B:Nat} {a:Option Addr} {n c:Nat} {R:List RowD} (h:RowsIn E F w B (a,n,c) R) (hz:F.sz=2) (he:∀ x,F.enc x=encRow x) {k:Nat} (hk:k<R.length) :
  ∃ (r:RowD) (g o:Nat) (xa:Option Addr) (xc:Nat),R[k]?=some r∧a=some ⟨g,o,none⟩∧w.cell? ⟨g,o+k * 2,none⟩=some (.int .i64 r.1)∧w.cell? ⟨g,o+k * 2+1,none⟩=some (.slice xa r.2.length xc)∧I.Byte r.1∧E.In w B (xa,r.2.length,xc) r.2∧g<w.heap.size∧B≤g:=by
 obtain⟨X,h1,h2,h3⟩:=h
 obtain⟨x,g,o,u,v,hx,ha,hp,c0,c1,-,hB,hg⟩:=h1.get2 hz (show k<X.length by omega)
 have hr:R[k]?=some R[k]:=List.getElem?_eq_getElem hk
 obtain⟨r1,r2,r3⟩:=h3 k x _ hx hr
 rw [he] at hp
 unfold encRow at hp
 simp only [List.cons.injEq,and_true] at hp
 obtain⟨rfl,rfl⟩:=hp
 obtain⟨xd,xa,xn,xc⟩:=x
 have hn:xn=R[k].2.length:=r3.1
 subst hn
 exact⟨R[k],g,o,xa,xc,hr,ha,by rw [← r1];exact c0,c1,r2,r3,hg,hB⟩
theorem indexRow_any (R:List RowD) (a:Option Addr) (c B B2:Nat) (d:Int) (L:List (Int × Int)) (ax:Option Addr) (cx:Nat) (w:World) (h:RowsIn cellE rowE w B (a,R.length,c) R) (hx:cellE.In w B2 (ax,L.length,cx) L) (hl:R.length≤1000000000) (hl2:L.length≤1000000000) :
  Calls Tryz.prog 178 #[.slice a R.length c,.func (.func 179) #[.agg #[.int .i64 d,.slice ax L.length cx]] #[]] w fun e w'=>e=.returned (.int .i64 (idxV (rowEq (d,L)) R))∧Chg (fun _=>False) w w':=by
 have HL:=jh h
 have HX:=jh hx
 clear h hx
 go_enter Tryz.func178,Tryz.ntmps178
 go_wp2
 go_loopw [8] (fun q wr=>∃ k:Nat,k≤R.length∧q=.int .i64 k∧(∀ (j:Nat) y,j<k→R[j]?=some y→rowEq (d,L) y=false)∧Chg (fun _=>False) w wr) (fun q _=>R.length-(intOf q).toNat)
 case atStart=>exact⟨0,by omega,rfl,fun j y h=>absurd h (Nat.not_lt_zero _),Chg.refl _ _⟩
 case round =>
  obtain⟨k,hk,rfl,hb,hc⟩:=hrel
  have HB:=jh hb
  have HC:=jh hc
  clear hb hc
  by_cases hkl:k<R.length
  ·have b9:decide ((k:Int)<(R.length:Int))=true:=by simp;omega
   obtain⟨r,g,o,xa,xc,hr,rfl,c0,c1,-,hin,-,-⟩:=(HL.out.same HC.out).get rfl (fun _=>rfl) hkl
   obtain⟨rd,rc⟩:=r
   simp only at c0 c1 hin
   have HR:=jh hr
   have HIN:=jh hin
   clear hr hin
   by_cases hxi:rowEq (d,L) (rd,rc)=true
   ·go_wp2_with fail
    refine (same_row d rd L rc ax xa cx xc B2 B wr (HX.out.same HC.out) HIN.out hl2).mono ?_
    rintro e w2 ⟨rfl,hc2⟩
    rw [hxi]
    have HC2:=jh (HC.out.trans hc2)
    have HF:Hid (idxV (rowEq (d,L)) R=k):=jh (idxV_found HR.out hxi HB.out)
    clear hc2 c0 c1
    go_wp2
    go_ret
    exact⟨by rw [HF.out];rfl,HC2.out⟩
   ·have hxi':rowEq (d,L) (rd,rc)=false:=by simpa using hxi
    have HB2:Hid (∀ (j:Nat) y,j<k+1→R[j]?=some y→rowEq (d,L) y=false):=jh (fun j y hj hy=>by
     by_cases he:j=k
     ·subst he;rw [HR.out] at hy;obtain rfl:=Option.some.inj hy;exact hxi'
     ·exact HB.out j y (by omega) hy)
    go_wp2_with fail
    refine (same_row d rd L rc ax xa cx xc B2 B wr (HX.out.same HC.out) HIN.out hl2).mono ?_
    rintro e w2 ⟨rfl,hc2⟩
    rw [hxi']
    have HC2:=jh (HC.out.trans hc2)
    clear hc2 c0 c1 hxi hxi'
    go_wp2
    go_roundw
    case rel=>exact⟨k+1,by omega,by go_num,HB2.out,HC2.out⟩
    case measure=>simp [intOf];omega
  ·obtain rfl:k=R.length:=by omega
   have HF:Hid (idxV (rowEq (d,L)) R=-1):=jh (idxV_none HB.out)
   go_wp2
   go_ret
   exact⟨by rw [HF.out];rfl,HC.out⟩
def hasRow (r:RowD) (R:List RowD):Bool:=R.any (rowEq r)
theorem hasRow_iff {r:RowD} {R:List RowD}:hasRow r R=true↔r∈R:=by
 simp only [hasRow,rowEq,List.any_eq_true,decide_eq_true_eq]
 exact⟨fun ⟨x,h1,h2⟩=>h2 ▸ h1,fun h=>⟨r,h,rfl⟩⟩
theorem containsRow_any (R:List RowD) (a:Option Addr) (c B B2:Nat) (d:Int) (L:List (Int × Int)) (ax:Option Addr) (cx:Nat) (w:World) (h:RowsIn cellE rowE w B (a,R.length,c) R) (hx:cellE.In w B2 (ax,L.length,cx) L) (hl:R.length≤1000000000) (hl2:L.length≤1000000000) :
  Calls Tryz.prog 181 #[.slice a R.length c,.func (.func 179) #[.agg #[.int .i64 d,.slice ax L.length cx]] #[]] w fun e w'=>e=.returned (.bool (hasRow (d,L) R))∧Chg (fun _=>False) w w':=by
 have HL:=jh h
 have HX:=jh hx
 clear h hx
 rcases idx_cases (rowEq (d,L)) R with ⟨k,x,-,-,h3,-,h5⟩|⟨h3,-,h5⟩
 ·have HI:=jh h3
  have HN:Hid (hasRow (d,L) R=true):=jh h5
  clear h3 h5
  go_enter Tryz.func181,Tryz.ntmps181
  go_wp2_with fail
  refine (indexRow_any R a c B B2 d L ax cx _ HL.out HX.out hl hl2).mono ?_
  rintro e w2 ⟨rfl,hc2⟩
  rw [HI.out]
  have HC:=jh hc2
  clear hc2
  go_wp2
  go_ret
  exact⟨by rw [HN.out];rfl,HC.out⟩
 ·have HI:=jh h3
  have HN:Hid (hasRow (d,L) R=false):=jh h5
  clear h3 h5
  go_enter Tryz.func181,Tryz.ntmps181
  go_wp2_with fail
  refine (indexRow_any R a c B B2 d L ax cx _ HL.out HX.out hl hl2).mono ?_
  rintro e w2 ⟨rfl,hc2⟩
  rw [HI.out]
  have HC:=jh hc2
  clear hc2
  go_wp2
  go_ret
  exact⟨by rw [HN.out];rfl,HC.out⟩
theorem RowsIn.take {E:Elt (Int × Int)} {F:Elt (Int × Sl)} {w:World} {B:Nat} {a:Option Addr} {n c:Nat} {R:List RowD} (h:RowsIn E F w B (a,n,c) R) {k:Nat} (hk:k≤R.length):RowsIn E F w B (a,(R.take k).length,c) (R.take k):=by
 obtain⟨X,⟨h1,h2,g,o,h3,h4⟩,h5,h6⟩:=h
 simp only at h1 h2
 have hX:X=X.take k++X.drop k:=(List.take_append_drop k X).symm
 refine⟨X.take k,⟨?_,?_,g,o,⟨fun j u hj=>?_,fun x hx=>h3.ok x (List.mem_of_mem_take hx),fun hne=>h3.lt (fun e=>hne (by rw [e];simp))⟩,fun hp=>h4 (by rw [List.length_take] at hp;omega)⟩,by simp [h5],fun j x r hx hr=>?_⟩
 ·simp [h5]
 ·show (R.take k).length≤c
  rw [List.length_take];omega
 ·refine h3.c j u ?_
  rw [hX,F.encs_append,List.getElem?_append_left (List.getElem?_eq_some_iff.1 hj).1]
  exact hj
 ·have hj:=(List.getElem?_eq_some_iff.1 hx).1
  rw [List.length_take] at hj
  rw [List.getElem?_take_of_lt (by omega)] at hx hr
  exact h6 j x r hx hr
theorem nextL_step {next m i:Int} {O:List Int} {k:Nat} (hi:O[k]?=some i):nextL next m (O.drop k)=if i<0∨next<i∨m≤i then none else nextL (if i=next then next+1 else next) m (O.drop (k+1)):=by
 have h1:=(List.getElem?_eq_some_iff.1 hi).1
 rw [List.drop_eq_getElem_cons h1,(List.getElem?_eq_some_iff.1 hi).2]
 rfl
def FineTo (W:Int) (R:List RowD) (k:Nat):Prop:=(∀ (j:Nat) r,j<k→R[j]?=some r→fineL W.toNat r=true)∧(R.take k).Nodup
theorem may_any (W:Int) (R:List RowD) (O:List Int) (ra oa:Option Addr) (rc oc B g o:Nat) (w:World) (hW:I.Byte W) (hR:RowsIn cellE rowE w B (ra,R.length,rc) R) (hrl:R.length≤100000000) (hcl:∀ r∈R,r.2.length≤1000000000)
  (hO:I.BytesAt w g o O) (ha:0<O.length→oa=some ⟨g,o,none⟩) (hol:O.length≤100000000) :
  Calls Tryz.prog 157 #[.agg #[.int .i64 W,.slice ra R.length rc,.slice oa O.length oc]] w fun e w'=>e=.returned (.bool (mayL (W,R,O)))∧Chg (fun _=>False) w w':=by
 have HR:=jh hR
 have HO:=jh hO
 have HA:=jh ha
 have HCL:=jh hcl
 obtain⟨hW0,hW1⟩:=hW
 have hrc:R.length≤rc:=by obtain⟨X,h1,h2,_⟩:=hR;have:=h1.1;have:=h1.2.1;simp only at *;omega
 have HC0:=jh ((Chg.refl (fun k=>w.heap.size≤k) w).alloc (.cells #[.int .i64 W,.slice ra R.length rc,.slice oa O.length oc] 201))
 have HB0:Hid (∀ wr,Chg (fun k=>w.heap.size+1≤k) (w.alloc (.cells #[.int .i64 W,.slice ra R.length rc,.slice oa O.length oc] 201)) wr→wr.cell? ⟨w.heap.size,0,none⟩=some (.int .i64 W)∧wr.cell? ⟨w.heap.size,1,none⟩=some (.slice ra R.length rc)∧wr.cell? ⟨w.heap.size,2,none⟩=some (.slice oa O.length oc)):=jh fun wr hc =>
  ⟨hc.cellS (by simp) (by show ¬ w.heap.size+1≤w.heap.size;omega),hc.cellS (by simp) (by show ¬ w.heap.size+1≤w.heap.size;omega),hc.cellS (by simp) (by show ¬ w.heap.size+1≤w.heap.size;omega)⟩
 clear hR hO ha hcl
 by_cases h1:0≤W
 ·have d1:decide (W<0)=false:=by simp;omega
  by_cases h2:W≤65536
  ·have d2:decide (65536<W)=false:=by simp;omega
   by_cases h3:O.length≤65536
   ·have d3:decide (65536<(O.length:Int))=false:=by simp;omega
    by_cases h4:R.length≤O.length
    ·have d4:decide ((O.length:Int)<(R.length:Int))=false:=by simp;omega
     go_enter Tryz.func157,Tryz.ntmps157
     go_wp2
     go_loopw [3,34] (fun nv q wr=>∃ (k:Nat) (next:Int),k≤O.length∧q=.int .i64 k∧nv=.int .i64 next∧(0≤next∧next≤k)∧nextL 0 R.length O=nextL next R.length (O.drop k)∧wr=w.alloc (.cells #[.int .i64 W,.slice ra R.length rc,.slice oa O.length oc] 201)) (fun _ q _=>O.length-(intOf q).toNat)
     case atStart=>exact⟨0,0,by omega,rfl,rfl,by omega,by simp,rfl⟩
     case round =>
      obtain⟨k,next,hk,rfl,rfl,⟨n0,n1⟩,he,rfl⟩:=hrel
      have HE:=jh he
      clear he
      by_cases hkl:k<O.length
      ·have b35:decide ((k:Int)<(O.length:Int))=true:=by simp;omega
       obtain⟨i,hi,c1,i0,i1⟩:=(HO.out.chg HC0.out.fresh (fun _ h=>h)).get hkl
       have e1:=HA.out (by omega)
       subst e1
       have HST:=jh (nextL_step (next:=next) (m:=R.length) hi)
       clear hi
       by_cases g1:i<0
       ·have q1:decide (i<0)=true:=by simpa using g1
        have HF:Hid (mayL (W,R,O)=false):=jh (mayL_next (by rw [HE.out,HST.out,if_pos (.inl g1)];simp))
        go_wp2
        go_ret
        exact⟨by rw [HF.out];rfl,HC0.out.fresh⟩
       ·have q1:decide (i<0)=false:=by simpa using g1
        by_cases g2:next<i
        ·have q2:decide (next<i)=true:=by simpa using g2
         have HF:Hid (mayL (W,R,O)=false):=jh (mayL_next (by rw [HE.out,HST.out,if_pos (.inr (.inl g2))];simp))
         go_wp2
         go_ret
         exact⟨by rw [HF.out];rfl,HC0.out.fresh⟩
        ·have q2:decide (next<i)=false:=by simpa using g2
         by_cases g3:(R.length:Int)≤i
         ·have q3:decide ((R.length:Int)≤i)=true:=by simpa using g3
          have HF:Hid (mayL (W,R,O)=false):=jh (mayL_next (by rw [HE.out,HST.out,if_pos (.inr (.inr g3))];simp))
          go_wp2
          go_ret
          exact⟨by rw [HF.out];rfl,HC0.out.fresh⟩
         ·have q3:decide ((R.length:Int)≤i)=false:=by simpa using g3
          have HEN:Hid (nextL 0 R.length O=nextL (if i=next then next+1 else next) R.length (O.drop (k+1))):=jh (by rw [HE.out,HST.out,if_neg (by omega)])
          clear HE HST
          by_cases g4:i=next
          ·subst g4
           rw [if_pos rfl] at HEN
           have q4:(i == i)=true:=by simp
           go_wp2
           go_roundw
           case rel=>exact⟨k+1,i+1,by omega,by go_num,rfl,by omega,HEN.out,by first|rfl|trivial⟩
           case measure=>simp [intOf];omega
          ·rw [if_neg g4] at HEN
           have q4:(i == next)=false:=by simpa using g4
           clear g4
           go_wp2
           go_roundw
           case rel=>exact⟨k+1,next,by omega,by go_num,rfl,by omega,HEN.out,by first|rfl|trivial⟩
           case measure=>simp [intOf];omega
      ·obtain rfl:k=O.length:=by omega
       have HNX:Hid (nextL 0 R.length O=some next):=jh (by rw [HE.out,List.drop_length];rfl)
       clear HE
       go_wp2
       go_loopw [59] (fun q wr=>∃ (k:Nat),k≤R.length∧q=.int .i64 k∧FineTo W R k∧Chg (fun k=>w.heap.size+1≤k) (w.alloc (.cells #[.int .i64 W,.slice ra R.length rc,.slice oa O.length oc] 201)) wr) (fun q _=>R.length-(intOf q).toNat)
       case atStart=>exact⟨0,by omega,rfl,⟨fun j r h=>absurd h (Nat.not_lt_zero _),by simp⟩,Chg.refl _ _⟩
       case round =>
        obtain⟨k,hk,rfl,⟨hfn,hnd⟩,hc⟩:=hrel
        have HFN:=jh hfn
        have HND:=jh hnd
        have HC:=jh hc
        have HCW:=jh ((HC0.out.trans (hc.mono (T:=fun k=>w.heap.size≤k) (fun k _ e=>by omega))).fresh)
        obtain⟨b0,b1,b2⟩:=HB0.out wr hc
        clear hfn hnd hc
        by_cases hkl:k<R.length
        ·have b60:decide ((k:Int)<(R.length:Int))=true:=by simp;omega
         obtain⟨r,g',o',xa,xc,hr,rfl,c0,c1,hrb,hin,-,-⟩:=(HR.out.same HCW.out).get rfl (fun _=>rfl) hkl
         obtain⟨rd,rl⟩:=r
         simp only at c0 c1 hin hrb
         have HRK:=jh hr
         have HRB:=jh hrb
         have HIN:=jh hin
         have HRL:=jh (HCL.out _ (List.mem_of_getElem? hr))
         obtain⟨WN,hWN⟩:∃ n:Nat,W=n:=⟨W.toNat,by omega⟩
         subst hWN
         have HTK:Hid ((R.take k).length=k):=jh (by rw [List.length_take];omega)
         have HFF:Hid (∀ b,fineL WN (rd,rl)=b→fineL (WN:Int).toNat (rd,rl)=b):=jh (fun b h=>h)
         have HCA:=jh (HC.out.alloc (.cells #[.int .i64 rd,.slice xa rl.length xc] 241))
         have HCA2:=jh (HCW.out.alloc (.cells #[.int .i64 rd,.slice xa rl.length xc] 241))
         clear hr hin hrb
         obtain⟨wa,hwa⟩:∃ wa,wa=wr.alloc (.cells #[.int .i64 rd,.slice xa rl.length xc] 241):=⟨_,rfl⟩
         have HRC:Hid (∀ wx,Chg (fun _=>False) wa wx→wx.cell? ⟨wr.heap.size,0,none⟩=some (.int .i64 rd)∧wx.cell? ⟨wr.heap.size,1,none⟩=some (.slice xa rl.length xc)):=jh (fun wx hx=>by subst hwa;exact⟨hx.cellS (by simp) (fun h=>h),hx.cellS (by simp) (fun h=>h)⟩)
         have HWA:=jh hwa
         rw [← hwa] at HCA HCA2
         clear hwa
         have HCW2:Hid (Chg (fun _=>False) wr wa):=jh (by rw [HWA.out];exact (Chg.refl _ _).alloc _)
         by_cases hf:fineL WN (rd,rl)=true
         ·by_cases hh:hasRow (rd,rl) (R.take k)=true
          ·have HF:Hid (mayL ((WN:Int),R,O)=false):=jh (mayL_twice (fun hn=>by
            have hm:=hasRow_iff.1 hh
            obtain⟨j,hj,he⟩:=List.getElem_of_mem hm
            rw [List.length_take] at hj
            rw [List.getElem_take] at he
            have:=(List.getElem?_inj (i:=j) (j:=k) (by omega) hn).1 (by rw [HRK.out,List.getElem?_eq_getElem (by omega),he])
            omega))
           go_upto_region 17 with (fail)
           rw [← HWA.out]
           refine wp_region_same (fun w'=>Chg (fun _=>False) wa w') (by kernel_rfl) (by kernel_rfl) ?_ ?_
           ·exact (Chg.refl _ _).drew
           (refine rdC fun K hK=>?_;apply ei;intro _ w' _ hC;((obtain⟨q0,q1⟩:=HRC.out w' hC);go_simp;try with_reducible rfl);(try go_simp);refine hK _ ?_;clear hK K)
           (refine rdC fun K hK=>?_;apply ei;intro _ w' _ hC;(go_simp;try with_reducible rfl);(try go_simp);refine hK _ ?_;clear hK K)
           (refine rdC fun K hK=>?_;apply ei;intro _ w' _ hC;((obtain⟨q0,q1,q2⟩:=HB0.out w' (HCA.out.trans hC.any));go_simp;try with_reducible rfl);(try go_simp);refine hK _ ?_;clear hK K)
           refine wpC_call rfl (Value.bool true )  180  ( #[.agg #[.int .i64 rd,.slice xa rl.length xc],.int .i64 WN]) (fun w'=>by go_simp) (fun _ w' _ hC=>?_) (fun K hK=>?_)
           ·refine (fine_any WN rd rl xa xc B w' (HIN.out.same (HCW2.out.trans hC)) HRL.out (by omega) HRB.out).mono ?_
            rintro e w2 ⟨rfl,hc2⟩
            exact⟨by rw [hf],hC.trans hc2⟩
           ((try go_simp);refine hK _ ?_;clear hK K)
           (refine rdC fun K hK=>?_;apply ei;intro _ w' _ hC;(go_simp;try with_reducible rfl);(try go_simp);refine hK _ ?_;clear hK K)
           (refine rdC fun K hK=>?_;apply ei;intro _ w' _ hC;(go_simp;try with_reducible rfl);(try go_simp);refine hK _ ?_;clear hK K)
           (refine rdC fun K hK=>?_;apply ei;intro _ w' _ hC;(go_simp;try with_reducible rfl);(try go_simp);refine hK _ ?_;clear hK K)
           (refine rdC fun K hK=>?_;apply ei;intro _ w' _ hC;((obtain⟨q0,q1,q2⟩:=HB0.out w' (HCA.out.trans hC.any));go_simp;try with_reducible rfl);(try go_simp);refine hK _ ?_;clear hK K)
           (refine rdC fun K hK=>?_;apply ei;intro _ w' _ hC;(go_simp;try with_reducible rfl);(try go_simp);refine hK _ ?_;clear hK K)
           (refine rdC fun K hK=>?_;apply ei;intro _ w' _ hC;((have hkr:k≤rc:=by omega);go_simp;try with_reducible rfl);(try go_simp);refine hK _ ?_;clear hK K)
           (refine rdC fun K hK=>?_;apply ei;intro _ w' _ hC;((obtain⟨q0,q1⟩:=HRC.out w' hC);go_simp;try with_reducible rfl);(try go_simp);refine hK _ ?_;clear hK K)
           (refine rdC fun K hK=>?_;apply ei;intro _ w' _ hC;(go_simp;try with_reducible rfl);(try go_simp);refine hK _ ?_;clear hK K)
           refine wpC_call rfl (Value.bool true )  181  ( #[.slice (some ⟨g',o',none⟩) k rc,.func (.func 179) #[.agg #[.int .i64 rd,.slice xa rl.length xc]] #[]]) (fun w'=>by go_simp) (fun _ w' _ hC=>?_) (fun K hK=>?_)
           ·have hct:=containsRow_any (R.take k) (some ⟨g',o',none⟩) rc B B rd rl xa xc w' ((HR.out.same (HCA2.out.trans hC)).take (by omega)) (HIN.out.same (HCW2.out.trans hC)) (by rw [HTK.out];omega) HRL.out
            rw [HTK.out] at hct
            refine hct.mono ?_
            rintro e w2 ⟨rfl,hc2⟩
            exact⟨by rw [hh],hC.trans hc2⟩
           ((try go_simp);refine hK _ ?_;clear hK K)
           (refine rdC fun K hK=>?_;apply ei;intro _ w' _ hC;(go_simp;try with_reducible rfl);(try go_simp);refine hK _ ?_;clear hK K)
           refine wpC_nil ?_
           intro w2 hC2
           have HC2:=jh hC2
           clear hC2
           go_wp2
           go_ret
           exact⟨by rw [HF.out];rfl,HCA2.out.trans HC2.out⟩
          ·have hh:hasRow (rd,rl) (R.take k)=false:=by simpa using hh
           have HFN2:Hid (∀ (j:Nat) r,j<k+1→R[j]?=some r→fineL (WN:Int).toNat r=true):=jh (fun j x hj hx=>by
            by_cases he:j=k
            ·subst he;rw [HRK.out] at hx;obtain rfl:=Option.some.inj hx;exact hf
            ·exact HFN.out j x (by omega) hx)
           have HND2:Hid ((R.take (k+1)).Nodup):=jh (by
            rw [List.take_add_one,HRK.out,List.nodup_append]
            refine⟨HND.out,by simp,fun a ha b hb=>?_⟩
            simp at hb
            subst hb
            intro e
            subst e
            rw [hasRow_iff.2 ha] at hh
            cases hh)
           go_upto_region 17 with (fail)
           rw [← HWA.out]
           refine wp_region_same (fun w'=>Chg (fun _=>False) wa w') (by kernel_rfl) (by kernel_rfl) ?_ ?_
           ·exact (Chg.refl _ _).drew
           (refine rdC fun K hK=>?_;apply ei;intro _ w' _ hC;((obtain⟨q0,q1⟩:=HRC.out w' hC);go_simp;try with_reducible rfl);(try go_simp);refine hK _ ?_;clear hK K)
           (refine rdC fun K hK=>?_;apply ei;intro _ w' _ hC;(go_simp;try with_reducible rfl);(try go_simp);refine hK _ ?_;clear hK K)
           (refine rdC fun K hK=>?_;apply ei;intro _ w' _ hC;((obtain⟨q0,q1,q2⟩:=HB0.out w' (HCA.out.trans hC.any));go_simp;try with_reducible rfl);(try go_simp);refine hK _ ?_;clear hK K)
           refine wpC_call rfl (Value.bool true )  180  ( #[.agg #[.int .i64 rd,.slice xa rl.length xc],.int .i64 WN]) (fun w'=>by go_simp) (fun _ w' _ hC=>?_) (fun K hK=>?_)
           ·refine (fine_any WN rd rl xa xc B w' (HIN.out.same (HCW2.out.trans hC)) HRL.out (by omega) HRB.out).mono ?_
            rintro e w2 ⟨rfl,hc2⟩
            exact⟨by rw [hf],hC.trans hc2⟩
           ((try go_simp);refine hK _ ?_;clear hK K)
           (refine rdC fun K hK=>?_;apply ei;intro _ w' _ hC;(go_simp;try with_reducible rfl);(try go_simp);refine hK _ ?_;clear hK K)
           (refine rdC fun K hK=>?_;apply ei;intro _ w' _ hC;(go_simp;try with_reducible rfl);(try go_simp);refine hK _ ?_;clear hK K)
           (refine rdC fun K hK=>?_;apply ei;intro _ w' _ hC;(go_simp;try with_reducible rfl);(try go_simp);refine hK _ ?_;clear hK K)
           (refine rdC fun K hK=>?_;apply ei;intro _ w' _ hC;((obtain⟨q0,q1,q2⟩:=HB0.out w' (HCA.out.trans hC.any));go_simp;try with_reducible rfl);(try go_simp);refine hK _ ?_;clear hK K)
           (refine rdC fun K hK=>?_;apply ei;intro _ w' _ hC;(go_simp;try with_reducible rfl);(try go_simp);refine hK _ ?_;clear hK K)
           (refine rdC fun K hK=>?_;apply ei;intro _ w' _ hC;((have hkr:k≤rc:=by omega);go_simp;try with_reducible rfl);(try go_simp);refine hK _ ?_;clear hK K)
           (refine rdC fun K hK=>?_;apply ei;intro _ w' _ hC;((obtain⟨q0,q1⟩:=HRC.out w' hC);go_simp;try with_reducible rfl);(try go_simp);refine hK _ ?_;clear hK K)
           (refine rdC fun K hK=>?_;apply ei;intro _ w' _ hC;(go_simp;try with_reducible rfl);(try go_simp);refine hK _ ?_;clear hK K)
           refine wpC_call rfl (Value.bool false )  181  ( #[.slice (some ⟨g',o',none⟩) k rc,.func (.func 179) #[.agg #[.int .i64 rd,.slice xa rl.length xc]] #[]]) (fun w'=>by go_simp) (fun _ w' _ hC=>?_) (fun K hK=>?_)
           ·have hct:=containsRow_any (R.take k) (some ⟨g',o',none⟩) rc B B rd rl xa xc w' ((HR.out.same (HCA2.out.trans hC)).take (by omega)) (HIN.out.same (HCW2.out.trans hC)) (by rw [HTK.out];omega) HRL.out
            rw [HTK.out] at hct
            refine hct.mono ?_
            rintro e w2 ⟨rfl,hc2⟩
            exact⟨by rw [hh],hC.trans hc2⟩
           ((try go_simp);refine hK _ ?_;clear hK K)
           (refine rdC fun K hK=>?_;apply ei;intro _ w' _ hC;(go_simp;try with_reducible rfl);(try go_simp);refine hK _ ?_;clear hK K)
           refine wpC_nil ?_
           intro w2 hC2
           have HC2:=jh hC2
           clear hC2
           have HC3:=jh (HCA.out.trans HC2.out.any)
           clear hf hh
           go_wp2
           go_roundw
           case rel=>first|exact⟨k+1,by omega,by go_num,⟨HFN2.out,HND2.out⟩,HC3.out⟩|((repeat apply Exists.intro);exact⟨⟨k+1,by omega,rfl,⟨HFN2.out,HND2.out⟩,HC3.out⟩,by (repeat' apply And.intro) <;> first|rfl|go_num⟩)
           case measure=>simp [intOf];omega
         ·have hf:fineL WN (rd,rl)=false:=by simpa using hf
          have HF:Hid (mayL ((WN:Int),R,O)=false):=jh (mayL_fine (List.mem_of_getElem? HRK.out) hf)
          go_upto_region 17 with (fail)
          rw [← HWA.out]
          refine wp_region_same (fun w'=>Chg (fun _=>False) wa w') (by kernel_rfl) (by kernel_rfl) ?_ ?_
          ·exact (Chg.refl _ _).drew
          (refine rdC fun K hK=>?_;apply ei;intro _ w' _ hC;((obtain⟨q0,q1⟩:=HRC.out w' hC);go_simp;try with_reducible rfl);(try go_simp);refine hK _ ?_;clear hK K)
          (refine rdC fun K hK=>?_;apply ei;intro _ w' _ hC;(go_simp;try with_reducible rfl);(try go_simp);refine hK _ ?_;clear hK K)
          (refine rdC fun K hK=>?_;apply ei;intro _ w' _ hC;((obtain⟨q0,q1,q2⟩:=HB0.out w' (HCA.out.trans hC.any));go_simp;try with_reducible rfl);(try go_simp);refine hK _ ?_;clear hK K)
          refine wpC_call rfl (Value.bool false )  180  ( #[.agg #[.int .i64 rd,.slice xa rl.length xc],.int .i64 WN]) (fun w'=>by go_simp) (fun _ w' _ hC=>?_) (fun K hK=>?_)
          ·refine (fine_any WN rd rl xa xc B w' (HIN.out.same (HCW2.out.trans hC)) HRL.out (by omega) HRB.out).mono ?_
           rintro e w2 ⟨rfl,hc2⟩
           exact⟨by rw [hf],hC.trans hc2⟩
          ((try go_simp);refine hK _ ?_;clear hK K)
          (refine rdC fun K hK=>?_;apply ei;intro _ w' _ hC;(go_simp;try with_reducible rfl);(try go_simp);refine hK _ ?_;clear hK K)
          (refine rdC fun K hK=>?_;apply ei;intro _ w' _ hC;(go_simp;try with_reducible rfl);(try go_simp);refine hK _ ?_;clear hK K)
          iterate 7 (refine wpC_skip rfl (fun _ _ _ h=>h) fun K hK=>?_;(try go_simp);refine hK _ ?_;clear hK K)
          (refine rdC fun K hK=>?_;apply ei;intro _ w' _ hC;(go_simp;try with_reducible rfl);(try go_simp);refine hK _ ?_;clear hK K)
          refine wpC_nil ?_
          intro w2 hC2
          have HC2:=jh hC2
          clear hC2
          go_wp2
          go_ret
          exact⟨by rw [HF.out];rfl,HCA2.out.trans HC2.out⟩
        ·obtain rfl:k=R.length:=by omega
         have HMG:Hid (mayL (W,R,O)=decide (nextL 0 R.length O=some (R.length:Int))):=jh (mayL_good ⟨h1,h2,h3⟩ (fun r hr=>by
          obtain⟨j,hj,he⟩:=List.getElem_of_mem hr
          exact HFN.out j r hj (by rw [List.getElem?_eq_getElem hj,he])) (by have:=HND.out;rwa [List.take_length] at this))
         by_cases hnx:next=(R.length:Int)
         ·have HF:Hid (mayL (W,R,O)=true):=jh (by rw [HMG.out,HNX.out,hnx];simp)
          have q1:(next == (R.length:Int))=true:=by simpa using hnx
          clear hnx HMG HNX
          go_wp2
          go_ret
          exact⟨by rw [HF.out];rfl,HCW.out⟩
         ·have HF:Hid (mayL (W,R,O)=false):=jh (by rw [HMG.out,HNX.out];simpa using hnx)
          have q1:(next == (R.length:Int))=false:=by simpa using hnx
          clear hnx HMG HNX
          go_wp2
          go_ret
          exact⟨by rw [HF.out];rfl,HCW.out⟩
    ·have d4:decide ((O.length:Int)<(R.length:Int))=true:=by simp;omega
     have HF:Hid (mayL (W,R,O)=false):=jh (mayL_next (fun e=>by have:=nextL_le O 0 R.length _ e;omega))
     go_enter Tryz.func157,Tryz.ntmps157
     go_wp2
     go_ret
     exact⟨by rw [HF.out];rfl,HC0.out.fresh⟩
   ·have d3:decide (65536<(O.length:Int))=true:=by simp;omega
    have HF:Hid (mayL (W,R,O)=false):=jh (mayL_width (by omega))
    go_enter Tryz.func157,Tryz.ntmps157
    go_wp2
    go_ret
    exact⟨by rw [HF.out];rfl,HC0.out.fresh⟩
  ·have d2:decide (65536<W)=true:=by simp;omega
   have HF:Hid (mayL (W,R,O)=false):=jh (mayL_width (by omega))
   go_enter Tryz.func157,Tryz.ntmps157
   go_wp2
   go_ret
   exact⟨by rw [HF.out];rfl,HC0.out.fresh⟩
 ·have d1:decide (W<0)=true:=by simp;omega
  have HF:Hid (mayL (W,R,O)=false):=jh (mayL_width (by omega))
  go_enter Tryz.func157,Tryz.ntmps157
  go_wp2
  go_ret
  exact⟨by rw [HF.out];rfl,HC0.out.fresh⟩
end Go.Proofs.YtgnpmceimpjheaaGreat
namespace Go.Proofs.YtgnpmceimpjheaaGreat
section
variable {P:Program} {ops:Array Oper} {Q:Exit→Act→World→Prop} {md:Region.Mode} {S:World→Prop} {late:Nat→Bool}
def wpAnyL (P:Program) (md:Region.Mode) (ops:Array Oper) (Q:Exit→Act→World→Prop) (S:World→Prop) (late:Nat→Bool):Nat→Array Bool→Act→World→Prop
 | 0,listed,a,w=>Region.ready md ops listed=[]∧Q .normal a w
 | fuel+1,listed,a,w=>(Region.ready md ops listed=[]→Q .normal a w) ∧
  ∀ i∈Region.ready md ops listed,wpOp P ops Q i (fun a' w'=>(late i=false→S w')∧wpAnyL P md ops Q S late fuel (listed.setIfInBounds i true) a' w') a w
theorem wpAny_of_late:∀ (fuel:Nat) (listed:Array Bool) (a:Act) (w:World),wpAnyL P md ops Q S late fuel listed a w→wpAny P md ops Q fuel listed a w
 | 0,_,_,_,h=>h
 | fuel+1,_,_,_,h=>⟨h.1,fun i hi=>wpOp_mono (fun a' w' h'=>wpAny_of_late fuel _ a' w' h'.2) (h.2 i hi)⟩
def waitsB (md:Region.Mode) (ops:Array Oper):Nat→Nat→Nat→Bool
 | 0,_,_=>false
 | f+1,j,i=>match ops[j]? with
  | none=>false
  | some oj=>oj.after.any fun e=>Region.binds md e && (decide (e.on=i) || waitsB md ops f e.on i)
def Closed (md:Region.Mode) (ops:Array Oper) (listed:Array Bool):Prop :=
 ∀ (k:Nat) (ok:Oper),ops[k]?=some ok→listed.getD k false=true→∀ e∈ok.after,Region.binds md e=true→listed.getD e.on false=true
def closedB (md:Region.Mode) (ops:Array Oper) (listed:Array Bool):Bool :=
 ops.toList.zipIdx.all fun x=>!(listed.getD x.2 false) || x.1.after.all fun e=>!Region.binds md e || listed.getD e.on false
theorem closedB_spec {listed:Array Bool} (h:closedB md ops listed=true):Closed md ops listed:=by
 intro k ok hk hl e he hb
 have h1:=List.all_eq_true.1 h (ok,k) (by
  obtain⟨hlt,rfl⟩:=Array.getElem?_eq_some_iff.1 hk
  exact List.mem_iff_getElem.2 ⟨k,by simpa using hlt,by simp⟩)
 simp only [hl,Bool.not_true,Bool.false_or] at h1
 have h2:=Array.all_eq_true_iff_forall_mem.1 h1 e he
 simpa only [hb,Bool.not_true,Bool.false_or] using h2
theorem Closed.set {listed:Array Bool} (h:Closed md ops listed) {j:Nat} (hj:j∈Region.ready md ops listed):Closed md ops (listed.setIfInBounds j true):=by
 obtain⟨_,oj,hoj,hall⟩:=mem_ready.1 hj
 have up:∀ k,listed.getD k false=true→(listed.setIfInBounds j true).getD k false=true:=fun k hk=>by
  by_cases he:j=k
  ·subst he
   simp only [Array.getD_eq_getD_getElem?] at hk ⊢
   rcases Nat.lt_or_ge j listed.size with h'|h'
   ·simp [h']
   ·simp [Array.getElem?_eq_none h'] at hk
  ·rw [getD_set_ne false he];exact hk
 intro k ok hk hl e he hb
 by_cases hjk:j=k
 ·subst hjk
  rw [hoj] at hk
  obtain rfl:=Option.some.inj hk
  exact up _ (hall e he hb)
 ·rw [getD_set_ne false hjk] at hl
  exact up _ (h k ok hk hl e he hb)
theorem waits_listed {listed:Array Bool} (hc:Closed md ops listed) {i:Nat}:∀ (f j:Nat),(∀ oj,ops[j]?=some oj→∀ e∈oj.after,Region.binds md e=true→listed.getD e.on false=true)→waitsB md ops f j i=true→listed.getD i false=true
 | 0,_,_,h=>by cases h
 | f+1,j,hp,h=>by
  simp only [waitsB] at h
  cases ho:ops[j]? with
  | none=>rw [ho] at h;cases h
  | some oj =>
   rw [ho] at h
   obtain⟨e,he,h2⟩:=Array.any_eq_true.1 h
   simp only [Bool.and_eq_true,Bool.or_eq_true,decide_eq_true_eq] at h2
   have h3:=hp oj ho _ (Array.getElem_mem he) h2.1
   rcases h2.2 with h4|h4
   ·rw [← h4];exact h3
   ·exact waits_listed hc f _ (fun ok hk=>hc _ ok hk h3) h4
def lateB (md:Region.Mode) (ops:Array Oper) (late:Nat→Bool) (i:Nat):Bool :=
 (List.range ops.size).all fun j=>!late j || decide (j=i) || waitsB md ops ops.size j i
theorem lateB_spec {i:Nat} (h:lateB md ops late i=true):∀ (j:Nat) (oj:Oper),ops[j]?=some oj→late j=true→j≠i→waitsB md ops ops.size j i=true:=by
 intro j oj hj hl hji
 have h1:=List.all_eq_true.1 h j (List.mem_range.2 (Array.getElem?_eq_some_iff.1 hj).1)
 simp only [hl,Bool.not_true,Bool.false_or,Bool.or_eq_true,decide_eq_true_eq] at h1
 rcases h1 with h1|h1
 ·exact absurd h1 hji
 ·exact h1
theorem late_first {i:Nat} {oi:Oper} {v:Value} (hi:ops[i]?=some oi) (hsel:∀ (j:Nat) (o:Oper) cs b,ops[j]?=some o→o.op≠.select cs b)
  (hQ:∀ c a w,Q (.panic c) (a.put oi.dst v) w→Q (.panic c) a w) (hlate:∀ (j:Nat) (oj:Oper),ops[j]?=some oj→late j=true→j≠i→waitsB md ops ops.size j i=true) :
  ∀ (fuel:Nat) (listed:Array Bool) (a:Act) (w:World),Closed md ops listed →
   (∀ j oj,ops[j]?=some oj→j≠i→listed.getD j true=false→(∀ e∈oj.after,Region.binds md e=true→e.on≠i)→oi.apart ops oj=true) →
   i∈Region.ready md ops listed→YieldsIf P ops S oi v a→S w →
   wpAnyL P md ops Q S late fuel (listed.setIfInBounds i true) (a.put oi.dst v) w→wpAnyL P md ops Q S late (fuel+1) listed a w:=by
 intro fuel
 induction fuel with
 | zero =>
  intro listed a w _ _ hr hy hS H
  refine⟨fun h=>(by rw [h] at hr;cases hr),fun j hj=>?_⟩
  by_cases hji:j=i
  ·subst hji;exact hy.wpOp hi hS ⟨fun _=>hS,H⟩
  ·have:=ready_mono hj hji
   rw [H.1] at this
   cases this
 | succ fuel ih =>
  intro listed a w hcl hfree hr hy hS H
  refine⟨fun h=>(by rw [h] at hr;cases hr),fun j hj=>?_⟩
  by_cases hji:j=i
  ·subst hji;exact hy.wpOp hi hS ⟨fun _=>hS,H⟩
  ·obtain⟨hjun,oj,hoj,hall⟩:=mem_ready.1 hj
   have hnot:∀ e∈oj.after,Region.binds md e=true→e.on≠i:=fun e he hb heq=>by
    have h1:=hall e he hb
    have h0:=(mem_ready.1 hr).1
    rw [heq] at h1
    rcases Nat.lt_or_ge i listed.size with h'|h'
    ·simp [h'] at h0 h1;rw [h0] at h1;cases h1
    ·simp [Array.getElem?_eq_none h'] at h1
   have hlj:late j=false:=by
    cases hl:late j
    ·rfl
    ·have h1:=waits_listed hcl _ j (fun ok hk e he hb=>by rw [hoj] at hk;obtain rfl:=Option.some.inj hk;exact hall e he hb) (hlate j oj hoj hl hji)
     have h0:=(mem_ready.1 hr).1
     rw [getD_both h0] at h1
     cases h1
   have h2:=wpOp_putIf hoj (hfree j oj hoj hji hjun hnot) (fun cs b=>hsel i oi cs b hi) (fun cs b=>hsel j oj cs b hoj) hQ hy (H.2 j (ready_mono hj hji))
   have hfree':∀ k ok,ops[k]?=some ok→k≠i→(listed.setIfInBounds j true).getD k true=false →
     (∀ e∈ok.after,Region.binds md e=true→e.on≠i)→oi.apart ops ok=true:=fun k ok hk hki hun hno=>by
    refine hfree k ok hk hki ?_ hno
    by_cases hjk:j=k
    ·subst hjk;exact hjun
    ·rw [getD_set_ne true hjk] at hun;exact hun
   refine wpOp_mono (fun a' w' h3=>⟨h3.2.1,ih (listed.setIfInBounds j true) a' w' (hcl.set hj) hfree' (ready_mono hr (Ne.symm hji)) h3.1 (h3.2.1 hlj) ?_⟩) h2
   rw [Array.setIfInBounds_comm _ _ hji]
   exact h3.2.2
theorem late_read {i:Nat} {oi:Oper} {fuel:Nat} {listed:Array Bool} {a:Act} {w:World} (hi:ops[i]?=some oi)
  (hs:(Region.noSelect ops && Region.free md ops listed i && (Region.ready md ops listed).contains i && lateB md ops late i && closedB md ops listed)=true)
  (hQ:∀ v c a w,Q (.panic c) (a.put oi.dst v) w→Q (.panic c) a w) (hw:Region.wanted oi (yielded ops a.tmps)=true) (hS:S w)
  (h:∀ K:Act→Prop,(∀ a,wpAnyL P md ops Q S late fuel (listed.setIfInBounds i true) a w→K a)→∃ v,(∀ w',S w'→(execOp a.eval oi).run P w'=.ok (.value v) w')∧K (a.put oi.dst v)) :
  wpAnyL P md ops Q S late (fuel+1) listed a w:=by
 simp only [Bool.and_eq_true] at hs
 obtain ⟨⟨⟨⟨h1,h2⟩,h3⟩,h4⟩,h5⟩:=hs
 obtain ⟨v,hrun,hK⟩:=h _ (fun _ h=>h)
 exact late_first hi (Region.noSelect_spec h1) (hQ v) (lateB_spec h4) fuel listed a w (closedB_spec h5) (Region.free_spec hi h2) (by simpa using h3) (.inl ⟨hw,hrun⟩) hS hK
theorem lrd (i : Nat) {oi : Oper} {fuel : Nat} {listed : Array Bool} {a : Act} {w : World} (hS : S w)
    (h : ∀ K : Act → Prop, (∀ a, wpAnyL P md ops Q S late fuel (listed.setIfInBounds i true) a w → K a) → ∃ v, (∀ w', S w' → (execOp a.eval oi).run P w' = .ok (.value v) w') ∧ K (a.put oi.dst v))
    (hi : ops[i]? = some oi := by exact rfl) (hs : (Region.noSelect ops && Region.free md ops listed i && (Region.ready md ops listed).contains i && lateB md ops late i && closedB md ops listed) = true := by kernel_rfl)
    (hQ : ∀ v c a w, Q (.panic c) (a.put oi.dst v) w → Q (.panic c) a w := by exact fun _ _ _ _ h => h) (hw : Region.wanted oi (yielded ops a.tmps) = true := by exact rfl) :
    wpAnyL P md ops Q S late (fuel + 1) listed a w := late_read (i := i) hi hs hQ hw hS h
theorem late_turn {i:Nat} {oi:Oper} {fuel:Nat} {listed:Array Bool} {a:Act} {w:World} (hr:Region.ready md ops listed=[i]) (hi:ops[i]?=some oi)
  (hw:Region.wanted oi (yielded ops a.tmps)=true)
  (h:∀ K:Act→World→Prop,(∀ a w,wpAnyL P md ops Q S late fuel (listed.setIfInBounds i true) a w→K a w)→∃ v w'',(execOp a.eval oi).run P w=.ok (.value v) w''∧(late i=false→S w'')∧K (a.put oi.dst v) w'') :
  wpAnyL P md ops Q S late (fuel+1) listed a w:=by
 obtain⟨v,w'',hrun,hS,hK⟩:=h _ (fun _ _ h=>h)
 refine⟨fun h0=>(by rw [hr] at h0;cases h0),fun j hj=>?_⟩
 rw [hr] at hj
 obtain rfl:j=i:=by simpa using hj
 unfold Go.wpOp
 simp only [hi,hw,if_true,Oper.wp,hrun,Oper.upon]
 exact .inl ⟨hS,hK⟩
theorem late_store {i:Nat} {oi:Oper} {fuel:Nat} {listed:Array Bool} {a:Act} {w:World} (hr:Region.ready md ops listed=[i]) (hi:ops[i]?=some oi)
  (hw:Region.wanted oi (yielded ops a.tmps)=true)
  (h:∀ K:Act→World→Prop,(∀ a w,wpAnyL P md ops Q S late fuel (listed.setIfInBounds i true) a w→K a w)→∃ w'',(execOp a.eval oi).run P w=.ok .skip w''∧(late i=false→S w'')∧K (a.put oi.dst undef) w'') :
  wpAnyL P md ops Q S late (fuel+1) listed a w:=by
 obtain⟨w'',hrun,hS,hK⟩:=h _ (fun _ _ h=>h)
 refine⟨fun h0=>(by rw [hr] at h0;cases h0),fun j hj=>?_⟩
 rw [hr] at hj
 obtain rfl:j=i:=by simpa using hj
 unfold Go.wpOp
 simp only [hi,hw,if_true,Oper.wp,hrun,Oper.upon]
 exact .inl ⟨hS,hK⟩
theorem late_append {i:Nat} {oi:Oper} {fuel:Nat} {listed:Array Bool} {a:Act} {w:World} (hr:Region.ready md ops listed=[i]) (hi:ops[i]?=some oi)
  (hw:Region.wanted oi (yielded ops a.tmps)=true) (s x:Operand) (tl tx:TypeId) (ho:oi.op=.call { callee:=.builtin .append,args:=#[s,x],argTypes:=#[tl,tx] }) (v u:Value) (hv:a.eval s=v) (hu:a.eval x=u)
  (R:Value→World→Prop) (hrun:∃ v' w'',(Builtin.append_ #[tl,tx] oi.type #[v,u]).run P w=.ok v' w''∧(late i=false→S w'')∧R v' w'')
  (h:∀ v' w'',(late i=false→S w'')→R v' w''→∀ K:Act→Prop,(∀ a,wpAnyL P md ops Q S late fuel (listed.setIfInBounds i true) a w''→K a)→K (a.put oi.dst v')) :
  wpAnyL P md ops Q S late (fuel+1) listed a w:=by
 obtain⟨v',w'',hrun,hS,hR⟩:=hrun
 refine⟨fun h0=>(by rw [hr] at h0;cases h0),fun j hj=>?_⟩
 rw [hr] at hj
 obtain rfl:j=i:=by simpa using hj
 have hx:(execOp a.eval oi).run P w=.ok (.value v') w'':=by
  simp [execOp,ho,resolve,invoke,builtin,hv,hu,hrun,Result.andThen]
 unfold Go.wpOp
 simp only [hi,hw,if_true,Oper.wp,hx,Oper.upon]
 exact .inl ⟨hS,h v' w'' hS hR _ (fun _ h=>h)⟩
theorem late_call {i:Nat} {oi:Oper} {fuel:Nat} {listed:Array Bool} {a:Act} {w:World} (hr:Region.ready md ops listed=[i]) (hi:ops[i]?=some oi)
  (hw:Region.wanted oi (yielded ops a.tmps)=true) (f:FuncId) (args:Array Value) (R:Value→World→Prop) (hrun:(execOp a.eval oi).run P w=.ok (.enter f args) w)
  (hcall:Calls P f args w (fun e w''=>∃ v,e=.returned v∧(late i=false→S w'')∧R v w''))
  (h:∀ v w'',(late i=false→S w'')→R v w''→∀ K:Act→Prop,(∀ a,wpAnyL P md ops Q S late fuel (listed.setIfInBounds i true) a w''→K a)→K (a.put oi.dst v)) :
  wpAnyL P md ops Q S late (fuel+1) listed a w:=by
 refine⟨fun h0=>(by rw [hr] at h0;cases h0),fun j hj=>?_⟩
 rw [hr] at hj
 obtain rfl:j=i:=by simpa using hj
 unfold Go.wpOp
 simp only [hi,hw,if_true,Oper.wp,hrun,Oper.upon]
 refine .inl (hcall.mono fun e w'' ⟨v,he,hS,hR⟩=>?_)
 subst he
 exact⟨hS,h v w'' hS hR _ (fun _ h=>h)⟩
theorem late_done {listed:Array Bool} {a:Act} {w:World} (hr:Region.ready md ops listed=[]) (h:Q .normal a w):∀ fuel,wpAnyL P md ops Q S late fuel listed a w
 | 0=>⟨hr,h⟩
 | _+1=>⟨fun _=>h,by rw [hr];simp⟩
theorem wp_region_late {id:Nat} {a:Act} {w:World} (S:World→Prop) (late:Nat→Bool) (hm:P.follows .mixedOrders=true)
  (h:wpAnyL P .any ops Q S late ops.size (Array.replicate ops.size false) a w.drew):(Code.region id ops true).wp P Q a w :=
 wp_region_any hm (wpAny_of_late _ _ _ _ h)
end
end Go.Proofs.YtgnpmceimpjheaaGreat
namespace Go.Proofs.YtgnpmceimpjheaaGreat
open Go.RowKit
def intE:Elt Int where
 enc:=fun n=>[.int .i64 n]
 sz:=1
 bs:=8
 e:=3
 sl:=25
 z:=0
 zv:=.int .i64 0
 ok:=I.Byte
 pos:=by omega
 len:=fun _=>rfl
 one:=fun a u hu=>by
  simp only [List.mem_cons,List.not_mem_nil,or_false] at hu
  subst hu;rfl
 zok:=by decide
 info:=by kernel_rfl
 zc:=rfl
 und:=by kernel_rfl
 bsl:=by omega
theorem intEncs (L:List Int):intE.encs L=I.bytesV L:=by
 induction L with
 | nil=>rfl
 | cons x L ih =>
  have:intE.encs (x :: L)=[.int .i64 x]++intE.encs L:=rfl
  rw [this,ih]
  rfl
theorem intRow {w:World} {g:Nat} {C:List Int}:intE.Row w g C↔I.Row w g C:=by
 refine⟨fun h=>⟨fun k a hk=>h.c k _ (by rw [intEncs];simp [I.bytesV,hk]),h.z,h.lt,h.ok⟩,fun h=>⟨fun j u hj=>?_,h.z,h.lt,h.byte⟩⟩
 rw [intEncs] at hj
 obtain⟨a,ha,rfl⟩:=I.bytesV_get hj
 exact h.c j a ha
theorem intAt {w:World} {g o:Nat} {L:List Int}:intE.At w g o L↔I.BytesAt w g o L:=by
 refine⟨fun h=>⟨fun k a hk=>⟨h.c k _ (by rw [intEncs];simp [I.bytesV,hk]),h.ok a (List.mem_of_getElem? hk)⟩,h.lt⟩,fun h=>⟨fun j u hj=>?_,h.byte,h.lt⟩⟩
 rw [intEncs] at hj
 obtain⟨a,ha,rfl⟩:=I.bytesV_get hj
 exact (h.c j a ha).1
theorem intOwn_get {w:World} {B:Nat} {a:Option Addr} {n c:Nat} {X:List Int} (h:intE.Own w B (.slice a n c) X) {k:Nat} (hk:k<X.length) :
  ∃ g x,n=X.length∧X.length≤c∧a=some ⟨g,0,none⟩∧X[k]?=some x∧w.cell? ⟨g,k,none⟩=some (.int .i64 x)∧w.frozen? ⟨g,k,none⟩=false∧-9223372036854775808≤x∧x≤9223372036854775807∧B≤g∧g<w.heap.size:=by
 rcases h with ⟨h,rfl⟩|⟨g,C,h1,h2,h3,h4,h5⟩
 ·simp at hk
 ·injection h1 with e1 e2 e3
  subst e1 e2 e3
  have hx:X[k]?=some X[k]:=List.getElem?_eq_getElem hk
  have hR:=intRow.1 h3
  have hb:=(hR.bytes h4).c k _ hx
  rw [Nat.zero_add] at hb
  exact⟨g,X[k],rfl,h4.length_le,rfl,hx,hb.1,hR.z k,hb.2.1,hb.2.2,h2,h3.lt⟩
theorem intOwn_set {w:World} {B g k:Nat} {n c:Nat} {X:List Int} (h:intE.Own w B (.slice (some ⟨g,0,none⟩) n c) X) (hk:k<X.length) {x:Int} (hx:I.Byte x) :
  intE.Own (w.setCell ⟨g,k,none⟩ (.int .i64 x)) B (.slice (some ⟨g,0,none⟩) n c) (X.set k x):=by
 rcases h with ⟨h,_⟩|⟨g',C,h1,h2,h3,h4,h5⟩
 ·cases h
 ·injection h1 with e1 e2 e3
  injection e1 with e1
  injection e1 with e1
  subst e1 e2 e3
  have hR:=intRow.1 h3
  obtain⟨R,rfl⟩:=h4
  refine .inr ⟨g,(X++R).set k x,by rw [List.length_set,List.length_set],h2,intRow.2 ⟨fun j a hj=>?_,fun j=>(World.frozen?_setCell _ _ _ _).trans (hR.z j),Nat.lt_of_lt_of_le hR.lt (setCellChg _ _ _ _).size,fun a ha=>?_⟩,?_,by rw [List.length_set];exact h5⟩
  ·have hkl:k<(X++R).length:=by rw [List.length_append];omega
   by_cases he:j=k
   ·subst he
    rw [List.getElem?_set_self hkl] at hj
    obtain rfl:=Option.some.inj hj
    exact World.cell?_setCell_same _ _ _ (hR.c j _ (List.getElem?_eq_getElem hkl))
   ·rw [List.getElem?_set_ne (Ne.symm he)] at hj
    rw [World.cell?_setCell_other _ _ _ _ (by intro e;injection e with _ e;exact he e.symm)]
    exact hR.c j a hj
  ·rcases List.mem_or_eq_of_mem_set ha with h1|rfl
   ·exact hR.byte a h1
   ·exact hx
  ·rw [List.set_append_left _ _ hk]
   exact List.prefix_append _ _
def byteE:Elt Int where
 enc:=fun n=>[.int .u8 n]
 sz:=1
 bs:=1
 e:=5
 sl:=45
 z:=0
 zv:=.int .u8 0
 ok:=Byte
 pos:=by omega
 len:=fun _=>rfl
 one:=fun a u hu=>by
  simp only [List.mem_cons,List.not_mem_nil,or_false] at hu
  subst hu;rfl
 zok:=by decide
 info:=by kernel_rfl
 zc:=rfl
 und:=by kernel_rfl
 bsl:=by omega
theorem byteEncs (L:List Int):byteE.encs L=bytesV L:=by
 induction L with
 | nil=>rfl
 | cons x L ih =>
  have:byteE.encs (x :: L)=[.int .u8 x]++byteE.encs L:=rfl
  rw [this,ih]
  rfl
theorem byteRow {w:World} {g:Nat} {C:List Int}:byteE.Row w g C↔Row w g C:=by
 refine⟨fun h=>⟨fun k a hk=>h.c k _ (by rw [byteEncs];simp [bytesV,hk]),h.z,h.lt,h.ok⟩,fun h=>⟨fun j u hj=>?_,h.z,h.lt,h.byte⟩⟩
 rw [byteEncs] at hj
 obtain⟨a,ha,rfl⟩:=bytesV_get hj
 exact h.c j a ha
theorem byteOwn {w:World} {B:Nat} {v:Value} {X:List Int}:byteE.Own w B v X↔Own w B v X:=by
 refine⟨fun h=>?_,fun h=>?_⟩
 ·rcases h with h|⟨g,C,h1,h2,h3,h4⟩
  ·exact .inl h
  ·exact .inr ⟨g,C,h1,h2,byteRow.1 h3,h4⟩
 ·rcases h with h|⟨g,C,h1,h2,h3,h4⟩
  ·exact .inl h
  ·exact .inr ⟨g,C,h1,h2,byteRow.2 h3,h4⟩
end Go.Proofs.YtgnpmceimpjheaaGreat
