/- A part of the proof: RowsB CountM RowsC RowsF RowsM Late Ints. -/
import Derived.Test.YtgnpmceimpjheaaGreatGP1
import Derived.Maps.RangeWalk
import Derived.Maps.OwnOps
import Derived.OrdersHeld
set_option maxRecDepth 100000
set_option maxHeartbeats 16000000
namespace Go.Proofs.YtgnpmceimpjheaaGreat
open Go.RowKit
theorem zAn {x:Int×Int}{u v:Value}(h:uW x=[u,v]):u=.int .i64 x.1/\v=.int .i64 x.2:=by
 unfold uW at h;simp only[List.cons.injEq,and_true]at h;exact⟨h.1.symm,h.2.symm⟩
theorem zFp (X Y:List (Int×Int)) (ax ay:Option Addr) (cx cy Bx By:Nat) (w:World) (hx:vN.In w Bx (ax,X.length,cx) X) (hy:vN.In w By (ay,Y.length,cy) Y) (hl:X.length<=1000000000) :
  Calls Tryz.prog 190 #[.slice ax X.length cx,.slice ay Y.length cy] w λe w'=>e=.returned (.bool (decide (X=Y)))/\Cf w w':=by
 have HX:=jh hx;have HY:=jh hy;clear hx hy;by_cases hxy:X.length=Y.length
 .have b10:((X.length:Int) != (Y.length:Int))=false:=by simp[hxy]
  have HXY:=jh hxy;clear hxy;go_enter Tryz.func190,Tryz.ntmps190
  go_wp2
  go_loopw [13] (λi wr=>∃k:Nat,k<=X.length/\i=.int .i64 k/\Cf w wr/\X.take k=Y.take k) (λi _=>X.length-(intOf i).toNat)
  case atStart=>exact⟨0,oM,rfl,Chg.refl _ _,sI⟩
  case round =>
   obtain⟨k,hk,rfl,hc,he⟩:=hrel;have HC:=jh hc;have HE:=jh he;clear hc he;by_cases hkl:k<X.length
   .have b14:decide ((k:Int)<(X.length:Int))=true:=by simp;omega
    have hkl2:k<Y.length:=(by have:=HXY.o;omega);obtain⟨p,g,o,u,v,hp,rfl,he,c0,c1,-,-,-⟩:=(HX.o.same HC.o).get2 rfl hkl;obtain⟨rfl,rfl⟩:=zAn he;obtain⟨q,g2,o2,u,v,hq,rfl,he2,c2,c3,-,-,-⟩:=(HY.o.same HC.o).get2 rfl hkl2;obtain⟨rfl,rfl⟩:=zAn he2;obtain⟨p0,p1⟩:=p;obtain⟨q0,q1⟩:=q;have HP:=jh hp;have HQ:=jh hq;clear hp hq he he2;by_cases hpq:(p0,p1)=(q0,q1)
    .injection hpq with h1 h2
     subst h1 h2;have HT:Hd (X.take (k+1)=Y.take (k+1)):=jh (by rw[Ay1,Ay1,HE.o,HP.o,HQ.o]);clear HE HP HQ;go_upto_region 6 with (fail)
     go_still kR
     go_wp2;go_roundw
     case rel=>first|exact⟨k+1,oM,by go_num,HC.o.drew,HT.o⟩|((repeat apply Ay7);exact⟨⟨k+1,oM,rfl,HC.o.drew,HT.o⟩,by (repeat' apply And.intro) <;> first|rfl|go_num⟩)
     case measure=>simp[intOf];omega
    .have HD:Hd (decide (X=Y)=false):=jh (by
      apply decide_eq_false
      intro h;rw[h,HQ.o]at HP;exact hpq (Az3 HP.o).symm)
     have hp3:¬p0=q0\/(p0=q0/\¬p1=q1):=by
      by_cases h:p0=q0
      .exact .inr ⟨h,λh2=>hpq (by rw[h,h2])⟩
      .exact .inl h
     clear HE HP HQ hpq;rcases hp3 with hp3|⟨hp3,hp4⟩
     .go_upto_region 6 with (fail)
      go_still kR
      go_wp2;go_ret
      exact⟨by rw[HD.o];rfl,HC.o.drew⟩
     .subst hp3
      go_upto_region 6 with (fail)
      go_still kR
      go_wp2;go_ret
      exact⟨by rw[HD.o];rfl,HC.o.drew⟩
   .obtain rfl:k=X.length:=oM
    have HD:Hd (decide (X=Y)=true):=jh (by
     have:=HE.o;rw[Ay5,HXY.o,Ay5]at this;simp[this])
    clear HE;go_wp2;go_ret
    exact⟨by rw[HD.o];rfl,HC.o⟩
 .have b10:((X.length:Int) != (Y.length:Int))=true:=by simp;omega
  have HD:Hd (decide (X=Y)=false):=jh (by
   apply decide_eq_false
   intro h;exact hxy (by rw[h]))
  go_enter Tryz.func190,Tryz.ntmps190
  go_wp2;go_ret
  exact⟨by rw[HD.o];rfl,Chg.refl _ _⟩
def vY (r s:RowD):Bool:=decide (r=s)
theorem zRc (d d2:Int) (X Y:List (Int×Int)):vY (d,X) (d2,Y)=(decide (d=d2) && decide (X=Y)):=by
 unfold vY;by_cases h:d=d2 <;> by_cases h2:X=Y <;> simp[h,h2]
theorem zJd (d d2:Int) (X Y:List (Int×Int)) (ax ay:Option Addr) (cx cy Bx By:Nat) (w:World) (hx:vN.In w Bx (ax,X.length,cx) X) (hy:vN.In w By (ay,Y.length,cy) Y) (hl:X.length<=1000000000) :
  Calls Tryz.prog 179 #[.agg #[.int .i64 d,.slice ax X.length cx],.agg #[.int .i64 d2,.slice ay Y.length cy]] w λe w'=>e=.returned (.bool (vY (d,X) (d2,Y)))/\Cf w w':=by
 have HX:=jh hx;have HY:=jh hy;have HC0:=jh (((Chg.refl (λ_=>False) w).alloc (.cells #[.int .i64 d,.slice ax X.length cx] 241)).alloc (.cells #[.int .i64 d2,.slice ay Y.length cy] 241));have HE:=jh (zRc d d2 X Y);clear hx hy;by_cases hd:d=d2
 .subst hd
  have q1:(d == d)=true:=sI
  have HD:Hd (vY (d,X) (d,Y)=decide (X=Y)):=jh (by rw[HE.o];simp);clear HE;go_enter Tryz.func179,Tryz.ntmps179
  go_wp2_with fail
  refine (zFp X Y ax ay cx cy Bx By _ (HX.o.same HC0.o) (HY.o.same HC0.o) hl).mono ?_;rintro e w2 ⟨rfl,hc2⟩;rw[<-HD.o];have HC2:=jh (HC0.o.trans hc2);clear hc2;obtain⟨r,hr⟩:∃r,vY (d,X) (d,Y)=r:=⟨_,rfl⟩;rw[hr];have HR:=jh hr;clear hr HD;go_wp2;go_ret
  exact⟨by rw[HR.o];rfl,HC2.o⟩
 .have q1:(d == d2)=false:=by simpa using hd
  have HD:Hd (vY (d,X) (d2,Y)=false):=jh (by rw[HE.o];simp[hd]);clear HE hd;go_enter Tryz.func179,Tryz.ntmps179
  go_wp2;go_ret
  exact⟨by rw[HD.o];rfl,HC0.o⟩
theorem fN (d d2:Int) (X Y:List (Int×Int)) (ax ay:Option Addr) (cx cy Bx By:Nat) (w:World) (hx:kQ.In w Bx (ax,X.length,cx) X) (hy:kQ.In w By (ay,Y.length,cy) Y) (hl:X.length<=1000000000) :
  Calls Tryz.prog 164 #[.agg #[.int .i64 d,.slice ax X.length cx],.agg #[.int .i64 d2,.slice ay Y.length cy]] w λe w'=>e=.returned (.bool (vY (d,X) (d2,Y)))/\Cf w w':=by
 have HX:=jh hx;have HY:=jh hy;have HC0:Hd (Cf w ((w.alloc (.cells #[.int .i64 d,.slice ax X.length cx] 236)).alloc (.cells #[.int .i64 d2,.slice ay Y.length cy] 236))):=jh (((Chg.refl (λ_=>False) w).alloc _).alloc _);have HB:Hd (∀wr,Cf ((w.alloc (.cells #[.int .i64 d,.slice ax X.length cx] 236)).alloc (.cells #[.int .i64 d2,.slice ay Y.length cy] 236)) wr->wr.cell? ⟨w.heap.size,0,none⟩=some (.int .i64 d)/\wr.cell? ⟨w.heap.size,1,none⟩=some (.slice ax X.length cx)/\wr.cell? ⟨w.heap.size+1,0,none⟩=some (.int .i64 d2)/\wr.cell? ⟨w.heap.size+1,1,none⟩=some (.slice ay Y.length cy)):=jh λwr hc=>⟨hc.cellS sI iD,hc.cellS sI iD,hc.cellS sI iD,hc.cellS sI iD⟩
 have HE:=jh (zRc d d2 X Y);clear hx hy;by_cases hd:d=d2
 .subst hd
  by_cases hxy:X.length=Y.length
  .have q1:(d != d)=false:=sI
   have b10:((X.length:Int) != (Y.length:Int))=false:=(by simp[hxy]);have HXY:=jh hxy;clear hxy;have HD0:Hd (vY (d,X) (d,Y)=decide (X=Y)):=jh (by rw[HE.o];simp);clear HE;go_enter Tryz.func164,Tryz.ntmps164
   go_wp2
   go_loopw [5] (λi wr=>∃k:Nat,k<=X.length/\i=.int .i64 k/\Cf ((w.alloc (.cells #[.int .i64 d,.slice ax X.length cx] 236)).alloc (.cells #[.int .i64 d,.slice ay Y.length cy] 236)) wr/\X.take k=Y.take k) (λi _=>X.length-(intOf i).toNat)
   case atStart=>exact⟨0,oM,rfl,Chg.refl _ _,sI⟩
   case round =>
    clear q1 b10;obtain⟨k,hk,rfl,hc,he⟩:=hrel;obtain⟨b0,b1,b2,b3⟩:=HB.o wr hc;have HC:=jh hc;have HE:=jh he;have HCW:=jh (HC0.o.trans hc);clear hc he;by_cases hkl:k<X.length
    .have b14:decide ((k:Int)<(X.length:Int))=true:=by simp;omega
     have hkl2:k<Y.length:=(by have:=HXY.o;omega);obtain⟨p,g,o,u,v,hp,rfl,he,c0,c1,-,-,-⟩:=(HX.o.same HCW.o).get2 rfl hkl;obtain⟨rfl,rfl⟩:=zAn he;obtain⟨q,g2,o2,u,v,hq,rfl,he2,c2,c3,-,-,-⟩:=(HY.o.same HCW.o).get2 rfl hkl2;obtain⟨rfl,rfl⟩:=zAn he2;obtain⟨p0,p1⟩:=p;obtain⟨q0,q1⟩:=q;have HP:=jh hp;have HQ:=jh hq;clear hp hq he he2;by_cases hpq:(p0,p1)=(q0,q1)
     .injection hpq with h1 h2
      subst h1 h2;have HT:Hd (X.take (k+1)=Y.take (k+1)):=jh (by rw[Ay1,Ay1,HE.o,HP.o,HQ.o]);clear HE HP HQ;go_upto_region 6 with (fail)
      go_still kR
      go_wp2;go_roundw
      case rel=>first|exact⟨k+1,oM,by go_num,HC.o.drew,HT.o⟩|((repeat apply Ay7);exact⟨⟨k+1,oM,rfl,HC.o.drew,HT.o⟩,by (repeat' apply And.intro) <;> first|rfl|go_num⟩)
      case measure=>simp[intOf];omega
     .have HD:Hd (vY (d,X) (d,Y)=false):=jh (by
       rw[HD0.o]
       apply decide_eq_false
       intro h;rw[h,HQ.o]at HP;exact hpq (Az3 HP.o).symm)
      have hp3:¬p0=q0\/(p0=q0/\¬p1=q1):=by
       by_cases h:p0=q0
       .exact .inr ⟨h,λh2=>hpq (by rw[h,h2])⟩
       .exact .inl h
      clear HE HP HQ hpq HD0;rcases hp3 with hp3|⟨hp3,hp4⟩
      .go_upto_region 6 with (fail)
       go_still kR
       go_wp2;go_ret
       exact⟨by rw[HD.o];rfl,HCW.o.drew⟩
      .subst hp3
       go_upto_region 6 with (fail)
       go_still kR
       go_wp2;go_ret
       exact⟨by rw[HD.o];rfl,HCW.o.drew⟩
    .obtain rfl:k=X.length:=oM
     have HD:Hd (vY (d,X) (d,Y)=true):=jh (by
      rw[HD0.o];have:=HE.o;rw[Ay5,HXY.o,Ay5]at this;simp[this])
     clear HE HD0;go_wp2;go_ret
     exact⟨by rw[HD.o];rfl,HCW.o⟩
  .have q1:(d != d)=false:=sI
   have b10:((X.length:Int) != (Y.length:Int))=true:=sO;have HD:Hd (vY (d,X) (d,Y)=false):=jh (by
    apply decide_eq_false
    intro h;injection h with _ h;exact hxy (by rw[h]))
   clear HE;go_enter Tryz.func164,Tryz.ntmps164
   go_wp2;go_ret
   exact⟨by rw[HD.o];rfl,HC0.o⟩
 .have q1:(d != d2)=true:=by simpa using hd
  have HD:Hd (vY (d,X) (d2,Y)=false):=jh (by rw[HE.o];simp[hd]);clear HE hd;go_enter Tryz.func164,Tryz.ntmps164
  go_wp2;go_ret
  exact⟨by rw[HD.o];rfl,HC0.o⟩
structure Counts (D:DataW Unit) (L:List Int):Prop where
 isMap:Maps.IsMap D
 at':∀x:Int,D.atKey (.int .i64 x) (.lit (.int .i64 0))=.lit (.int .i64 (L.count x))
 has:∀x:Int,Maps.has D (.int .i64 x)=decide (x∈L)
theorem Counts.start:Counts (.map []) []:=⟨Maps.isMap_empty,λ_=>rfl,λ_=>rfl⟩
theorem Counts.step {D:DataW Unit}{L:List Int}(h:Counts D L) (x:Int):Counts (D.put (.int .i64 x) (.lit (.int .i64 ((L.count x:Int)+1)))) (L++[x]):=by
 refine⟨h.isMap.put _ _,λy=>?_,λy=>?_⟩
 .by_cases he:y=x
  .subst he
   rw[Maps.atKey_put_same h.isMap (by trivial)];simp
  .rw[Maps.atKey_put_other (by intro e;injection e with _ e;exact he e),h.at']
   simp[List.count_append,Ne.symm he]
 .by_cases he:y=x
  .subst he
   rw[Maps.has_put_same h.isMap (by trivial)];simp
  .rw[Maps.has_put_other (by intro e;injection e with _ e;exact he e),h.has]
   simp[he]
theorem lawI:Maps.Keyed Tryz.prog 3:=Maps.int_keyed Tryz.underlying3
theorem zSp (w:World):(zeroValue 3).run Tryz.prog w=.ok (.int .i64 0) w:=kR
theorem wfI {x:Int}(h0:-9223372036854775808<=x) (h1:x<=9223372036854775807):(Lit.int .i64 x).wf=true:=by
 simp[Lit.wf,IntKind.min,IntKind.max,IntKind.signed,IntKind.bits]
 omega
def zEt (L:List Int) (left:Lit->Bool) (b t:Int):Prop :=
 ((b=-1/\t=0/\∀x∈L,left (.int .i64 x)=true)\/(b∈L/\t=L.count b))/\∀x∈L,left (.int .i64 x)=false->(L.count x:Int)<t\/((L.count x:Int)=t/\b<=x)
theorem zEt.done {L:List Int}{left:Lit->Bool}{b t:Int}(h:zEt L left b t) (hl:∀kl,left kl=false):b=xA L:=by
 refine zH4.unique (L:=L) ?_ (qU L);obtain⟨h1,h2⟩:=h;rcases h1 with ⟨rfl,rfl,h3⟩|⟨h1,rfl⟩
 .refine .inl ⟨?_,rfl⟩
  cases L with
  | nil=>rfl
  | cons x L=>have:=h3 x sI;rw[hl]at this;cases this
 .refine .inr ⟨h1,λn hn=>?_⟩
  have:=h2 n hn (hl _);omega
theorem zEt.next {L:List Int}{left:Lit->Bool}{b t x:Int}(h:zEt L left b t) (hx:x∈L) (b' t':Int) (hb:(b'=x/\t'=L.count x/\(t<L.count x\/(L.count x=t/\x<b)))\/(b'=b/\t'=t/\((L.count x:Int)<t\/((L.count x:Int)=t/\b<=x)))) :
  zEt L (λz=>left z && !z.sameKey (.int .i64 x)) b' t':=by
 obtain⟨h1,h2⟩:=h;have hpos:0<L.count x:=List.count_pos_iff.2 hx;have hstay:∀y:Int,(left (.int .i64 y) && !(Lit.int .i64 y).sameKey (.int .i64 x))=false->y≠x->left (.int .i64 y)=false:=λy hy hne=>by
  rw[Maps.sameKey_ne (by intro e;injection e with _ e;exact hne e)]at hy;simpa using hy
 rcases hb with ⟨rfl,rfl,hb⟩|⟨rfl,rfl,hb⟩
 .refine⟨.inr ⟨hx,rfl⟩,λy hy hl=>?_⟩
  by_cases he:y=b'
  .subst he;omega
  .have h3:=h2 y hy (hstay y hl he)
   rcases h1 with ⟨rfl,rfl,h4⟩|⟨h4,rfl⟩ <;> omega
 .refine⟨?_,λy hy hl=>?_⟩
  .rcases h1 with ⟨rfl,rfl,h4⟩|h4
   .omega
   .exact .inr h4
  .by_cases he:y=x
   .subst he;exact hb
   .exact h2 y hy (hstay y hl he)
theorem zLu (Z:List Int) (a:Option Addr) (g o c:Nat) (w:World) (hz:I.BytesAt w g o Z) (ha:0<Z.length->a=some ⟨g,o,none⟩) (hl:Z.length<=1000000000) :
  Calls Tryz.prog 176 #[.slice a Z.length c] w λe w'=>e=.returned (.int .i64 (xA Z))/\Cf w w':=by
 have hmm:=@run_makeMap Tryz.prog;have HZ:=jh hz;have HA:=jh ha;clear hz ha;go_enter Tryz.func176,Tryz.ntmps176
 go_wp2
 go_loopw [13] (λi wr=>∃(k:Nat) (D:DataW Unit),k<=Z.length/\i=.int .i64 k/\wr.ownsMap Tryz.prog 3 (plainElem Tryz.prog 3) w.heap.size k D/\Counts D (Z.take k)/\Chg (λk=>w.heap.size<=k) w wr) (λi _=>Z.length-(intOf i).toNat)
 case atStart=>exact⟨0,_,Av _,rfl,World.ownsMap_made _ _ _ _,Counts.start,(Chg.refl _ _).alloc _⟩
 case round =>
  obtain⟨k,D,hk,rfl,hown,hcnt,hc⟩:=hrel;have HOWN:=jh hown;have HCNT:=jh hcnt;have HC:=jh hc;clear hown hcnt hc;by_cases hkl:k<Z.length
  .have b14:decide ((k:Int)<(Z.length:Int))=true:=by simp;omega
   obtain⟨z,hz,c1,z0,z1⟩:=(HZ.o.chg HC.o.fresh iE).get hkl;have e1:=HA.o oM;subst e1;have HZK:=jh hz;have hle:(Z.take k).count z<=k:=Ay4 List.count_le_length (Au _ _);clear hz;go_wp2_with (first
    | (at_lookup;refine wpList_lookup_own_int _ rfl _ _ 277 rfl 3 3 .i64 lawI Tryz.underlying277 Tryz.underlying3 (zSp _) w.heap.size k _ rfl HOWN.o _ _ rfl (Maps.keyOf_int_mk Tryz.underlying3 (wfI z0 z1)) ?_;intro c hat hwc;rw[HCNT.o.at']at hat;injection hat with hat;injection hat with _ hat;subst hat;clear hwc)
    | (at_mapUpdate;refine wpList_mapUpdate_own _ rfl _ _ _ 277 rfl 3 3 lawI Tryz.underlying277 _ w.heap.size k _ rfl HOWN.o (by unfold maxLen;omega) _ _ _ rfl rfl (Maps.keyOf_int_mk Tryz.underlying3 (wfI z0 z1)) _ [] (plainElem_int Tryz.underlying3 (wfI oM oM)) ?_;intro w1 hown1 hgrow1)
    | fail)
   have HF:Hd (w1.ownsMap Tryz.prog 3 (plainElem Tryz.prog 3) w.heap.size (k+1) (D.put (.int .i64 z) (.lit (.int .i64 (((Z.take k).count z:Int)+1))))/\Counts (D.put (.int .i64 z) (.lit (.int .i64 (((Z.take k).count z:Int)+1)))) (Z.take (k+1))/\Chg (λk=>w.heap.size<=k) w w1):=jh ⟨hown1,by rw[Ay1,HZK.o];exact HCNT.o.step z,HC.o.grown hgrow1 (λj hj=>by cases hj;exact .inl (Ay _))⟩;clear hown1 hgrow1;go_roundw
   case rel=>exact⟨k+1,_,oM,by go_num,HF.o⟩
   case measure=>simp[intOf];omega
  .obtain rfl:k=Z.length:=oM
   have HCN:Hd (Counts D Z):=jh (by have:=HCNT.o;rwa [Ay5]at this);have HCLE:Hd (∀x,(Z.count x:Int)<=1000000000):=jh (λx=>by have:=List.count_le_length (a:=x) (l:=Z);omega);clear HCNT;go_wp2_with (first
    | (at_range;refine wpList_range_own _ rfl _ 277 rfl 3 3 lawI Tryz.underlying277 _ w.heap.size Z.length _ rfl HOWN.o ?_;intro w0 hrg0 hg0 hs0)
    | fail)
   go_frame
   have HRG:=jh hrg0;have HC0:=jh (HC.o.grown hg0 (λj hj=>by cases hj));obtain⟨wo,rfl⟩:∃wo:World,wo=wr:=⟨_,rfl⟩;have hsz:w.heap.size<=wo.heap.size:=HC.o.size;clear hrg0 hg0 hs0 HOWN HC
   go_loopw [6,7] (λbv tv wr=>∃(left:Lit->Bool) (cnt:Nat) (b t:Int),bv=.int .i64 b/\tv=.int .i64 t/\(-9223372036854775808<=b/\b<=9223372036854775807/\0<=t/\t<=1000000000)/\wr.ranges Tryz.prog 3 (plainElem Tryz.prog 3) w.heap.size wo.heap.size Z.length D left cnt/\zEt Z left b t/\(∀x,left (.int .i64 x)=true->x∈Z)/\Chg (λk=>w.heap.size<=k) w wr)
    (λ_ _ wr=>wr.rangeLeft w.heap.size wo.heap.size)
   case atStart=>exact⟨_,_,-1,0,rfl,rfl,oM,HRG.o,⟨.inl ⟨rfl,rfl,λx hx=>by rw[HCN.o.has];simpa using hx⟩,λx hx h=>by rw[HCN.o.has]at h;simp[hx]at h⟩,λx h=>by rw[HCN.o.has]at h;simpa using h,HC0.o⟩
   case round =>
    clear HRG HC0;obtain⟨left,cnt,b,t,rfl,rfl,⟨b0,b1,t0,t1⟩,hrg,hbest,hin,hc⟩:=hrel;have HRG:=jh hrg;have HB:=jh hbest;have HIN:=jh hin;have HC:=jh hc;clear hrg hbest hin hc;go_wp2_with (first
     | (at_next;refine wpList_next_ranges_ii _ rfl _ rfl 3 3 .i64 .i64 lawI Tryz.underlying3 Tryz.underlying3 w.heap.size wo.heap.size Z.length _ _ _ rfl HRG.o ?_ ?_)
     | fail)
    .intro _ hl0
     have HE:=jh (HB.o.done hl0);clear hl0 HB;go_wp2;go_ret
     exact⟨by rw[HE.o];rfl,HC.o.fresh⟩
    .intro x c w1 cnt1 hwx hwc hlx hat hrg1 hlt hg1 hs1 hen
     have hxZ:=HIN.o x hlx;have hcc:c=(Z.count x:Int):=by
      have:=hat (.lit (.int .i64 0));rw[HCN.o.at']at this;injection this with this;injection this with _ this;exact this.symm
     have hxb:-9223372036854775808<=x/\x<=9223372036854775807:=by
      have:=HZ.o.byte x hxZ;exact this
     have hcb:0<=c/\c<=1000000000:=by
      have:=HCLE.o x;omega
     obtain⟨xb0,xb1⟩:=hxb;obtain⟨cb0,cb1⟩:=hcb;have HCC:=jh hcc;have HXZ:=jh hxZ;have HRG1:=jh hrg1;have HLT:=jh hlt;have HC1:=jh (HC.o.grown hg1 (λj hj=>by cases hj;exact .inl hsz));have HIN1:Hd (∀y,(left (.int .i64 y) && !(Lit.int .i64 y).sameKey (.int .i64 x))=true->y∈Z):=jh (λy hy=>by simp at hy;exact HIN.o y hy.1);clear hwx hwc hlx hat hrg1 hlt hg1 hs1 hcc hxZ HIN HC;by_cases h1:t<c
     .have d1:decide (t<c)=true:=by simpa using h1
      have HBN:=jh (HB.o.next HXZ.o x c (.inl ⟨rfl,HCC.o,.inl (by have:=HCC.o;omega)⟩));clear HB;go_wp2;go_roundw
      case rel=>exact⟨_,cnt1,x,c,rfl,rfl,oM,HRG1.o,HBN.o,HIN1.o,HC1.o⟩
      case measure=>rw[HRG1.o.left_eq,HRG.o.left_eq];exact HLT.o
     .by_cases h2:c=t
      .subst h2
       have d1:decide (c<c)=false:=sI;by_cases h3:x<b
       .have d3:decide (x<b)=true:=by simpa using h3
        have HBN:=jh (HB.o.next HXZ.o x c (.inl ⟨rfl,HCC.o,.inr ⟨by have:=HCC.o;omega,h3⟩⟩));clear HB;go_wp2;go_roundw
        case rel=>exact⟨_,cnt1,x,c,rfl,rfl,oM,HRG1.o,HBN.o,HIN1.o,HC1.o⟩
        case measure=>rw[HRG1.o.left_eq,HRG.o.left_eq];exact HLT.o
       .have d3:decide (x<b)=false:=by simpa using h3
        have HBN:=jh (HB.o.next HXZ.o b c (.inr ⟨rfl,rfl,.inr ⟨by have:=HCC.o;omega,oM⟩⟩));clear HB;go_wp2;go_roundw
        case rel=>exact⟨_,cnt1,b,c,rfl,rfl,oM,HRG1.o,HBN.o,HIN1.o,HC1.o⟩
        case measure=>rw[HRG1.o.left_eq,HRG.o.left_eq];exact HLT.o
      .have d1:decide (t<c)=false:=by simpa using h1
       have d2:(c == t)=false:=(by simpa using h2);have HBN:=jh (HB.o.next HXZ.o b t (.inr ⟨rfl,rfl,.inl (by have:=HCC.o;omega)⟩));clear HB;go_wp2;go_roundw
       case rel=>exact⟨_,cnt1,b,t,rfl,rfl,oM,HRG1.o,HBN.o,HIN1.o,HC1.o⟩
       case measure=>rw[HRG1.o.left_eq,HRG.o.left_eq];exact HLT.o
def valB (n:Int):Bool:=decide (kE n)
theorem zLt {n:Int}(h:kE n):valB n=true:=by simpa [valB] using h
theorem zDq {n:Int}(h:¬kE n):valB n=false:=by simpa [valB] using h
theorem dC (n:Int) (w:World):Calls Tryz.prog 175 #[.int .i64 n] w λe w'=>e=.returned (.bool (valB n))/\w=w':=by
 by_cases h1:-1<=n
 .by_cases h2:n<=16777215
  .have HV:=jh (zLt (n:=n) ⟨h1,h2⟩)
   go_enter Tryz.func175,Tryz.ntmps175
   go_wp2;go_ret
   exact⟨by rw[HV.o];rfl,rfl⟩
  .have HV:=jh (zDq (n:=n) (λh=>h2 h.2))
   go_enter Tryz.func175,Tryz.ntmps175
   go_wp2;go_ret
   exact⟨by rw[HV.o];rfl,rfl⟩
 .have HV:=jh (zDq (n:=n) (λh=>h1 h.1))
  have q1:decide (-1<=n)=false:=by simpa using h1
  go_enter Tryz.func175,Tryz.ntmps175
  go_wp2;go_ret
  exact⟨by rw[HV.o];rfl,rfl⟩
theorem zGj (n:Int) (w:World):Calls Tryz.prog 174 #[.int .i64 n] w λe w'=>e=.returned (.bool (!valB n))/\w=w':=by
 go_enter Tryz.func174,Tryz.ntmps174
 go_wp2_with fail
 refine (dC n _).mono ?_;rintro e w2 ⟨rfl,rfl⟩;go_wp2;go_ret
 exact⟨rfl,rfl⟩
theorem zBp (Z:List Int) (a:Option Addr) (g o c:Nat) (w:World) (hz:I.BytesAt w g o Z) (ha:0<Z.length->a=some ⟨g,o,none⟩) (hl:Z.length<=1000000000) :
  Calls Tryz.prog 131 #[.slice a Z.length c,.func (.func 174) #[] #[]] w λe w'=>e=.returned (.int .i64 (idxV (λn=>!valB n) Z))/\w=w':=by
 have HZ:=jh hz;have HA:=jh ha;clear hz ha;go_enter Tryz.func131,Tryz.ntmps131
 go_wp2
 go_loop [8] (λq=>∃k:Nat,k<=Z.length/\q=.int .i64 k/\(∀(j:Nat) y,j<k->Z[j]?=some y->(!valB y)=false)) (λq=>Z.length-(intOf q).toNat)
 case atStart=>exact⟨0,oM,rfl,λj y h=>absurd h (Ax _)⟩
 case round =>
  obtain⟨k,hk,rfl,hb⟩:=hrel;have HB:=jh hb;clear hb;by_cases hkl:k<Z.length
  .have b9:decide ((k:Int)<(Z.length:Int))=true:=by simp;omega
   obtain⟨z,hz,c1,z0,z1⟩:=HZ.o.get hkl;have e1:=HA.o oM;subst e1;have HX:=jh hz;clear hz;by_cases hv:(!valB z)=true
   .go_wp2_with fail
    refine (zGj z w).mono ?_;rintro e w2 ⟨rfl,rfl⟩;rw[hv];have HF:Hd (idxV (λn=>!valB n) Z=k):=jh (uQ HX.o hv HB.o);go_wp2;go_ret
    exact⟨by rw[HF.o];rfl,rfl⟩
   .have hv':(!valB z)=false:=by simpa using hv
    have HB2:Hd (∀(j:Nat) y,j<k+1->Z[j]?=some y->(!valB y)=false):=jh (λj y hj hy=>by
     by_cases he:j=k
     .subst he;rw[HX.o]at hy;obtain rfl:=Az3 hy;exact hv'
     .exact HB.o j y oM hy)
    go_wp2_with fail
    refine (zGj z w).mono ?_;rintro e w2 ⟨rfl,rfl⟩;rw[hv'];clear hv hv';go_wp2;go_round
    case rel=>exact⟨k+1,oM,by go_num,HB2.o⟩
    case measure=>simp[intOf];omega
  .obtain rfl:k=Z.length:=oM
   have HF:Hd (idxV (λn=>!valB n) Z=-1):=jh (rG HB.o);go_wp2;go_ret
   exact⟨by rw[HF.o];rfl,rfl⟩
def uS (Z:List Int):Bool:=Z.any (λn=>!valB n)
theorem qW {Z:List Int}:uS Z=false↔∀n∈Z,kE n:=by simp[uS,valB]
theorem cN (Z:List Int) (a:Option Addr) (g o c:Nat) (w:World) (hz:I.BytesAt w g o Z) (ha:0<Z.length->a=some ⟨g,o,none⟩) (hl:Z.length<=1000000000) :
  Calls Tryz.prog 89 #[.slice a Z.length c,.func (.func 174) #[] #[]] w λe w'=>e=.returned (.bool (uS Z))/\w=w':=by
 have HZ:=jh hz;have HA:=jh ha;clear hz ha;rcases tE (λn=>!valB n) Z with ⟨k,x,-,-,h3,-,h5⟩|⟨h3,-,h5⟩
 .have HI:=jh h3
  have HN:Hd (uS Z=true):=jh h5;clear h3 h5;go_enter Tryz.func89,Tryz.ntmps89
  go_wp2_with fail
  refine (zBp Z a g o c _ HZ.o HA.o hl).mono ?_;rintro e w2 ⟨rfl,rfl⟩;rw[HI.o];go_wp2;go_ret
  exact⟨by rw[HN.o];rfl,rfl⟩
 .have HI:=jh h3
  have HN:Hd (uS Z=false):=jh h5;clear h3 h5;go_enter Tryz.func89,Tryz.ntmps89
  go_wp2_with fail
  refine (zBp Z a g o c _ HZ.o HA.o hl).mono ?_;rintro e w2 ⟨rfl,rfl⟩;rw[HI.o];go_wp2;go_ret
  exact⟨by rw[HN.o];rfl,rfl⟩
theorem zJs (w:World) (a:Option Addr) (n c:Nat) (hn:n<=c) :
  Calls Tryz.prog 177 #[.slice a n c] w λe w'=>e=.returned (.slice a n n)/\w=w':=by
 go_enter Tryz.func177,Tryz.ntmps177
 go_wp2;go_ret
 exact⟨rfl,rfl⟩
theorem zNz (w:World) (a:Option Addr) (n c:Nat) (hn:n<=c) :
  Calls Tryz.prog 156 #[.slice a n c] w λe w'=>e=.returned (.slice a n n)/\w=w':=by
 go_enter Tryz.func156,Tryz.ntmps156
 go_wp2;go_ret
 exact⟨rfl,rfl⟩
theorem zBf (w:World) (a:Option Addr) (n c:Nat) (hn:n<=c) :
  Calls Tryz.prog 144 #[.slice a n c] w λe w'=>e=.returned (.slice a n n)/\w=w':=by
 go_enter Tryz.func144,Tryz.ntmps144
 go_wp2;go_ret
 exact⟨rfl,rfl⟩
def ofV (d:Int) (s:Sl) (e:Int):Value:=.tuple #[.agg #[.int .i64 d,slV s],.int .i64 e]
theorem zS6 (Z:List Int) (a:Option Addr) (g o c:Nat) (w:World) (hz:I.BytesAt w g o Z) (ha:0<Z.length->a=some ⟨g,o,none⟩) (hl:Z.length<=65536) (hv:uS Z=true) :
  Calls Tryz.prog 154 #[.slice a Z.length c] w λe w'=>e=.returned (ofV 0 (none,0,0) 1)/\Cf w w':=by
 have HZ:=jh hz;have HA:=jh ha;have HN:=jh hv;have HC0:=jh ((Chg.refl (λ_=>False) w).alloc (.cells #[.int .i64 0,.slice none 0 0] 241));clear hz ha hv;go_enter Tryz.func154,Tryz.ntmps154
 go_wp2_with fail
 refine (cN Z a g o c _ (HZ.o.chg HC0.o iE) HA.o oM).mono ?_;rintro e w2 ⟨rfl,rfl⟩;rw[HN.o];go_wp2;refine bodyPost_ret (v:=.tuple #[.agg #[.int .i64 0,.slice none 0 0],.int .i64 1]) (by simp[results,Tryz.results154,go_sem]) rfl ⟨rfl,HC0.o⟩
theorem zT0 (Z:List Int) (a:Option Addr) (g o c:Nat) (w:World) (hz:I.BytesAt w g o Z) (ha:0<Z.length->a=some ⟨g,o,none⟩) (hl:Z.length<=65536) (hv:uS Z=false) :
  Calls Tryz.prog 154 #[.slice a Z.length c] w λe w'=>∃s,e=.returned (ofV (xA Z) s 0)/\vN.In w' w.heap.size s (zG (xA Z) 0 Z)/\Cf w w':=by
 have HZ:=jh hz;have HA:=jh ha;have HN:=jh hv;have HV:=jh (qW.1 hv);have HC0:=jh ((Chg.refl (λ_=>False) w).alloc (.cells #[.int .i64 0,.slice none 0 0] 241));clear hz ha hv;obtain⟨d,hd⟩:∃d,xA Z=d:=⟨_,rfl⟩;rw[hd];have HD:=jh hd;clear hd;go_enter Tryz.func154,Tryz.ntmps154
 go_wp2_with fail
 refine (cN Z a g o c _ (HZ.o.chg HC0.o iE) HA.o oM).mono ?_;rintro e w2 ⟨rfl,rfl⟩;rw[HN.o];go_wp2_with fail
 refine (zLu Z a g o c _ (HZ.o.chg HC0.o iE) HA.o oM).mono ?_;rintro e w2 ⟨rfl,hc2⟩;rw[HD.o];have hsz:w.heap.size<w2.heap.size:=by have:=hc2.size;simp at this;omega
 have r0:=hc2.cellS (p:=⟨w.heap.size,0,none⟩) (v:=.int .i64 0) sI iD;have r1:=hc2.cellS (p:=⟨w.heap.size,1,none⟩) (v:=.slice none 0 0) sI iD;have r2:=(hc2.frozen (p:=⟨w.heap.size,0,none⟩) sI iD).trans (Az8 _ _ _ _);have r3:=(hc2.frozen (p:=⟨w.heap.size,1,none⟩) sI iD).trans (Az8 _ _ _ _);have HR:Hd (w2.cell? ⟨w.heap.size,0,none⟩=some (.int .i64 0)/\w2.cell? ⟨w.heap.size,1,none⟩=some (.slice none 0 0)/\w2.frozen? ⟨w.heap.size,0,none⟩=false/\w2.frozen? ⟨w.heap.size,1,none⟩=false):=jh ⟨r0,r1,r2,r3⟩;have HC2:=jh (HC0.o.trans hc2);clear hc2 r0 r1 r2 r3;go_wp2_with fail
 go_loopw [20] (λq wr=>∃(k:Nat) (v:Value),k<=Z.length/\q=.int .i64 k/\Fld vN w2.heap.size 1 wr v (zG d 0 (Z.take k))/\wr.cell? ⟨w2.heap.size,0,none⟩=some (.int .i64 d)/\Chg (λk=>w2.heap.size<=k) w2 wr) (λq _=>Z.length-(intOf q).toNat)
 case atStart=>exact⟨0,_,oM,rfl,⟨sI,sI,.nil _ _⟩,sI,(Chg.refl _ _).alloc _⟩
 case round =>
  obtain⟨k,v,hk,rfl,hf,c0,hc⟩:=hrel;have HF:=jh hf;have HC:=jh hc;have HC02:=jh c0;have c1:=hf.c;have z1:=hf.z;clear hf hc;have HRR:Hd (wr.cell? ⟨w.heap.size,0,none⟩=some (.int .i64 0)/\wr.cell? ⟨w.heap.size,1,none⟩=some (.slice none 0 0)/\wr.frozen? ⟨w.heap.size,0,none⟩=false/\wr.frozen? ⟨w.heap.size,1,none⟩=false):=jh ⟨HC.o.cellS HR.o.1 (by show ¬w2.heap.size<=w.heap.size;omega),HC.o.cellS HR.o.2.1 (by show ¬w2.heap.size<=w.heap.size;omega),(HC.o.frozen (p:=⟨w.heap.size,0,none⟩) hsz (by show ¬w2.heap.size<=w.heap.size;omega)).trans HR.o.2.2.1,(HC.o.frozen (p:=⟨w.heap.size,1,none⟩) hsz (by show ¬w2.heap.size<=w.heap.size;omega)).trans HR.o.2.2.2⟩;by_cases hkl:k<Z.length
  .have b21:decide ((k:Int)<(Z.length:Int))=true:=by simp;omega
   obtain⟨z,hz,q1,z0,z2⟩:=(HZ.o.chg (HC2.o.trans HC.o.fresh) iE).get hkl;have e1:=HA.o oM;subst e1;have HX:=jh hz;have htk:(Z.take k).length=k:=(by rw[Ax1];omega);have HTK:=jh (aL d (Z.take k) z 0);rw[htk,Ax0]at HTK;have HTT:Hd (Z.take (k+1)=Z.take k++[z]):=jh (by rw[Ay1,HX.o];rfl);clear hz htk;by_cases hzd:z=d
   .subst hzd
    have b28:(z != z)=false:=sI;have HFN:Hd (Fld vN w2.heap.size 1 wr v (zG z 0 (Z.take (k+1)))):=jh (by rw[HTT.o,HTK.o,if_pos rfl];exact HF.o);clear HF HTK HTT;go_wp2;go_roundw
    case rel=>exact⟨k+1,v,oM,by go_num,HFN.o,HC02.o,HC.o⟩
    case measure=>simp[intOf];omega
   .have b28:(z != d)=true:=by simpa using hzd
    have HLE:Hd ((zG d 0 (Z.take k)).length<=65536):=jh (by have:=uL d (Z.take k) 0;have:=Au k Z;omega);have HTE:Hd (zG d 0 (Z.take (k+1))=zG d 0 (Z.take k)++[((k:Int),z)]):=jh (by rw[HTT.o,HTK.o,if_neg hzd]);have HOK:Hd (∀x∈[((k:Int),z)],vN.ok x):=jh (by
     intro x hx;simp only[Ay3]at hx;subst hx;exact⟨⟨by show -9223372036854775808<=(k:Int);omega,by show (k:Int)<=9223372036854775807;omega⟩,⟨z0,z2⟩⟩)
    have HF1:=jh (HF.o.chg ((Chg.refl (λ_=>False) wr).alloc (.cells #[.int .i64 k,.int .i64 z] 246)) (λ_ _ _ h=>h));have HBS:Hd (w2.heap.size+1<=(wr.alloc (.cells #[.int .i64 k,.int .i64 z] 246)).heap.size):=jh (by have:=HF.o.lt;simp;omega);have HFIN:Hd (∀v' w1,vN.Own w1 (w2.heap.size+1) v' (zG d 0 (Z.take k)++[((k:Int),z)])->Chg (λj=>w2.heap.size+1<=j) (wr.alloc (.cells #[.int .i64 k,.int .i64 z] 246)) w1 ->
     (w1.cell? ⟨w2.heap.size,1,none⟩=some v/\w1.frozen? ⟨w2.heap.size,1,none⟩=false)/\Fld vN w2.heap.size 1 (w1.setCell ⟨w2.heap.size,1,none⟩ v') v' (zG d 0 (Z.take (k+1)))/\(w1.setCell ⟨w2.heap.size,1,none⟩ v').cell? ⟨w2.heap.size,0,none⟩=some (.int .i64 d)/\Chg (λk=>w2.heap.size<=k) w2 (w1.setCell ⟨w2.heap.size,1,none⟩ v')):=jh (by
     intro v' w1 h1 h2;obtain⟨k1,k2,k3,k4⟩:=HF1.o.step h1 h2;refine⟨k1,by rw[HTE.o];exact k2,k4 0 _ oM (((Chg.refl (λ_=>False) wr).alloc _).cellS HC02.o iD),HC.o.trans (((Chg.refl _ wr).alloc _).trans k3)⟩)
    go_wp2_with (at_builtin;refine Elt.wpList_append vN rfl _ _ 239 239 rfl rfl (w2.heap.size+1) v (zG d 0 (Z.take k)) [((k:Int),z)] (.slice (some ⟨wr.heap.size,0,none⟩) 1 1) rfl rfl HF1.o.own HBS.o (vN.srcLit 1 HOK.o) HOK.o (by have:=HLE.o;simp;omega) ?_;intro v' w1 H1 H2 H3;obtain⟨va,vl,vc,hv'⟩:=H1.o.shape3;subst hv';obtain⟨⟨k1,k2⟩,hf⟩:=HFIN.o _ w1 H1.o H2.o;have HFF:=jh hf;clear hf)
    go_roundw
    case rel=>exact⟨k+1,_,oM,by go_num,HFF.o.1,HFF.o.2.1,HFF.o.2.2⟩
    case measure=>simp[intOf];omega
  .obtain rfl:k=Z.length:=oM
   obtain⟨va,vg,vc,rfl,hle,-,-⟩:=HF.o.own.at';obtain⟨r0,r1,r2,r3⟩:=HRR.o;have hne:w.heap.size≠w2.heap.size:=oM;have hlt2:=HF.o.lt;have HTE:Hd (Z.take Z.length=Z):=jh (Ay5);rw[HTE.o]at hle c1;have hlen:=uL d Z 0;have HO:=jh (HF.o.own.lower (B':=w.heap.size) oM);rw[HTE.o]at HO;obtain⟨X,hX⟩:∃X,zG d 0 Z=X:=⟨_,rfl⟩;rw[hX]at hle c1 hlen HO;have HIN:=jh (HF.o.own);rw[HTE.o,hX]at HIN;have HXE:=jh hX;clear hX HF;go_wp2_with fail
   refine (zJs _ va _ vc hle).mono ?_;rintro e w3 ⟨rfl,rfl⟩;go_wp2;have hcs:=zA wr w2.heap.size 1 (.slice va X.length X.length);obtain⟨f0,f1,f2⟩:=zCc (.int .i64 d) (.slice va X.length X.length) (hcs.cellS r0 hne) (hcs.cellS r1 hne);have hcc:=(hcs.mono (T:=λk=>k=w2.heap.size\/k=w.heap.size) (λk _ e=>.inl e)).trans (f2.mono (λk _ e=>.inr e));have h3:=((HIN.o.chg hcc (λg hg _ e=>oM)).in' (Ay _)).lower (B':=w.heap.size) oM;have h4:=((HC2.o.any.trans (HC.o.mono (T:=λk=>w.heap.size<=k) (λk _ e=>oM))).trans (hcc.mono (λk _ e=>oM))).fresh;clear f2 hcc hcs
   generalize ((wr.setCell ⟨w2.heap.size,1,none⟩ (.slice va X.length X.length)).setCell ⟨w.heap.size,0,none⟩ (.int .i64 d)).setCell ⟨w.heap.size,1,none⟩ (.slice va X.length X.length)=W at *
   exact bodyPost_ret (v:=.tuple #[.agg #[.int .i64 d,.slice va X.length X.length],.int .i64 0]) (by simp[results,Tryz.results154,go_sem,f0,f1]) rfl ⟨(va,X.length,X.length),rfl,by rw[HXE.o];exact h3,h4⟩
def uE (L:List (Int×Int)):List Int:=L.map (·.2)
theorem zF1 (L:List (Int×Int)) (x:Int):(uE L).count x<=L.length:=Ay4 List.count_le_length (by rw[uE,Aw3];exact Ay _)
theorem zHe (L:List (Int×Int)) (x:Int×Int):uE (L++[x])=uE L++[x.2]:=by simp[uE]
def zPa (L:List Int) (left:Lit->Bool) (m d:Int):Prop:=∀n∈L,left (.int .i64 n)=false->(L.count n:Int)<m\/((L.count n:Int)=m/\d<=n)
theorem zPa.next {L:List Int}{left:Lit->Bool}{m d x:Int}(h:zPa L left m d) (hx:(L.count x:Int)<m\/((L.count x:Int)=m/\d<=x)):zPa L (λz=>left z && !z.sameKey (.int .i64 x)) m d:=λy hy hl=>by
 by_cases he:y=x
 .subst he;exact hx
 .refine h y hy ?_
  have hl2:(left (.int .i64 y) && !(Lit.int .i64 y).sameKey (.int .i64 x))=false:=hl;rw[Maps.sameKey_ne (by intro e;injection e with _ e;exact he e)]at hl2;simpa using hl2
theorem zEd (d:Int) (L:List (Int×Int)):vU 0 (d,L)=(decide (d=-1) && decide (L=[])):=by simp only[vU,if_true]
theorem zCz {W:Nat}(hW:W≠0) (d:Int) (L:List (Int×Int)):vU W (d,L)=(yQ W d (-1) L && (uE L).all (λn=>decide (((uE L).count n:Int)<(W:Int)-L.length\/(((uE L).count n:Int)=(W:Int)-L.length/\d<=n))) && decide (kE d) && decide (0<(W:Int)-L.length)):=by
 simp only[vU,uE];rw[if_neg hW]
 rfl
theorem zA1 {W:Nat}(hW:W≠0) {d:Int}{L:List (Int×Int)}(h:yQ W d (-1) L=false):vU W (d,L)=false:=by rw[zCz hW,h];rfl
theorem zC0 {W:Nat}(hW:W≠0) {d x:Int}{L:List (Int×Int)}(hx:x∈uE L) (h:¬(((uE L).count x:Int)<(W:Int)-L.length\/(((uE L).count x:Int)=(W:Int)-L.length/\d<=x))):vU W (d,L)=false:=by
 rw[zCz hW];have:(uE L).all (λn=>decide (((uE L).count n:Int)<(W:Int)-L.length\/(((uE L).count n:Int)=(W:Int)-L.length/\d<=n)))=false:=by
  rw[List.all_eq_false];exact⟨x,hx,by simpa using h⟩
 rw[this];simp
theorem zLb {W:Nat}(hW:W≠0) {d:Int}{L:List (Int×Int)}(h1:yQ W d (-1) L=true) {left:Lit->Bool}(h2:zPa (uE L) left ((W:Int)-L.length) d) (hl:∀kl,left kl=false):vU W (d,L)=(valB d && decide (0<(W:Int)-L.length)):=by
 rw[zCz hW,h1];have:(uE L).all (λn=>decide (((uE L).count n:Int)<(W:Int)-L.length\/(((uE L).count n:Int)=(W:Int)-L.length/\d<=n)))=true:=by
  rw[Ax5];intro n hn;simpa using h2 n hn (hl _)
 rw[this];simp[valB]
theorem zDj {W d last:Int}{L:List (Int×Int)}{k:Nat}{x:Int×Int}(hx:L[k]?=some x):yQ W d last (L.drop k)=(decide (last<x.1) && decide (x.1<W) && valB x.2 && !decide (x.2=d) && yQ W d x.1 (L.drop (k+1))):=by
 have h1:=(Az1.1 hx).1;rw[Au2 h1,(Az1.1 hx).2]
 rfl
theorem zFm (W:Nat) (d:Int) (L:List (Int×Int)) (a:Option Addr) (c B:Nat) (w:World) (h:vN.In w B (a,L.length,c) L) (hl:L.length<=1000000000) (hW:W<=65536) (hd:I.Byte d) :
  Calls Tryz.prog 180 #[.agg #[.int .i64 d,.slice a L.length c],.int .i64 W] w λe w'=>e=.returned (.bool (vU W (d,L)))/\Cf w w':=by
 have HL:=jh h;obtain⟨hd0,hd1⟩:=hd;have hmm:=@run_makeMap Tryz.prog;have HC0:=jh ((Chg.refl (λk=>w.heap.size<=k) w).alloc (.cells #[.int .i64 d,.slice a L.length c] 241));have HB0:Hd (∀wr,Chg (λk=>w.heap.size+1<=k) (w.alloc (.cells #[.int .i64 d,.slice a L.length c] 241)) wr->wr.cell? ⟨w.heap.size,0,none⟩=some (.int .i64 d)/\wr.cell? ⟨w.heap.size,1,none⟩=some (.slice a L.length c)):=jh λwr hc=>⟨hc.cellS sI (by show ¬w.heap.size+1<=w.heap.size;omega),hc.cellS sI (by show ¬w.heap.size+1<=w.heap.size;omega)⟩
 clear h;by_cases hW0:W=0
 .subst hW0
  by_cases hd1:d=-1
  .subst hd1
   by_cases hL0:L.length=0
   .have hL:=Aw9.1 hL0
    subst hL;have HV:Hd (vU 0 (-1,[])=true):=jh rfl;go_enter Tryz.func180,Tryz.ntmps180
    go_wp2;go_ret
    exact⟨by rw[HV.o];rfl,HC0.o.fresh⟩
   .have HV:Hd (vU 0 (-1,L)=false):=jh (by
     rw[zEd];have:L≠[]:=λe=>hL0 (by rw[e];rfl)
     simp[this])
    have q1:((L.length:Int) == 0)=false:=beq_eq_false_iff_ne.2 oM;clear hL0;go_enter Tryz.func180,Tryz.ntmps180
    go_wp2;go_ret
    exact⟨by rw[HV.o];rfl,HC0.o.fresh⟩
  .have HV:Hd (vU 0 (d,L)=false):=jh (by
    rw[zEd];simp[hd1])
   have q1:(d == -1)=false:=(by simpa using hd1);clear hd1;go_enter Tryz.func180,Tryz.ntmps180
   go_wp2;go_ret
   exact⟨by rw[HV.o];rfl,HC0.o.fresh⟩
 .have HW0:=jh hW0
  have q0:((W:Int) == 0)=false:=by simp;omega
  have HM0:=jh (HC0.o.alloc (.map #[] 0));have HM1:=jh ((Chg.refl (λk=>w.heap.size+1<=k) (w.alloc (.cells #[.int .i64 d,.slice a L.length c] 241))).alloc (.map #[] 0));clear hW0;go_enter Tryz.func180,Tryz.ntmps180
  go_wp2
  go_loopw [6,32] (λlv q wr=>∃(k:Nat) (last:Int) (D:DataW Unit),k<=L.length/\q=.int .i64 k/\lv=.int .i64 last/\yQ W d (-1) L=yQ W d last (L.drop k)/\wr.ownsMap Tryz.prog 3 (plainElem Tryz.prog 3) (w.heap.size+1) k D/\Counts D (uE (L.take k))/\Chg (λk=>w.heap.size+1<=k) (w.alloc (.cells #[.int .i64 d,.slice a L.length c] 241)) wr) (λ_ q _=>L.length-(intOf q).toNat)
  case atStart=>exact⟨0,-1,_,oM,rfl,rfl,sI,by have:=World.ownsMap_made (H:=Unit) (w.alloc (.cells #[.int .i64 d,.slice a L.length c] 241)) Tryz.prog 3 (plainElem Tryz.prog 3);simpa using this,Counts.start,HM1.o⟩
  case round =>
   clear HM0 HM1;obtain⟨k,last,D,hk,rfl,rfl,he,hown,hcnt,hc⟩:=hrel;have HE:=jh he;have HOWN:=jh hown;have HCNT:=jh hcnt;have HC:=jh hc;have HCW:=jh (HC0.o.trans (hc.mono (T:=λk=>w.heap.size<=k) (λk _ e=>oM)));obtain⟨b0,b1⟩:=HB0.o wr hc;clear he hown hcnt hc;by_cases hkl:k<L.length
   .have b33:decide ((k:Int)<(L.length:Int))=true:=by simp;omega
    obtain⟨x,g,o,u,v,hx,rfl,hp,c0,c1,hok,-,-⟩:=(HL.o.same HCW.o.fresh).get2 rfl hkl;obtain⟨rfl,rfl⟩:=zAn hp;obtain⟨x0,x1⟩:=x;obtain⟨⟨p0,p1⟩,⟨p2,p3⟩⟩:=hok;simp only at c0 c1 p0 p1 p2 p3;have HX:=jh hx;obtain⟨b2,b3⟩:=HB0.o (wr.alloc (.cells #[.int .i64 x0,.int .i64 x1] 246)) (HC.o.alloc _);have HST:=jh (zDj (W:=(W:Int)) (d:=d) (last:=last) hx);clear hx hp;by_cases h1:last<x0
    .have d1:decide (x0<=last)=false:=by simp;omega
     by_cases h2:x0<(W:Int)
     .have d2:decide ((W:Int)<=x0)=false:=by simp;omega
      by_cases h3:valB x1=true
      .by_cases h4:x1=d
       .subst h4
        have d4:(x1 == x1)=true:=sI;have HF:Hd (vU W (x1,L)=false):=jh (zA1 HW0.o (by rw[HE.o,HST.o];simp));go_wp2_with fail
        refine (dC x1 _).mono ?_;rintro e w2 ⟨rfl,rfl⟩;rw[h3];go_wp2;go_ret
        exact⟨by rw[HF.o];rfl,(HCW.o.alloc _).fresh⟩
       .have d4:(x1 == d)=false:=by simpa using h4
        have HE2:Hd (yQ W d (-1) L=yQ W d x0 (L.drop (k+1))):=jh (by rw[HE.o,HST.o];simp[h1,h2,h3,h4]);have HTK:Hd (uE (L.take (k+1))=uE (L.take k)++[x1]):=jh (by rw[Ay1,HX.o];exact zHe _ _);have hle:(uE (L.take k)).count x1<=k:=Ay4 (zF1 _ _) (Au _ _);have HOWA:=jh (HOWN.o.alloc (.cells #[.int .i64 x0,.int .i64 x1] 246));have HCA:=jh (HC.o.alloc (.cells #[.int .i64 x0,.int .i64 x1] 246));clear HE HST h4;go_wp2_with fail
        refine (dC x1 _).mono ?_;rintro e w2 ⟨rfl,rfl⟩;rw[h3];clear h3;go_wp2_with (first
         | (at_lookup;refine wpList_lookup_own_int _ rfl _ _ 277 rfl 3 3 .i64 lawI Tryz.underlying277 Tryz.underlying3 (zSp _) (w.heap.size+1) k _ rfl HOWA.o _ _ rfl (Maps.keyOf_int_mk Tryz.underlying3 (wfI p2 p3)) ?_;intro c hat hwc;rw[HCNT.o.at']at hat;injection hat with hat;injection hat with _ hat;subst hat;clear hwc)
         | (at_mapUpdate;refine wpList_mapUpdate_own _ rfl _ _ _ 277 rfl 3 3 lawI Tryz.underlying277 _ (w.heap.size+1) k _ rfl HOWA.o (by unfold maxLen;omega) _ _ _ rfl rfl (Maps.keyOf_int_mk Tryz.underlying3 (wfI p2 p3)) _ [] (plainElem_int Tryz.underlying3 (wfI oM oM)) ?_;intro w1 hown1 hgrow1)
         | fail)
        have HF:Hd (w1.ownsMap Tryz.prog 3 (plainElem Tryz.prog 3) (w.heap.size+1) (k+1) (D.put (.int .i64 x1) (.lit (.int .i64 (((uE (L.take k)).count x1:Int)+1))))/\Counts (D.put (.int .i64 x1) (.lit (.int .i64 (((uE (L.take k)).count x1:Int)+1)))) (uE (L.take (k+1)))/\Chg (λk=>w.heap.size+1<=k) (w.alloc (.cells #[.int .i64 d,.slice (some ⟨g,o,none⟩) L.length c] 241)) w1):=jh ⟨hown1,by rw[HTK.o];exact HCNT.o.step x1,HCA.o.grown hgrow1 (λj hj=>by cases hj;exact .inr (Ay _))⟩;clear hown1 hgrow1;go_roundw
        case rel=>exact⟨k+1,x0,_,oM,by go_num,rfl,HE2.o,HF.o⟩
        case measure=>simp[intOf];omega
      .have h3':valB x1=false:=by simpa using h3
       have HF:Hd (vU W (d,L)=false):=jh (zA1 HW0.o (by rw[HE.o,HST.o];simp[h3']));clear h3;go_wp2_with fail
       refine (dC x1 _).mono ?_;rintro e w2 ⟨rfl,rfl⟩;rw[h3'];clear h3';go_wp2;go_ret
       exact⟨by rw[HF.o];rfl,(HCW.o.alloc _).fresh⟩
     .have d2:decide ((W:Int)<=x0)=true:=by simp;omega
      have HF:Hd (vU W (d,L)=false):=jh (zA1 HW0.o (by rw[HE.o,HST.o];simp[h2]));go_wp2;go_ret
      exact⟨by rw[HF.o];rfl,(HCW.o.alloc _).fresh⟩
    .have d1:decide (x0<=last)=true:=by simp;omega
     have HF:Hd (vU W (d,L)=false):=jh (zA1 HW0.o (by rw[HE.o,HST.o];simp[h1]));go_wp2;go_ret
     exact⟨by rw[HF.o];rfl,(HCW.o.alloc _).fresh⟩
   .obtain rfl:k=L.length:=oM
    have HFC:Hd (yQ W d (-1) L=true):=jh (by rw[HE.o,List.drop_length];rfl);have HCN:Hd (Counts D (uE L)):=jh (by have:=HCNT.o;rwa [Ay5]at this);have HCLE:Hd (∀x,((uE L).count x:Int)<=1000000000):=jh (λx=>by have:=zF1 L x;omega);have HVB:Hd (∀x∈uE L,I.Byte x):=jh (λx hx=>by
     obtain⟨y,hy,rfl⟩:=At0.1 hx;obtain⟨_,_,g,o,h3,_⟩:=HL.o;exact (h3.ok y hy).2)
    clear HCNT HE HL;go_wp2_with (first
     | (at_range;refine wpList_range_own _ rfl _ 277 rfl 3 3 lawI Tryz.underlying277 _ (w.heap.size+1) L.length _ rfl HOWN.o ?_;intro w0 hrg0 hg0 hs0)
     | fail)
    go_frame
    have HRG:=jh hrg0;have HC1:=jh (HC.o.grown hg0 (λj hj=>by cases hj));obtain⟨wo,rfl⟩:∃wo:World,wo=wr:=⟨_,rfl⟩;have hsz:w.heap.size+1<=wo.heap.size:=(by have:=HC.o.size;simpa using this);clear hrg0 hg0 hs0 HOWN HC b0 b1 HCW
    go_loopw [] (λwr=>∃(left:Lit->Bool) (cnt:Nat),wr.ranges Tryz.prog 3 (plainElem Tryz.prog 3) (w.heap.size+1) wo.heap.size L.length D left cnt/\zPa (uE L) left ((W:Int)-L.length) d/\(∀x,left (.int .i64 x)=true->x∈uE L)/\Chg (λk=>w.heap.size+1<=k) (w.alloc (.cells #[.int .i64 d,.slice a L.length c] 241)) wr)
     (λwr=>wr.rangeLeft (w.heap.size+1) wo.heap.size)
    case atStart=>exact⟨_,_,HRG.o,λx hx h=>by rw[HCN.o.has]at h;simp only[decide_eq_false_iff_not]at h;exact absurd hx h,λx h=>by rw[HCN.o.has]at h;simpa using h,HC1.o⟩
    case round =>
     clear HRG HC1;obtain⟨left,cnt,hrg,hsel,hin,hc⟩:=hrel;have HRG:=jh hrg;have HS:=jh hsel;have HIN:=jh hin;have HC:=jh hc;obtain⟨b0,b1⟩:=HB0.o wr hc;clear hrg hsel hin hc;go_wp2_with (first
      | (at_next;refine wpList_next_ranges_ii _ rfl _ rfl 3 3 .i64 .i64 lawI Tryz.underlying3 Tryz.underlying3 (w.heap.size+1) wo.heap.size L.length _ _ _ rfl HRG.o ?_ ?_)
      | fail)
     .intro _ hl0
      have HE:=jh (zLb HW0.o HFC.o HS.o hl0);have HCF:=jh ((HC0.o.trans (HC.o.mono (T:=λk=>w.heap.size<=k) (λk _ e=>oM))).fresh);clear hl0 HS;go_wp2_with fail
      refine (dC d _).mono ?_;rintro e w2 ⟨rfl,rfl⟩;by_cases hv:valB d=true
      .rw[hv]
       rw[hv,Av7]at HE;by_cases hlt:L.length<W
       .have HT:Hd (vU W (d,L)=true):=jh (by rw[HE.o];simp;omega)
        have d1:decide (0<(W:Int)-L.length)=true:=sO;clear HE;go_wp2;go_ret
        exact⟨by rw[HT.o];rfl,HCF.o⟩
       .have HT:Hd (vU W (d,L)=false):=jh (by rw[HE.o];simp;omega)
        have d1:decide (0<(W:Int)-L.length)=false:=sO;clear HE;go_wp2;go_ret
        exact⟨by rw[HT.o];rfl,HCF.o⟩
      .have hv':valB d=false:=by simpa using hv
       rw[hv'];rw[hv',Aw0]at HE;clear hv hv';go_wp2;go_ret
       exact⟨by rw[HE.o];rfl,HCF.o⟩
     .intro x cv w1 cnt1 hwx hwc hlx hat hrg1 hlt hg1 hs1 hen
      have hxZ:=HIN.o x hlx;have hcc:cv=((uE L).count x:Int):=by
       have:=hat (.lit (.int .i64 0));rw[HCN.o.at']at this;injection this with this;injection this with _ this;exact this.symm
      obtain⟨xb0,xb1⟩:=HVB.o x hxZ;have hcb:0<=cv/\cv<=1000000000:=by
       have:=HCLE.o x;omega
      obtain⟨cb0,cb1⟩:=hcb;have HCC:=jh hcc;have HXZ:=jh hxZ;have HRG1:=jh hrg1;have HLT:=jh hlt;have HC1:=jh (HC.o.grown hg1 (λj hj=>by cases hj;exact .inr hsz));have HIN1:Hd (∀y,(left (.int .i64 y) && !(Lit.int .i64 y).sameKey (.int .i64 x))=true->y∈uE L):=jh (λy hy=>by simp at hy;exact HIN.o y hy.1);have HCF:=jh ((HC0.o.trans (HC1.o.mono (T:=λk=>w.heap.size<=k) (λk _ e=>oM))).fresh);obtain⟨b0,b1⟩:=HB0.o w1 HC1.o;clear hwx hwc hlx hat hrg1 hlt hg1 hs1 hcc hxZ HIN HC;by_cases h1:(W:Int)-L.length<cv
      .have d1:decide ((W:Int)-L.length<cv)=true:=by simpa using h1
       have HF:Hd (vU W (d,L)=false):=jh (zC0 HW0.o HXZ.o (by have:=HCC.o;omega));clear HS;go_wp2;go_ret
       exact⟨by rw[HF.o];rfl,HCF.o⟩
      .have d1:decide ((W:Int)-L.length<cv)=false:=by simpa using h1
       by_cases h2:cv=(W:Int)-L.length
       .have d2:(cv == (W:Int)-L.length)=true:=by simpa using h2
        by_cases h3:x<d
        .have d3:decide (x<d)=true:=by simpa using h3
         have HF:Hd (vU W (d,L)=false):=jh (zC0 HW0.o HXZ.o (by have:=HCC.o;omega));clear HS h2;go_wp2;go_ret
         exact⟨by rw[HF.o];rfl,HCF.o⟩
        .have d3:decide (x<d)=false:=by simpa using h3
         have HSN:=jh (HS.o.next (x:=x) (.inr ⟨by have:=HCC.o;omega,oM⟩));clear HS h2;go_wp2;go_roundw
         case rel=>exact⟨_,cnt1,HRG1.o,HSN.o,HIN1.o,HC1.o⟩
         case measure=>rw[HRG1.o.left_eq,HRG.o.left_eq];exact HLT.o
       .have d2:(cv == (W:Int)-L.length)=false:=by simpa using h2
        have HSN:=jh (HS.o.next (x:=x) (.inl (by have:=HCC.o;omega)));clear HS h2;go_wp2;go_roundw
        case rel=>exact⟨_,cnt1,HRG1.o,HSN.o,HIN1.o,HC1.o⟩
        case measure=>rw[HRG1.o.left_eq,HRG.o.left_eq];exact HLT.o
def rA:Int->Int->List Int->Option Int
 | next,_,[]=>some next
 | next,m,i :: l=>if i<0\/next<i\/m<=i then none else rA (if i=next then next+1 else next) m l
theorem zFa:∀(l:List Int) (next m r:Int),rA next m l=some r->next<=r/\r<=next+l.length
 | [],next,m,r,h=>by
  simp only[rA,Option.some.injEq]at h;simp
  omega
 | i :: l,next,m,r,h=>by
  simp only[rA]at h
  split at h
  .cases h
  .have:=zFa l _ m r h
   simp only[Ax2]
   split at this <;> omega
def mayL:TabD->Bool
 | (W,R,O)=>decide (0<=W/\W<=65536/\O.length<=65536) && decide (rA 0 R.length O=some (R.length:Int)) && R.all (vU W.toNat) && decide R.Nodup
theorem mS {W:Int}{R:List RowD}{O:List Int}(h:¬(0<=W/\W<=65536/\O.length<=65536)):mayL (W,R,O)=false:=by
 simp only[mayL,decide_eq_false h,Aw0]
theorem nJ {W:Int}{R:List RowD}{O:List Int}(h:rA 0 R.length O≠some (R.length:Int)):mayL (W,R,O)=false:=by
 simp only[mayL,decide_eq_false h,Aw0,Av1]
theorem zGm {W:Int}{R:List RowD}{O:List Int}{r:RowD}(hr:r∈R) (h:vU W.toNat r=false):mayL (W,R,O)=false:=by
 have:R.all (vU W.toNat)=false:=by rw[List.all_eq_false];exact⟨r,hr,by simp[h]⟩
 simp only[mayL,this,Aw0,Av1]
theorem zD7 {W:Int}{R:List RowD}{O:List Int}(h:¬R.Nodup):mayL (W,R,O)=false:=by
 simp only[mayL,decide_eq_false h,Av1]
theorem zCn {W:Int}{R:List RowD}{O:List Int}(h1:0<=W/\W<=65536/\O.length<=65536) (h3:∀r∈R,vU W.toNat r=true) (h4:R.Nodup):mayL (W,R,O)=decide (rA 0 R.length O=some (R.length:Int)):=by
 have:R.all (vU W.toNat)=true:=Ax5.2 h3;simp only[mayL,decide_eq_true h1,this,decide_eq_true h4,Av7,Bool.and_true]
theorem gE {W:Int}{R:List RowD}{O:List Int}(h:mayL (W,R,O)=true):(0<=W/\W<=65536/\O.length<=65536)/\rA 0 R.length O=some (R.length:Int)/\(∀r∈R,vU W.toNat r=true)/\R.Nodup:=by
 simp only[mayL,Ay2,decide_eq_true_eq,Ax5]at h;exact⟨h.1.1.1,h.1.1.2,h.1.2,h.2⟩
theorem uN.get {E:Elt (Int×Int)}{F:Elt (Int×Sl)}{w:World}{B:Nat}{a:Option Addr}{n c:Nat}{R:List RowD}(h:uN E F w B (a,n,c) R) (hz:F.sz=2) (he:∀x,F.enc x=zEh x) {k:Nat}(hk:k<R.length) :
  ∃(r:RowD) (g o:Nat) (xa:Option Addr) (xc:Nat),R[k]?=some r/\a=some ⟨g,o,none⟩/\w.cell? ⟨g,o+k * 2,none⟩=some (.int .i64 r.1)/\w.cell? ⟨g,o+k * 2+1,none⟩=some (.slice xa r.2.length xc)/\I.Byte r.1/\E.In w B (xa,r.2.length,xc) r.2/\g<w.heap.size/\B<=g:=by
 obtain⟨X,h1,h2,h3⟩:=h;obtain⟨x,g,o,u,v,hx,ha,hp,c0,c1,-,hB,hg⟩:=h1.get2 hz (show k<X.length by omega);have hr:R[k]?=some R[k]:=Az hk;obtain⟨r1,r2,r3⟩:=h3 k x _ hx hr;rw[he]at hp;unfold zEh at hp;simp only[List.cons.injEq,and_true]at hp;obtain⟨rfl,rfl⟩:=hp;obtain⟨xd,xa,xn,xc⟩:=x;have hn:xn=R[k].2.length:=r3.1;subst hn;exact⟨R[k],g,o,xa,xc,hr,ha,by rw[<-r1];exact c0,c1,r2,r3,hg,hB⟩
theorem jJ (R:List RowD) (a:Option Addr) (c B B2:Nat) (d:Int) (L:List (Int×Int)) (ax:Option Addr) (cx:Nat) (w:World) (h:uN vN rowE w B (a,R.length,c) R) (hx:vN.In w B2 (ax,L.length,cx) L) (hl:R.length<=1000000000) (hl2:L.length<=1000000000) :
  Calls Tryz.prog 178 #[.slice a R.length c,.func (.func 179) #[.agg #[.int .i64 d,.slice ax L.length cx]] #[]] w λe w'=>e=.returned (.int .i64 (idxV (vY (d,L)) R))/\Cf w w':=by
 have HL:=jh h;have HX:=jh hx;clear h hx;go_enter Tryz.func178,Tryz.ntmps178
 go_wp2
 go_loopw [8] (λq wr=>∃k:Nat,k<=R.length/\q=.int .i64 k/\(∀(j:Nat) y,j<k->R[j]?=some y->vY (d,L) y=false)/\Cf w wr) (λq _=>R.length-(intOf q).toNat)
 case atStart=>exact⟨0,oM,rfl,λj y h=>absurd h (Ax _),Chg.refl _ _⟩
 case round =>
  obtain⟨k,hk,rfl,hb,hc⟩:=hrel;have HB:=jh hb;have HC:=jh hc;clear hb hc;by_cases hkl:k<R.length
  .have b9:decide ((k:Int)<(R.length:Int))=true:=by simp;omega
   obtain⟨r,g,o,xa,xc,hr,rfl,c0,c1,-,hin,-,-⟩:=(HL.o.same HC.o).get rfl (λ_=>rfl) hkl;obtain⟨rd,rc⟩:=r;simp only at c0 c1 hin;have HR:=jh hr;have HIN:=jh hin;clear hr hin;by_cases hxi:vY (d,L) (rd,rc)=true
   .go_wp2_with fail
    refine (zJd d rd L rc ax xa cx xc B2 B wr (HX.o.same HC.o) HIN.o hl2).mono ?_;rintro e w2 ⟨rfl,hc2⟩;rw[hxi];have HC2:=jh (HC.o.trans hc2);have HF:Hd (idxV (vY (d,L)) R=k):=jh (uQ HR.o hxi HB.o);clear hc2 c0 c1;go_wp2;go_ret
    exact⟨by rw[HF.o];rfl,HC2.o⟩
   .have hxi':vY (d,L) (rd,rc)=false:=by simpa using hxi
    have HB2:Hd (∀(j:Nat) y,j<k+1->R[j]?=some y->vY (d,L) y=false):=jh (λj y hj hy=>by
     by_cases he:j=k
     .subst he;rw[HR.o]at hy;obtain rfl:=Az3 hy;exact hxi'
     .exact HB.o j y oM hy)
    go_wp2_with fail
    refine (zJd d rd L rc ax xa cx xc B2 B wr (HX.o.same HC.o) HIN.o hl2).mono ?_;rintro e w2 ⟨rfl,hc2⟩;rw[hxi'];have HC2:=jh (HC.o.trans hc2);clear hc2 c0 c1 hxi hxi';go_wp2;go_roundw
    case rel=>exact⟨k+1,oM,by go_num,HB2.o,HC2.o⟩
    case measure=>simp[intOf];omega
  .obtain rfl:k=R.length:=oM
   have HF:Hd (idxV (vY (d,L)) R=-1):=jh (rG HB.o);go_wp2;go_ret
   exact⟨by rw[HF.o];rfl,HC.o⟩
def gQ (r:RowD) (R:List RowD):Bool:=R.any (vY r)
theorem mU {r:RowD}{R:List RowD}:gQ r R=true↔r∈R:=by
 simp only[gQ,vY,Au5,decide_eq_true_eq];exact⟨λ⟨x,h1,h2⟩=>h2 ▸ h1,λh=>⟨r,h,rfl⟩⟩
theorem cQ (R:List RowD) (a:Option Addr) (c B B2:Nat) (d:Int) (L:List (Int×Int)) (ax:Option Addr) (cx:Nat) (w:World) (h:uN vN rowE w B (a,R.length,c) R) (hx:vN.In w B2 (ax,L.length,cx) L) (hl:R.length<=1000000000) (hl2:L.length<=1000000000) :
  Calls Tryz.prog 181 #[.slice a R.length c,.func (.func 179) #[.agg #[.int .i64 d,.slice ax L.length cx]] #[]] w λe w'=>e=.returned (.bool (gQ (d,L) R))/\Cf w w':=by
 have HL:=jh h;have HX:=jh hx;clear h hx;rcases tE (vY (d,L)) R with ⟨k,x,-,-,h3,-,h5⟩|⟨h3,-,h5⟩
 .have HI:=jh h3
  have HN:Hd (gQ (d,L) R=true):=jh h5;clear h3 h5;go_enter Tryz.func181,Tryz.ntmps181
  go_wp2_with fail
  refine (jJ R a c B B2 d L ax cx _ HL.o HX.o hl hl2).mono ?_;rintro e w2 ⟨rfl,hc2⟩;rw[HI.o];have HC:=jh hc2;clear hc2;go_wp2;go_ret
  exact⟨by rw[HN.o];rfl,HC.o⟩
 .have HI:=jh h3
  have HN:Hd (gQ (d,L) R=false):=jh h5;clear h3 h5;go_enter Tryz.func181,Tryz.ntmps181
  go_wp2_with fail
  refine (jJ R a c B B2 d L ax cx _ HL.o HX.o hl hl2).mono ?_;rintro e w2 ⟨rfl,hc2⟩;rw[HI.o];have HC:=jh hc2;clear hc2;go_wp2;go_ret
  exact⟨by rw[HN.o];rfl,HC.o⟩
theorem uN.take {E:Elt (Int×Int)}{F:Elt (Int×Sl)}{w:World}{B:Nat}{a:Option Addr}{n c:Nat}{R:List RowD}(h:uN E F w B (a,n,c) R) {k:Nat}(hk:k<=R.length):uN E F w B (a,(R.take k).length,c) (R.take k):=by
 obtain⟨X,⟨h1,h2,g,o,h3,h4⟩,h5,h6⟩:=h;simp only at h1 h2;have hX:X=X.take k++X.drop k:=(List.take_append_drop k X).symm;refine⟨X.take k,⟨?_,?_,g,o,⟨λj u hj=>?_,λx hx=>h3.ok x (At1 hx),λhne=>h3.lt (λe=>hne (by rw[e];simp))⟩,λhp=>h4 (by rw[Ax1]at hp;omega)⟩,by simp[h5],λj x r hx hr=>?_⟩
 .simp[h5]
 .show (R.take k).length<=c
  rw[Ax1];omega
 .refine h3.c j u ?_
  rw[hX,F.encs_append,Ay8 (Az1.1 hj).1];exact hj
 .have hj:=(Az1.1 hx).1
  rw[Ax1]at hj;rw[List.getElem?_take_of_lt oM]at hx hr;exact h6 j x r hx hr
theorem zD6 {next m i:Int}{O:List Int}{k:Nat}(hi:O[k]?=some i):rA next m (O.drop k)=if i<0\/next<i\/m<=i then none else rA (if i=next then next+1 else next) m (O.drop (k+1)):=by
 have h1:=(Az1.1 hi).1;rw[Au2 h1,(Az1.1 hi).2]
 rfl
def zJy (W:Int) (R:List RowD) (k:Nat):Prop:=(∀(j:Nat) r,j<k->R[j]?=some r->vU W.toNat r=true)/\(R.take k).Nodup
theorem zHs (W:Int) (R:List RowD) (O:List Int) (ra oa:Option Addr) (rc oc B g o:Nat) (w:World) (hW:I.Byte W) (hR:uN vN rowE w B (ra,R.length,rc) R) (hrl:R.length<=100000000) (hcl:∀r∈R,r.2.length<=1000000000)
  (hO:I.BytesAt w g o O) (ha:0<O.length->oa=some ⟨g,o,none⟩) (hol:O.length<=100000000) :
  Calls Tryz.prog 157 #[.agg #[.int .i64 W,.slice ra R.length rc,.slice oa O.length oc]] w λe w'=>e=.returned (.bool (mayL (W,R,O)))/\Cf w w':=by
 have HR:=jh hR;have HO:=jh hO;have HA:=jh ha;have HCL:=jh hcl;obtain⟨hW0,hW1⟩:=hW;have hrc:R.length<=rc:=by obtain⟨X,h1,h2,_⟩:=hR;have:=h1.1;have:=h1.2.1;simp only at *;omega
 have HC0:=jh ((Chg.refl (λk=>w.heap.size<=k) w).alloc (.cells #[.int .i64 W,.slice ra R.length rc,.slice oa O.length oc] 201));have HB0:Hd (∀wr,Chg (λk=>w.heap.size+1<=k) (w.alloc (.cells #[.int .i64 W,.slice ra R.length rc,.slice oa O.length oc] 201)) wr->wr.cell? ⟨w.heap.size,0,none⟩=some (.int .i64 W)/\wr.cell? ⟨w.heap.size,1,none⟩=some (.slice ra R.length rc)/\wr.cell? ⟨w.heap.size,2,none⟩=some (.slice oa O.length oc)):=jh λwr hc =>
  ⟨hc.cellS sI (by show ¬w.heap.size+1<=w.heap.size;omega),hc.cellS sI (by show ¬w.heap.size+1<=w.heap.size;omega),hc.cellS sI (by show ¬w.heap.size+1<=w.heap.size;omega)⟩
 clear hR hO ha hcl;by_cases h1:0<=W
 .have d1:decide (W<0)=false:=by simp;omega
  by_cases h2:W<=65536
  .have d2:decide (65536<W)=false:=by simp;omega
   by_cases h3:O.length<=65536
   .have d3:decide (65536<(O.length:Int))=false:=by simp;omega
    by_cases h4:R.length<=O.length
    .have d4:decide ((O.length:Int)<(R.length:Int))=false:=by simp;omega
     go_enter Tryz.func157,Tryz.ntmps157
     go_wp2
     go_loopw [3,34] (λnv q wr=>∃(k:Nat) (next:Int),k<=O.length/\q=.int .i64 k/\nv=.int .i64 next/\(0<=next/\next<=k)/\rA 0 R.length O=rA next R.length (O.drop k)/\wr=w.alloc (.cells #[.int .i64 W,.slice ra R.length rc,.slice oa O.length oc] 201)) (λ_ q _=>O.length-(intOf q).toNat)
     case atStart=>exact⟨0,0,oM,rfl,rfl,oM,sI,rfl⟩
     case round =>
      obtain⟨k,next,hk,rfl,rfl,⟨n0,n1⟩,he,rfl⟩:=hrel;have HE:=jh he;clear he;by_cases hkl:k<O.length
      .have b35:decide ((k:Int)<(O.length:Int))=true:=by simp;omega
       obtain⟨i,hi,c1,i0,i1⟩:=(HO.o.chg HC0.o.fresh iE).get hkl;have e1:=HA.o oM;subst e1;have HST:=jh (zD6 (next:=next) (m:=R.length) hi);clear hi;by_cases g1:i<0
       .have q1:decide (i<0)=true:=by simpa using g1
        have HF:Hd (mayL (W,R,O)=false):=jh (nJ (by rw[HE.o,HST.o,if_pos (.inl g1)];simp));go_wp2;go_ret
        exact⟨by rw[HF.o];rfl,HC0.o.fresh⟩
       .have q1:decide (i<0)=false:=by simpa using g1
        by_cases g2:next<i
        .have q2:decide (next<i)=true:=by simpa using g2
         have HF:Hd (mayL (W,R,O)=false):=jh (nJ (by rw[HE.o,HST.o,if_pos (.inr (.inl g2))];simp));go_wp2;go_ret
         exact⟨by rw[HF.o];rfl,HC0.o.fresh⟩
        .have q2:decide (next<i)=false:=by simpa using g2
         by_cases g3:(R.length:Int)<=i
         .have q3:decide ((R.length:Int)<=i)=true:=by simpa using g3
          have HF:Hd (mayL (W,R,O)=false):=jh (nJ (by rw[HE.o,HST.o,if_pos (.inr (.inr g3))];simp));go_wp2;go_ret
          exact⟨by rw[HF.o];rfl,HC0.o.fresh⟩
         .have q3:decide ((R.length:Int)<=i)=false:=by simpa using g3
          have HEN:Hd (rA 0 R.length O=rA (if i=next then next+1 else next) R.length (O.drop (k+1))):=jh (by rw[HE.o,HST.o,if_neg oM]);clear HE HST;by_cases g4:i=next
          .subst g4
           rw[if_pos rfl]at HEN;have q4:(i == i)=true:=sI;go_wp2;go_roundw
           case rel=>exact⟨k+1,i+1,oM,by go_num,rfl,oM,HEN.o,by first|rfl|trivial⟩
           case measure=>simp[intOf];omega
          .rw[if_neg g4]at HEN
           have q4:(i == next)=false:=(by simpa using g4);clear g4;go_wp2;go_roundw
           case rel=>exact⟨k+1,next,oM,by go_num,rfl,oM,HEN.o,by first|rfl|trivial⟩
           case measure=>simp[intOf];omega
      .obtain rfl:k=O.length:=oM
       have HNX:Hd (rA 0 R.length O=some next):=jh (by rw[HE.o,List.drop_length];rfl);clear HE;go_wp2
       go_loopw [59] (λq wr=>∃(k:Nat),k<=R.length/\q=.int .i64 k/\zJy W R k/\Chg (λk=>w.heap.size+1<=k) (w.alloc (.cells #[.int .i64 W,.slice ra R.length rc,.slice oa O.length oc] 201)) wr) (λq _=>R.length-(intOf q).toNat)
       case atStart=>exact⟨0,oM,rfl,⟨λj r h=>absurd h (Ax _),sI⟩,Chg.refl _ _⟩
       case round =>
        obtain⟨k,hk,rfl,⟨hfn,hnd⟩,hc⟩:=hrel;have HFN:=jh hfn;have HND:=jh hnd;have HC:=jh hc;have HCW:=jh ((HC0.o.trans (hc.mono (T:=λk=>w.heap.size<=k) (λk _ e=>oM))).fresh);obtain⟨b0,b1,b2⟩:=HB0.o wr hc;clear hfn hnd hc;by_cases hkl:k<R.length
        .have b60:decide ((k:Int)<(R.length:Int))=true:=by simp;omega
         obtain⟨r,g',o',xa,xc,hr,rfl,c0,c1,hrb,hin,-,-⟩:=(HR.o.same HCW.o).get rfl (λ_=>rfl) hkl;obtain⟨rd,rl⟩:=r;simp only at c0 c1 hin hrb;have HRK:=jh hr;have HRB:=jh hrb;have HIN:=jh hin;have HRL:=jh (HCL.o _ (Az2 hr));obtain⟨WN,hWN⟩:∃n:Nat,W=n:=⟨W.toNat,oM⟩;subst hWN;have HTK:Hd ((R.take k).length=k):=jh (by rw[Ax1];omega);have HFF:Hd (∀b,vU WN (rd,rl)=b->vU (WN:Int).toNat (rd,rl)=b):=jh (λb h=>h);have HCA:=jh (HC.o.alloc (.cells #[.int .i64 rd,.slice xa rl.length xc] 241));have HCA2:=jh (HCW.o.alloc (.cells #[.int .i64 rd,.slice xa rl.length xc] 241));clear hr hin hrb;obtain⟨wa,hwa⟩:∃wa,wa=wr.alloc (.cells #[.int .i64 rd,.slice xa rl.length xc] 241):=⟨_,rfl⟩;have HRC:Hd (∀wx,Cf wa wx->wx.cell? ⟨wr.heap.size,0,none⟩=some (.int .i64 rd)/\wx.cell? ⟨wr.heap.size,1,none⟩=some (.slice xa rl.length xc)):=jh (λwx hx=>by subst hwa;exact⟨hx.cellS sI iD,hx.cellS sI iD⟩);have HWA:=jh hwa;rw[<-hwa]at HCA HCA2;clear hwa;have HCW2:Hd (Cf wr wa):=jh (by rw[HWA.o];exact (Chg.refl _ _).alloc _);by_cases hf:vU WN (rd,rl)=true
         .by_cases hh:gQ (rd,rl) (R.take k)=true
          .have HF:Hd (mayL ((WN:Int),R,O)=false):=jh (zD7 (λhn=>by
            have hm:=mU.1 hh;obtain⟨j,hj,he⟩:=Av9 hm;rw[Ax1]at hj;rw[List.getElem_take]at he;have:=(List.getElem?_inj (i:=j) (j:=k) oM hn).1 (by rw[HRK.o,Az oM,he]);omega))
           go_upto_region 17 with (fail)
           rw[<-HWA.o];refine ws (λw'=>Cf wa w') ?_;(refine rf HRC.o ?_);(refine rq ?_);(refine rq ?_ (by intro _ w' _ hC;obtain⟨q0,q1,q2⟩:=HB0.o w' (HCA.o.trans hC.any);go_simp;try with_reducible rfl));refine yS rfl (Value.bool true )  180  ( #[.agg #[.int .i64 rd,.slice xa rl.length xc],.int .i64 WN]) (λw'=>by go_simp) (λ_ w' _ hC=>?_) (λK hK=>?_)
           .refine (zFm WN rd rl xa xc B w' (HIN.o.same (HCW2.o.trans hC)) HRL.o oM HRB.o).mono ?_
            rintro e w2 ⟨rfl,hc2⟩;exact⟨by rw[hf],hC.trans hc2⟩
           ((try go_simp);refine hK _ ?_;clear hK K)
           (iterate 3 (refine rq ?_));(refine rq ?_ (by intro _ w' _ hC;obtain⟨q0,q1,q2⟩:=HB0.o w' (HCA.o.trans hC.any);go_simp;try with_reducible rfl));(refine rq ?_);(refine rq ?_ (by intro _ w' _ hC;(have hkr:k<=rc:=oM);go_simp;try with_reducible rfl));(refine rf HRC.o ?_);(refine rq ?_)
           refine yS rfl (Value.bool true )  181  ( #[.slice (some ⟨g',o',none⟩) k rc,.func (.func 179) #[.agg #[.int .i64 rd,.slice xa rl.length xc]] #[]]) (λw'=>by go_simp) (λ_ w' _ hC=>?_) (λK hK=>?_)
           .have hct:=cQ (R.take k) (some ⟨g',o',none⟩) rc B B rd rl xa xc w' ((HR.o.same (HCA2.o.trans hC)).take oM) (HIN.o.same (HCW2.o.trans hC)) (by rw[HTK.o];omega) HRL.o
            rw[HTK.o]at hct;refine hct.mono ?_;rintro e w2 ⟨rfl,hc2⟩;exact⟨by rw[hh],hC.trans hc2⟩
           ((try go_simp);refine hK _ ?_;clear hK K)
           (refine rq ?_);refine zQ ?_;intro w2 hC2;have HC2:=jh hC2;clear hC2;go_wp2;go_ret
           exact⟨by rw[HF.o];rfl,HCA2.o.trans HC2.o⟩
          .have hh:gQ (rd,rl) (R.take k)=false:=by simpa using hh
           have HFN2:Hd (∀(j:Nat) r,j<k+1->R[j]?=some r->vU (WN:Int).toNat r=true):=jh (λj x hj hx=>by
            by_cases he:j=k
            .subst he;rw[HRK.o]at hx;obtain rfl:=Az3 hx;exact hf
            .exact HFN.o j x oM hx)
           have HND2:Hd ((R.take (k+1)).Nodup):=jh (by
            rw[Ay1,HRK.o,List.nodup_append];refine⟨HND.o,sI,λa ha b hb=>?_⟩;simp at hb
            subst hb;intro e;subst e;rw[mU.2 ha]at hh;cases hh)
           go_upto_region 17 with (fail)
           rw[<-HWA.o];refine ws (λw'=>Cf wa w') ?_;(refine rf HRC.o ?_);(refine rq ?_);(refine rq ?_ (by intro _ w' _ hC;obtain⟨q0,q1,q2⟩:=HB0.o w' (HCA.o.trans hC.any);go_simp;try with_reducible rfl));refine yS rfl (Value.bool true )  180  ( #[.agg #[.int .i64 rd,.slice xa rl.length xc],.int .i64 WN]) (λw'=>by go_simp) (λ_ w' _ hC=>?_) (λK hK=>?_)
           .refine (zFm WN rd rl xa xc B w' (HIN.o.same (HCW2.o.trans hC)) HRL.o oM HRB.o).mono ?_
            rintro e w2 ⟨rfl,hc2⟩;exact⟨by rw[hf],hC.trans hc2⟩
           ((try go_simp);refine hK _ ?_;clear hK K)
           (iterate 3 (refine rq ?_));(refine rq ?_ (by intro _ w' _ hC;obtain⟨q0,q1,q2⟩:=HB0.o w' (HCA.o.trans hC.any);go_simp;try with_reducible rfl));(refine rq ?_);(refine rq ?_ (by intro _ w' _ hC;(have hkr:k<=rc:=oM);go_simp;try with_reducible rfl));(refine rf HRC.o ?_);(refine rq ?_)
           refine yS rfl (Value.bool false )  181  ( #[.slice (some ⟨g',o',none⟩) k rc,.func (.func 179) #[.agg #[.int .i64 rd,.slice xa rl.length xc]] #[]]) (λw'=>by go_simp) (λ_ w' _ hC=>?_) (λK hK=>?_)
           .have hct:=cQ (R.take k) (some ⟨g',o',none⟩) rc B B rd rl xa xc w' ((HR.o.same (HCA2.o.trans hC)).take oM) (HIN.o.same (HCW2.o.trans hC)) (by rw[HTK.o];omega) HRL.o
            rw[HTK.o]at hct;refine hct.mono ?_;rintro e w2 ⟨rfl,hc2⟩;exact⟨by rw[hh],hC.trans hc2⟩
           ((try go_simp);refine hK _ ?_;clear hK K)
           (refine rq ?_);refine zQ ?_;intro w2 hC2;have HC2:=jh hC2;clear hC2;have HC3:=jh (HCA.o.trans HC2.o.any);clear hf hh;go_wp2;go_roundw
           case rel=>first|exact⟨k+1,oM,by go_num,⟨HFN2.o,HND2.o⟩,HC3.o⟩|((repeat apply Ay7);exact⟨⟨k+1,oM,rfl,⟨HFN2.o,HND2.o⟩,HC3.o⟩,by (repeat' apply And.intro) <;> first|rfl|go_num⟩)
           case measure=>simp[intOf];omega
         .have hf:vU WN (rd,rl)=false:=by simpa using hf
          have HF:Hd (mayL ((WN:Int),R,O)=false):=jh (zGm (Az2 HRK.o) hf);go_upto_region 17 with (fail)
          rw[<-HWA.o];refine ws (λw'=>Cf wa w') ?_;(refine rf HRC.o ?_);(refine rq ?_);(refine rq ?_ (by intro _ w' _ hC;obtain⟨q0,q1,q2⟩:=HB0.o w' (HCA.o.trans hC.any);go_simp;try with_reducible rfl));refine yS rfl (Value.bool false )  180  ( #[.agg #[.int .i64 rd,.slice xa rl.length xc],.int .i64 WN]) (λw'=>by go_simp) (λ_ w' _ hC=>?_) (λK hK=>?_)
          .refine (zFm WN rd rl xa xc B w' (HIN.o.same (HCW2.o.trans hC)) HRL.o oM HRB.o).mono ?_
           rintro e w2 ⟨rfl,hc2⟩;exact⟨by rw[hf],hC.trans hc2⟩
          ((try go_simp);refine hK _ ?_;clear hK K)
          (iterate 2 (refine rq ?_))
          iterate 7 (refine sq ?_)
          (refine rq ?_);refine zQ ?_;intro w2 hC2;have HC2:=jh hC2;clear hC2;go_wp2;go_ret
          exact⟨by rw[HF.o];rfl,HCA2.o.trans HC2.o⟩
        .obtain rfl:k=R.length:=oM
         have HMG:Hd (mayL (W,R,O)=decide (rA 0 R.length O=some (R.length:Int))):=jh (zCn ⟨h1,h2,h3⟩ (λr hr=>by
          obtain⟨j,hj,he⟩:=Av9 hr;exact HFN.o j r hj (by rw[Az hj,he])) (by have:=HND.o;rwa [Ay5]at this))
         by_cases hnx:next=(R.length:Int)
         .have HF:Hd (mayL (W,R,O)=true):=jh (by rw[HMG.o,HNX.o,hnx];simp)
          have q1:(next == (R.length:Int))=true:=(by simpa using hnx);clear hnx HMG HNX;go_wp2;go_ret
          exact⟨by rw[HF.o];rfl,HCW.o⟩
         .have HF:Hd (mayL (W,R,O)=false):=jh (by rw[HMG.o,HNX.o];simpa using hnx)
          have q1:(next == (R.length:Int))=false:=(by simpa using hnx);clear hnx HMG HNX;go_wp2;go_ret
          exact⟨by rw[HF.o];rfl,HCW.o⟩
    .have d4:decide ((O.length:Int)<(R.length:Int))=true:=by simp;omega
     have HF:Hd (mayL (W,R,O)=false):=jh (nJ (λe=>by have:=zFa O 0 R.length _ e;omega));go_enter Tryz.func157,Tryz.ntmps157
     go_wp2;go_ret
     exact⟨by rw[HF.o];rfl,HC0.o.fresh⟩
   .have d3:decide (65536<(O.length:Int))=true:=by simp;omega
    have HF:Hd (mayL (W,R,O)=false):=jh (mS oM);go_enter Tryz.func157,Tryz.ntmps157
    go_wp2;go_ret
    exact⟨by rw[HF.o];rfl,HC0.o.fresh⟩
  .have d2:decide (65536<W)=true:=by simp;omega
   have HF:Hd (mayL (W,R,O)=false):=jh (mS oM);go_enter Tryz.func157,Tryz.ntmps157
   go_wp2;go_ret
   exact⟨by rw[HF.o];rfl,HC0.o.fresh⟩
 .have d1:decide (W<0)=true:=by simp;omega
  have HF:Hd (mayL (W,R,O)=false):=jh (mS oM);go_enter Tryz.func157,Tryz.ntmps157
  go_wp2;go_ret
  exact⟨by rw[HF.o];rfl,HC0.o.fresh⟩
end Go.Proofs.YtgnpmceimpjheaaGreat
namespace Go.Proofs.YtgnpmceimpjheaaGreat
section
variable {P:Program}{ops:Array Oper}{Q:Exit->Act->World->Prop}{md:Region.Mode}{S:World->Prop}{late:Nat->Bool}
def yN (P:Program) (md:Region.Mode) (ops:Array Oper) (Q:Exit->Act->World->Prop) (S:World->Prop) (late:Nat->Bool):Nat->Array Bool->Act->World->Prop
 | 0,listed,a,w=>Region.ready md ops listed=[]/\Q .normal a w
 | fuel+1,listed,a,w=>(Region.ready md ops listed=[]->Q .normal a w) /\
  ∀i∈Region.ready md ops listed,wpOp P ops Q i (λa' w'=>(late i=false->S w')/\yN P md ops Q S late fuel (listed.setIfInBounds i true) a' w') a w
theorem zAg:∀(fuel:Nat) (listed:Array Bool) (a:Act) (w:World),yN P md ops Q S late fuel listed a w->wpAny P md ops Q fuel listed a w
 | 0,_,_,_,h=>h
 | fuel+1,_,_,_,h=>⟨h.1,λi hi=>wpOp_mono (λa' w' h'=>zAg fuel _ a' w' h'.2) (h.2 i hi)⟩
def zDp (md:Region.Mode) (ops:Array Oper):Nat->Nat->Nat->Bool
 | 0,_,_=>false
 | f+1,j,i=>match ops[j]? with
  | none=>false
  | some oj=>oj.after.any λe=>Region.binds md e && (decide (e.on=i) || zDp md ops f e.on i)
def zEs (md:Region.Mode) (ops:Array Oper) (listed:Array Bool):Prop :=
 ∀(k:Nat) (ok:Oper),ops[k]?=some ok->listed.getD k false=true->∀e∈ok.after,Region.binds md e=true->listed.getD e.on false=true
def zFv (md:Region.Mode) (ops:Array Oper) (listed:Array Bool):Bool :=
 ops.toList.zipIdx.all λx=>!(listed.getD x.2 false) || x.1.after.all λe=>!Region.binds md e || listed.getD e.on false
theorem zG2 {listed:Array Bool}(h:zFv md ops listed=true):zEs md ops listed:=by
 intro k ok hk hl e he hb;have h1:=Ax5.1 h (ok,k) (by
  obtain⟨hlt,rfl⟩:=Array.getElem?_eq_some_iff.1 hk;exact List.mem_iff_getElem.2 ⟨k,by simpa using hlt,sI⟩)
 simp only[hl,Bool.not_true,Au8]at h1;have h2:=Array.all_eq_true_iff_forall_mem.1 h1 e he;simpa only [hb,Bool.not_true,Au8] using h2
theorem zEs.set {listed:Array Bool}(h:zEs md ops listed) {j:Nat}(hj:j∈Region.ready md ops listed):zEs md ops (listed.setIfInBounds j true):=by
 obtain⟨_,oj,hoj,hall⟩:=mem_ready.1 hj;have up:∀k,listed.getD k false=true->(listed.setIfInBounds j true).getD k false=true:=λk hk=>by
  by_cases he:j=k
  .subst he
   simp only[Array.getD_eq_getD_getElem?]at hk ⊢;rcases Nat.lt_or_ge j listed.size with h'|h'
   .simp[h']
   .simp[Array.getElem?_eq_none h']at hk
  .rw[getD_set_ne false he];exact hk
 intro k ok hk hl e he hb;by_cases hjk:j=k
 .subst hjk
  rw[hoj]at hk;obtain rfl:=Az3 hk;exact up _ (hall e he hb)
 .rw[getD_set_ne false hjk]at hl
  exact up _ (h k ok hk hl e he hb)
theorem zBh {listed:Array Bool}(hc:zEs md ops listed) {i:Nat}:∀(f j:Nat),(∀oj,ops[j]?=some oj->∀e∈oj.after,Region.binds md e=true->listed.getD e.on false=true)->zDp md ops f j i=true->listed.getD i false=true
 | 0,_,_,h=>by cases h
 | f+1,j,hp,h=>by
  simp only[zDp]at h;cases ho:ops[j]? with
  | none=>rw[ho]at h;cases h
  | some oj =>
   rw[ho]at h;obtain⟨e,he,h2⟩:=Array.any_eq_true.1 h;simp only[Ay2,At4,decide_eq_true_eq]at h2;have h3:=hp oj ho _ (Array.getElem_mem he) h2.1;rcases h2.2 with h4|h4
   .rw[<-h4];exact h3
   .exact zBh hc f _ (λok hk=>hc _ ok hk h3) h4
def zP9 (md:Region.Mode) (ops:Array Oper) (late:Nat->Bool) (i:Nat):Bool :=
 (List.range ops.size).all λj=>!late j || decide (j=i) || zDp md ops ops.size j i
theorem zK3 {i:Nat}(h:zP9 md ops late i=true):∀(j:Nat) (oj:Oper),ops[j]?=some oj->late j=true->j≠i->zDp md ops ops.size j i=true:=by
 intro j oj hj hl hji;have h1:=Ax5.1 h j (At2.2 (Array.getElem?_eq_some_iff.1 hj).1);simp only[hl,Bool.not_true,Au8,At4,decide_eq_true_eq]at h1;rcases h1 with h1|h1
 .exact absurd h1 hji
 .exact h1
theorem zK2 {i:Nat}{oi:Oper}{v:Value}(hi:ops[i]?=some oi) (hsel:∀(j:Nat) (o:Oper) cs b,ops[j]?=some o->o.op≠.select cs b)
  (hQ:∀c a w,Q (.panic c) (a.put oi.dst v) w->Q (.panic c) a w) (hlate:∀(j:Nat) (oj:Oper),ops[j]?=some oj->late j=true->j≠i->zDp md ops ops.size j i=true) :
  ∀(fuel:Nat) (listed:Array Bool) (a:Act) (w:World),zEs md ops listed ->
   (∀j oj,ops[j]?=some oj->j≠i->listed.getD j true=false->(∀e∈oj.after,Region.binds md e=true->e.on≠i)->oi.apart ops oj=true) ->
   i∈Region.ready md ops listed->YieldsIf P ops S oi v a->S w ->
   yN P md ops Q S late fuel (listed.setIfInBounds i true) (a.put oi.dst v) w->yN P md ops Q S late (fuel+1) listed a w:=by
 intro fuel
 induction fuel with
 | zero =>
  intro listed a w _ _ hr hy hS H;refine⟨λh=>(by rw[h]at hr;cases hr),λj hj=>?_⟩;by_cases hji:j=i
  .subst hji;exact hy.wpOp hi hS ⟨λ_=>hS,H⟩
  .have:=ready_mono hj hji
   rw[H.1]at this;cases this
 | succ fuel ih =>
  intro listed a w hcl hfree hr hy hS H;refine⟨λh=>(by rw[h]at hr;cases hr),λj hj=>?_⟩;by_cases hji:j=i
  .subst hji;exact hy.wpOp hi hS ⟨λ_=>hS,H⟩
  .obtain⟨hjun,oj,hoj,hall⟩:=mem_ready.1 hj
   have hnot:∀e∈oj.after,Region.binds md e=true->e.on≠i:=λe he hb heq=>by
    have h1:=hall e he hb;have h0:=(mem_ready.1 hr).1;rw[heq]at h1;rcases Nat.lt_or_ge i listed.size with h'|h'
    .simp[h']at h0 h1;rw[h0]at h1;cases h1
    .simp[Array.getElem?_eq_none h']at h1
   have hlj:late j=false:=by
    cases hl:late j
    .rfl
    .have h1:=zBh hcl _ j (λok hk e he hb=>by rw[hoj]at hk;obtain rfl:=Az3 hk;exact hall e he hb) (hlate j oj hoj hl hji)
     have h0:=(mem_ready.1 hr).1;rw[getD_both h0]at h1;cases h1
   have h2:=wpOp_putIf hoj (hfree j oj hoj hji hjun hnot) (λcs b=>hsel i oi cs b hi) (λcs b=>hsel j oj cs b hoj) hQ hy (H.2 j (ready_mono hj hji));have hfree':∀k ok,ops[k]?=some ok->k≠i->(listed.setIfInBounds j true).getD k true=false ->
    (∀e∈ok.after,Region.binds md e=true->e.on≠i)->oi.apart ops ok=true:=λk ok hk hki hun hno=>by
    refine hfree k ok hk hki ?_ hno;by_cases hjk:j=k
    .subst hjk;exact hjun
    .rw[getD_set_ne true hjk]at hun;exact hun
   refine wpOp_mono (λa' w' h3=>⟨h3.2.1,ih (listed.setIfInBounds j true) a' w' (hcl.set hj) hfree' (ready_mono hr (Ne.symm hji)) h3.1 (h3.2.1 hlj) ?_⟩) h2;rw[Array.setIfInBounds_comm _ _ hji];exact h3.2.2
theorem zGt {i:Nat}{oi:Oper}{fuel:Nat}{listed:Array Bool}{a:Act}{w:World}(hi:ops[i]?=some oi)
  (hs:(Region.noSelect ops && Region.free md ops listed i && (Region.ready md ops listed).contains i && zP9 md ops late i && zFv md ops listed)=true)
  (hQ:∀v c a w,Q (.panic c) (a.put oi.dst v) w->Q (.panic c) a w) (hw:Region.wanted oi (yielded ops a.tmps)=true) (hS:S w)
  (h:∀K:Act->Prop,(∀a,yN P md ops Q S late fuel (listed.setIfInBounds i true) a w->K a)->∃v,(∀w',S w'->(execOp a.eval oi).run P w'=.ok (.value v) w')/\K (a.put oi.dst v)) :
  yN P md ops Q S late (fuel+1) listed a w:=by
 simp only[Ay2]at hs;obtain⟨⟨⟨⟨h1,h2⟩,h3⟩,h4⟩,h5⟩:=hs;obtain⟨v,hrun,hK⟩:=h _ iE;exact zK2 hi (Region.noSelect_spec h1) (hQ v) (zK3 h4) fuel listed a w (zG2 h5) (Region.free_spec hi h2) (by simpa using h3) (.inl ⟨hw,hrun⟩) hS hK
theorem zNc {i:Nat}{oi:Oper}{fuel:Nat}{listed:Array Bool}{a:Act}{w:World}(hr:Region.ready md ops listed=[i]) (hi:ops[i]?=some oi)
  (hw:Region.wanted oi (yielded ops a.tmps)=true)
  (h:∀K:Act->World->Prop,(∀a w,yN P md ops Q S late fuel (listed.setIfInBounds i true) a w->K a w)->∃v w'',(execOp a.eval oi).run P w=.ok (.value v) w''/\(late i=false->S w'')/\K (a.put oi.dst v) w'') :
  yN P md ops Q S late (fuel+1) listed a w:=by
 obtain⟨v,w'',hrun,hS,hK⟩:=h _ iF;refine⟨λh0=>(by rw[hr]at h0;cases h0),λj hj=>?_⟩;rw[hr]at hj;obtain rfl:j=i:=by simpa using hj
 unfold Go.wpOp;simp only[hi,hw,if_true,Oper.wp,hrun,Oper.upon];exact .inl ⟨hS,hK⟩
theorem zK1 {i:Nat}{oi:Oper}{fuel:Nat}{listed:Array Bool}{a:Act}{w:World}(hr:Region.ready md ops listed=[i]) (hi:ops[i]?=some oi)
  (hw:Region.wanted oi (yielded ops a.tmps)=true)
  (h:∀K:Act->World->Prop,(∀a w,yN P md ops Q S late fuel (listed.setIfInBounds i true) a w->K a w)->∃w'',(execOp a.eval oi).run P w=.ok .skip w''/\(late i=false->S w'')/\K (a.put oi.dst undef) w'') :
  yN P md ops Q S late (fuel+1) listed a w:=by
 obtain⟨w'',hrun,hS,hK⟩:=h _ iF;refine⟨λh0=>(by rw[hr]at h0;cases h0),λj hj=>?_⟩;rw[hr]at hj;obtain rfl:j=i:=by simpa using hj
 unfold Go.wpOp;simp only[hi,hw,if_true,Oper.wp,hrun,Oper.upon];exact .inl ⟨hS,hK⟩
theorem lq (i:Nat) {oi:Oper}{fuel:Nat}{listed:Array Bool}{a a':Act}{v:Value}{w:World}(hS:S w) (hn:yN P md ops Q S late fuel (listed.setIfInBounds i true) a' w) (hi:ops[i]?=some oi:=by exact rfl)
  (hr:∀w',S w'->(execOp a.eval oi).run P w'=.ok (.value v) w':=by intro w' hC;go_simp;try with_reducible rfl)
  (ha:a.put oi.dst v=a':=by (try go_simp);try with_reducible rfl)
  (hs:(Region.noSelect ops && Region.free md ops listed i && (Region.ready md ops listed).contains i && zP9 md ops late i && zFv md ops listed)=true:=by kernel_rfl)
  (hQ:∀v c a w,Q (.panic c) (a.put oi.dst v) w->Q (.panic c) a w:=by exact λ_ _ _ _ h=>h) (hw:Region.wanted oi (yielded ops a.tmps)=true:=by exact rfl) :
  yN P md ops Q S late (fuel+1) listed a w:=zGt (i:=i) hi hs hQ hw hS λ_ hK=>⟨v,hr,by rw[ha];exact hK _ hn⟩
theorem lf (i:Nat) {F:World->Prop}{oi:Oper}{fuel:Nat}{listed:Array Bool}{a a':Act}{v:Value}{w:World}(hS:S w) (hF:∀w',S w'->F w') (hn:yN P md ops Q S late fuel (listed.setIfInBounds i true) a' w) (hi:ops[i]?=some oi:=by exact rfl)
  (hr:∀w',S w'->F w'->(execOp a.eval oi).run P w'=.ok (.value v) w':=by intro w' hC hF;(repeat' (cases hF;rename_i hF));go_simp;try with_reducible rfl)
  (ha:a.put oi.dst v=a':=by (try go_simp);try with_reducible rfl)
  (hs:(Region.noSelect ops && Region.free md ops listed i && (Region.ready md ops listed).contains i && zP9 md ops late i && zFv md ops listed)=true:=by kernel_rfl)
  (hQ:∀v c a w,Q (.panic c) (a.put oi.dst v) w->Q (.panic c) a w:=by exact λ_ _ _ _ h=>h) (hw:Region.wanted oi (yielded ops a.tmps)=true:=by exact rfl) :
  yN P md ops Q S late (fuel+1) listed a w:=zGt (i:=i) hi hs hQ hw hS λ_ hK=>⟨v,λw' h=>hr w' h (hF w' h),by rw[ha];exact hK _ hn⟩
theorem lt (i:Nat) {oi:Oper}{fuel:Nat}{listed:Array Bool}{a a':Act}{v:Value}{w w':World}(hS:late i=false->S w') (hn:yN P md ops Q S late fuel (listed.setIfInBounds i true) a' w') (hi:ops[i]?=some oi:=by exact rfl)
  (hr:(execOp a.eval oi).run P w=.ok (.value v) w':=by go_simp;try first|with_reducible rfl|exact⟨rfl,rfl⟩)
  (ha:a.put oi.dst v=a':=by (try go_simp);try with_reducible rfl)
  (hq:Region.ready md ops listed=[i]:=by kernel_rfl) (hw:Region.wanted oi (yielded ops a.tmps)=true:=by exact rfl) :
  yN P md ops Q S late (fuel+1) listed a w:=zNc (i:=i) hq hi hw λ_ hK=>⟨v,w',hr,hS,by rw[ha];exact hK _ _ hn⟩
theorem ld (i:Nat) {oi:Oper}{fuel:Nat}{listed:Array Bool}{a a':Act}{w w':World}(hn:yN P md ops Q S late fuel (listed.setIfInBounds i true) a' w') (hS:late i=false->S w':=by exact λh=>absurd h (by decide)) (hi:ops[i]?=some oi:=by exact rfl)
  (hr:(execOp a.eval oi).run P w=.ok .skip w':=by go_simp;try first|with_reducible rfl|exact⟨rfl,rfl⟩)
  (ha:a.put oi.dst undef=a':=by (try go_simp);try with_reducible rfl)
  (hq:Region.ready md ops listed=[i]:=by kernel_rfl) (hw:Region.wanted oi (yielded ops a.tmps)=true:=by exact rfl) :
  yN P md ops Q S late (fuel+1) listed a w:=zK1 (i:=i) hq hi hw λ_ hK=>⟨w',hr,hS,by rw[ha];exact hK _ _ hn⟩
theorem xE {i:Nat}{oi:Oper}{fuel:Nat}{listed:Array Bool}{a:Act}{w:World}(hr:Region.ready md ops listed=[i]) (hi:ops[i]?=some oi)
  (hw:Region.wanted oi (yielded ops a.tmps)=true) (s x:Operand) (tl tx:TypeId) (ho:oi.op=.call { callee:=.builtin .append,args:=#[s,x],argTypes:=#[tl,tx] }) (v u:Value) (hv:a.eval s=v) (hu:a.eval x=u)
  (R:Value->World->Prop) (hrun:∃v' w'',(Builtin.append_ #[tl,tx] oi.type #[v,u]).run P w=.ok v' w''/\(late i=false->S w'')/\R v' w'')
  (h:∀v' w'',(late i=false->S w'')->R v' w''->∀K:Act->Prop,(∀a,yN P md ops Q S late fuel (listed.setIfInBounds i true) a w''->K a)->K (a.put oi.dst v')) :
  yN P md ops Q S late (fuel+1) listed a w:=by
 obtain⟨v',w'',hrun,hS,hR⟩:=hrun;refine⟨λh0=>(by rw[hr]at h0;cases h0),λj hj=>?_⟩;rw[hr]at hj;obtain rfl:j=i:=by simpa using hj
 have hx:(execOp a.eval oi).run P w=.ok (.value v') w'':=by
  simp[execOp,ho,resolve,invoke,builtin,hv,hu,hrun,Result.andThen]
 unfold Go.wpOp;simp only[hi,hw,if_true,Oper.wp,hx,Oper.upon];exact .inl ⟨hS,h v' w'' hS hR _ iE⟩
theorem yE {i:Nat}{oi:Oper}{fuel:Nat}{listed:Array Bool}{a:Act}{w:World}(hr:Region.ready md ops listed=[i]) (hi:ops[i]?=some oi)
  (hw:Region.wanted oi (yielded ops a.tmps)=true) (f:FuncId) (args:Array Value) (R:Value->World->Prop) (hrun:(execOp a.eval oi).run P w=.ok (.enter f args) w)
  (hcall:Calls P f args w (λe w''=>∃v,e=.returned v/\(late i=false->S w'')/\R v w''))
  (h:∀v w'',(late i=false->S w'')->R v w''->∀K:Act->Prop,(∀a,yN P md ops Q S late fuel (listed.setIfInBounds i true) a w''->K a)->K (a.put oi.dst v)) :
  yN P md ops Q S late (fuel+1) listed a w:=by
 refine⟨λh0=>(by rw[hr]at h0;cases h0),λj hj=>?_⟩;rw[hr]at hj;obtain rfl:j=i:=by simpa using hj
 unfold Go.wpOp;simp only[hi,hw,if_true,Oper.wp,hrun,Oper.upon];refine .inl (hcall.mono λe w'' ⟨v,he,hS,hR⟩=>?_);subst he;exact⟨hS,h v w'' hS hR _ iE⟩
theorem yA {listed:Array Bool}{a:Act}{w:World}(hr:Region.ready md ops listed=[]) (h:Q .normal a w):∀fuel,yN P md ops Q S late fuel listed a w
 | 0=>⟨hr,h⟩
 | _+1=>⟨λ_=>h,by rw[hr];simp⟩
theorem zC {id:Nat}{a:Act}{w:World}(S:World->Prop) (late:Nat->Bool) (hm:P.follows .mixedOrders=true)
  (h:yN P .any ops Q S late ops.size (Array.replicate ops.size false) a w.drew):(Code.region id ops true).wp P Q a w :=
 wp_region_any hm (zAg _ _ _ _ h)
end
end Go.Proofs.YtgnpmceimpjheaaGreat
namespace Go.Proofs.YtgnpmceimpjheaaGreat
open Go.RowKit
def intE:Elt Int where
 enc:=λn=>[.int .i64 n]
 sz:=1
 bs:=8
 e:=3
 sl:=25
 z:=0
 zv:=.int .i64 0
 ok:=I.Byte
 pos:=oM
 len:=λ_=>rfl
 one:=λa u hu=>by
  simp only[Ax3,Av0,or_false]at hu;subst hu;rfl
 zok:=dE
 info:=kR
 zc:=rfl
 und:=kR
 bsl:=oM
theorem zCu (L:List Int):intE.encs L=I.zL L:=by
 induction L with
 | nil=>rfl
 | cons x L ih =>
  have:intE.encs (x :: L)=[.int .i64 x]++intE.encs L:=rfl;rw[this,ih]
  rfl
theorem cG {w:World}{g:Nat}{C:List Int}:intE.Row w g C↔I.Row w g C:=by
 refine⟨λh=>⟨λk a hk=>h.c k _ (by rw[zCu];simp[I.zL,hk]),h.z,h.lt,h.ok⟩,λh=>⟨λj u hj=>?_,h.z,h.lt,h.byte⟩⟩;rw[zCu]at hj;obtain⟨a,ha,rfl⟩:=I.sN hj;exact h.c j a ha
theorem zQa {w:World}{g o:Nat}{L:List Int}:intE.At w g o L↔I.BytesAt w g o L:=by
 refine⟨λh=>⟨λk a hk=>⟨h.c k _ (by rw[zCu];simp[I.zL,hk]),h.ok a (Az2 hk)⟩,h.lt⟩,λh=>⟨λj u hj=>?_,h.byte,h.lt⟩⟩;rw[zCu]at hj;obtain⟨a,ha,rfl⟩:=I.sN hj;exact (h.c j a ha).1
theorem sL {w:World}{B:Nat}{a:Option Addr}{n c:Nat}{X:List Int}(h:intE.Own w B (.slice a n c) X) {k:Nat}(hk:k<X.length) :
  ∃g x,n=X.length/\X.length<=c/\a=some ⟨g,0,none⟩/\X[k]?=some x/\w.cell? ⟨g,k,none⟩=some (.int .i64 x)/\w.frozen? ⟨g,k,none⟩=false/\-9223372036854775808<=x/\x<=9223372036854775807/\B<=g/\g<w.heap.size:=by
 rcases h with ⟨h,rfl⟩|⟨g,C,h1,h2,h3,h4,h5⟩
 .simp at hk
 .injection h1 with e1 e2 e3
  subst e1 e2 e3;have hx:X[k]?=some X[k]:=Az hk;have hR:=cG.1 h3;have hb:=(hR.bytes h4).c k _ hx;rw[Ax0]at hb;exact⟨g,X[k],rfl,h4.length_le,rfl,hx,hb.1,hR.z k,hb.2.1,hb.2.2,h2,h3.lt⟩
theorem zBd {w:World}{B g k:Nat}{n c:Nat}{X:List Int}(h:intE.Own w B (.slice (some ⟨g,0,none⟩) n c) X) (hk:k<X.length) {x:Int}(hx:I.Byte x) :
  intE.Own (w.setCell ⟨g,k,none⟩ (.int .i64 x)) B (.slice (some ⟨g,0,none⟩) n c) (X.set k x):=by
 rcases h with ⟨h,_⟩|⟨g',C,h1,h2,h3,h4,h5⟩
 .cases h
 .injection h1 with e1 e2 e3
  injection e1 with e1;injection e1 with e1;subst e1 e2 e3;have hR:=cG.1 h3;obtain⟨R,rfl⟩:=h4;refine .inr ⟨g,(X++R).set k x,by rw[Au4,Au4],h2,cG.2 ⟨λj a hj=>?_,λj=>(Az4 _ _ _ _).trans (hR.z j),Ay9 hR.lt (zA _ _ _ _).size,λa ha=>?_⟩,?_,by rw[Au4];exact h5⟩
  .have hkl:k<(X++R).length:=by rw[Az0];omega
   by_cases he:j=k
   .subst he
    rw[Av5 hkl]at hj;obtain rfl:=Az3 hj;exact Az9 _ _ _ (hR.c j _ (Az hkl))
   .rw[Au3 (Ne.symm he)]at hj
    rw[Ay0 _ _ _ _ (by intro e;injection e with _ e;exact he e.symm)];exact hR.c j a hj
  .rcases List.mem_or_eq_of_mem_set ha with h1|rfl
   .exact hR.byte a h1
   .exact hx
  .rw[List.set_append_left _ _ hk]
   exact List.prefix_append _ _
def eY:Elt Int where
 enc:=λn=>[.int .u8 n]
 sz:=1
 bs:=1
 e:=5
 sl:=45
 z:=0
 zv:=.int .u8 0
 ok:=Byte
 pos:=oM
 len:=λ_=>rfl
 one:=λa u hu=>by
  simp only[Ax3,Av0,or_false]at hu;subst hu;rfl
 zok:=dE
 info:=kR
 zc:=rfl
 und:=kR
 bsl:=oM
theorem eC (L:List Int):eY.encs L=zL L:=by
 induction L with
 | nil=>rfl
 | cons x L ih =>
  have:eY.encs (x :: L)=[.int .u8 x]++eY.encs L:=rfl;rw[this,ih]
  rfl
theorem zN0 {w:World}{g:Nat}{C:List Int}:eY.Row w g C↔Row w g C:=by
 refine⟨λh=>⟨λk a hk=>h.c k _ (by rw[eC];simp[zL,hk]),h.z,h.lt,h.ok⟩,λh=>⟨λj u hj=>?_,h.z,h.lt,h.byte⟩⟩;rw[eC]at hj;obtain⟨a,ha,rfl⟩:=sN hj;exact h.c j a ha
theorem jW {w:World}{B:Nat}{v:Value}{X:List Int}:eY.Own w B v X↔Own w B v X:=by
 refine⟨λh=>?_,λh=>?_⟩
 .rcases h with h|⟨g,C,h1,h2,h3,h4⟩
  .exact .inl h
  .exact .inr ⟨g,C,h1,h2,zN0.1 h3,h4⟩
 .rcases h with h|⟨g,C,h1,h2,h3,h4⟩
  .exact .inl h
  .exact .inr ⟨g,C,h1,h2,zN0.2 h3,h4⟩
end Go.Proofs.YtgnpmceimpjheaaGreat
