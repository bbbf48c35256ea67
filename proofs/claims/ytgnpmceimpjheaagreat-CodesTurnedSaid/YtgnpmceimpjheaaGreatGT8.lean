/- A part of the proof: CodB CodX CodY CodK. -/
import Derived.Test.YtgnpmceimpjheaaGreatGT5
import Derived.Test.YtgnpmceimpjheaaGreatGT7
set_option maxRecDepth 100000
set_option maxHeartbeats 16000000
namespace Go.Proofs.YtgnpmceimpjheaaGreat
open Go.RowKit
theorem OfIn.at {w:World} {B:Nat} {a:Option Addr} {O:List Int} (h:OfIn w B a O):∃ g,I.BytesAt w g 0 O∧(0<O.length→a=some ⟨g,0,none⟩∧B≤g):=by
 rcases h with ⟨rfl,_⟩|⟨g,h1,h2,h3⟩
 ·exact⟨0,⟨fun j u hj=>by simp at hj,fun h=>(h rfl).elim⟩,fun h=>absurd h (by simp)⟩
 ·exact⟨g,h2.bytes (List.prefix_refl _),fun _=>⟨h1,h3⟩⟩
theorem listsT_length (t:TabD):(listsT t).length=t.2.2.length:=by simp [listsT]
theorem listsT_get (t:TabD) {k:Nat} (hk:k<t.2.2.length):(listsT t)[k]?=some ((List.range t.1.toNat).map (fun (j:Nat)=>atTab t k j)):=by simp [listsT,hk]
theorem takeOk_spec {Z:List Int} (h:takeOk Z mostP=true):∃ (m sz:Nat) (R:List RowD) (O:List Int),takeP Z mostP=(((m:Int),R,O),sz,false)∧mayL ((m:Int),R,O)=true∧m≤65536∧O.length≤65536∧sz≤Z.length:=by
 unfold takeOk at h
 rw [Bool.and_eq_true,Bool.not_eq_true'] at h
 obtain⟨h1,h2⟩:=h
 have h3:=(takeP_more (M:=[]) h1).2
 generalize hp:takeP Z mostP=p at h1 h2 h3
 obtain⟨⟨W,R,O⟩,sz,f⟩:=p
 simp only at h1 h2 h3
 obtain⟨⟨w0,w1,w2⟩,-⟩:=mayL_spec h2
 refine⟨W.toNat,sz,R,O,?_,?_,by omega,w2,h3⟩
 ·rw [Int.toNat_of_nonneg w0,← h1]
 ·rw [Int.toNat_of_nonneg w0];exact h2
theorem RowsIn.chgB {E:Elt (Int × Int)} {F:Elt (Int × Sl)} {S:Nat→Prop} {w w':World} {B:Nat} {s:Sl} {R:List RowD} (h:RowsIn E F w B s R) (hc:Chg S w w') (hs:∀ g,B≤g→¬ S g):RowsIn E F w' B s R:=by
 obtain⟨X,h1,h2,h3⟩:=h
 exact⟨X,h1.chgB hc hs,h2,fun j x r hx hr=>⟨(h3 j x r hx hr).1,(h3 j x r hx hr).2.1,(h3 j x r hx hr).2.2.chgB hc hs⟩⟩
theorem fineCells_val {W d:Int}:∀ {cs:List (Int × Int)} {l:Int},fineCells W d l cs=true→∀ c∈cs,isVal c.2
 | [],_,_,c,hc=>by cases hc
 | x :: cs,l,h,c,hc=>by
  simp only [fineCells,Bool.and_eq_true,decide_eq_true_eq] at h
  rcases List.mem_cons.1 hc with rfl|hc
  ·exact h.1.1.2
  ·exact fineCells_val h.2 c hc
theorem fineL_val {W:Nat} {r:RowD} (hW:W≤65536) (h:fineL W r=true) (i:Int):isVal (atRow r i):=by
 have hd:=(fine_bounds hW h).1
 have hc:∀ c∈r.2,isVal c.2:=by
  by_cases h0:W=0
  ·subst h0
   simp only [fineL,if_true,Bool.and_eq_true,decide_eq_true_eq] at h
   rw [h.2]
   intro c hc;cases hc
  ·simp only [fineL,if_neg h0,Bool.and_eq_true,decide_eq_true_eq] at h
   exact fineCells_val h.1.1.1
 unfold atRow
 split
 ·rename_i c hf
  exact hc c (List.mem_of_find?_eq_some hf)
 ·exact hd
theorem atTab_val {m:Nat} {R:List RowD} {O:List Int} (h:mayL ((m:Int),R,O)=true) (l i:Int):isVal (atTab ((m:Int),R,O) l i):=by
 obtain⟨⟨w0,w1,w2⟩,-,h3,-⟩:=mayL_spec h
 have hm:isVal (-1):=by decide
 simp only [atTab]
 split
 ·exact hm
 split
 ·exact hm
 split
 ·exact hm
 split
 ·exact hm
 ·rename_i r hr
  exact fineL_val (by omega) (h3 r (List.mem_of_getElem? hr)) i
def TablePost (pg gb:Nat) (w:World) (Z:List Int) (e:Ending) (w':World):Prop :=
 Chg (·=pg) w w'∧((tableG Z=none∧e=strangeP)∨∃ (LL:List (List Int)) (m:Nat) (r:List Int) (a:Option Addr),tableG Z=some ((LL,(m:Int)),r)∧e=.returned (.tuple #[.slice a LL.length LL.length,.int .i64 m])∧ListR listE (inR intE) w' (fun k=>w.heap.size≤k) (a,LL.length,LL.length) LL∧GetSt pg gb w' r∧LL.length≤65536∧m≤65536∧∀ l∈LL,l.length=m)
structure TVar (b:Nat) (w:World) (m:Nat) (R:List RowD) (O:List Int) (ra oa:Option Addr) (B g:Nat):Prop where
 c0:w.cell? ⟨b,0,none⟩=some (.int .i64 m)
 c1:w.cell? ⟨b,1,none⟩=some (.slice ra R.length R.length)
 c2:w.cell? ⟨b,2,none⟩=some (.slice oa O.length O.length)
 r:RowsIn cellE rowE w B (ra,R.length,R.length) R
 o:I.BytesAt w g 0 O
theorem TVar.fresh {b:Nat} {w w':World} {m:Nat} {R:List RowD} {O:List Int} {ra oa:Option Addr} {B g:Nat} (h:TVar b w m R O ra oa B g) (hc:Chg (fun _=>False) w w'):TVar b w' m R O ra oa B g :=
 ⟨hc.cellS h.c0 (fun h=>h),hc.cellS h.c1 (fun h=>h),hc.cellS h.c2 (fun h=>h),h.r.same hc,h.o.chg hc (fun _ h=>h)⟩
theorem table_any {pg gb:Nat} (w:World) (Z:List Int) (h:GetSt pg gb w Z):Calls Tryz.prog 142 #[.pointer (some ⟨pg,0,none⟩)] w (TablePost pg gb w Z):=by
 obtain⟨o,cc,h1,h2,h3⟩:=h.c
 have HT:=jh (takeTab_any Z (some ⟨gb,o,none⟩) gb o cc w h3 (fun _=>rfl) h2 (fun h=>by cases h) (by have:=h.len;omega))
 have HG:=jh h
 cases hok:takeOk Z mostP with
 | false =>
  have HF:Hid (tableG Z=none):=jh (by unfold tableG;rw [hok];rfl)
  rw [hok] at HT
  clear h2 h3 hok h
  go_enter Tryz.func142,Tryz.ntmps142
  go_wp2_with fail
  refine HT.out.mono ?_
  rintro e w1 (⟨hk,_⟩|⟨-,rfl,hc⟩)
  ·cases hk
  have HC:=jh hc
  clear hc h1 HT
  go_wp2_with fail
  refine (must_no _).mono ?_
  rintro e w3 ⟨rfl,rfl⟩
  exact⟨rfl,HC.out.any.trans ((Chg.refl _ _).alloc _),.inl ⟨HF.out,rfl⟩⟩
 | true =>
  obtain⟨m,sz,R,O,hp,hm,hm2,ho2,hsz⟩:=takeOk_spec hok
  have HTG:Hid (tableG Z=if (O.length:Int) * (m:Int)≤4194304 then some ((listsT ((m:Int),R,O),(m:Int)),Z.drop sz) else none):=jh (by unfold tableG;rw [hok,hp];rfl)
  rw [hok,hp] at HT
  have HM:=jh hm
  have HCUT:Hid (∀ w2,Chg (fun _=>False) w w2→w2.cell? ⟨pg,0,none⟩=some (.slice (some ⟨gb,o,none⟩) Z.length cc)∧w2.frozen? ⟨pg,0,none⟩=false∧GetSt pg gb (w2.setCell ⟨pg,0,none⟩ (cutV gb o cc Z.length sz)) (Z.drop sz)) :=
   jh fun w2 hc=>⟨hc.cellS h1 (fun h=>h),(hc.frozen (p:=⟨pg,0,none⟩) h.lt (fun h=>h)).trans h.z,(h.fresh hc).cut (hc.cellS h1 (fun h=>h)) h2 (h3.chg hc (fun _ h=>h)) hsz⟩
  have HLE:Hid (Z.length≤cc):=jh h2
  have hszb:sz≤10000000:=by have:=h.len;omega
  have HSZ:=jh hsz
  clear h2 h3 hok h hp hm hsz
  go_enter Tryz.func142,Tryz.ntmps142
  go_wp2_with fail
  refine HT.out.mono ?_
  rintro e w1 (⟨-,ra,oa,rfl,hrows,hof,hc⟩|⟨hk,_⟩)
  rotate_left
  ·cases hk
  obtain⟨og,hO,hOa⟩:=hof.at
  obtain⟨w2,hw2⟩:∃ W,W=w1.alloc (.cells #[.int .i64 m,.slice ra R.length R.length,.slice oa O.length O.length] 201):=⟨_,rfl⟩
  have hcw:Chg (fun _=>False) w1 w2:=by rw [hw2];exact (Chg.refl _ _).alloc _
  have HTV:Hid (TVar w1.heap.size w2 m R O ra oa w.heap.size og):=jh (by
   refine⟨?_,?_,?_,hrows.same hcw,hO.chg hcw (fun _ h=>h)⟩ <;> · rw [hw2,World.cell?_alloc_new];rfl)
  have HOA:=jh hOa
  have HW2:Hid (w.heap.size≤w1.heap.size∧w2.heap.size=w1.heap.size+1):=jh ⟨hc.size,by rw [hw2];simp⟩
  have HC2:=jh (hc.trans hcw)
  clear hrows hof hO hOa hc hcw HT h1
  simp only at *
  go_wp2_with fail
  rw [← hw2]
  clear hw2
  refine (must_ok _).mono ?_
  rintro e w3 ⟨rfl,rfl⟩
  by_cases hck:cc=sz
  all_goals
   have hcut:=HCUT.out w3 HC2.out
   have hzk:cc=sz→Z.length-sz=0:=fun e=>by have:=HLE.out;omega
   first|rw [cutV,if_pos hck] at hcut|rw [cutV,if_neg hck] at hcut
   obtain⟨p1,z1,hg⟩:=hcut
   obtain⟨w5,hg5,hc5,htv5,hw5⟩:∃ W,GetSt pg gb W (Z.drop sz)∧Chg (·=pg) w W∧TVar w1.heap.size W m R O ra oa w.heap.size og∧W=_:=⟨_,hg,HC2.out.any.trans (setCellChg _ _ _ _),by
    have hsc:=setCellChg w3 pg 0 (cutV gb o cc Z.length sz)
    first|rw [cutV,if_pos hck] at hsc|rw [cutV,if_neg hck] at hsc
    have hlt:=HG.out.lt
    have hw2:=HW2.out
    have htv:=HTV.out
    refine⟨hsc.cellS htv.c0 (by show ¬ w1.heap.size=pg;omega),hsc.cellS htv.c1 (by show ¬ w1.heap.size=pg;omega),hsc.cellS htv.c2 (by show ¬ w1.heap.size=pg;omega),?_,?_⟩
    ·exact htv.r.chgB hsc (fun g hg e=>by omega)
    ·refine htv.o.chg hsc (fun hne e=>?_)
     have:=(HOA.out (List.length_pos_iff.2 hne)).2
     omega,rfl⟩
   first|have hzk:=hzk hck|skip
   go_upto_region 4 with (fail)
   rw [← hw5]
   clear hck hw5 hg p1 z1 hzk
   have HG5:=jh hg5
   have HC5:=jh hc5
   have HT5:=jh htv5
   have q0:=htv5.c0
   have q1:=htv5.c1
   have q2:=htv5.c2
   clear hg5 hc5 htv5 HTV HCUT HC2
   have hpn:O.length * m≤4294967296:=Nat.mul_le_mul ho2 hm2
   have hwr:wrap64 ((O.length:Int) * (m:Int))=(O.length:Int) * (m:Int):=by
    rw [← Int.natCast_mul]
    generalize O.length * m=P at hpn
    simp only [wrap64]
    omega
   clear hpn
   by_cases hle:(O.length:Int) * (m:Int)≤4194304
   ·rw [if_pos hle] at HTG
    have d1:decide ((O.length:Int) * (m:Int)≤4194304)=true:=decide_eq_true hle
    clear hle
    go_wp2_with fail
    refine (must_ok _).mono ?_
    rintro e w6 ⟨rfl,rfl⟩
    have HL0:Hid (LSt listE (inR intE) (C0 pg) (T0 pg gb) (S0 (List Int) pg gb) w w6 (.slice none 0 0) [] (Z.drop sz) []):=jh (LSt.start (side0 pg gb) (show S0 (List Int) pg gb w [] Z from HG.out) HG5.out HC5.out)
    clear d1 hwr
    go_wp2
    clear q0 q1 q2
    go_loopw [2,42] (fun v q wr=>∃ (k:Nat) (v0:Value) (X:List Sl),v0=v∧k≤O.length∧q=.int .i64 k∧LSt listE (inR intE) (C0 pg) (T0 pg gb) (S0 (List Int) pg gb) w wr v0 ((listsT ((m:Int),R,O)).take k) (Z.drop sz) X∧Chg (fun _=>False) w6 wr∧∀ g,v0.ownBlock=some g→w6.heap.size≤g) (fun _ q _=>O.length-(intOf q).toNat)
    case atStart=>exact⟨0,_,[],rfl,by omega,rfl,HL0.out,Chg.refl _ _,fun g hg=>by cases hg⟩
    case round =>
     clear HL0
     obtain⟨k,v,X,rfl,hk,rfl,hl,hcr,hob⟩:=hrel
     have HL:=jh hl
     have HCR:=jh hcr
     have HOB:=jh hob
     have HTR:=jh (HT5.out.fresh hcr)
     clear hcr hob
     by_cases hkl:k<O.length
     ·have b9:decide ((k:Int)<(O.length:Int))=true:=by simp;omega
      have hkb:k<65536:=by omega
      have HROW:Hid ((listsT ((m:Int),R,O))[k]?=some ((List.range m).map (fun (j:Nat)=>atTab ((m:Int),R,O) k j))):=jh (listsT_get ((m:Int),R,O) hkl)
      obtain⟨row,hrow⟩:∃ row,(List.range m).map (fun (j:Nat)=>atTab ((m:Int),R,O) k j)=row:=⟨_,rfl⟩
      have HRG:Hid (∀ j,j<m→row[j]?=some (atTab ((m:Int),R,O) k j)):=jh (fun j hj=>by rw [← hrow];simp [hj])
      have HRL:Hid (row.length=m):=jh (by rw [← hrow];simp)
      rw [hrow] at HROW
      clear hrow hl
      have q0:=HTR.out.c0
      go_wp2_with (at_make;refine intE.wpList_make rfl _ _ _ rfl rfl _ _ _ _ m m rfl rfl rfl (by omega) (by omega) (by omega) ?_;intro w7 HR7 HC7)
      obtain⟨wo,rfl⟩:∃ wo,wo=wr:=⟨_,rfl⟩
      have HO7:Hid (intE.Own w7 wo.heap.size (.slice (some ⟨wo.heap.size,0,none⟩) m m) (List.replicate m 0)):=jh (.inr ⟨wo.heap.size,List.replicate m 0,by simp,Nat.le_refl _,HR7.out,List.prefix_refl _,by simp [maxLen];omega⟩)
      clear HR7 q0
      go_loopw [50] (fun q wr=>∃ (j:Nat) (Y:List Int),j≤m∧q=.int .i64 j∧Y.length=m∧(∀ i,i<j→Y[i]?=row[i]?)∧intE.Own wr wo.heap.size (.slice (some ⟨wo.heap.size,0,none⟩) m m) Y∧Chg (fun _=>False) wo wr) (fun q _=>m-(intOf q).toNat)
      case atStart=>exact⟨0,_,by omega,rfl,by simp,fun i hi=>absurd hi (Nat.not_lt_zero _),HO7.out,HC7.out⟩
      case round =>
       clear HO7 HC7
       obtain⟨j,Y,hj,rfl,hyl,hye,hyo,hcq⟩:=hrel
       have HYL:=jh hyl
       have HYE:=jh hye
       have HYO:=jh hyo
       have HCQ:=jh hcq
       have HTQ:=jh (HTR.out.fresh hcq)
       clear hyl hye hyo hcq
       by_cases hjm:j<m
       ·have b8:decide ((j:Int)<(m:Int))=true:=by simp;omega
        have hjb:j<65536:=by omega
        have q0:=HTQ.out.c0
        have q1:=HTQ.out.c1
        have q2:=HTQ.out.c2
        obtain⟨x,hx⟩:∃ x,atTab ((m:Int),R,O) k j=x:=⟨_,rfl⟩
        have hat:=atTab_any (m:Int) (k:Int) (j:Int) R O ra oa R.length O.length w.heap.size og 0 wr ⟨by omega,by omega⟩ ⟨by omega,by omega⟩ ⟨by omega,by omega⟩ HTQ.out.r (fun r hr=>by have:=(fine_bounds (by omega) ((mayL_spec HM.out).2.2.1 r hr)).2.1;omega) HTQ.out.o (fun h=>(HOA.out h).1) (by omega)
        rw [hx] at hat
        have HAT:=jh hat
        have HX:=jh hx
        clear hat hx
        go_wp2_with fail
        refine HAT.out.mono ?_
        rintro e w8 ⟨rfl,hc8⟩
        have HO8:=jh (HYO.out.chg hc8 (fun _ _ _ h=>h))
        obtain⟨g',x',-,-,hg',-,e0,ez,-⟩:=intOwn_get HO8.out (k:=j) (by rw [HYL.out];exact hjm)
        injection hg' with hg'
        injection hg' with hg'
        subst hg'
        have hxv:=atTab_val HM.out (k:Int) (j:Int)
        rw [HX.out] at hxv
        have hxb:I.Byte x:=⟨by have:=hxv.1;omega,by have:=hxv.2;omega⟩
        have HOS:=jh (intOwn_set HO8.out (k:=j) (by rw [HYL.out];exact hjm) hxb)
        have HC8:=jh ((HCQ.out.trans hc8).trans2 (setCellChg w8 wo.heap.size j (.int .i64 x)) (fun g hg e=>absurd e (Nat.ne_of_lt hg)))
        have HYE2:Hid (∀ i,i<j+1→(Y.set j x)[i]?=row[i]?):=jh (fun i hi=>by
         by_cases hij:i=j
         ·subst hij
          rw [List.getElem?_set_self (by rw [HYL.out];exact hjm),HRG.out i hjm,HX.out]
         ·rw [List.getElem?_set_ne (Ne.symm hij)]
          exact HYE.out i (by omega))
        clear hc8 hxb
        go_wp2
        go_roundw
        case rel=>exact⟨j+1,_,by omega,by go_num,by rw [List.length_set];exact HYL.out,HYE2.out,HOS.out,HC8.out⟩
        case measure=>simp [intOf];omega
       ·obtain rfl:j=m:=by omega
        have b8:decide ((j:Int)<(j:Int))=false:=by simp
        have hYR:Y=row:=List.ext_getElem? (fun i=>by
         by_cases hi:i<j
         ·exact HYE.out i hi
         ·rw [List.getElem?_eq_none (by rw [HYL.out];omega),List.getElem?_eq_none (by rw [HRL.out];omega)])
        subst hYR
        have HW7:Hid (wo.heap.size≤wr.heap.size∧w.heap.size≤wo.heap.size):=jh ⟨HCQ.out.size,HL.out.chg.size⟩
        have HOV:Hid (listE.Own wr w.heap.size v X):=jh (HL.out.own.chg HCQ.out (fun _ _ _ h=>h))
        have HXL:Hid (X.length≤65536):=jh (by rw [HL.out.len,List.length_take];omega)
        have HRY:Hid (inR intE wr (fun g=>wo.heap.size≤g∧¬ T0 pg gb wr g) (some ⟨wo.heap.size,0,none⟩,j,j) Y):=jh (by
         have h1:=Elt.In.inS (HYO.out.in' (c':=j) (Nat.le_refl _))
         refine h1.mono (fun g _ hg=>⟨hg,fun ht=>?_⟩)
         have h2:=HG.out.lt
         have h3:=HG.out.lb
         have h4:=HW7.out
         rcases ht with rfl|rfl <;> omega)
        have HST:Hid (S0 (List Int) pg gb wr ((listsT ((j:Int),R,O)).take k++[Y]) (Z.drop sz)):=jh (HL.out.st.fresh HCQ.out)
        have HTK:Hid ((listsT ((j:Int),R,O)).take (k+1)=(listsT ((j:Int),R,O)).take k++[Y]):=jh (by rw [List.take_add_one,HROW.out];rfl)
        have HY1:Hid (∀ x∈[((some ⟨wo.heap.size,0,none⟩,j,j):Sl)],listE.ok x):=jh (fun _ _=>trivial)
        have HC69:Hid (Chg (fun _=>False) w6 wr):=jh (HCR.out.trans HCQ.out)
        clear HYE HYO
        go_wp2_with (at_builtin;refine Elt.wpList_append2 listE rfl _ _ 26 26 rfl rfl w.heap.size v X [(some ⟨wo.heap.size,0,none⟩,j,j)] (.slice (some ⟨wr.heap.size,0,none⟩) 1 1) rfl rfl (HOV.out.chg ((Chg.refl (fun _=>False) _).alloc _) (fun _ _ _ h=>h)) (by have:=HW7.out;simp;omega) (listE.srcLit (Y:=[(some ⟨wo.heap.size,0,none⟩,j,j)]) 1 HY1.out) HY1.out (by have:=HXL.out;simp;omega) ?_;intro v' w9 HO9 HC9 HB9)
        have HL9:=jh (LSt.step inR.good (side0 pg gb) _ HL.out HRY.out HST.out HCQ.out.any (fun g hg=>.inl hg) (fun g hg=>.inl hg) HO9.out HB9.out)
        have HC9':Hid (Chg (fun _=>False) w6 w9):=jh ((HC69.out.alloc _).trans2 HB9.out.1 (fun g hg e=>absurd (HOB.out g e) (Nat.not_le.2 hg)))
        have HOB9:Hid (∀ g,v'.ownBlock=some g→w6.heap.size≤g):=jh (fun g hg=>by
         rcases HB9.out.2 with e|e
         ·rw [e] at hg;exact HOB.out g hg
         ·rw [e] at hg;injection hg with hg;have:=HC69.out.size;simp at hg;omega)
        rw [← HTK.out] at HL9
        go_roundw
        case rel=>exact⟨k+1,_,_,rfl,by omega,by go_num,HL9.out,HC9'.out,HOB9.out⟩
        case measure=>simp [intOf];omega
     ·obtain rfl:k=O.length:=by omega
      have b9:decide ((O.length:Int)<(O.length:Int))=false:=by simp
      have HTK:Hid ((listsT ((m:Int),R,O)).take O.length=listsT ((m:Int),R,O)):=jh (List.take_of_length_le (by rw [listsT_length];exact Nat.le_refl _))
      rw [HTK.out] at hl HL
      obtain⟨a,c,hv,hac,hfin⟩:=hl.final inR.good
      subst hv
      have HFIN:=jh hfin
      obtain⟨n,hn⟩:∃ n,(listsT ((m:Int),R,O)).length=n:=⟨_,rfl⟩
      have HN:=jh hn
      rw [hn] at hac HFIN
      have q0:=HTR.out.c0
      clear hfin hl
      go_upto_region 16 with (fail)
      simp only [hn]
      clear hn
      obtain⟨wd,hwd⟩:∃ W,wr.drew=W:=⟨_,rfl⟩
      have HCD:Hid (Chg (fun _=>False) wr wd):=jh (by rw [← hwd];exact (Chg.refl _ _).drew)
      refine wp_region_late (fun x=>x=wd) (fun _=>false) (by kernel_rfl) ?_
      show wpAnyL _ _ _ _ _ _ 6 (Array.replicate 6 false) _ wr.drew
      rw [hwd]
      clear hwd
      have q0:=HCD.out.cellS HTR.out.c0 (fun h=>h)
      have HSS:Hid (wd=wd):=jh rfl
      (refine lrd 0 HSS.out fun K hK=>?_;apply ei;intro w' hC;(go_simp;try with_reducible rfl);(try go_simp);refine hK _ ?_;clear hK K)
      (refine lrd 2 HSS.out fun K hK=>?_;apply ei;intro w' hC;(go_simp;try with_reducible rfl);(try go_simp);refine hK _ ?_;clear hK K)
      (refine lrd 3 HSS.out fun K hK=>?_;apply ei;intro w' hC;((subst hC);go_simp;try with_reducible rfl);(try go_simp);refine hK _ ?_;clear hK K)
      refine late_call (i:=1) (by kernel_rfl) rfl rfl 169 #[.slice a n c] (fun q w''=>q=.slice a n n∧wd=w'') (by go_simp) ?_ ?_
      ·refine (clipList wd a n c hac).mono ?_
       rintro e w2 ⟨rfl,rfl⟩
       exact⟨_,rfl,fun _=>rfl,rfl,rfl⟩
      rintro q w''-⟨rfl,rfl⟩ K hK
      (try go_simp)
      refine hK _ ?_
      clear hK K
      (refine lrd 4 HSS.out fun K hK=>?_;apply ei;intro w' hC;(go_simp;try with_reducible rfl);(try go_simp);refine hK _ ?_;clear hK K)
      (refine lrd 5 HSS.out fun K hK=>?_;apply ei;intro w' hC;(go_simp;try with_reducible rfl);(try go_simp);refine hK _ ?_;clear hK K)
      refine late_done (by kernel_rfl) ?_ _
      have HP:Hid (TablePost pg gb w Z (.returned (.tuple #[.slice a n n,.int .i64 m])) wd):=jh (by
       refine⟨HL.out.chg.trans HCD.out.any,.inr ⟨_,m,Z.drop sz,a,HTG.out,by rw [HN.out],?_,HL.out.st.fresh HCD.out,by rw [HN.out,← HN.out,listsT_length];exact ho2,hm2,fun l hl=>?_⟩⟩
       ·rw [HN.out]
        exact (ListR.good inR.good).mono ((ListR.good inR.good).chg HFIN.out HCD.out (fun _ _ h=>h)) (fun g _ hg=>hg.1)
       ·simp only [listsT,List.mem_map,Int.toNat_natCast] at hl
        obtain⟨i,_,rfl⟩:=hl
        simp)
      go_wp2
      exact bodyPost_ret (v:=.tuple #[.slice a n n,.int .i64 m]) (by simp [results,Tryz.results142,go_sem]) rfl HP.out
   ·rw [if_neg hle] at HTG
    have d1:decide ((O.length:Int) * (m:Int)≤4194304)=false:=decide_eq_false hle
    clear hle
    go_wp2_with fail
    refine (must_no _).mono ?_
    rintro e w6 ⟨rfl,rfl⟩
    exact⟨rfl,HC5.out,.inl ⟨HTG.out,rfl⟩⟩
end Go.Proofs.YtgnpmceimpjheaaGreat
namespace Go.Proofs.YtgnpmceimpjheaaGreat
open Go.RowKit
def maxI:List Int→Int
 | []=>0
 | x :: l=>l.foldl max x
theorem maxI_snoc {Z:List Int} (c:Int) (h:Z≠[]):maxI (Z++[c])=max (maxI Z) c:=by
 cases Z with
 | nil=>exact absurd rfl h
 | cons x l=>simp [maxI,List.foldl_append]
theorem maxI_take {Z:List Int} {k:Nat} {c:Int} (h:Z[k]?=some c) (hk:0<k):maxI (Z.take (k+1))=max (maxI (Z.take k)) c:=by
 rw [List.take_add_one,h,Option.toList_some]
 refine maxI_snoc c (fun e=>?_)
 have h1:=(List.getElem?_eq_some_iff.1 h).1
 have h2:min k Z.length=0:=by have:=congrArg List.length e;rwa [List.length_take] at this
 omega
theorem foldl_max_mem:∀ (l:List Int) (x:Int),(l.foldl max x=x∨l.foldl max x∈l)∧x≤l.foldl max x∧∀ c∈l,c≤l.foldl max x
 | [],x=>⟨.inl rfl,Int.le_refl _,fun _ h=>by cases h⟩
 | y :: l,x=>by
  obtain⟨h1,h2,h3⟩:=foldl_max_mem l (max x y)
  simp only [List.foldl_cons]
  refine⟨?_,by omega,fun c hc=>?_⟩
  ·rcases h1 with h1|h1
   ·rw [h1]
    rcases Int.le_total x y with h|h
    ·rw [Int.max_eq_right h];exact .inr (List.mem_cons_self)
    ·rw [Int.max_eq_left h];exact .inl rfl
   ·exact .inr (List.mem_cons_of_mem _ h1)
  ·rcases List.mem_cons.1 hc with rfl|hc
   ·omega
   ·exact h3 c hc
theorem maxI_spec {Z:List Int} (h:Z≠[]):maxI Z∈Z∧∀ c∈Z,c≤maxI Z:=by
 cases Z with
 | nil=>exact absurd rfl h
 | cons x l =>
  obtain⟨h1,h2,h3⟩:=foldl_max_mem l x
  refine⟨?_,fun c hc=>?_⟩
  ·rcases h1 with h1|h1
   ·show l.foldl max x∈x :: l
    rw [h1];exact List.mem_cons_self
   ·exact List.mem_cons_of_mem _ h1
  ·rcases List.mem_cons.1 hc with rfl|hc
   ·exact h2
   ·exact h3 c hc
theorem colsL_max {Z:List Int} (h:Z≠[]) (h0:∀ c∈Z,0≤c):colsL Z=maxI Z+1:=by
 obtain⟨h1,h2⟩:=maxI_spec h
 have h3:=colsL_mem h1
 have h4:=colsL_le (m:=maxI Z+1) (by have:=h0 _ h1;omega) (fun c hc=>by have:=h2 c hc;omega)
 omega
theorem max_any (Z:List Int) (a:Option Addr) (c B:Nat) (w:World) (h:intE.In w B (a,Z.length,c) Z) (hl:Z.length≤1000000000) (hp:0<Z.length) :
  Calls Tryz.prog 86 #[.slice a Z.length c] w fun e w'=>e=.returned (.int .i64 (maxI Z))∧w'=w:=by
 have HL:=jh h
 obtain⟨x0,g0,o0,hx0,rfl,c0,-,-,-,-⟩:=h.getI hp
 rw [Nat.add_zero] at c0
 have b1:decide (Z.length<1)=false:=decide_eq_false (by omega)
 have b1':decide ((Z.length:Int)<1)=false:=decide_eq_false (by omega)
 have H0:Hid (maxI (Z.take 1)=x0):=jh (by rw [List.take_add_one,hx0];simp [maxI])
 clear h hx0
 go_enter Tryz.func86,Tryz.ntmps86
 go_wp2
 go_loopw [3,4] (fun m q wr=>∃ (k:Nat) (m0:Int),0<k∧k≤Z.length∧q=.int .i64 k∧m=.int .i64 m0∧maxI (Z.take k)=m0∧wr=w) (fun _ q _=>Z.length-(intOf q).toNat)
 case atStart=>exact⟨1,_,by omega,by omega,rfl,rfl,H0.out,rfl⟩
 case round =>
  clear H0 c0 b1 b1'
  obtain⟨k,m0,hk0,hk,rfl,rfl,hm,rfl⟩:=hrel
  have HM:=jh hm
  clear hm
  by_cases hkl:k<Z.length
  ·have b9:decide ((k:Int)<(Z.length:Int))=true:=by simp;omega
   obtain⟨x,g,o,hx,hga,c1,-,-,-,-⟩:=HL.out.getI hkl
   injection hga with hga
   injection hga with e1 e2
   subst e1 e2
   have HN:Hid (maxI (Z.take (k+1))=if m0<x then x else m0):=jh (by rw [maxI_take hx hk0,HM.out];split <;> omega)
   clear hx
   go_wp2
   go_roundw
   case rel=>exact⟨k+1,_,by omega,by omega,by go_num,rfl,HN.out,by trivial⟩
   case measure=>simp [intOf];omega
  ·obtain rfl:k=Z.length:=by omega
   have b9:decide ((Z.length:Int)<(Z.length:Int))=false:=by simp
   rw [List.take_length] at HM
   have hm:=HM.out
   subst hm
   go_wp2
   go_ret
   exact⟨rfl,rfl⟩
theorem columns_any (Z:List Int) (ra na ea ca:Option Addr) (rn rc nn nc en ec cc B:Nat) (w:World) (h:intE.In w B (ca,Z.length,cc) Z) (hl:Z.length≤1000000000) (h0:∀ c∈Z,0≤c∧c≤1000000000) :
  Calls Tryz.prog 64 #[.agg #[.slice ra rn rc,.slice ca Z.length cc,.slice na nn nc,.slice ea en ec]] w fun e w'=>e=.returned (.int .i64 (colsL Z))∧Chg (fun _=>False) w w':=by
 by_cases hz:Z=[]
 ·subst hz
  go_enter Tryz.func64,Tryz.ntmps64
  go_wp2
  go_ret
  exact⟨rfl,(Chg.refl _ w).alloc _⟩
 ·have hp:0<Z.length:=List.length_pos_iff.2 hz
  have b1:((Z.length:Int) == 0)=false:=by simp;omega
  have b2:(Z.length == 0)=false:=by simp;omega
  have HH:=jh h
  obtain⟨h1,-⟩:=maxI_spec hz
  obtain⟨h2,h3⟩:=h0 _ h1
  have HF:Hid (colsL Z=maxI Z+1):=jh (colsL_max hz (fun c hc=>(h0 c hc).1))
  clear h h1 h0
  have hz2:¬ Z=[]:=hz
  go_enter Tryz.func64,Tryz.ntmps64
  go_wp2_with fail
  refine (max_any Z ca cc B _ (HH.out.same ((Chg.refl _ _).alloc _)) hl hp).mono ?_
  rintro e w1 ⟨rfl,rfl⟩
  obtain⟨M,hM⟩:∃ M,maxI Z=M:=⟨_,rfl⟩
  rw [hM] at h2 h3 HF ⊢
  clear hM
  go_wp2
  go_ret
  exact⟨by rw [HF.out];rfl,(Chg.refl _ w).alloc _⟩
end Go.Proofs.YtgnpmceimpjheaaGreat
namespace Go.Proofs.YtgnpmceimpjheaaGreat
open Go.RowKit
structure XSt (pg gb b:Nat) (w wr:World) (vr vc:Value) (Rs:List (Int × Int)) (Cs:List Int) (Z:List Int):Prop where
 g:GetSt pg gb wr Z
 lt:pg<w.heap.size∧gb<w.heap.size∧w.heap.size≤b
 r:Fld rngE b 0 wr vr Rs
 c:Fld intE b 1 wr vc Cs
 n:wr.cell? ⟨b,2,none⟩=some (.slice none 0 0)
 e:wr.cell? ⟨b,3,none⟩=some (.slice none 0 0)
 z:∀ j,wr.frozen? ⟨b,j,none⟩=false
 ne:∀ g,vr.ownBlock=some g→vc.ownBlock=some g→False
 chg:Chg (·=pg) w wr
theorem XSt.call {pg gb b:Nat} {w wr w1:World} {vr vc:Value} {Rs:List (Int × Int)} {Cs Z r:List Int} (h:XSt pg gb b w wr vr vc Rs Cs Z) (hg:GetSt pg gb w1 r) (hc:Chg (·=pg) wr w1):XSt pg gb b w w1 vr vc Rs Cs r:=by
 have hlt:=h.lt
 have hb:¬ b=pg:=by omega
 exact⟨hg,h.lt,h.r.chg hc (fun g hg _ e=>by omega),h.c.chg hc (fun g hg _ e=>by omega),hc.cellS h.n hb,hc.cellS h.e hb,fun j=>(hc.frozen (p:=⟨b,j,none⟩) h.r.lt hb).trans (h.z j),h.ne,h.chg.trans hc⟩
theorem XSt.fresh {pg gb b:Nat} {w wr w1:World} {vr vc:Value} {Rs:List (Int × Int)} {Cs Z:List Int} (h:XSt pg gb b w wr vr vc Rs Cs Z) (hc:Chg (fun _=>False) wr w1):XSt pg gb b w w1 vr vc Rs Cs Z:=h.call (h.g.fresh hc) hc.any
theorem XSt.setR {pg gb b:Nat} {w wr w4:World} {vr vr' vc:Value} {Rs Rs':List (Int × Int)} {Cs Z:List Int} (h:XSt pg gb b w wr vr vc Rs Cs Z) (ho:rngE.Own w4 (b+1) vr' Rs') (hb:Chg (fun k=>vr.ownBlock=some k) wr w4) (hb2:vr'.ownBlock=vr.ownBlock∨vr'.ownBlock=some wr.heap.size) :
  (w4.cell? ⟨b,0,none⟩=some vr∧w4.frozen? ⟨b,0,none⟩=false)∧XSt pg gb b w (w4.setCell ⟨b,0,none⟩ vr') vr' vc Rs' Cs Z:=by
 have hlt:=h.lt
 have hob:∀ k,vr.ownBlock=some k→b+1≤k:=fun k hk=>(h.r.own.blk hk).1
 have hbb:¬ vr.ownBlock=some b:=fun e=>by have:=hob b e;omega
 have c0:=hb.cellS h.r.c hbb
 have z4:∀ j,w4.frozen? ⟨b,j,none⟩=false:=fun j=>(hb.frozen (p:=⟨b,j,none⟩) h.r.lt hbb).trans (h.z j)
 have hs:=setCellChg w4 b 0 vr'
 have hoth:∀ j u,j≠0→wr.cell? ⟨b,j,none⟩=some u→(w4.setCell ⟨b,0,none⟩ vr').cell? ⟨b,j,none⟩=some u:=fun j u hj hu=>by
  rw [World.cell?_setCell_other _ _ _ _ (by intro e;injection e with _ e;exact hj e.symm)]
  exact hb.cellS hu hbb
 refine⟨⟨c0,z4 0⟩,⟨(h.g.chg hb (fun e=>by have:=hob _ e;omega) (fun e=>by have:=hob _ e;omega)).chg hs (by omega) (by omega),h.lt,⟨World.cell?_setCell_same _ _ _ c0,(World.frozen?_setCell _ _ _ _).trans (z4 0),ho.chg hs (fun g hg _ e=>by omega)⟩,⟨hoth 1 _ (by decide) h.c.c,(World.frozen?_setCell _ _ _ _).trans (z4 1),((h.c.own.chgB hb (fun g hg e=>h.ne g e hg)).chg hs (fun g hg _ e=>by omega))⟩,hoth 2 _ (by decide) h.n,hoth 3 _ (by decide) h.e,fun j=>(World.frozen?_setCell _ _ _ _).trans (z4 j),fun g hg hg2=>?_,(h.chg.trans2 hb (fun k hk e=>absurd (hob k e) (by omega))).trans2 hs (fun k hk e=>by omega)⟩⟩
 rcases hb2 with e|e
 ·rw [e] at hg;exact h.ne g hg hg2
 ·rw [e] at hg;injection hg with hg
  have:=(h.c.own.blk hg2).2
  omega
theorem XSt.setC {pg gb b:Nat} {w wr w4:World} {vr vc vc':Value} {Rs:List (Int × Int)} {Cs Cs' Z:List Int} (h:XSt pg gb b w wr vr vc Rs Cs Z) (ho:intE.Own w4 (b+1) vc' Cs') (hb:Chg (fun k=>vc.ownBlock=some k) wr w4) (hb2:vc'.ownBlock=vc.ownBlock∨vc'.ownBlock=some wr.heap.size) :
  (w4.cell? ⟨b,1,none⟩=some vc∧w4.frozen? ⟨b,1,none⟩=false)∧XSt pg gb b w (w4.setCell ⟨b,1,none⟩ vc') vr vc' Rs Cs' Z:=by
 have hlt:=h.lt
 have hob:∀ k,vc.ownBlock=some k→b+1≤k:=fun k hk=>(h.c.own.blk hk).1
 have hbb:¬ vc.ownBlock=some b:=fun e=>by have:=hob b e;omega
 have c0:=hb.cellS h.c.c hbb
 have z4:∀ j,w4.frozen? ⟨b,j,none⟩=false:=fun j=>(hb.frozen (p:=⟨b,j,none⟩) h.r.lt hbb).trans (h.z j)
 have hs:=setCellChg w4 b 1 vc'
 have hoth:∀ j u,j≠1→wr.cell? ⟨b,j,none⟩=some u→(w4.setCell ⟨b,1,none⟩ vc').cell? ⟨b,j,none⟩=some u:=fun j u hj hu=>by
  rw [World.cell?_setCell_other _ _ _ _ (by intro e;injection e with _ e;exact hj e.symm)]
  exact hb.cellS hu hbb
 refine⟨⟨c0,z4 1⟩,⟨(h.g.chg hb (fun e=>by have:=hob _ e;omega) (fun e=>by have:=hob _ e;omega)).chg hs (by omega) (by omega),h.lt,⟨hoth 0 _ (by decide) h.r.c,(World.frozen?_setCell _ _ _ _).trans (z4 0),((h.r.own.chgB hb (fun g hg e=>h.ne g hg e)).chg hs (fun g hg _ e=>by omega))⟩,⟨World.cell?_setCell_same _ _ _ c0,(World.frozen?_setCell _ _ _ _).trans (z4 1),ho.chg hs (fun g hg _ e=>by omega)⟩,hoth 2 _ (by decide) h.n,hoth 3 _ (by decide) h.e,fun j=>(World.frozen?_setCell _ _ _ _).trans (z4 j),fun g hg hg2=>?_,(h.chg.trans2 hb (fun k hk e=>absurd (hob k e) (by omega))).trans2 hs (fun k hk e=>by omega)⟩⟩
 rcases hb2 with e|e
 ·rw [e] at hg2;exact h.ne g hg hg2
 ·rw [e] at hg2;injection hg2 with hg2
  have:=(h.r.own.blk hg).2
  omega
structure YSt (pg gb b:Nat) (w7 wr:World) (vr vc vn ve:Value) (Es:List Int) (Z:List Int):Prop where
 g:GetSt pg gb wr Z
 lt:pg<b∧gb<b∧b<w7.heap.size
 c0:wr.cell? ⟨b,0,none⟩=some vr
 c1:wr.cell? ⟨b,1,none⟩=some vc
 c2:wr.cell? ⟨b,2,none⟩=some vn
 c3:wr.cell? ⟨b,3,none⟩=some ve
 own:intE.Own wr w7.heap.size ve Es
 z:∀ j,wr.frozen? ⟨b,j,none⟩=false
 chg:Chg (fun k=>k=pg∨k=b) w7 wr
theorem YSt.call {pg gb b:Nat} {w7 wr w1:World} {vr vc vn ve:Value} {Es Z r:List Int} (h:YSt pg gb b w7 wr vr vc vn ve Es Z) (hg:GetSt pg gb w1 r) (hc:Chg (·=pg) wr w1):YSt pg gb b w7 w1 vr vc vn ve Es r:=by
 have hlt:=h.lt
 have hb:¬ b=pg:=by omega
 have hbl:=World.block_lt_of_cell? _ _ h.c0
 exact⟨hg,h.lt,hc.cellS h.c0 hb,hc.cellS h.c1 hb,hc.cellS h.c2 hb,hc.cellS h.c3 hb,h.own.chg hc (fun g hg _ e=>by omega),fun j=>(hc.frozen (p:=⟨b,j,none⟩) hbl hb).trans (h.z j),h.chg.trans (hc.mono (fun k _ e=>.inl e))⟩
theorem YSt.fresh {pg gb b:Nat} {w7 wr w1:World} {vr vc vn ve:Value} {Es Z:List Int} (h:YSt pg gb b w7 wr vr vc vn ve Es Z) (hc:Chg (fun _=>False) wr w1):YSt pg gb b w7 w1 vr vc vn ve Es Z:=h.call (h.g.fresh hc) hc.any
theorem YSt.setE {pg gb b:Nat} {w7 wr w4:World} {vr vc vn ve ve':Value} {Es Es' Z:List Int} (h:YSt pg gb b w7 wr vr vc vn ve Es Z) (ho:intE.Own w4 w7.heap.size ve' Es') (hb:Chg (fun k=>w7.heap.size≤k) wr w4) :
  (w4.cell? ⟨b,3,none⟩=some ve∧w4.frozen? ⟨b,3,none⟩=false)∧YSt pg gb b w7 (w4.setCell ⟨b,3,none⟩ ve') vr vc vn ve' Es' Z:=by
 have hlt:=h.lt
 have hbb:¬ w7.heap.size≤b:=by omega
 have c3:=hb.cellS h.c3 hbb
 have hbl:=World.block_lt_of_cell? _ _ h.c0
 have z4:∀ j,w4.frozen? ⟨b,j,none⟩=false:=fun j=>(hb.frozen (p:=⟨b,j,none⟩) hbl hbb).trans (h.z j)
 have hs:=setCellChg w4 b 3 ve'
 have hoth:∀ j u,j≠3→wr.cell? ⟨b,j,none⟩=some u→(w4.setCell ⟨b,3,none⟩ ve').cell? ⟨b,j,none⟩=some u:=fun j u hj hu=>by
  rw [World.cell?_setCell_other _ _ _ _ (by intro e;injection e with _ e;exact hj e.symm)]
  exact hb.cellS hu hbb
 exact⟨⟨c3,z4 3⟩,⟨(h.g.chg hb (by omega) (by omega)).chg hs (by omega) (by omega),h.lt,hoth 0 _ (by decide) h.c0,hoth 1 _ (by decide) h.c1,hoth 2 _ (by decide) h.c2,World.cell?_setCell_same _ _ _ c3,ho.chg hs (fun g hg _ e=>by omega),fun j=>(World.frozen?_setCell _ _ _ _).trans (z4 j),(h.chg.trans2 hb (fun k hk e=>absurd e (by omega))).trans (hs.mono (fun k _ e=>.inr e))⟩⟩
def LexPost (pg gb:Nat) (w:World) (Z:List Int) (e:Ending) (w':World):Prop :=
 Chg (·=pg) w w'∧((lexG Z=none∧e=strangeP)∨∃ t r m,lexG Z=some (t,r)∧e=.returned (lexV' m)∧LexIn w' (fun k=>w.heap.size≤k) m t∧GetSt pg gb w' r∧t.r.length≤16777215∧t.n.length≤65536∧∀ l∈t.n,l.length≤65536)
theorem lexer_any {pg gb:Nat} (w:World) (Z:List Int) (h:GetSt pg gb w Z):Calls Tryz.prog 107 #[.pointer (some ⟨pg,0,none⟩)] w (LexPost pg gb w Z):=by
 have HG:=jh h
 clear h
 go_enter Tryz.func107,Tryz.ntmps107
 go_upto_region 1 with (fail)
 obtain⟨w0,hw0⟩:∃ W,W=w.alloc (.cells #[.slice none 0 0,.slice none 0 0,.slice none 0 0,.slice none 0 0] 28):=⟨_,rfl⟩
 rw [← hw0]
 have HX0:Hid (XSt pg gb w.heap.size w w0 (.slice none 0 0) (.slice none 0 0) [] [] Z):=jh (by
  have hc:Chg (fun _=>False) w w0:=by rw [hw0];exact (Chg.refl _ w).alloc _
  have hz:∀ j,w0.frozen? ⟨w.heap.size,j,none⟩=false:=fun j=>by rw [hw0];exact World.frozen?_alloc_new _ _ _ _
  refine⟨HG.out.fresh hc,⟨HG.out.lt,HG.out.lb,Nat.le_refl _⟩,⟨?_,hz 0,.nil _ _⟩,⟨?_,hz 1,.nil _ _⟩,?_,?_,hz,(fun g hg=>by cases hg),hc.any⟩ <;> · rw [hw0,World.cell?_alloc_new];rfl)
 clear hw0
 go_wp2_with fail
 refine (any_any w0 HX0.out.g).mono ?_
 rintro e w1 ⟨hc1,⟨h1,rfl⟩|⟨n,r1,h1,rfl,hn,hg1⟩⟩
 ·exact⟨rfl,HX0.out.chg.trans hc1,.inl ⟨by simp only [lexG,listG,h1],rfl⟩⟩
 have HLG:Hid (listG rcG Z=repG rcG n [] r1):=jh (by simp only [listG,h1,Int.toNat_natCast])
 have HX1:=jh (HX0.out.call hg1 hc1)
 clear h1 hc1 hg1 HX0
 go_wp2
 go_loopw [6] (fun q wr=>∃ (k:Nat) (vr vc:Value) (acc:List ((Int × Int) × Int)) (Zk:List Int),k≤n∧q=.int .i64 k∧acc.length=k∧repG rcG (n-k) acc Zk=repG rcG n [] r1∧XSt pg gb w.heap.size w wr vr vc (acc.map (·.1)) (acc.map (·.2)) Zk∧∀ x∈acc,0≤x.2∧x.2≤1000000000) (fun q _=>n-(intOf q).toNat)
 case atStart=>exact⟨0,_,_,[],r1,by omega,rfl,rfl,rfl,HX1.out,fun x hx=>by cases hx⟩
 case round =>
  clear HX1
  obtain⟨k,vr,vc,acc,Zk,hk,rfl,ha,hrep,hx,hpos⟩:=hrel
  obtain⟨ra,rn,rc,rfl⟩:=hx.r.own.shape3
  obtain⟨ca,cn,cc,rfl⟩:=hx.c.own.shape3
  have HX:=jh hx
  have HRP:=jh hrep
  have HA:=jh ha
  have HPO:=jh hpos
  clear hx hrep ha hpos
  by_cases hkn:k<n
  ·have b9:decide ((k:Int)<(n:Int))=true:=by simp;omega
   obtain⟨m,hm⟩:∃ m,n-k=m+1:=⟨n-k-1,by omega⟩
   have HM:Hid (n-k=m+1∧n-(k+1)=m):=jh ⟨hm,by omega⟩
   have HNO:Hid (∀ (h:rcG Zk=none),lexG Z=none):=jh (fun h=>by simp only [lexG,HLG.out,← HRP.out,HM.out.1,repG,h])
   have HAL:Hid ((acc.map (·.1)).length≤16777215∧(acc.map (·.2)).length≤16777215):=jh (by simp only [List.length_map,HA.out];omega)
   have HPG:=jh HX.out.lt
   have HCW:=jh HX.out.chg
   clear hm
   go_upto_region 3 with (fail)
   obtain⟨wd,hwd⟩:∃ W,wr.drew=W:=⟨_,rfl⟩
   have HXD:Hid (XSt pg gb w.heap.size w wd (.slice ra rn rc) (.slice ca cn cc) (acc.map (·.1)) (acc.map (·.2)) Zk):=jh (HX.out.fresh (by rw [← hwd];exact (Chg.refl _ _).drew))
   refine wp_region_late (fun x=>Chg (·=pg) wd x) (fun i=>decide (10≤i)) (by kernel_rfl) ?_
   show wpAnyL _ _ _ _ _ _ 13 (Array.replicate 13 false) _ wr.drew
   rw [hwd]
   clear hwd
   have HSS:Hid (Chg (·=pg) wd wd):=jh (Chg.refl _ _)
   (refine lrd 0 HSS.out fun K hK=>?_;apply ei;intro w' hC;(go_simp;try with_reducible rfl);(try go_simp);refine hK _ ?_;clear hK K)
   (refine lrd 1 HSS.out fun K hK=>?_;apply ei;intro w' hC;((have q:=hC.cellS HXD.out.r.c (by have:=HPG.out;show ¬ w.heap.size=pg;omega));go_simp;try with_reducible rfl);(try go_simp);refine hK _ ?_;clear hK K)
   (refine lrd 2 HSS.out fun K hK=>?_;apply ei;intro w' hC;(go_simp;try with_reducible rfl);(try go_simp);refine hK _ ?_;clear hK K)
   (refine lrd 5 HSS.out fun K hK=>?_;apply ei;intro w' hC;(go_simp;try with_reducible rfl);(try go_simp);refine hK _ ?_;clear hK K)
   refine late_call_p (i:=3) (by kernel_rfl) rfl rfl 139 #[.pointer (some ⟨pg,0,none⟩)] (fun v w''=>∃ (x:Nat) (r2:List Int),anyG Zk=some ((x:Int),r2)∧v=.int .i64 x∧x≤16777215∧GetSt pg gb w'' r2∧Chg (·=pg) wd w'') (by go_simp) ?_ ?_
   ·refine (any_any wd HXD.out.g).mono ?_
    rintro e w2 ⟨hc,⟨h2,rfl⟩|⟨x,r2,h2,rfl,hx,hg⟩⟩
    ·refine .inr ⟨_,rfl,rfl,HXD.out.chg.trans hc,.inl ⟨HNO.out (by simp only [rcG,h2]),rfl⟩⟩
    ·exact .inl ⟨_,rfl,fun _=>hc,x,r2,h2,rfl,hx,hg,hc⟩
   rintro v w2-⟨x,r2,h2,rfl,hx,hg2,hc2⟩ K hK
   (try go_simp)
   refine hK _ ?_
   clear hK K HSS
   have HG2:=jh hg2
   have HC2:=jh hc2
   have H2:=jh h2
   have HSS:Hid (Chg (·=pg) wd w2):=HC2
   have hwr:IntKind.i32.wrap (x:Int)=(x:Int):=by rw [IntKind.wrap_i32];omega
   clear hg2 hc2 h2
   (refine lrd 4 HSS.out fun K hK=>?_;apply ei;intro w' hC;(go_simp;try with_reducible rfl);(try go_simp);refine hK _ ?_;clear hK K)
   clear hwr
   refine late_call_p (i:=6) (by kernel_rfl) rfl rfl 139 #[.pointer (some ⟨pg,0,none⟩)] (fun v w''=>∃ (y:Nat) (r3:List Int),anyG r2=some ((y:Int),r3)∧v=.int .i64 y∧y≤16777215∧GetSt pg gb w'' r3∧Chg (·=pg) wd w'') (by go_simp) ?_ ?_
   ·refine (any_any w2 HG2.out).mono ?_
    rintro e w3 ⟨hc,⟨h3,rfl⟩|⟨y,r3,h3,rfl,hy,hg⟩⟩
    ·refine .inr ⟨_,rfl,rfl,HXD.out.chg.trans (HC2.out.trans hc),.inl ⟨HNO.out (by simp only [rcG,H2.out,h3]),rfl⟩⟩
    ·exact .inl ⟨_,rfl,fun _=>HC2.out.trans hc,y,r3,h3,rfl,hy,hg,HC2.out.trans hc⟩
   rintro v w3-⟨y,r3,h3,rfl,hy,hg3,hc3⟩ K hK
   (try go_simp)
   refine hK _ ?_
   clear hK K HSS HG2
   have HG3:=jh hg3
   have HC3:=jh hc3
   have H3:=jh h3
   have HSS:Hid (Chg (·=pg) wd w3):=HC3
   have hwr:IntKind.i32.wrap (y:Int)=(y:Int):=by rw [IntKind.wrap_i32];omega
   clear hg3 hc3 h3
   (refine lrd 7 HSS.out fun K hK=>?_;apply ei;intro w' hC;(go_simp;try with_reducible rfl);(try go_simp);refine hK _ ?_;clear hK K)
   clear hwr
   (refine lrd 8 HSS.out fun K hK=>?_;apply ei;intro w' hC;(go_simp;try with_reducible rfl);(try go_simp);refine hK _ ?_;clear hK K)
   have HYB:Hid (∀ z∈[((x:Int),(y:Int))],rngE.ok z):=jh (fun z hz=>by
    rw [List.mem_singleton] at hz
    rw [hz]
    exact⟨⟨by show (-2147483648:Int)≤(x:Int);omega,by show (x:Int)≤2147483647;omega⟩,⟨by show (-2147483648:Int)≤(y:Int);omega,by show (y:Int)≤2147483647;omega⟩⟩)
   (refine late_turn (i:=9) (by kernel_rfl) rfl rfl fun K hK=>?_;apply Exists.intro;apply Exists.intro;refine⟨?_,?_,?_⟩;(go_simp;try first|with_reducible rfl|exact⟨rfl,rfl⟩);(exact fun _=>HC3.out.alloc _);(try go_simp);refine hK _ _ ?_;clear hK K)
   obtain⟨w4,hw4⟩:∃ W,W=w3.alloc (.cells #[.int .i32 x,.int .i32 y] 117):=⟨_,rfl⟩
   have HSRC:Hid (Src Tryz.prog rngE.sz rngE.sl (.slice (some ⟨w3.heap.size,0,none⟩) 1 1) 1 (rngE.encs [((x:Int),(y:Int))]) w4):=jh (by rw [hw4];exact rngE.srcLit (Y:=[((x:Int),(y:Int))]) 1 HYB.out)
   have HX4:Hid (XSt pg gb w.heap.size w w4 (.slice ra rn rc) (.slice ca cn cc) (acc.map (·.1)) (acc.map (·.2)) r3):=jh ((HXD.out.call HG3.out HC3.out).fresh (by rw [hw4];exact (Chg.refl _ _).alloc _))
   rw [← hw4]
   clear hw4 HX HXD HG3 HC3 HSS HC2
   have HB4:Hid (w.heap.size+1≤w4.heap.size):=jh HX4.out.r.lt
   refine late_append (i:=10) (by kernel_rfl) rfl rfl (.tmp 9) (.tmp 17) 24 24 rfl (.slice ra rn rc) (.slice (some ⟨w3.heap.size,0,none⟩) 1 1) rfl rfl (fun v' w5=>rngE.Own w5 (w.heap.size+1) v' (acc.map (·.1)++[((x:Int),(y:Int))])∧Chg (fun k=>(Value.slice ra rn rc).ownBlock=some k) w4 w5∧(v'.ownBlock=(Value.slice ra rn rc).ownBlock∨v'.ownBlock=some w4.heap.size)∧∃ a n c,v'=.slice a n c) ?_ ?_
   ·obtain⟨v',w5,hrun,h1,h2,⟨h3,h4⟩,-⟩:=HX4.out.r.own.append HB4.out 24 (.slice (some ⟨w3.heap.size,0,none⟩) 1 1) [((x:Int),(y:Int))] HSRC.out HYB.out (by have:=HAL.out.1;simp at this ⊢;omega) 24
    exact⟨v',w5,hrun,(fun h=>absurd h (by decide)),h1,h3,h4,h1.shape3⟩
   rintro v' w5-⟨o1,o2,o3,na,nn,nc,rfl⟩ K hK
   obtain⟨⟨k1,k2⟩,hx5⟩:=HX4.out.setR o1 o2 o3
   have HX5:=jh hx5
   clear hx5 o1 o2 o3
   (try go_simp)
   refine hK _ ?_
   clear hK K
   (refine late_turn (i:=11) (by kernel_rfl) rfl rfl fun K hK=>?_;apply Exists.intro;apply Exists.intro;refine⟨?_,?_,?_⟩;(go_simp;try first|with_reducible rfl|exact⟨rfl,rfl⟩);(exact fun h=>absurd h (by decide));(try go_simp);refine hK _ _ ?_;clear hK K)
   (refine late_store (i:=12) (by kernel_rfl) rfl rfl fun K hK=>?_;apply Exists.intro;refine⟨?_,(fun h=>absurd h (by decide)),?_⟩;(go_simp;try first|with_reducible rfl|exact⟨rfl,rfl⟩);(try go_simp);refine hK _ _ ?_;clear hK K)
   refine late_done (by kernel_rfl) ?_ _
   obtain⟨w6,hw6⟩:∃ W,W=w5.setCell ⟨w.heap.size,0,none⟩ (.slice na nn nc):=⟨_,rfl⟩
   rw [← hw6] at HX5 ⊢
   clear hw6 k1 k2 HX4 HB4 HSRC HYB
   go_upto_region 4 with (fail)
   obtain⟨wd,hwd⟩:∃ W,w6.drew=W:=⟨_,rfl⟩
   have HXD:Hid (XSt pg gb w.heap.size w wd (.slice na nn nc) (.slice ca cn cc) (acc.map (·.1)++[((x:Int),(y:Int))]) (acc.map (·.2)) r3):=jh (HX5.out.fresh (by rw [← hwd];exact (Chg.refl _ _).drew))
   refine wp_region_late (fun x=>Chg (·=pg) wd x) (fun i=>decide (5≤i)) (by kernel_rfl) ?_
   show wpAnyL _ _ _ _ _ _ 8 (Array.replicate 8 false) _ w6.drew
   rw [hwd]
   clear hwd
   have HSS:Hid (Chg (·=pg) wd wd):=jh (Chg.refl _ _)
   (refine lrd 0 HSS.out fun K hK=>?_;apply ei;intro w' hC;(go_simp;try with_reducible rfl);(try go_simp);refine hK _ ?_;clear hK K)
   (refine lrd 1 HSS.out fun K hK=>?_;apply ei;intro w' hC;((have q:=hC.cellS HXD.out.c.c (by have:=HPG.out;show ¬ w.heap.size=pg;omega));go_simp;try with_reducible rfl);(try go_simp);refine hK _ ?_;clear hK K)
   (refine lrd 2 HSS.out fun K hK=>?_;apply ei;intro w' hC;(go_simp;try with_reducible rfl);(try go_simp);refine hK _ ?_;clear hK K)
   refine late_call_p (i:=3) (by kernel_rfl) rfl rfl 139 #[.pointer (some ⟨pg,0,none⟩)] (fun v w''=>∃ (t:Nat) (r4:List Int),anyG r3=some ((t:Int),r4)∧v=.int .i64 t∧t≤16777215∧GetSt pg gb w'' r4∧Chg (·=pg) wd w'') (by go_simp) ?_ ?_
   ·refine (any_any wd HXD.out.g).mono ?_
    rintro e w2 ⟨hc,⟨h4,rfl⟩|⟨t,r4,h4,rfl,ht,hg⟩⟩
    ·refine .inr ⟨_,rfl,rfl,HXD.out.chg.trans hc,.inl ⟨HNO.out (by simp only [rcG,H2.out,H3.out,h4]),rfl⟩⟩
    ·exact .inl ⟨_,rfl,fun _=>hc,t,r4,h4,rfl,ht,hg,hc⟩
   rintro v w7-⟨t,r4,h4,rfl,ht,hg4,hc4⟩ K hK
   (try go_simp)
   refine hK _ ?_
   clear hK K HSS
   have HC4:=jh hc4
   have HX7:=jh (HXD.out.call hg4 hc4)
   have HRN:Hid (repG rcG (n-(k+1)) (acc++[(((x:Int),(y:Int)),(t:Int))]) r4=repG rcG n [] r1):=jh (by
    rw [← HRP.out,HM.out.1,HM.out.2]
    conv=>rhs;unfold repG
    simp only [rcG,H2.out,H3.out,h4])
   have HSS:Hid (Chg (·=pg) wd w7):=HC4
   have HYB:Hid (∀ z∈[(t:Int)],intE.ok z):=jh (fun z hz=>by rw [List.mem_singleton] at hz;rw [hz];exact⟨by omega,by omega⟩)
   have HPO2:Hid (∀ z∈acc++[(((x:Int),(y:Int)),(t:Int))],0≤z.2∧z.2≤1000000000):=jh (fun z hz=>by
    rcases List.mem_append.1 hz with hz|hz
    ·exact HPO.out z hz
    ·rw [List.mem_singleton] at hz
     rw [hz]
     exact⟨by show (0:Int)≤(t:Int);omega,by show (t:Int)≤1000000000;omega⟩)
   clear hg4 hc4 h4
   (refine late_turn (i:=4) (by kernel_rfl) rfl rfl fun K hK=>?_;apply Exists.intro;apply Exists.intro;refine⟨?_,?_,?_⟩;(go_simp;try first|with_reducible rfl|exact⟨rfl,rfl⟩);(exact fun _=>HC4.out.alloc _);(try go_simp);refine hK _ _ ?_;clear hK K)
   obtain⟨w8,hw8⟩:∃ W,W=w7.alloc (.cells #[.int .i64 t] 3):=⟨_,rfl⟩
   have HSRC:Hid (Src Tryz.prog intE.sz intE.sl (.slice (some ⟨w7.heap.size,0,none⟩) 1 1) 1 (intE.encs [(t:Int)]) w8):=jh (by rw [hw8];exact intE.srcLit (Y:=[(t:Int)]) 1 HYB.out)
   have HX8:Hid (XSt pg gb w.heap.size w w8 (.slice na nn nc) (.slice ca cn cc) (acc.map (·.1)++[((x:Int),(y:Int))]) (acc.map (·.2)) r4):=jh (HX7.out.fresh (by rw [hw8];exact (Chg.refl _ _).alloc _))
   rw [← hw8]
   clear hw8 HX5 HXD HX7 HC4 HSS
   have HB8:Hid (w.heap.size+1≤w8.heap.size):=jh HX8.out.r.lt
   refine late_append (i:=5) (by kernel_rfl) rfl rfl (.tmp 21) (.tmp 24) 25 25 rfl (.slice ca cn cc) (.slice (some ⟨w7.heap.size,0,none⟩) 1 1) rfl rfl (fun v' w5=>intE.Own w5 (w.heap.size+1) v' (acc.map (·.2)++[(t:Int)])∧Chg (fun k=>(Value.slice ca cn cc).ownBlock=some k) w8 w5∧(v'.ownBlock=(Value.slice ca cn cc).ownBlock∨v'.ownBlock=some w8.heap.size)∧∃ a n c,v'=.slice a n c) ?_ ?_
   ·obtain⟨v',w5,hrun,h1,h2,⟨h3,h4⟩,-⟩:=HX8.out.c.own.append HB8.out 25 (.slice (some ⟨w7.heap.size,0,none⟩) 1 1) [(t:Int)] HSRC.out HYB.out (by have:=HAL.out.2;simp at this ⊢;omega) 25
    exact⟨v',w5,hrun,(fun h=>absurd h (by decide)),h1,h3,h4,h1.shape3⟩
   rintro v' w9-⟨o1,o2,o3,da,dn,dc,rfl⟩ K hK
   obtain⟨⟨k1,k2⟩,hx9⟩:=HX8.out.setC o1 o2 o3
   have HX9:Hid (XSt pg gb w.heap.size w (w9.setCell ⟨w.heap.size,1,none⟩ (.slice da dn dc)) (.slice na nn nc) (.slice da dn dc) ((acc++[(((x:Int),(y:Int)),(t:Int))]).map (·.1)) ((acc++[(((x:Int),(y:Int)),(t:Int))]).map (·.2)) r4):=jh (by
    rw [List.map_append,List.map_append]
    exact hx9)
   clear hx9 o1 o2 o3
   (try go_simp)
   refine hK _ ?_
   clear hK K
   (refine late_turn (i:=6) (by kernel_rfl) rfl rfl fun K hK=>?_;apply Exists.intro;apply Exists.intro;refine⟨?_,?_,?_⟩;(go_simp;try first|with_reducible rfl|exact⟨rfl,rfl⟩);(exact fun h=>absurd h (by decide));(try go_simp);refine hK _ _ ?_;clear hK K)
   (refine late_store (i:=7) (by kernel_rfl) rfl rfl fun K hK=>?_;apply Exists.intro;refine⟨?_,(fun h=>absurd h (by decide)),?_⟩;(go_simp;try first|with_reducible rfl|exact⟨rfl,rfl⟩);(try go_simp);refine hK _ _ ?_;clear hK K)
   refine late_done (by kernel_rfl) ?_ _
   clear k1 k2
   go_wp2
   go_roundw
   case rel=>exact⟨k+1,_,_,_,_,by omega,by go_num,by simp [HA.out],HRN.out,HX9.out,HPO2.out⟩
   case measure=>simp [intOf];omega
  ·obtain rfl:k=n:=by omega
   have b9:decide ((k:Int)<(k:Int))=false:=by simp
   have HRC:Hid (listG rcG Z=some (acc,Zk)):=jh (by rw [HLG.out,← HRP.out,Nat.sub_self];rfl)
   obtain⟨wo,rfl⟩:∃ wo,wo=wr:=⟨_,rfl⟩
   obtain⟨_,_,hv,hrc,hr⟩:=HX.out.r.own.clip
   rw [List.length_map,HA.out] at hv hrc hr
   injection hv with e1 e2 e3
   have e2:=e2.symm
   subst e1 e2 e3
   obtain⟨_,_,hv,hcc,hcl⟩:=HX.out.c.own.clip
   rw [List.length_map,HA.out] at hv hcc hcl
   injection hv with e1 e2 e3
   have e2:=e2.symm
   subst e1 e2 e3
   have HR:=jh hr
   have HCL:=jh hcl
   have HPG:=jh HX.out.lt
   clear hr hcl
   go_wp2_with fail
   refine (table_any wo Zk HX.out.g).mono ?_
   rintro e w5 ⟨hc5,⟨h5,rfl⟩|⟨LL,m,r5,a5,h5,rfl,hLL,hg5,hn5,hm5,hw5⟩⟩
   ·exact⟨rfl,HX.out.chg.trans hc5,.inl ⟨by simp only [lexG,HRC.out,h5],rfl⟩⟩
   have HX5:=jh (HX.out.call hg5 hc5)
   have H5:=jh h5
   have HM5:Hid (LL.length≤65536∧m≤65536∧∀ l∈LL,l.length=m):=jh ⟨hn5,hm5,hw5⟩
   have q2:=HX5.out.n
   have z2:=HX5.out.z 2
   have hs5:=setCellChg w5 w.heap.size 2 (.slice a5 LL.length LL.length)
   obtain⟨w7,hw7⟩:∃ W,W=w5.setCell ⟨w.heap.size,2,none⟩ (.slice a5 LL.length LL.length):=⟨_,rfl⟩
   rw [← hw7] at hs5
   have hoth:∀ j u,j≠2→w5.cell? ⟨w.heap.size,j,none⟩=some u→w7.cell? ⟨w.heap.size,j,none⟩=some u:=fun j u hj hu=>by
    rw [hw7,World.cell?_setCell_other _ _ _ _ (by intro e;injection e with _ e;exact hj e.symm)]
    exact hu
   have HY0:Hid (YSt pg gb w.heap.size w7 w7 (.slice ra k rc) (.slice ca k cc) (.slice a5 LL.length LL.length) (.slice none 0 0) [] r5):=jh (by
    have h0:=HPG.out
    have hbl:=HX5.out.r.lt
    refine⟨HX5.out.g.chg hs5 (by omega) (by omega),⟨by omega,by omega,by have:=hs5.size;omega⟩,hoth 0 _ (by decide) HX5.out.r.c,hoth 1 _ (by decide) HX5.out.c.c,?_,hoth 3 _ (by decide) HX5.out.e,.nil _ _,fun j=>?_,Chg.refl _ _⟩
    ·rw [hw7];exact World.cell?_setCell_same _ _ _ q2
    ·rw [hw7];exact (World.frozen?_setCell _ _ _ _).trans (HX5.out.z j))
   have HIN:Hid (LexIn w7 (fun g=>w.heap.size+1≤g∧g<w7.heap.size) ⟨(ra,k,k),(ca,k,k),(a5,LL.length,LL.length),(none,0,0)⟩ ⟨acc.map (·.1),acc.map (·.2),LL,[]⟩):=jh (by
    have h0:=HPG.out
    have h1:=HX.out.r.lt
    refine⟨(Elt.In.inS (((HR.out.chg hc5 (fun g hg _ e=>by omega)).chg hs5 (fun g hg _ e=>by omega)).in' (Nat.le_refl _))).mono (fun g hg hh=>⟨hh,hg⟩),(Elt.In.inS (((HCL.out.chg hc5 (fun g hg _ e=>by omega)).chg hs5 (fun g hg _ e=>by omega)).in' (Nat.le_refl _))).mono (fun g hg hh=>⟨hh,hg⟩),(ListR.good inR.good).mono ((ListR.good inR.good).chg hLL hs5 (fun g hg e=>by omega)) (fun g hg hh=>⟨by omega,hg⟩),.nil _ _ _⟩)
   have HC7:Hid (Chg (·=pg) w w7):=jh (HX5.out.chg.trans2 hs5 (fun j hj e=>absurd e (Nat.ne_of_lt hj)))
   have HCI:Hid (intE.In w7 (w.heap.size+1) (ca,k,cc) (acc.map (·.2))):=jh (by
    have h0:=HPG.out
    have h1:=((HX.out.c.own.chg hc5 (fun g hg _ e=>by omega)).chg hs5 (fun g hg _ e=>by omega)).in' (c':=cc) hcc
    exact h1)
   clear hc5 h5 hLL hg5 hn5 hm5 hw5 hs5 hoth HX HX5 HR HCL
   go_upto_region 8 with (fail)
   rw [← hw7]
   clear hw7 q2 z2
   have q0:=HY0.out.c0
   have q1:=HY0.out.c1
   have q2:=HY0.out.c2
   have q3:=HY0.out.c3
   have hcols:=columns_any (acc.map (·.2)) ra a5 none ca k rc LL.length LL.length 0 0 cc (w.heap.size+1) w7 (by rw [List.length_map,HA.out];exact HCI.out) (by rw [List.length_map,HA.out];omega) (fun c hc=>by
    obtain⟨x,hx,rfl⟩:=List.mem_map.1 hc
    exact HPO.out x hx)
   rw [List.length_map,HA.out] at hcols
   have HCOLS:=jh hcols
   clear hcols
   go_wp2_with fail
   refine HCOLS.out.mono ?_
   rintro e w8 ⟨rfl,hc8⟩
   have HY8:Hid (YSt pg gb w.heap.size w7 w8 (.slice ra k rc) (.slice ca k cc) (.slice a5 LL.length LL.length) (.slice none 0 0) [] r5):=jh (HY0.out.fresh hc8)
   clear hc8 q0 q1 q2 q3 HCOLS HY0
   obtain⟨C,hC⟩:∃ C,colsL (acc.map (·.2))=C:=⟨_,rfl⟩
   have HCC:=jh hC
   rw [hC]
   clear hC
   by_cases hmc:(m:Int)=C
   ·subst hmc
    have HLX:Hid (∀ (es:List Int) (r:List Int),repG endG LL.length [] r5=some (es,r)→lexG Z=some (⟨acc.map (·.1),acc.map (·.2),LL,es⟩,r)):=jh (fun es r h=>by simp only [lexG,HRC.out,H5.out,HCC.out,if_true,h])
    have HLN:Hid (repG endG LL.length [] r5=none→lexG Z=none):=jh (fun h=>by simp only [lexG,HRC.out,H5.out,HCC.out,if_true,h])
    go_wp2_with fail
    refine (must_ok _).mono ?_
    rintro e w9 ⟨rfl,rfl⟩
    have q2:=HY8.out.c2
    go_wp2
    clear q2
    go_loopw [42] (fun q wr=>∃ (j:Nat) (ve:Value) (Es Zj:List Int),j≤LL.length∧q=.int .i64 j∧Es.length=j∧repG endG (LL.length-j) Es Zj=repG endG LL.length [] r5∧YSt pg gb w.heap.size w7 wr (.slice ra k rc) (.slice ca k cc) (.slice a5 LL.length LL.length) ve Es Zj) (fun q _=>LL.length-(intOf q).toNat)
    case atStart=>exact⟨0,_,[],r5,by omega,rfl,rfl,rfl,HY8.out⟩
    case round =>
     clear HY8
     obtain⟨j,ve,Es,Zj,hj,rfl,hel,hrep,hy⟩:=hrel
     obtain⟨ea,en,ec,rfl⟩:=hy.own.shape3
     have HY:=jh hy
     have HRJ:=jh hrep
     have HEL:=jh hel
     clear hy hrep hel
     by_cases hjl:j<LL.length
     ·have b8:decide ((j:Int)<(LL.length:Int))=true:=by simp;omega
      have hjb:j<65536:=by have:=HM5.out.1;omega
      obtain⟨i,hi⟩:∃ i,LL.length-j=i+1:=⟨LL.length-j-1,by omega⟩
      have HI:Hid (LL.length-j=i+1∧LL.length-(j+1)=i):=jh ⟨hi,by omega⟩
      clear hi
      go_upto_region 11 with (fail)
      obtain⟨wd,hwd⟩:∃ W,wr.drew=W:=⟨_,rfl⟩
      have HYD:Hid (YSt pg gb w.heap.size w7 wd (.slice ra k rc) (.slice ca k cc) (.slice a5 LL.length LL.length) (.slice ea en ec) Es Zj):=jh (HY.out.fresh (by rw [← hwd];exact (Chg.refl _ _).drew))
      have HCD:Hid (Chg (·=pg) w wd):=jh (HC7.out.trans2 HYD.out.chg (fun g hg e=>by rcases e with e|e;exact e;omega))
      refine wp_region_late (fun x=>Chg (·=pg) wd x) (fun i=>decide (6≤i)) (by kernel_rfl) ?_
      show wpAnyL _ _ _ _ _ _ 9 (Array.replicate 9 false) _ wr.drew
      rw [hwd]
      clear hwd
      have HSS:Hid (Chg (·=pg) wd wd):=jh (Chg.refl _ _)
      (refine lrd 0 HSS.out fun K hK=>?_;apply ei;intro w' hC;(go_simp;try with_reducible rfl);(try go_simp);refine hK _ ?_;clear hK K)
      (refine lrd 1 HSS.out fun K hK=>?_;apply ei;intro w' hC;((have q:=hC.cellS HYD.out.c3 (by have:=HPG.out;show ¬ w.heap.size=pg;omega));go_simp;try with_reducible rfl);(try go_simp);refine hK _ ?_;clear hK K)
      (refine lrd 2 HSS.out fun K hK=>?_;apply ei;intro w' hC;(go_simp;try with_reducible rfl);(try go_simp);refine hK _ ?_;clear hK K)
      refine late_call_p (i:=3) (by kernel_rfl) rfl rfl 139 #[.pointer (some ⟨pg,0,none⟩)] (fun v w''=>∃ (t:Nat) (r6:List Int),anyG Zj=some ((t:Int),r6)∧v=.int .i64 t∧t≤16777215∧GetSt pg gb w'' r6∧Chg (·=pg) wd w'') (by go_simp) ?_ ?_
      ·refine (any_any wd HYD.out.g).mono ?_
       rintro e w2 ⟨hc,⟨h4,rfl⟩|⟨t,r6,h4,rfl,ht,hg⟩⟩
       ·refine .inr ⟨_,rfl,rfl,HCD.out.trans hc,.inl ⟨HLN.out (by rw [← HRJ.out,HI.out.1];simp only [repG,endG,h4]),rfl⟩⟩
       ·exact .inl ⟨_,rfl,fun _=>hc,t,r6,h4,rfl,ht,hg,hc⟩
      rintro v w9-⟨t,r6,h4,rfl,ht,hg4,hc4⟩ K hK
      (try go_simp)
      refine hK _ ?_
      clear hK K HSS
      have HC4:=jh hc4
      have HY9:=jh (HYD.out.call hg4 hc4)
      have HRN:Hid (repG endG (LL.length-(j+1)) (Es++[(t:Int)-1]) r6=repG endG LL.length [] r5):=jh (by
       rw [← HRJ.out,HI.out.1,HI.out.2]
       conv=>rhs;unfold repG
       simp only [endG,h4])
      have HSS:Hid (Chg (·=pg) wd w9):=HC4
      have HYB:Hid (∀ z∈[(t:Int)-1],intE.ok z):=jh (fun z hz=>by rw [List.mem_singleton] at hz;rw [hz];exact⟨by omega,by omega⟩)
      have hwr:IntKind.i64.wrap ((t:Int)-1)=(t:Int)-1:=by rw [IntKind.wrap_i64];omega
      clear hg4 hc4 h4
      (refine lrd 4 HSS.out fun K hK=>?_;apply ei;intro w' hC;(go_simp;try with_reducible rfl);(try go_simp);refine hK _ ?_;clear hK K)
      clear hwr
      (refine late_turn (i:=5) (by kernel_rfl) rfl rfl fun K hK=>?_;apply Exists.intro;apply Exists.intro;refine⟨?_,?_,?_⟩;(go_simp;try first|with_reducible rfl|exact⟨rfl,rfl⟩);(exact fun _=>HC4.out.alloc _);(try go_simp);refine hK _ _ ?_;clear hK K)
      obtain⟨wa,hwa⟩:∃ W,W=w9.alloc (.cells #[.int .i64 ((t:Int)-1)] 3):=⟨_,rfl⟩
      have HSRC:Hid (Src Tryz.prog intE.sz intE.sl (.slice (some ⟨w9.heap.size,0,none⟩) 1 1) 1 (intE.encs [(t:Int)-1]) wa):=jh (by rw [hwa];exact intE.srcLit (Y:=[(t:Int)-1]) 1 HYB.out)
      have HYA:Hid (YSt pg gb w.heap.size w7 wa (.slice ra k rc) (.slice ca k cc) (.slice a5 LL.length LL.length) (.slice ea en ec) Es r6):=jh (HY9.out.fresh (by rw [hwa];exact (Chg.refl _ _).alloc _))
      rw [← hwa]
      clear hwa HY HYD HY9 HC4 HSS
      have HBA:Hid (w7.heap.size≤wa.heap.size):=jh HYA.out.chg.size
      refine late_append (i:=6) (by kernel_rfl) rfl rfl (.tmp 45) (.tmp 49) 25 25 rfl (.slice ea en ec) (.slice (some ⟨w9.heap.size,0,none⟩) 1 1) rfl rfl (fun v' w5=>intE.Own w5 w7.heap.size v' (Es++[(t:Int)-1])∧Chg (fun k=>w7.heap.size≤k) wa w5∧∃ a n c,v'=.slice a n c) ?_ ?_
      ·obtain⟨v',w5,hrun,h1,h2,-,-⟩:=HYA.out.own.append HBA.out 25 (.slice (some ⟨w9.heap.size,0,none⟩) 1 1) [(t:Int)-1] HSRC.out HYB.out (by rw [HEL.out];simp;omega) 25
       exact⟨v',w5,hrun,(fun h=>absurd h (by decide)),h1,h2,h1.shape3⟩
      rintro v' wb-⟨o1,o2,da,dn,dc,rfl⟩ K hK
      obtain⟨⟨k1,k2⟩,hyb⟩:=HYA.out.setE o1 o2
      have HYB2:=jh hyb
      clear hyb o1 o2
      (try go_simp)
      refine hK _ ?_
      clear hK K
      (refine late_turn (i:=7) (by kernel_rfl) rfl rfl fun K hK=>?_;apply Exists.intro;apply Exists.intro;refine⟨?_,?_,?_⟩;(go_simp;try first|with_reducible rfl|exact⟨rfl,rfl⟩);(exact fun h=>absurd h (by decide));(try go_simp);refine hK _ _ ?_;clear hK K)
      (refine late_store (i:=8) (by kernel_rfl) rfl rfl fun K hK=>?_;apply Exists.intro;refine⟨?_,(fun h=>absurd h (by decide)),?_⟩;(go_simp;try first|with_reducible rfl|exact⟨rfl,rfl⟩);(try go_simp);refine hK _ _ ?_;clear hK K)
      refine late_done (by kernel_rfl) ?_ _
      clear k1 k2
      go_wp2
      go_roundw
      case rel=>exact⟨j+1,_,_,_,by omega,by go_num,by simp [HEL.out],HRN.out,HYB2.out⟩
      case measure=>simp [intOf];omega
     ·obtain rfl:j=LL.length:=by omega
      have b8:decide ((LL.length:Int)<(LL.length:Int))=false:=by simp
      rw [Nat.sub_self] at HRJ
      have HLX2:=jh (HLX.out Es Zj HRJ.out.symm)
      obtain⟨_,_,hv,hec,he⟩:=HY.out.own.clip
      rw [HEL.out] at hv hec he
      injection hv with e1 e2 e3
      subst e1 e2 e3
      have HE:=jh he
      clear he
      go_upto_region 13 with (fail)
      obtain⟨wd,hwd⟩:∃ W,wr.drew=W:=⟨_,rfl⟩
      have HDD:Hid (Chg (fun _=>False) wr wd):=jh (by rw [← hwd];exact (Chg.refl _ _).drew)
      have HYD:=jh (HY.out.fresh HDD.out)
      refine wp_region_late (fun x=>x=wd) (fun i=>decide (10≤i)) (by kernel_rfl) ?_
      show wpAnyL _ _ _ _ _ _ 15 (Array.replicate 15 false) _ wr.drew
      rw [hwd]
      clear hwd
      have HSS:Hid (wd=wd):=jh rfl
      (refine lrd 0 HSS.out fun K hK=>?_;apply ei;intro w' hC;(go_simp;try with_reducible rfl);(try go_simp);refine hK _ ?_;clear hK K)
      (refine lrd 1 HSS.out fun K hK=>?_;apply ei;intro w' hC;((subst hC;have q:=HYD.out.c0);go_simp;try with_reducible rfl);(try go_simp);refine hK _ ?_;clear hK K)
      (refine lrd 3 HSS.out fun K hK=>?_;apply ei;intro w' hC;(go_simp;try with_reducible rfl);(try go_simp);refine hK _ ?_;clear hK K)
      (refine lrd 4 HSS.out fun K hK=>?_;apply ei;intro w' hC;((subst hC;have q:=HYD.out.c1);go_simp;try with_reducible rfl);(try go_simp);refine hK _ ?_;clear hK K)
      (refine lrd 6 HSS.out fun K hK=>?_;apply ei;intro w' hC;(go_simp;try with_reducible rfl);(try go_simp);refine hK _ ?_;clear hK K)
      (refine lrd 7 HSS.out fun K hK=>?_;apply ei;intro w' hC;((subst hC;have q:=HYD.out.c3);go_simp;try with_reducible rfl);(try go_simp);refine hK _ ?_;clear hK K)
      refine late_call (i:=2) (by kernel_rfl) rfl rfl 143 #[.slice ra k rc] (fun q w''=>q=.slice ra k k∧wd=w'') (by go_simp) ?_ ?_
      ·refine (clipRng wd ra k rc hrc).mono ?_
       rintro e w2 ⟨rfl,rfl⟩
       exact⟨_,rfl,fun _=>rfl,rfl,rfl⟩
      rintro q w''-⟨rfl,rfl⟩ K hK
      (try go_simp)
      refine hK _ ?_
      clear hK K
      (refine lrd 9 HSS.out fun K hK=>?_;apply ei;intro w' hC;(go_simp;try with_reducible rfl);(try go_simp);refine hK _ ?_;clear hK K)
      refine late_call (i:=5) (by kernel_rfl) rfl rfl 144 #[.slice ca k cc] (fun q w''=>q=.slice ca k k∧wd=w'') (by go_simp) ?_ ?_
      ·refine (clipInt wd ca k cc hcc).mono ?_
       rintro e w2 ⟨rfl,rfl⟩
       exact⟨_,rfl,fun _=>rfl,rfl,rfl⟩
      rintro q w''-⟨rfl,rfl⟩ K hK
      (try go_simp)
      refine hK _ ?_
      clear hK K
      refine late_call (i:=8) (by kernel_rfl) rfl rfl 144 #[.slice ea LL.length ec] (fun q w''=>q=.slice ea LL.length LL.length∧wd=w'') (by go_simp) ?_ ?_
      ·refine (clipInt wd ea LL.length ec hec).mono ?_
       rintro e w2 ⟨rfl,rfl⟩
       exact⟨_,rfl,fun _=>rfl,rfl,rfl⟩
      rintro q w''-⟨rfl,rfl⟩ K hK
      (try go_simp)
      refine hK _ ?_
      clear hK K
      have c0:=HYD.out.c0
      have c1:=HYD.out.c1
      have c2:=HYD.out.c2
      have c3:=HYD.out.c3
      have z0:=HYD.out.z 0
      have z1:=HYD.out.z 1
      have z2:=HYD.out.z 2
      have z3:=HYD.out.z 3
      (refine late_store (i:=10) (by kernel_rfl) rfl rfl fun K hK=>?_;apply Exists.intro;refine⟨?_,(fun h=>absurd h (by decide)),?_⟩;(go_simp;try first|with_reducible rfl|exact⟨rfl,rfl⟩);(try go_simp);refine hK _ _ ?_;clear hK K)
      (refine late_turn (i:=11) (by kernel_rfl) rfl rfl fun K hK=>?_;apply Exists.intro;apply Exists.intro;refine⟨?_,?_,?_⟩;(go_simp;try first|with_reducible rfl|exact⟨rfl,rfl⟩);(exact fun h=>absurd h (by decide));(try go_simp);refine hK _ _ ?_;clear hK K)
      (refine late_store (i:=12) (by kernel_rfl) rfl rfl fun K hK=>?_;apply Exists.intro;refine⟨?_,(fun h=>absurd h (by decide)),?_⟩;(go_simp;try first|with_reducible rfl|exact⟨rfl,rfl⟩);(try go_simp);refine hK _ _ ?_;clear hK K)
      (refine late_turn (i:=13) (by kernel_rfl) rfl rfl fun K hK=>?_;apply Exists.intro;apply Exists.intro;refine⟨?_,?_,?_⟩;(go_simp;try first|with_reducible rfl|exact⟨rfl,rfl⟩);(exact fun h=>absurd h (by decide));(try go_simp);refine hK _ _ ?_;clear hK K)
      (refine late_store (i:=14) (by kernel_rfl) rfl rfl fun K hK=>?_;apply Exists.intro;refine⟨?_,(fun h=>absurd h (by decide)),?_⟩;(go_simp;try first|with_reducible rfl|exact⟨rfl,rfl⟩);(try go_simp);refine hK _ _ ?_;clear hK K)
      refine late_done (by kernel_rfl) ?_ _
      clear c0 c1 c2 c3 z0 z1 z2 z3
      obtain⟨we,hwe⟩:∃ W,W=((wd.setCell ⟨w.heap.size,0,none⟩ (.slice ra k k)).setCell ⟨w.heap.size,1,none⟩ (.slice ca k k)).setCell ⟨w.heap.size,3,none⟩ (.slice ea LL.length LL.length):=⟨_,rfl⟩
      go_upto_region 14 with (fail)
      rw [← hwe]
      have HE4:Hid ((we.cell? ⟨w.heap.size,0,none⟩=some (.slice ra k k)∧we.cell? ⟨w.heap.size,1,none⟩=some (.slice ca k k)∧we.cell? ⟨w.heap.size,2,none⟩=some (.slice a5 LL.length LL.length)∧we.cell? ⟨w.heap.size,3,none⟩=some (.slice ea LL.length LL.length))∧(∀ j,we.frozen? ⟨w.heap.size,j,none⟩=false)∧Chg (·=w.heap.size) wd we):=jh (by
       obtain⟨k0,k1,kc⟩:=store2 (.slice ra k k) (.slice ca k k) HYD.out.c0 HYD.out.c1
       have hne:∀ j u,j≠3→((wd.setCell ⟨w.heap.size,0,none⟩ (.slice ra k k)).setCell ⟨w.heap.size,1,none⟩ (.slice ca k k)).cell? ⟨w.heap.size,j,none⟩=some u→we.cell? ⟨w.heap.size,j,none⟩=some u:=fun j u hj hu=>by
        rw [hwe,World.cell?_setCell_other _ _ _ _ (by intro e;injection e with _ e;exact hj e.symm)]
        exact hu
       refine⟨⟨hne 0 _ (by decide) k0,hne 1 _ (by decide) k1,hne 2 _ (by decide) ?_,?_⟩,fun j=>?_,?_⟩
       ·rw [World.cell?_setCell_other _ _ _ _ (by intro e;injection e with _ e;cases e),World.cell?_setCell_other _ _ _ _ (by intro e;injection e with _ e;cases e)]
        exact HYD.out.c2
       ·rw [hwe]
        refine World.cell?_setCell_same _ _ _ (u:=.slice ea LL.length ec) ?_
        rw [World.cell?_setCell_other _ _ _ _ (by intro e;injection e with _ e;cases e),World.cell?_setCell_other _ _ _ _ (by intro e;injection e with _ e;cases e)]
        exact HYD.out.c3
       ·rw [hwe]
        exact (World.frozen?_setCell _ _ _ _).trans ((World.frozen?_setCell _ _ _ _).trans ((World.frozen?_setCell _ _ _ _).trans (HYD.out.z j)))
       ·rw [hwe]
        exact kc.trans (setCellChg _ _ _ _))
      clear hwe
      obtain⟨⟨c0,c1,c2,c3⟩,hz,hce⟩:=HE4.out
      have z0:=hz 0
      have z1:=hz 1
      have z2:=hz 2
      have z3:=hz 3
      obtain⟨y1,-,y3,-⟩:=setAll_spec w.heap.size [.slice ra k k,.slice ca k k,.slice a5 LL.length LL.length,.slice ea LL.length LL.length] 0 we (fun j hj=>by
       simp only [List.length_cons,List.length_nil] at hj
       rcases (by omega:j=0∨j=1∨j=2∨j=3) with rfl|rfl|rfl|rfl
       ·rw [c0];rfl
       ·rw [c1];rfl
       ·rw [c2];rfl
       ·rw [c3];rfl)
      have s0:=y1 0 _ rfl
      have s1:=y1 1 _ rfl
      have s2:=y1 2 _ rfl
      have s3:=y1 3 _ rfl
      have HFIN:Hid (LexPost pg gb w Z (.returned (lexV' ⟨(ra,k,k),(ca,k,k),(a5,LL.length,LL.length),(ea,LL.length,LL.length)⟩)) (setAll w.heap.size 0 [.slice ra k k,.slice ca k k,.slice a5 LL.length LL.length,.slice ea LL.length LL.length] we)):=jh (by
       have h0:=HPG.out
       have h7:=HY.out.lt
       have hcc:=HYD.out.chg
       refine⟨((HC7.out.trans2 hcc (fun g hg e=>by rcases e with e|e;exact e;omega)).trans2 hce (fun g hg e=>by omega)).trans2 y3 (fun g hg e=>by omega),.inr ⟨_,_,_,HLX2.out,rfl,?_,(HYD.out.g.chg hce (by omega) (by omega)).chg y3 (by omega) (by omega),?_,?_,?_⟩⟩
       ·have h1:=LexIn.good.mono (LexIn.good.chg (LexIn.good.chg (LexIn.good.chg HIN.out hcc (fun g hg e=>by omega)) hce (fun g hg e=>by omega)) y3 (fun g hg e=>by omega)) (S':=fun k=>w.heap.size≤k) (fun g _ hg=>by show w.heap.size≤g;omega)
        refine⟨h1.r,h1.c,h1.n,?_⟩
        have h2:=(((HE.out.chg HDD.out (fun _ _ _ h=>h)).chg hce (fun g hg _ e=>by omega)).chg y3 (fun g hg _ e=>by omega)).in' (c':=LL.length) (Nat.le_refl _)
        exact (Elt.In.inS h2).mono (fun g _ hg=>by show w.heap.size≤g;omega)
       ·show (acc.map (·.1)).length≤_
        rw [List.length_map,HA.out];omega
       ·exact HM5.out.1
       ·exact fun l hl=>by rw [HM5.out.2.2 l hl];exact HM5.out.2.1)
      simp only [setAll,Nat.zero_add] at s0 s1 s2 s3 HFIN
      clear y1 y3 hce hz HE4
      go_wp2
      exact bodyPost_ret (v:=.agg #[.slice ra k k,.slice ca k k,.slice a5 LL.length LL.length,.slice ea LL.length LL.length]) (by simp [results,Tryz.results107,go_sem,s0,s1,s2,s3]) rfl HFIN.out
   ·have HF:Hid (lexG Z=none):=jh (by simp only [lexG,HRC.out,H5.out,HCC.out,if_neg hmc])
    have b5:((m:Int) == C)=false:=by simpa using hmc
    go_wp2_with fail
    refine (must_no _).mono ?_
    rintro e w9 ⟨rfl,rfl⟩
    exact⟨rfl,HC7.out.trans2 HY8.out.chg (fun g hg e=>by rcases e with e|e;exact e;omega),.inl ⟨HF.out,rfl⟩⟩
end Go.Proofs.YtgnpmceimpjheaaGreat
namespace Go.Proofs.YtgnpmceimpjheaaGreat
open Go.RowKit
theorem Elt.encs_of {α:Type} {E:Elt α} {L:List α} {j:Nat} {u:Value} (h:(E.encs L)[j]?=some u):∃ x,L[j / E.sz]?=some x∧(E.enc x)[j % E.sz]?=some u:=by
 have h1:=(List.getElem?_eq_some_iff.1 h).1
 rw [E.encs_length] at h1
 have h2:j / E.sz<L.length:=Nat.div_lt_of_lt_mul (by rw [Nat.mul_comm];exact h1)
 have h3:j % E.sz<(E.enc L[j / E.sz]).length:=by rw [E.len];exact Nat.mod_lt _ E.pos
 refine⟨L[j / E.sz],List.getElem?_eq_getElem h2,?_⟩
 have h4:=E.encs_at (List.getElem?_eq_getElem h2) (List.getElem?_eq_getElem h3)
 rw [Nat.div_add_mod' j E.sz,h] at h4
 rw [List.getElem?_eq_getElem h3]
 exact h4.symm
theorem lsOwn_get {w:World} {B:Nat} {a:Option Addr} {n c:Nat} {X:List (Int × Sl × Sl)} (h:lsE.Own w B (.slice a n c) X) {i:Nat} {x:Int × Sl × Sl} (hx:X[i]?=some x) :
  ∃ g,a=some ⟨g,0,none⟩∧n=X.length∧w.cell? ⟨g,i * 3,none⟩=some (.int .u8 x.1)∧w.cell? ⟨g,i * 3+1,none⟩=some (slV x.2.1)∧w.cell? ⟨g,i * 3+2,none⟩=some (slV x.2.2)∧(∀ j,w.frozen? ⟨g,j,none⟩=false)∧B≤g∧g<w.heap.size:=by
 have hi:=(List.getElem?_eq_some_iff.1 hx).1
 rcases h with ⟨h,rfl⟩|⟨g,C,h1,h2,h3,h4,h5⟩
 ·simp at hi
 ·injection h1 with e1 e2 e3
  subst e1 e2 e3
  have hat:=h3.at' h4
  have c0:=hat.get hx (i:=0) (u:=.int .u8 x.1) rfl
  have c1:=hat.get hx (i:=1) (u:=slV x.2.1) rfl
  have c2:=hat.get hx (i:=2) (u:=slV x.2.2) rfl
  rw [Nat.zero_add] at c0 c1 c2
  exact⟨g,rfl,rfl,c0,c1,c2,h3.z,h2,h3.lt⟩
theorem lsOwn_set {w:World} {B g:Nat} {n c:Nat} {X:List (Int × Sl × Sl)} (h:lsE.Own w B (.slice (some ⟨g,0,none⟩) n c) X) {i:Nat} {x:Int × Sl × Sl} (hx:X[i]?=some x) (e:Sl) :
  lsE.Own (w.setCell ⟨g,i * 3+2,none⟩ (slV e)) B (.slice (some ⟨g,0,none⟩) n c) (X.set i (x.1,x.2.1,e)):=by
 have hi:=(List.getElem?_eq_some_iff.1 hx).1
 rcases h with ⟨h,_⟩|⟨g',C,h1,h2,h3,h4,h5⟩
 ·cases h
 ·injection h1 with e1 e2 e3
  injection e1 with e1
  injection e1 with e1
  subst e1 e2 e3
  obtain⟨Y,rfl⟩:=h4
  have hxC:(X++Y)[i]?=some x:=by rw [List.getElem?_append_left hi];exact hx
  refine .inr ⟨g,(X++Y).set i (x.1,x.2.1,e),by rw [List.length_set,List.length_set],h2,⟨fun j u hj=>?_,fun j=>(World.frozen?_setCell _ _ _ _).trans (h3.z j),Nat.lt_of_lt_of_le h3.lt (setCellChg _ _ _ _).size,fun y hy=>?_⟩,?_,by rw [List.length_set];exact h5⟩
  ·obtain⟨y,hy,hu⟩:=Elt.encs_of hj
   rw [show lsE.sz=3 from rfl] at hy hu
   by_cases hji:j / 3=i
   ·subst hji
    rw [List.getElem?_set_self (by rw [List.length_append];omega)] at hy
    obtain rfl:=Option.some.inj hy
    by_cases h2':j % 3=2
    ·have hj2:j=j / 3 * 3+2:=by omega
     rw [h2'] at hu
     obtain rfl:slV e=u:=by simpa [lsE,encLs] using hu
     rw [← hj2]
     refine World.cell?_setCell_same _ _ _ (u:=slV x.2.2) ?_
     have:=h3.c (j / 3 * 3+2) (slV x.2.2) (Elt.encs_at (E:=lsE) hxC (i:=2) rfl)
     rw [← hj2] at this
     exact this
    ·rw [World.cell?_setCell_other _ _ _ _ (by intro e;injection e with _ e;omega)]
     refine h3.c j u ?_
     have h6:=Elt.encs_at (E:=lsE) hxC (i:=j % 3) (u:=u) (by
      rcases (by omega:j % 3=0∨j % 3=1) with h7|h7 <;> rw [h7] at hu ⊢ <;> exact hu)
     rw [show lsE.sz=3 from rfl,show j / 3 * 3+j % 3=j by omega] at h6
     exact h6
   ·rw [List.getElem?_set_ne (Ne.symm hji)] at hy
    rw [World.cell?_setCell_other _ _ _ _ (by intro e;injection e with _ e;omega)]
    refine h3.c j u ?_
    have h6:=Elt.encs_at (E:=lsE) hy (i:=j % 3) (u:=u) hu
    rw [show lsE.sz=3 from rfl,show j / 3 * 3+j % 3=j by omega] at h6
    exact h6
  ·rcases List.mem_or_eq_of_mem_set hy with h6|rfl
   ·exact h3.ok y h6
   ·exact h3.ok x (List.mem_of_getElem? hxC)
  ·rw [List.set_append_left _ _ hi]
   exact List.prefix_append _ _
theorem edgesFrom_append:∀ (X:List Int) (x k:Int),edgesFrom k (X++[x])=edgesFrom k X++(if 0≤x then [(k+X.length,x)] else [])
 | [],x,k=>by simp only [List.nil_append,edgesFrom,List.length_nil];split <;> simp
 | y :: X,x,k=>by
  have h:=edgesFrom_append X x (k+1)
  rw [List.cons_append]
  simp only [edgesFrom,List.length_cons]
  rw [h,show k+1+(X.length:Int)=k+((X.length+1:Nat):Int) by omega]
  split <;> simp
theorem edges_take {l:List Int} {k:Nat} {x:Int} (h:l[k]?=some x):edgesFrom (-1) (l.take (k+1))=edgesFrom (-1) (l.take k)++(if 0≤x then [((k:Int)-1,x)] else []):=by
 have hk:=(List.getElem?_eq_some_iff.1 h).1
 rw [List.take_add_one,h,Option.toList_some,edgesFrom_append,List.length_take,Nat.min_eq_left (by omega),show (-1:Int)+(k:Int)=(k:Int)-1 by omega]
theorem edgesFrom_length:∀ (X:List Int) (k:Int),(edgesFrom k X).length≤X.length
 | [],_=>Nat.le_refl _
 | x :: X,k=>by
  have h:=edgesFrom_length X (k+1)
  simp only [edgesFrom]
  split <;> simp <;> omega
theorem lss_any {pg gb bx:Nat} (w:World) (Z:List Int) (h:GetSb pg gb bx w Z):Calls Tryz.prog 148 #[.pointer (some ⟨pg,0,none⟩),.func (.func 149) #[] #[.pointer (some ⟨bx,0,none⟩)]] w (GotPost lsG lsE ls2R (C0 pg) (Tb pg gb bx) (Sb (Int × List Int) pg gb bx) w Z):=by
 have eg:=enters_of Tryz.func149 (by kernel_rfl) rfl
 refine gotLs ls2R.good (sideB pg gb bx) _ #[] #[.pointer (some ⟨bx,0,none⟩)] lsG eg ?_ w Z h
 rw [Array.empty_append]
 exact readsB ls2R.good (fun w Z h=>ls_read w Z h)
structure KSt (B:Nat) (w7 wr:World) (a:Option Addr) (n:Nat) (X0 X:List (Int × Sl × Sl)) (LL:List (List Int)) (i:Nat):Prop where
 own:lsE.Own wr B (.slice a n n) X
 len:X.length=X0.length
 eq:∀ (j:Nat) x0,X0[j]?=some x0→∃ e,X[j]?=some (x0.1,x0.2.1,e)∧(j<i→∃ l,LL[j]?=some l∧ledgeE.InS wr (fun g=>w7.heap.size≤g) e (edgesOf l))∧(i≤j→e=(none,0,0))
 chg:Chg (fun k=>(Value.slice a n n).ownBlock=some k) w7 wr
end Go.Proofs.YtgnpmceimpjheaaGreat
