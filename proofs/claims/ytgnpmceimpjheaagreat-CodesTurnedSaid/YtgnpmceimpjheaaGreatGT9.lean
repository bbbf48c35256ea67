/- A part of the proof: CodH Class Step Apt MayT MayU. -/
import Derived.Test.YtgnpmceimpjheaaGreatGT8
import Derived.Test.YtgnpmceimpjheaaGreatGT3
import Derived.Handy
import Derived.Shelf.Abstract
set_option maxRecDepth 100000
set_option maxHeartbeats 16000000
namespace Go.Proofs.YtgnpmceimpjheaaGreat
open Go.RowKit
theorem ListR.get1 {β δ:Type} {E:Elt β} {R:Rp β δ} {w:World} {S:Nat→Prop} {a:Option Addr} {n c:Nat} {L:List δ} (h:ListR E R w S (a,n,c) L) (hz:E.sz=1) {k:Nat} (hk:k<L.length) {f:β→Value} (hf:∀ x,E.enc x=[f x]) :
  ∃ (x:β) (d:δ) (g o:Nat),L[k]?=some d∧R w S x d∧a=some ⟨g,o,none⟩∧S g∧g<w.heap.size∧w.cell? ⟨g,o+k,none⟩=some (f x):=by
 obtain⟨x,d,g,o,h1,h2,h3,h4,h5,h6,h7⟩:=h.get hk
 refine⟨x,d,g,o,h1,h2,h3,h4,h5,?_⟩
 have c0:=h7 0 (f x) (by rw [hf];rfl)
 rw [hz,Nat.mul_one,Nat.add_zero] at c0
 exact c0
theorem Elt.InS.getI {w:World} {S:Nat→Prop} {a:Option Addr} {n c:Nat} {L:List Int} (h:intE.InS w S (a,n,c) L) {k:Nat} (hk:k<L.length) :
  ∃ (x:Int) (g o:Nat),L[k]?=some x∧a=some ⟨g,o,none⟩∧w.cell? ⟨g,o+k,none⟩=some (.int .i64 x)∧-9223372036854775808≤x∧x≤9223372036854775807∧S g∧g<w.heap.size:=by
 obtain⟨h1,h2,g,o,h3,h4⟩:=h
 have hx:L[k]?=some L[k]:=List.getElem?_eq_getElem hk
 have hc:=h3.get hx (i:=0) (u:=.int .i64 L[k]) rfl
 rw [Nat.add_zero,show intE.sz=1 from rfl,Nat.mul_one] at hc
 obtain⟨h5,h6⟩:=h4 (by omega)
 have hok:=h3.ok _ (List.getElem_mem hk)
 exact⟨L[k],g,o,hx,h5,hc,hok.1,hok.2,h6,h3.lt (by intro e;rw [e] at hk;simp at hk)⟩
def LookPost (pg gb tk:Nat) (w:World) (Z:List Int) (e:Ending) (w':World):Prop :=
 Chg (·=pg) w w'∧((lookG tk Z=none∧e=strangeP)∨∃ A r a,lookG tk Z=some (A,r)∧e=.returned (.agg #[.slice a A.length A.length])∧autoR w' (fun k=>w.heap.size≤k) (a,A.length,A.length) A∧GetSt pg gb w' r)
theorem look_any {pg gb tk:Nat} (htk:tk≤16777215) (w:World) (Z:List Int) (h:GetSt pg gb w Z):Calls Tryz.prog 109 #[.pointer (some ⟨pg,0,none⟩),.int .i64 tk] w (LookPost pg gb tk w Z):=by
 have HG:=jh h
 clear h
 have hmf:∀ (fn:Fn) (first cap:Array Value) (w:World),(Instr.makeFunc fn first cap).run Tryz.prog w=.ok (.func fn first cap) w:=fun _ _ _ _=>rfl
 go_enter Tryz.func109,Tryz.ntmps109
 go_upto_region 1 with (fail)
 obtain⟨w0,hw0⟩:∃ W,W=(w.alloc (.cells #[.pointer (some ⟨pg,0,none⟩)] 132)).alloc (.cells #[.slice none 0 0] 63):=⟨_,rfl⟩
 rw [← hw0]
 have HC0:Hid (Chg (fun _=>False) w w0):=jh (by rw [hw0];exact ((Chg.refl _ w).alloc _).alloc _)
 have HS0:Hid (w0.heap.size=w.heap.size+2):=jh (by rw [hw0];simp)
 have HSB:Hid (GetSb pg gb w.heap.size w0 Z):=jh ⟨HG.out.fresh HC0.out,by rw [hw0];exact (Chg.refl (fun _=>False) (w.alloc _)).alloc _ |>.cellS (by rw [World.cell?_alloc_new];rfl) (fun h=>h),by have:=HG.out.lt;omega⟩
 obtain⟨ba,hba⟩:∃ b,b=w.heap.size+1:=⟨_,rfl⟩
 have HA0:Hid (w0.cell? ⟨ba,0,none⟩=some (.slice none 0 0)∧∀ j,w0.frozen? ⟨ba,j,none⟩=false):=jh (by
  have e:ba=(w.alloc (.cells #[.pointer (some ⟨pg,0,none⟩)] 132)).heap.size:=by rw [hba];simp
  rw [e,hw0]
  exact⟨by rw [World.cell?_alloc_new];rfl,fun j=>World.frozen?_alloc_new _ _ _ _⟩)
 rw [← hba]
 have HBA:Hid (ba=w.heap.size+1):=jh hba
 have HPG:Hid (pg<w.heap.size∧gb<w.heap.size):=jh ⟨HG.out.lt,HG.out.lb⟩
 clear hw0 hba
 have q0:=HSB.out.c
 go_wp2_with fail
 refine (lss_any w0 Z HSB.out).mono ?_
 rintro e w1 ⟨hc1,⟨h1,rfl⟩|⟨ss,r1,a,h1,rfl,hL,hst,hl,-,-,X0,hX,hXl,hXob,hXr⟩⟩
 ·exact⟨rfl,HC0.out.any.trans hc1,.inl ⟨by simp only [lookG,h1],rfl⟩⟩
 obtain⟨n,hn⟩:∃ n,ss.length=n:=⟨_,rfl⟩
 rw [hn] at hL hl hX hXl hXob hXr
 simp only [hn]
 have H1:=jh h1
 have HN:=jh hn
 have HC1:=jh hc1
 have hap:¬ ba=pg:=by have:=HPG.out;have:=HBA.out;omega
 have qa:=hc1.cellS HA0.out.1 hap
 have za:=(hc1.frozen (p:=⟨ba,0,none⟩) (World.block_lt_of_cell? _ _ HA0.out.1) hap).trans (HA0.out.2 0)
 have hs2:=setCellChg w1 ba 0 (.slice a n n)
 obtain⟨w2,hw2⟩:∃ W,W=w1.setCell ⟨ba,0,none⟩ (.slice a n n):=⟨_,rfl⟩
 rw [← hw2] at hs2
 have HA2:Hid (w2.cell? ⟨ba,0,none⟩=some (.slice a n n)∧w2.frozen? ⟨ba,0,none⟩=false):=jh (by rw [hw2];exact⟨World.cell?_setCell_same _ _ _ qa,(World.frozen?_setCell _ _ _ _).trans za⟩)
 have HB2:=jh (GetSb.chg hst hs2 (by omega) (by have:=HPG.out;have:=HBA.out;omega) (by have:=HBA.out;omega))
 have hblk:∀ g,(Value.slice a n n).ownBlock=some g→w0.heap.size≤g∧g<w1.heap.size:=fun g hg=>hX.blk hg
 have HX2:Hid (lsE.Own w2 w0.heap.size (.slice a n n) X0∧X0.length=n∧∀ (j:Nat) x d,X0[j]?=some x→ss[j]?=some d→ls2R w2 (fun k=>w0.heap.size≤k∧(Value.slice a n n).ownBlock≠some k∧k<w2.heap.size) x d):=jh (by
  have h0:=HS0.out
  have hb:=HBA.out
  refine⟨hX.chg hs2 (fun g hg _ e=>by omega),hXl,fun j x d hx hd=>?_⟩
  exact ls2R.good.mono (ls2R.good.chg (hXr j x d hx hd) hs2 (fun g hg e=>by have:=hg.1;omega)) (fun g hgl hg=>⟨hg.1,hg.2.2,hgl⟩))
 have HBL:Hid (∀ g,(Value.slice a n n).ownBlock=some g→w0.heap.size≤g∧g<w2.heap.size):=jh (fun g hg=>⟨(hblk g hg).1,Nat.lt_of_lt_of_le (hblk g hg).2 hs2.size⟩)
 have HC2:Hid (Chg (·=pg) w w2):=jh ((HC0.out.any.trans hc1).trans2 hs2 (fun g hg e=>by have:=HBA.out;omega))
 have HNB:Hid (n≤16777215):=jh hl
 have HS02:Hid (w0.heap.size≤w2.heap.size):=jh (Nat.le_trans hc1.size hs2.size)
 clear h1 hn hc1 hs2 hL hst hl hX hXl hXob hXr hblk HA0 q0
 have q2:=HB2.out.c
 go_upto_region 2 with (fail)
 rw [← hw2]
 clear hw2 qa za
 go_wp2_with fail
 refine (table_any w2 r1 HB2.out.g).mono ?_
 rintro e w3 ⟨hc3,⟨h3,rfl⟩|⟨LL,m,r3,la,h3,rfl,hLL,hg3,hnL,hm3,hw3⟩⟩
 ·exact⟨rfl,HC2.out.trans hc3,.inl ⟨by simp only [lookG,H1.out,h3],rfl⟩⟩
 have H3:=jh h3
 have HLK:Hid (lookG tk Z=if (m:Int)=tk+1∧LL.length=n then some (List.zipWith (fun s l=>(s.1,s.2,edgesOf l)) ss LL,r3) else none):=jh (by simp only [lookG,H1.out,H3.out,HN.out])
 have HC3:Hid (Chg (·=pg) w w3):=jh (HC2.out.trans hc3)
 have HA3:Hid (w3.cell? ⟨ba,0,none⟩=some (.slice a n n)∧w3.frozen? ⟨ba,0,none⟩=false):=jh ⟨hc3.cellS HA2.out.1 hap,(hc3.frozen (p:=⟨ba,0,none⟩) (World.block_lt_of_cell? _ _ HA2.out.1) hap).trans HA2.out.2⟩
 have HX3:Hid (lsE.Own w3 w0.heap.size (.slice a n n) X0∧∀ (j:Nat) x d,X0[j]?=some x→ss[j]?=some d→ls2R w3 (fun k=>w0.heap.size≤k∧(Value.slice a n n).ownBlock≠some k∧k<w2.heap.size) x d):=jh (by
  have h0:=HS0.out
  have hp:=HPG.out
  exact⟨HX2.out.1.chg hc3 (fun g hg _ e=>by omega),fun j x d hx hd=>ls2R.good.chg (HX2.out.2.2 j x d hx hd) hc3 (fun g hg e=>by have:=hg.1;omega)⟩)
 have HG3:=jh hg3
 have HL3:Hid (ListR listE (inR intE) w3 (fun k=>w2.heap.size≤k∧k<w3.heap.size) (la,LL.length,LL.length) LL):=jh ((ListR.good inR.good).mono hLL (fun g hg hh=>⟨hh,hg⟩))
 have HM3:Hid (LL.length≤65536∧m≤65536∧∀ l∈LL,l.length=m):=jh ⟨hnL,hm3,hw3⟩
 have HS23:Hid (w2.heap.size≤w3.heap.size):=jh hc3.size
 clear hc3 h3 hLL hg3 hnL hm3 hw3 q2 hap
 have q3:=HA3.out.1
 by_cases hmt:(m:Int)=tk+1
 ·by_cases hnl:LL.length=n
  ·rw [if_pos ⟨hmt,hnl⟩] at HLK
   subst hnl
   have b1:((m:Int) == (tk:Int)+1)=true:=by simpa using hmt
   have HMT:=jh hmt
   have HK0:Hid (KSt w0.heap.size w3 w3 a LL.length X0 X0 LL 0):=jh ⟨HX3.out.1,rfl,fun j x0 hx=>by
    have hjl:=(List.getElem?_eq_some_iff.1 hx).1
    have hjs:j<ss.length:=by have:=HN.out;have:=HX2.out.2.1;omega
    have hd:ss[j]?=some ss[j]:=List.getElem?_eq_getElem hjs
    obtain⟨-,-,-,h4⟩:=HX3.out.2 j x0 _ hx hd
    exact⟨x0.2.2,hx,fun h=>absurd h (Nat.not_lt_zero _),fun _=>h4⟩,Chg.refl _ _⟩
   clear hmt
   go_wp2_with fail
   refine (must_ok _).mono ?_
   rintro e w9 ⟨rfl,rfl⟩
   clear b1 q3
   go_wp2
   go_loopw [35] (fun q wr=>∃ (i:Nat) (X:List (Int × Sl × Sl)),i≤LL.length∧q=.int .i64 i∧KSt w0.heap.size w9 wr a LL.length X0 X LL i) (fun q _=>LL.length-(intOf q).toNat)
   case atStart=>exact⟨0,X0,by omega,rfl,HK0.out⟩
   case round =>
    clear HK0
    obtain⟨wo,rfl⟩:∃ wo,wo=wr:=⟨_,rfl⟩
    obtain⟨i,X,hi,rfl,hks⟩:=hrel
    have HK:=jh hks
    have HAW:Hid (wo.cell? ⟨ba,0,none⟩=some (.slice a LL.length LL.length)):=jh (hks.chg.cellS HA3.out.1 (fun e=>by have:=(HBL.out ba e).1;have:=HS0.out;have:=HBA.out;omega))
    clear hks
    by_cases hil:i<LL.length
    ·have b9:decide ((i:Int)<(LL.length:Int))=true:=by simp;omega
     have hib:i<65536:=by have:=HM3.out.1;omega
     have HLW:Hid (ListR listE (inR intE) wo (fun k=>w2.heap.size≤k∧k<w9.heap.size) (la,LL.length,LL.length) LL):=jh ((ListR.good inR.good).chg HL3.out HK.out.chg (fun g hg e=>by have:=(HBL.out g e).2;omega))
     obtain⟨⟨sa,sn,sc⟩,l,gl,ol,hl,hin,hla,-,-,cl⟩:=HLW.out.get1 (f:=slV) rfl hil (fun _=>rfl)
     subst hla
     obtain⟨rfl,hsc⟩:=Elt.InS.len hin
     unfold slV at cl
     simp only at cl
     have HIN:Hid (intE.InS wo (fun k=>w2.heap.size≤k∧k<w9.heap.size) (sa,l.length,sc) l):=jh hin
     have HLI:=jh hl
     have hlm:l.length≤65536:=by rw [HM3.out.2.2 l (List.mem_of_getElem? hl)];exact HM3.out.2.1
     obtain⟨x0,hx0⟩:∃ x0,X0[i]?=some x0:=⟨_,List.getElem?_eq_getElem (by rw [HX2.out.2.1];exact hil)⟩
     obtain⟨e0,hxe,-,he0⟩:=HK.out.eq i x0 hx0
     have he0:=he0 (Nat.le_refl _)
     subst he0
     obtain⟨g,rfl,-,-,-,-,-,hgB,hgl⟩:=lsOwn_get HK.out.own hxe
     have HX0I:=jh hx0
     have HXE:=jh hxe
     have HGG:Hid (w0.heap.size≤g∧g<w2.heap.size):=jh (HBL.out g rfl)
     clear hl hin hx0 hxe
     go_wp2
     clear cl
     go_loopw [42] (fun q wr=>∃ (k:Nat) (e:Sl),k≤l.length∧q=.int .i64 k∧lsE.Own wr w0.heap.size (.slice (some ⟨g,0,none⟩) LL.length LL.length) (X.set i (x0.1,x0.2.1,e))∧ledgeE.Own wr wo.heap.size (slV e) (edgesFrom (-1) (l.take k))∧Chg (·=g) wo wr) (fun q _=>l.length-(intOf q).toNat)
     case atStart=>exact⟨0,(none,0,0),by omega,rfl,by
      rw [show X.set i (x0.1,x0.2.1,(none,0,0))=X from List.ext_getElem? (fun j=>by
       by_cases hj:j=i
       ·subst hj
        rw [List.getElem?_set_self (List.getElem?_eq_some_iff.1 HXE.out).1,HXE.out]
       ·rw [List.getElem?_set_ne (Ne.symm hj)])]
      exact HK.out.own,.nil _ _,Chg.refl _ _⟩
     case round =>
      obtain⟨k,⟨ea,en,ec⟩,hk,rfl,hox,hoe,hcw⟩:=hrel
      have HOX:=jh hox
      have HOE:Hid (ledgeE.Own wr wo.heap.size (.slice ea en ec) (edgesFrom (-1) (l.take k))):=jh hoe
      have HCW:=jh hcw
      have hXL:X.length=LL.length:=by rw [HK.out.len,HX2.out.2.1]
      have hxs:(X.set i (x0.1,x0.2.1,(ea,en,ec)))[i]?=some (x0.1,x0.2.1,(ea,en,ec)):=List.getElem?_set_self (by rw [hXL];exact hil)
      have HXS:=jh hxs
      have HINR:Hid (intE.InS wr (fun k=>w2.heap.size≤k∧k<w9.heap.size) (sa,l.length,sc) l):=jh (HIN.out.chg hcw (fun g' hg' e=>by have:=HGG.out.2;omega))
      have HAR:Hid (wr.cell? ⟨ba,0,none⟩=some (.slice (some ⟨g,0,none⟩) LL.length LL.length)):=jh (hcw.cellS HAW.out (by have:=HGG.out;have:=HS0.out;have:=HBA.out;show ¬ ba=g;omega))
      clear hox hoe hcw hxs hXL
      by_cases hkl:k<l.length
      ·have b8:decide ((k:Int)<(l.length:Int))=true:=by simp;omega
       have hkb:k<65536:=by omega
       obtain⟨x,gx,ox,hx,rfl,cx,x1,x2,-,-⟩:=HINR.out.getI hkl
       have HTK:=jh (edges_take hx)
       clear hx
       by_cases hxp:0≤x
       ·have b7:decide (0≤x)=true:=by simpa using hxp
        rw [if_pos hxp] at HTK
        go_upto_region 11 with (fail)
        obtain⟨wd,hwd⟩:∃ W,wr.drew=W:=⟨_,rfl⟩
        have HDD:Hid (Chg (fun _=>False) wr wd):=jh (by rw [← hwd];exact (Chg.refl _ _).drew)
        have HOXD:=jh (HOX.out.chg HDD.out (fun _ _ _ h=>h))
        have HOED:=jh (HOE.out.chg HDD.out (fun _ _ _ h=>h))
        have HCWD:Hid (Chg (·=g) wo wd):=jh (HCW.out.trans HDD.out.any)
        have HAD:=jh (HDD.out.cellS HAR.out (fun h=>h))
        have HEC:Hid (wd.cell? ⟨g,i * 3+2,none⟩=some (.slice ea en ec)∧wd.frozen? ⟨g,i * 3+2,none⟩=false):=jh (by
         obtain⟨g',hg',-,-,-,h5,h6,-⟩:=lsOwn_get HOXD.out HXS.out
         injection hg' with hg'
         injection hg' with hg'
         subst hg'
         exact⟨h5,h6 _⟩)
        refine wp_region_late (fun x=>Chg (fun k=>wo.heap.size≤k) wd x) (fun i=>decide (17≤i)) (by kernel_rfl) ?_
        have HGO:Hid (¬ wo.heap.size≤g∧¬ wo.heap.size≤ba):=jh (by have:=HK.out.chg.size;have:=HBA.out;have:=HS0.out;have:=HGG.out;have:=HS23.out;omega)
        show wpAnyL _ _ _ _ _ _ 18 (Array.replicate 18 false) _ wr.drew
        rw [hwd]
        clear hwd
        have HSS:Hid (Chg (fun k=>wo.heap.size≤k) wd wd):=jh (Chg.refl _ _)
        have hwk:IntKind.i64.wrap ((k:Int)-1)=(k:Int)-1:=by rw [IntKind.wrap_i64];omega
        (refine lrd 0 HSS.out fun K hK=>?_;apply ei;intro w' hC;(go_simp;try with_reducible rfl);(try go_simp);refine hK _ ?_;clear hK K)
        (refine lrd 1 HSS.out fun K hK=>?_;apply ei;intro w' hC;((have q:=hC.cellS HAD.out HGO.out.2);go_simp;try with_reducible rfl);(try go_simp);refine hK _ ?_;clear hK K)
        (refine lrd 2 HSS.out fun K hK=>?_;apply ei;intro w' hC;(go_simp;try with_reducible rfl);(try go_simp);refine hK _ ?_;clear hK K)
        (refine lrd 3 HSS.out fun K hK=>?_;apply ei;intro w' hC;(go_simp;try with_reducible rfl);(try go_simp);refine hK _ ?_;clear hK K)
        (refine lrd 4 HSS.out fun K hK=>?_;apply ei;intro w' hC;((have q:=hC.cellS HAD.out HGO.out.2);go_simp;try with_reducible rfl);(try go_simp);refine hK _ ?_;clear hK K)
        (refine lrd 5 HSS.out fun K hK=>?_;apply ei;intro w' hC;(go_simp;try with_reducible rfl);(try go_simp);refine hK _ ?_;clear hK K)
        (refine lrd 6 HSS.out fun K hK=>?_;apply ei;intro w' hC;(go_simp;try with_reducible rfl);(try go_simp);refine hK _ ?_;clear hK K)
        (refine lrd 7 HSS.out fun K hK=>?_;apply ei;intro w' hC;(go_simp;try with_reducible rfl);(try go_simp);refine hK _ ?_;clear hK K)
        (refine lrd 8 HSS.out fun K hK=>?_;apply ei;intro w' hC;((have q:=hC.cellS HEC.out.1 HGO.out.1);go_simp;try with_reducible rfl);(try go_simp);refine hK _ ?_;clear hK K)
        (refine lrd 9 HSS.out fun K hK=>?_;apply ei;intro w' hC;(go_simp;try with_reducible rfl);(try go_simp);refine hK _ ?_;clear hK K)
        (refine lrd 10 HSS.out fun K hK=>?_;apply ei;intro w' hC;(go_simp;try with_reducible rfl);(try go_simp);refine hK _ ?_;clear hK K)
        clear hwk
        (refine lrd 11 HSS.out fun K hK=>?_;apply ei;intro w' hC;(go_simp;try with_reducible rfl);(try go_simp);refine hK _ ?_;clear hK K)
        (refine lrd 12 HSS.out fun K hK=>?_;apply ei;intro w' hC;(go_simp;try with_reducible rfl);(try go_simp);refine hK _ ?_;clear hK K)
        have HYB:Hid (∀ z∈[((k:Int)-1,x)],ledgeE.ok z):=jh (fun z hz=>by rw [List.mem_singleton] at hz;rw [hz];exact⟨⟨by show (-9223372036854775808:Int)≤(k:Int)-1;omega,by show (k:Int)-1≤9223372036854775807;omega⟩,⟨x1,x2⟩⟩)
        (refine late_turn (i:=13) (by kernel_rfl) rfl rfl fun K hK=>?_;apply Exists.intro;apply Exists.intro;refine⟨?_,?_,?_⟩;(go_simp;try first|with_reducible rfl|exact⟨rfl,rfl⟩);(exact fun _=>(Chg.refl _ _).alloc _);(try go_simp);refine hK _ _ ?_;clear hK K)
        obtain⟨w4,hw4⟩:∃ W,W=wd.alloc (.cells #[.int .i64 ((k:Int)-1),.int .i64 x] 149):=⟨_,rfl⟩
        have HC4:Hid (Chg (fun _=>False) wd w4):=jh (by rw [hw4];exact (Chg.refl _ _).alloc _)
        have HSRC:Hid (Src Tryz.prog ledgeE.sz ledgeE.sl (.slice (some ⟨wd.heap.size,0,none⟩) 1 1) 1 (ledgeE.encs [((k:Int)-1,x)]) w4):=jh (by rw [hw4];exact ledgeE.srcLit (Y:=[((k:Int)-1,x)]) 1 HYB.out)
        rw [← hw4]
        clear hw4
        have HB4:Hid (wo.heap.size≤w4.heap.size∧g<wo.heap.size):=jh ⟨Nat.le_trans HCWD.out.size HC4.out.size,hgl⟩
        have HO4:Hid (ledgeE.Own w4 wo.heap.size (.slice ea en ec) (edgesFrom (-1) (l.take k))):=jh (HOED.out.chg HC4.out (fun _ _ _ h=>h))
        have HEL:Hid ((edgesFrom (-1) (l.take k)).length≤65536):=jh (by have:=edgesFrom_length (l.take k) (-1);rw [List.length_take] at this;omega)
        refine late_append (i:=14) (by kernel_rfl) rfl rfl (.tmp 57) (.tmp 62) 65 65 rfl (.slice ea en ec) (.slice (some ⟨wd.heap.size,0,none⟩) 1 1) rfl rfl (fun v' w5=>ledgeE.Own w5 wo.heap.size v' (edgesFrom (-1) (l.take k)++[((k:Int)-1,x)])∧Chg (fun k=>wo.heap.size≤k) w4 w5∧∃ a n c,v'=.slice a n c) ?_ ?_
        ·obtain⟨v',w5,hrun,h1,h2,-,-⟩:=HO4.out.append HB4.out.1 65 (.slice (some ⟨wd.heap.size,0,none⟩) 1 1) [((k:Int)-1,x)] HSRC.out HYB.out (by have:=HEL.out;simp;omega) 65
         exact⟨v',w5,hrun,(fun _=>HC4.out.any.trans h2),h1,h2,h1.shape3⟩
        rintro v' w5-⟨o1,o2,na,nn,nc,rfl⟩ K hK
        have hc5:Chg (fun k=>wo.heap.size≤k) wd w5:=HC4.out.any.trans o2
        have k1:=hc5.cellS HEC.out.1 (by have:=HB4.out.2;show ¬ wo.heap.size≤g;omega)
        have k2:=(hc5.frozen (p:=⟨g,i * 3+2,none⟩) (World.block_lt_of_cell? _ _ HEC.out.1) (by have:=HB4.out.2;show ¬ wo.heap.size≤g;omega)).trans HEC.out.2
        have HOX5:Hid (lsE.Own (w5.setCell ⟨g,i * 3+2,none⟩ (.slice na nn nc)) w0.heap.size (.slice (some ⟨g,0,none⟩) LL.length LL.length) (X.set i (x0.1,x0.2.1,(na,nn,nc)))):=jh (by
         have h1:=lsOwn_set (HOXD.out.chgB hc5 (fun g' hg' e=>by obtain rfl:g=g':=(by simpa [Value.ownBlock] using hg');have:=HB4.out.2;omega)) HXS.out (na,nn,nc)
         rw [List.set_set] at h1
         exact h1)
        have hsc5:=setCellChg w5 g (i * 3+2) (.slice na nn nc)
        have HOE5:Hid (ledgeE.Own (w5.setCell ⟨g,i * 3+2,none⟩ (.slice na nn nc)) wo.heap.size (slV (na,nn,nc)) (edgesFrom (-1) (l.take (k+1)))):=jh (by
         rw [HTK.out]
         exact o1.chg hsc5 (fun g' hg' _ e=>by have:=HB4.out.2;omega))
        have HCW5:Hid (Chg (·=g) wo (w5.setCell ⟨g,i * 3+2,none⟩ (.slice na nn nc))):=jh ((HCWD.out.trans2 hc5 (fun g' hg' e=>absurd e (Nat.not_le.2 hg'))).trans hsc5)
        have HC45:=jh hc5
        clear o1 o2 hc5 hsc5
        (try go_simp)
        refine hK _ ?_
        clear hK K
        (refine late_turn (i:=15) (by kernel_rfl) rfl rfl fun K hK=>?_;apply Exists.intro;apply Exists.intro;refine⟨?_,?_,?_⟩;(go_simp;try first|with_reducible rfl|exact⟨rfl,rfl⟩);(exact fun _=>HC45.out);(try go_simp);refine hK _ _ ?_;clear hK K)
        (refine late_turn (i:=16) (by kernel_rfl) rfl rfl fun K hK=>?_;apply Exists.intro;apply Exists.intro;refine⟨?_,?_,?_⟩;(go_simp;try first|with_reducible rfl|exact⟨rfl,rfl⟩);(exact fun _=>HC45.out);(try go_simp);refine hK _ _ ?_;clear hK K)
        (refine late_store (i:=17) (by kernel_rfl) rfl rfl fun K hK=>?_;apply Exists.intro;refine⟨?_,(fun h=>absurd h (by decide)),?_⟩;(go_simp;try first|with_reducible rfl|exact⟨rfl,rfl⟩);(try go_simp);refine hK _ _ ?_;clear hK K)
        refine late_done (by kernel_rfl) ?_ _
        clear k1 k2
        go_wp2
        go_roundw
        case rel=>exact⟨k+1,_,by omega,by go_num,HOX5.out,HOE5.out,HCW5.out⟩
        case measure=>simp [intOf];omega
       ·have b7:decide (0≤x)=false:=by simpa using hxp
        rw [if_neg hxp,List.append_nil] at HTK
        rw [← HTK.out] at HOE
        go_wp2
        go_roundw
        case rel=>exact⟨k+1,_,by omega,by go_num,HOX.out,HOE.out,HCW.out⟩
        case measure=>simp [intOf];omega
      ·obtain rfl:k=l.length:=by omega
       have b8:decide ((l.length:Int)<(l.length:Int))=false:=by simp
       rw [List.take_length] at HOE
       obtain⟨_,_,hv,hec,he⟩:=HOE.out.clip
       injection hv with e1 e2 e3
       subst e1 e3
       have HE:Hid (ledgeE.Own wr wo.heap.size (.slice ea en en) (edgesOf l)):=jh (by rw [e2];exact he)
       rw [← e2] at hec
       clear e2 he
       go_upto_region 13 with (fail)
       obtain⟨wd,hwd⟩:∃ W,wr.drew=W:=⟨_,rfl⟩
       have HDD:Hid (Chg (fun _=>False) wr wd):=jh (by rw [← hwd];exact (Chg.refl _ _).drew)
       have HOXD:=jh (HOX.out.chg HDD.out (fun _ _ _ h=>h))
       have HED:=jh (HE.out.chg HDD.out (fun _ _ _ h=>h))
       have HCWD:Hid (Chg (·=g) wo wd):=jh (HCW.out.trans HDD.out.any)
       have HAD:=jh (HDD.out.cellS HAR.out (fun h=>h))
       have HEC:Hid (wd.cell? ⟨g,i * 3+2,none⟩=some (.slice ea en ec)∧wd.frozen? ⟨g,i * 3+2,none⟩=false):=jh (by
        obtain⟨g',hg',-,-,-,h5,h6,-⟩:=lsOwn_get HOXD.out HXS.out
        injection hg' with hg'
        injection hg' with hg'
        subst hg'
        exact⟨h5,h6 _⟩)
       refine wp_region_late (fun x=>x=wd) (fun i=>decide (12≤i)) (by kernel_rfl) ?_
       show wpAnyL _ _ _ _ _ _ 13 (Array.replicate 13 false) _ wr.drew
       rw [hwd]
       clear hwd
       have HSS:Hid (wd=wd):=jh rfl
       (refine lrd 0 HSS.out fun K hK=>?_;apply ei;intro w' hC;(go_simp;try with_reducible rfl);(try go_simp);refine hK _ ?_;clear hK K)
       (refine lrd 1 HSS.out fun K hK=>?_;apply ei;intro w' hC;((subst hC;have q:=HAD.out);go_simp;try with_reducible rfl);(try go_simp);refine hK _ ?_;clear hK K)
       (refine lrd 2 HSS.out fun K hK=>?_;apply ei;intro w' hC;(go_simp;try with_reducible rfl);(try go_simp);refine hK _ ?_;clear hK K)
       (refine lrd 3 HSS.out fun K hK=>?_;apply ei;intro w' hC;(go_simp;try with_reducible rfl);(try go_simp);refine hK _ ?_;clear hK K)
       (refine lrd 4 HSS.out fun K hK=>?_;apply ei;intro w' hC;((subst hC;have q:=HAD.out);go_simp;try with_reducible rfl);(try go_simp);refine hK _ ?_;clear hK K)
       (refine lrd 5 HSS.out fun K hK=>?_;apply ei;intro w' hC;(go_simp;try with_reducible rfl);(try go_simp);refine hK _ ?_;clear hK K)
       (refine lrd 6 HSS.out fun K hK=>?_;apply ei;intro w' hC;(go_simp;try with_reducible rfl);(try go_simp);refine hK _ ?_;clear hK K)
       (refine lrd 7 HSS.out fun K hK=>?_;apply ei;intro w' hC;(go_simp;try with_reducible rfl);(try go_simp);refine hK _ ?_;clear hK K)
       (refine lrd 8 HSS.out fun K hK=>?_;apply ei;intro w' hC;((subst hC;have q:=HEC.out.1);go_simp;try with_reducible rfl);(try go_simp);refine hK _ ?_;clear hK K)
       refine late_call (i:=9) (by kernel_rfl) rfl rfl 150 #[.slice ea en ec] (fun q w''=>q=.slice ea en en∧wd=w'') (by go_simp) ?_ ?_
       ·refine (clipLe wd ea en ec hec).mono ?_
        rintro e w2 ⟨rfl,rfl⟩
        exact⟨_,rfl,fun _=>rfl,rfl,rfl⟩
       rintro q w''-⟨rfl,rfl⟩ K hK
       (try go_simp)
       refine hK _ ?_
       clear hK K
       (refine late_turn (i:=10) (by kernel_rfl) rfl rfl fun K hK=>?_;apply Exists.intro;apply Exists.intro;refine⟨?_,?_,?_⟩;(go_simp;try first|with_reducible rfl|exact⟨rfl,rfl⟩);(exact fun _=>rfl);(try go_simp);refine hK _ _ ?_;clear hK K)
       (refine late_turn (i:=11) (by kernel_rfl) rfl rfl fun K hK=>?_;apply Exists.intro;apply Exists.intro;refine⟨?_,?_,?_⟩;(go_simp;try first|with_reducible rfl|exact⟨rfl,rfl⟩);(exact fun _=>rfl);(try go_simp);refine hK _ _ ?_;clear hK K)
       have k1:=HEC.out.1
       have k2:=HEC.out.2
       (refine late_store (i:=12) (by kernel_rfl) rfl rfl fun K hK=>?_;apply Exists.intro;refine⟨?_,(fun h=>absurd h (by decide)),?_⟩;(go_simp;try first|with_reducible rfl|exact⟨rfl,rfl⟩);(try go_simp);refine hK _ _ ?_;clear hK K)
       refine late_done (by kernel_rfl) ?_ _
       clear k1 k2
       have hsc5:=setCellChg wd g (i * 3+2) (.slice ea en en)
       obtain⟨we,hwe⟩:∃ W,W=wd.setCell ⟨g,i * 3+2,none⟩ (.slice ea en en):=⟨_,rfl⟩
       have HOX5:Hid (lsE.Own we w0.heap.size (.slice (some ⟨g,0,none⟩) LL.length LL.length) (X.set i (x0.1,x0.2.1,(ea,en,en)))):=jh (by
        have h1:=lsOwn_set HOXD.out HXS.out (ea,en,en)
        rw [List.set_set] at h1
        rw [hwe]
        exact h1)
       rw [← hwe] at hsc5 ⊢
       clear hwe
       have HKN:Hid (KSt w0.heap.size w9 we (some ⟨g,0,none⟩) LL.length X0 (X.set i (x0.1,x0.2.1,(ea,en,en))) LL (i+1)):=jh (by
        have hce:Chg (·=g) wo we:=HCWD.out.trans hsc5
        have hgg:=HGG.out
        have h23:=HS23.out
        have h9o:=HK.out.chg.size
        refine⟨HOX5.out,by rw [List.length_set];exact HK.out.len,fun j y0 hy0=>?_,HK.out.chg.trans (hce.mono (fun k _ e=>by rw [e];rfl))⟩
        by_cases hji:j=i
        ·subst hji
         rw [HX0I.out] at hy0
         obtain rfl:=Option.some.inj hy0
         refine⟨(ea,en,en),List.getElem?_set_self (List.getElem?_eq_some_iff.1 HXE.out).1,fun _=>⟨l,HLI.out,?_⟩,fun h=>absurd h (by omega)⟩
         have h1:=(HED.out.chg hsc5 (fun g' hg' _ e=>by have:=HCW.out.size;omega)).in' (c':=en) (Nat.le_refl _)
         exact (Elt.In.inS h1).mono (fun g' _ hg'=>by show w9.heap.size≤g';omega)
        ·obtain⟨e,h1,h2,h3⟩:=HK.out.eq j y0 hy0
         refine⟨e,by rw [List.getElem?_set_ne (Ne.symm hji)];exact h1,fun h=>?_,fun h=>h3 (by omega)⟩
         obtain⟨l',h4,h5⟩:=h2 (by omega)
         exact⟨l',h4,h5.chg hce (fun g' hg' e=>by omega)⟩)
       clear hsc5
       go_wp2
       go_roundw
       case rel=>exact⟨i+1,_,by omega,by go_num,HKN.out⟩
       case measure=>simp [intOf];omega
    ·obtain rfl:i=LL.length:=by omega
     have b9:decide ((LL.length:Int)<(LL.length:Int))=false:=by simp
     have qa:=HAW.out
     have hab:ba<wo.heap.size:=World.block_lt_of_cell? _ _ qa
     have za:wo.frozen? ⟨ba,0,none⟩=false:=(HK.out.chg.frozen (p:=⟨ba,0,none⟩) (World.block_lt_of_cell? _ _ HA3.out.1) (fun e=>by have:=(HBL.out ba e).1;have:=HS0.out;have:=HBA.out;omega)).trans HA3.out.2
     have s0:(wo.setCell ⟨ba,0,none⟩ (.slice a LL.length LL.length)).cell? ⟨ba,0,none⟩=some (.slice a LL.length LL.length):=World.cell?_setCell_same _ _ _ qa
     have HFIN:Hid (LookPost pg gb tk w Z (.returned (.agg #[.slice a (List.zipWith (fun (s:Int × List Int) l=>(s.1,s.2,edgesOf l)) ss LL).length (List.zipWith (fun (s:Int × List Int) l=>(s.1,s.2,edgesOf l)) ss LL).length])) (wo.setCell ⟨ba,0,none⟩ (.slice a LL.length LL.length))):=jh (by
      have hsc:=setCellChg wo ba 0 (.slice a LL.length LL.length)
      have h0:=HS0.out
      have hb:=HBA.out
      have hp:=HPG.out
      have h23:=HS23.out
      have h9o:=HK.out.chg.size
      have h02:=HS02.out
      have hzl:(List.zipWith (fun (s:Int × List Int) l=>(s.1,s.2,edgesOf l)) ss LL).length=LL.length:=by rw [List.length_zipWith,HN.out,Nat.min_self]
      have hbb:=HBL.out
      have hco:Chg (fun k=>(Value.slice a LL.length LL.length).ownBlock=some k) w9 wo:=HK.out.chg
      refine⟨((HC3.out.trans2 hco (fun g' hg' e=>by have:=(hbb g' e).1;omega)).trans2 hsc (fun g' hg' e=>by omega)),.inr ⟨_,_,_,HLK.out,rfl,?_,(HG3.out.chg hco (fun e=>by have:=(hbb _ e).1;omega) (fun e=>by have:=(hbb _ e).1;omega)).chg hsc (by omega) (by omega)⟩⟩
      refine⟨X,?_,?_,fun j x d hx hd=>?_⟩
      ·rw [hzl]
       exact (Elt.In.inS (((HK.out.own.chg hsc (fun g' hg' _ e=>by omega))).in' (c':=LL.length) (Nat.le_refl _))).mono (fun g' _ hg'=>by show w.heap.size≤g';omega)
      ·rw [hzl,HK.out.len];exact HX2.out.2.1
      ·have hjX:=(List.getElem?_eq_some_iff.1 hx).1
       have hjL:j<LL.length:=by rw [HK.out.len,HX2.out.2.1] at hjX;exact hjX
       obtain⟨x0,hx0⟩:∃ x0,X0[j]?=some x0:=⟨_,List.getElem?_eq_getElem (by rw [HX2.out.2.1];exact hjL)⟩
       obtain⟨e,h1,h2,-⟩:=HK.out.eq j x0 hx0
       rw [hx] at h1
       obtain rfl:=Option.some.inj h1
       obtain⟨l,h4,h5⟩:=h2 hjL
       obtain⟨s,hs⟩:∃ s,ss[j]?=some s:=⟨_,List.getElem?_eq_getElem (by rw [HN.out];exact hjL)⟩
       rw [List.getElem?_zipWith,hs,h4] at hd
       simp only [Option.some.injEq] at hd
       subst hd
       obtain⟨r1,r2,r3,-⟩:=HX3.out.2 j x0 s hx0 hs
       exact⟨r1,r2,((r3.chg hco (fun g' hg' e=>hg'.2.1 e)).chg hsc (fun g' hg' e=>by have:=hg'.1;omega)).mono (fun g' _ hg'=>by show w.heap.size≤g';have:=hg'.1;omega),(h5.chg hsc (fun g' hg' e=>by omega)).mono (fun g' _ hg'=>by show w.heap.size≤g';omega)⟩)
     have hzl:(List.zipWith (fun (s:Int × List Int) l=>(s.1,s.2,edgesOf l)) ss LL).length=LL.length:=by rw [List.length_zipWith,HN.out,Nat.min_self]
     rw [hzl] at HFIN
     clear hzl hab
     go_wp2
     exact bodyPost_ret (v:=.agg #[.slice a LL.length LL.length]) (by simp [results,Tryz.results109,go_sem,s0]) rfl HFIN.out
  ·have HF:Hid (lookG tk Z=none):=jh (by rw [HLK.out,if_neg (fun h=>hnl h.2)])
   have b1:((m:Int) == (tk:Int)+1)=true:=by simpa using hmt
   have b2:((LL.length:Int) == (n:Int))=false:=by simp;omega
   have b2':(LL.length == n)=false:=by simpa using hnl
   clear hmt
   go_wp2_with fail
   refine (must_no _).mono ?_
   rintro e w9 ⟨rfl,rfl⟩
   exact⟨rfl,HC3.out,.inl ⟨HF.out,rfl⟩⟩
 ·have HF:Hid (lookG tk Z=none):=jh (by rw [HLK.out,if_neg (fun h=>hmt h.1)])
  have b1:((m:Int) == (tk:Int)+1)=false:=by simpa using hmt
  clear hmt
  go_wp2_with fail
  refine (must_no _).mono ?_
  rintro e w9 ⟨rfl,rfl⟩
  exact⟨rfl,HC3.out,.inl ⟨HF.out,rfl⟩⟩
end Go.Proofs.YtgnpmceimpjheaaGreat
namespace Go.Proofs.YtgnpmceimpjheaaGreat
open Go.RowKit
def GivesI (f:FuncId) (lb:Array Value) (p:Int→Bool) (w:World):Prop:=∀ (x:Int) (w':World),I.Byte x→Chg (fun _=>False) w w' →
 Calls Tryz.prog f (#[.int .i64 x]++lb) w' fun e w''=>e=.returned (.bool (p x))∧Chg (fun _=>False) w' w''
theorem indexInt_any (f:FuncId) (lb:Array Value) (p:Int→Bool) (Z:List Int) (a:Option Addr) (c B:Nat) (w:World) (eg:∀ args w,(callFunc f args).run Tryz.prog w=.ok (.enter f args) w) (h:intE.In w B (a,Z.length,c) Z) (hp:GivesI f lb p w) (hl:Z.length≤1000000000) :
  Calls Tryz.prog 131 #[.slice a Z.length c,.func (.func f) #[] lb] w fun e w'=>e=.returned (.int .i64 (idxV p Z))∧Chg (fun _=>False) w w':=by
 have HL:=jh h
 have HP:=jh hp
 clear h hp
 go_enter Tryz.func131,Tryz.ntmps131
 go_wp2
 go_loopw [8] (fun q wr=>∃ k:Nat,k≤Z.length∧q=.int .i64 k∧(∀ (j:Nat) y,j<k→Z[j]?=some y→p y=false)∧Chg (fun _=>False) w wr) (fun q _=>Z.length-(intOf q).toNat)
 case atStart=>exact⟨0,by omega,rfl,fun j y h=>absurd h (Nat.not_lt_zero _),Chg.refl _ _⟩
 case round =>
  obtain⟨k,hk,rfl,hb,hc⟩:=hrel
  have HB:=jh hb
  have HC:=jh hc
  clear hb hc
  by_cases hkl:k<Z.length
  ·have b9:decide ((k:Int)<(Z.length:Int))=true:=by simp;omega
   obtain⟨x,g,o,hx,rfl,c0,x0,x1,-,-⟩:=(HL.out.same HC.out).getI hkl
   have HX:=jh hx
   clear hx
   have hcall:=HP.out x wr ⟨x0,x1⟩ HC.out
   cases hxi:p x with
   | true =>
    rw [hxi] at hcall
    have HF:Hid (idxV p Z=k):=jh (idxV_found HX.out hxi HB.out)
    have HCALL:=jh hcall
    clear hcall hxi
    go_wp2_with fail
    refine HCALL.out.mono ?_
    rintro e w2 ⟨rfl,hc2⟩
    have HC2:=jh (HC.out.trans hc2)
    clear hc2 c0
    go_wp2
    go_ret
    exact⟨by rw [HF.out];rfl,HC2.out⟩
   | false =>
    rw [hxi] at hcall
    have HB2:Hid (∀ (j:Nat) y,j<k+1→Z[j]?=some y→p y=false):=jh (fun j y hj hy=>by
     by_cases he:j=k
     ·subst he;rw [HX.out] at hy;obtain rfl:=Option.some.inj hy;exact hxi
     ·exact HB.out j y (by omega) hy)
    have HCALL:=jh hcall
    clear hcall hxi
    go_wp2_with fail
    refine HCALL.out.mono ?_
    rintro e w2 ⟨rfl,hc2⟩
    have HC2:=jh (HC.out.trans hc2)
    clear hc2 c0
    go_wp2
    go_roundw
    case rel=>exact⟨k+1,by omega,by go_num,HB2.out,HC2.out⟩
    case measure=>simp [intOf];omega
  ·obtain rfl:k=Z.length:=by omega
   have HF:Hid (idxV p Z=-1):=jh (idxV_none HB.out)
   go_wp2
   go_ret
   exact⟨by rw [HF.out];rfl,HC.out⟩
theorem containsI_any (f:FuncId) (lb:Array Value) (p:Int→Bool) (Z:List Int) (a:Option Addr) (c B:Nat) (w:World) (eg:∀ args w,(callFunc f args).run Tryz.prog w=.ok (.enter f args) w) (h:intE.In w B (a,Z.length,c) Z) (hp:GivesI f lb p w) (hl:Z.length≤1000000000) :
  Calls Tryz.prog 89 #[.slice a Z.length c,.func (.func f) #[] lb] w fun e w'=>e=.returned (.bool (Z.any p))∧Chg (fun _=>False) w w':=by
 have HL:=jh h
 have HP:=jh hp
 clear h hp
 rcases idx_cases p Z with ⟨k,x,-,-,h3,-,h5⟩|⟨h3,-,h5⟩
 all_goals
  have HI:=jh h3
  have HN:=jh h5
  clear h3 h5
  go_enter Tryz.func89,Tryz.ntmps89
  go_wp2_with fail
  refine (indexInt_any f lb p Z a c B _ eg HL.out HP.out hl).mono ?_
  rintro e w2 ⟨rfl,hc2⟩
  rw [HI.out]
  have HC:=jh hc2
  clear hc2
  go_wp2
  go_ret
  exact⟨by rw [HN.out];rfl,HC.out⟩
def hasB (x:Int) (Z:List Int):Bool:=Z.any (fun y=>x == y)
theorem hasB_contains (x:Int) (Z:List Int):hasB x Z=Z.contains x:=by
 unfold hasB
 rw [List.any_beq]
theorem index_any (v:Int) (Z:List Int) (a:Option Addr) (c B:Nat) (w:World) (h:intE.In w B (a,Z.length,c) Z) (hl:Z.length≤1000000000) :
  Calls Tryz.prog 165 #[.slice a Z.length c,.int .i64 v] w fun e w'=>e=.returned (.int .i64 (idxV (fun y=>v == y) Z))∧Chg (fun _=>False) w w':=by
 have HL:=jh h
 clear h
 go_enter Tryz.func165,Tryz.ntmps165
 go_wp2
 go_loopw [8] (fun q wr=>∃ k:Nat,k≤Z.length∧q=.int .i64 k∧(∀ (j:Nat) y,j<k→Z[j]?=some y→(v == y)=false)∧Chg (fun _=>False) w wr) (fun q _=>Z.length-(intOf q).toNat)
 case atStart=>exact⟨0,by omega,rfl,fun j y h=>absurd h (Nat.not_lt_zero _),Chg.refl _ _⟩
 case round =>
  obtain⟨k,hk,rfl,hb,hc⟩:=hrel
  have HB:=jh hb
  have HC:=jh hc
  clear hb hc
  by_cases hkl:k<Z.length
  ·have b9:decide ((k:Int)<(Z.length:Int))=true:=by simp;omega
   obtain⟨x,g,o,hx,rfl,c0,x0,x1,-,-⟩:=(HL.out.same HC.out).getI hkl
   have HX:=jh hx
   clear hx
   cases hxi:(v == x) with
   | true =>
    have HF:Hid (idxV (fun y=>v == y) Z=k):=jh (idxV_found (p:=fun y=>v == y) HX.out hxi HB.out)
    go_wp2
    go_ret
    exact⟨by rw [HF.out];rfl,HC.out⟩
   | false =>
    have HB2:Hid (∀ (j:Nat) y,j<k+1→Z[j]?=some y→(v == y)=false):=jh (fun j y hj hy=>by
     by_cases he:j=k
     ·subst he;rw [HX.out] at hy;obtain rfl:=Option.some.inj hy;exact hxi
     ·exact HB.out j y (by omega) hy)
    go_wp2
    go_roundw
    case rel=>exact⟨k+1,by omega,by go_num,HB2.out,HC.out⟩
    case measure=>simp [intOf];omega
  ·obtain rfl:k=Z.length:=by omega
   have HF:Hid (idxV (fun y=>v == y) Z=-1):=jh (idxV_none (p:=fun y=>v == y) HB.out)
   go_wp2
   go_ret
   exact⟨by rw [HF.out];rfl,HC.out⟩
theorem contains_any (v:Int) (Z:List Int) (a:Option Addr) (c B:Nat) (w:World) (h:intE.In w B (a,Z.length,c) Z) (hl:Z.length≤1000000000) :
  Calls Tryz.prog 125 #[.slice a Z.length c,.int .i64 v] w fun e w'=>e=.returned (.bool (hasB v Z))∧Chg (fun _=>False) w w':=by
 have HL:=jh h
 clear h
 rcases idx_cases (fun y=>v == y) Z with ⟨k,x,-,-,h3,-,h5⟩|⟨h3,-,h5⟩
 all_goals
  have HI:=jh h3
  have HN:Hid (hasB v Z=_):=jh h5
  clear h3 h5
  go_enter Tryz.func125,Tryz.ntmps125
  go_wp2_with fail
  refine (index_any v Z a c B _ HL.out hl).mono ?_
  rintro e w2 ⟨rfl,hc2⟩
  rw [HI.out]
  have HC:=jh hc2
  clear hc2
  go_wp2
  go_ret
  exact⟨by rw [HN.out];rfl,HC.out⟩
end Go.Proofs.YtgnpmceimpjheaaGreat
namespace Go.Proofs.YtgnpmceimpjheaaGreat
open Go.RowKit
structure Fair (t:LexD):Prop where
 r:t.r.length≤1000000000
 c:t.c.length≤1000000000
 n:t.n.length≤1000000000
 e:t.e.length≤1000000000
 l:∀ l∈t.n,l.length≤1000000000
end Go.Proofs.YtgnpmceimpjheaaGreat
namespace Go.Proofs.YtgnpmceimpjheaaGreat
open Go.RowKit
theorem apOk_bad {R:List (Int × Int)} {k:Nat} {x y:Int} (h:R[k]?=some (x,y)) (hb:y<x):apOk R k=false:=by
 unfold apOk
 rw [List.getD_eq_getElem?_getD,h]
 simp only [Option.getD_some]
 rw [decide_eq_false (by omega)]
 rfl
theorem apOk_zero {R:List (Int × Int)} {x y:Int} (h:R[0]?=some (x,y)) (hb:x≤y):apOk R 0=true:=by
 unfold apOk
 rw [List.getD_eq_getElem?_getD,h]
 simp only [Option.getD_some]
 rw [decide_eq_true hb]
 rfl
theorem apOk_succ {R:List (Int × Int)} {k:Nat} {x y x' y':Int} (h:R[k+1]?=some (x,y)) (h':R[k]?=some (x',y')) (hb:x≤y):apOk R (k+1)=decide (y'<x):=by
 unfold apOk
 rw [List.getD_eq_getElem?_getD,List.getD_eq_getElem?_getD,h,Nat.add_sub_cancel,h']
 simp only [Option.getD_some]
 rw [decide_eq_true hb,decide_eq_false (show ¬ k+1=0 by omega)]
 simp
theorem apart_rng (R:List (Int × Int)) (a:Option Addr) (c B:Nat) (w:World) (h:rngE.In w B (a,R.length,c) R) (hl:R.length≤1000000000) :
  Calls Tryz.prog 124 #[.slice a R.length c] w fun e w'=>e=.returned (.bool (apartB R))∧Chg (fun _=>False) w w':=by
 have HL:=jh h
 clear h
 go_enter Tryz.func124,Tryz.ntmps124
 go_wp2
 go_loopw [7] (fun q wr=>∃ k:Nat,k≤R.length∧q=.int .i64 k∧(∀ j,j<k→apOk R j=true)∧Chg (fun _=>False) w wr) (fun q _=>R.length-(intOf q).toNat)
 case atStart=>exact⟨0,by omega,rfl,fun j h=>absurd h (Nat.not_lt_zero _),Chg.refl _ _⟩
 case round =>
  obtain⟨k,hk,rfl,hb,hc⟩:=hrel
  have HB:=jh hb
  have HC:=jh hc
  clear hb hc
  by_cases hkl:k<R.length
  ·have b9:decide ((k:Int)<(R.length:Int))=true:=by simp;omega
   obtain⟨x,y,g,o,hx,rfl,c0,c1,hx32,hy32,hB,hg⟩:=(HL.out.same HC.out).getR hkl
   have HX:=jh hx
   obtain⟨wa,hwa⟩:∃ v,v=(wr.alloc (.cells #[.int .i32 x,.int .i32 y] 117)):=⟨_,rfl⟩
   have p0:wa.cell? ⟨wr.heap.size,0,none⟩=some (.int .i32 x):=by rw [hwa,World.cell?_alloc_new];rfl
   have p1:wa.cell? ⟨wr.heap.size,1,none⟩=some (.int .i32 y):=by rw [hwa,World.cell?_alloc_new];rfl
   have HCA:Hid (Chg (fun _=>False) w wa):=jh (by rw [hwa];exact HC.out.alloc _)
   have HP:Hid (∀ wx,Chg (fun _=>False) wa wx→wx.cell? ⟨wr.heap.size,0,none⟩=some (.int .i32 x)∧wx.cell? ⟨wr.heap.size,1,none⟩=some (.int .i32 y)):=jh (fun wx hx=>⟨hx.cellS p0 (fun h=>h),hx.cellS p1 (fun h=>h)⟩)
   have HWA:=jh hwa
   clear p0 p1
   clear hx hwa
   by_cases h1:y<x
   ·have d1:decide (y<x)=true:=by simpa using h1
    have HF:Hid (apartB R=false):=jh (apartB_false hkl (apOk_bad HX.out h1))
    go_upto_region 4 with (fail)
    rw [← HWA.out]
    clear c0 c1
    refine wp_region_same (fun w'=>Chg (fun _=>False) wa w') (by kernel_rfl) (by kernel_rfl) ?_ ?_
    ·exact (Chg.refl _ _).drew
    (refine rdC fun K hK=>?_;apply ei;intro _ w' _ hC;(go_simp;try with_reducible rfl);(try go_simp);refine hK _ ?_;clear hK K);(refine rdC fun K hK=>?_;apply ei;intro _ w' _ hC;((obtain⟨p0,p1⟩:=HP.out w' hC;(try have c3:=hC.cellS HC3.out (fun h=>h));(try have e4:=HE.out);(try have e5:=HW.out));go_simp;try with_reducible rfl);(try go_simp);refine hK _ ?_;clear hK K);(refine rdC fun K hK=>?_;apply ei;intro _ w' _ hC;(go_simp;try with_reducible rfl);(try go_simp);refine hK _ ?_;clear hK K);(refine rdC fun K hK=>?_;apply ei;intro _ w' _ hC;((obtain⟨p0,p1⟩:=HP.out w' hC;(try have c3:=hC.cellS HC3.out (fun h=>h));(try have e4:=HE.out);(try have e5:=HW.out));go_simp;try with_reducible rfl);(try go_simp);refine hK _ ?_;clear hK K);(refine rdC fun K hK=>?_;apply ei;intro _ w' _ hC;(go_simp;try with_reducible rfl);(try go_simp);refine hK _ ?_;clear hK K);(refine rdC fun K hK=>?_;apply ei;intro _ w' _ hC;(go_simp;try with_reducible rfl);(try go_simp);refine hK _ ?_;clear hK K);(refine wpC_skip rfl (fun _ _ _ h=>h) fun K hK=>?_;(try go_simp);refine hK _ ?_;clear hK K);(refine wpC_skip rfl (fun _ _ _ h=>h) fun K hK=>?_;(try go_simp);refine hK _ ?_;clear hK K);(refine wpC_skip rfl (fun _ _ _ h=>h) fun K hK=>?_;(try go_simp);refine hK _ ?_;clear hK K);(refine wpC_skip rfl (fun _ _ _ h=>h) fun K hK=>?_;(try go_simp);refine hK _ ?_;clear hK K);(refine wpC_skip rfl (fun _ _ _ h=>h) fun K hK=>?_;(try go_simp);refine hK _ ?_;clear hK K);(refine wpC_skip rfl (fun _ _ _ h=>h) fun K hK=>?_;(try go_simp);refine hK _ ?_;clear hK K);(refine wpC_skip rfl (fun _ _ _ h=>h) fun K hK=>?_;(try go_simp);refine hK _ ?_;clear hK K);(refine wpC_skip rfl (fun _ _ _ h=>h) fun K hK=>?_;(try go_simp);refine hK _ ?_;clear hK K);(refine wpC_skip rfl (fun _ _ _ h=>h) fun K hK=>?_;(try go_simp);refine hK _ ?_;clear hK K);(refine wpC_skip rfl (fun _ _ _ h=>h) fun K hK=>?_;(try go_simp);refine hK _ ?_;clear hK K);(refine wpC_skip rfl (fun _ _ _ h=>h) fun K hK=>?_;(try go_simp);refine hK _ ?_;clear hK K);(refine wpC_skip rfl (fun _ _ _ h=>h) fun K hK=>?_;(try go_simp);refine hK _ ?_;clear hK K);(refine wpC_skip rfl (fun _ _ _ h=>h) fun K hK=>?_;(try go_simp);refine hK _ ?_;clear hK K);(refine rdC fun K hK=>?_;apply ei;intro _ w' _ hC;(go_simp;try with_reducible rfl);(try go_simp);refine hK _ ?_;clear hK K)
    refine wpC_nil ?_
    intro w2 hC2
    have HC2:=jh (HCA.out.trans hC2)
    clear hC2
    go_wp2
    go_ret
    exact⟨by rw [HF.out];rfl,HC2.out⟩
   ·have d1:decide (y<x)=false:=by simpa using h1
    by_cases hk0:k=0
    ·have HK:Hid (∀ j,j<k+1→apOk R j=true):=jh (fun j hj=>by
      obtain rfl:j=k:=by omega
      have h3:=HX.out
      subst hk0
      exact apOk_zero h3 (by omega))
     have d2:decide (0<(k:Int))=false:=by simp;omega
     have d3:decide (0<k)=false:=by simp;omega
     clear hk0
     go_upto_region 4 with (fail)
     rw [← HWA.out]
     clear c0 c1
     refine wp_region_same (fun w'=>Chg (fun _=>False) wa w') (by kernel_rfl) (by kernel_rfl) ?_ ?_
     ·exact (Chg.refl _ _).drew
     (refine rdC fun K hK=>?_;apply ei;intro _ w' _ hC;(go_simp;try with_reducible rfl);(try go_simp);refine hK _ ?_;clear hK K);(refine rdC fun K hK=>?_;apply ei;intro _ w' _ hC;((obtain⟨p0,p1⟩:=HP.out w' hC;(try have c3:=hC.cellS HC3.out (fun h=>h));(try have e4:=HE.out);(try have e5:=HW.out));go_simp;try with_reducible rfl);(try go_simp);refine hK _ ?_;clear hK K);(refine rdC fun K hK=>?_;apply ei;intro _ w' _ hC;(go_simp;try with_reducible rfl);(try go_simp);refine hK _ ?_;clear hK K);(refine rdC fun K hK=>?_;apply ei;intro _ w' _ hC;((obtain⟨p0,p1⟩:=HP.out w' hC;(try have c3:=hC.cellS HC3.out (fun h=>h));(try have e4:=HE.out);(try have e5:=HW.out));go_simp;try with_reducible rfl);(try go_simp);refine hK _ ?_;clear hK K);(refine rdC fun K hK=>?_;apply ei;intro _ w' _ hC;(go_simp;try with_reducible rfl);(try go_simp);refine hK _ ?_;clear hK K);(refine rdC fun K hK=>?_;apply ei;intro _ w' _ hC;(go_simp;try with_reducible rfl);(try go_simp);refine hK _ ?_;clear hK K);(refine rdC fun K hK=>?_;apply ei;intro _ w' _ hC;(go_simp;try with_reducible rfl);(try go_simp);refine hK _ ?_;clear hK K);(refine rdC fun K hK=>?_;apply ei;intro _ w' _ hC;(go_simp;try with_reducible rfl);(try go_simp);refine hK _ ?_;clear hK K);(refine rdC fun K hK=>?_;apply ei;intro _ w' _ hC;(go_simp;try with_reducible rfl);(try go_simp);refine hK _ ?_;clear hK K);(refine wpC_skip rfl (fun _ _ _ h=>h) fun K hK=>?_;(try go_simp);refine hK _ ?_;clear hK K);(refine wpC_skip rfl (fun _ _ _ h=>h) fun K hK=>?_;(try go_simp);refine hK _ ?_;clear hK K);(refine wpC_skip rfl (fun _ _ _ h=>h) fun K hK=>?_;(try go_simp);refine hK _ ?_;clear hK K);(refine wpC_skip rfl (fun _ _ _ h=>h) fun K hK=>?_;(try go_simp);refine hK _ ?_;clear hK K);(refine wpC_skip rfl (fun _ _ _ h=>h) fun K hK=>?_;(try go_simp);refine hK _ ?_;clear hK K);(refine wpC_skip rfl (fun _ _ _ h=>h) fun K hK=>?_;(try go_simp);refine hK _ ?_;clear hK K);(refine wpC_skip rfl (fun _ _ _ h=>h) fun K hK=>?_;(try go_simp);refine hK _ ?_;clear hK K);(refine wpC_skip rfl (fun _ _ _ h=>h) fun K hK=>?_;(try go_simp);refine hK _ ?_;clear hK K);(refine wpC_skip rfl (fun _ _ _ h=>h) fun K hK=>?_;(try go_simp);refine hK _ ?_;clear hK K);(refine rdC fun K hK=>?_;apply ei;intro _ w' _ hC;(go_simp;try with_reducible rfl);(try go_simp);refine hK _ ?_;clear hK K);(refine rdC fun K hK=>?_;apply ei;intro _ w' _ hC;(go_simp;try with_reducible rfl);(try go_simp);refine hK _ ?_;clear hK K)
     refine wpC_nil ?_
     intro w2 hC2
     have HC2:=jh (HCA.out.trans hC2)
     clear hC2
     go_wp2
     go_roundw
     case rel=>exact⟨k+1,by omega,by go_num,HK.out,HC2.out⟩
     case measure=>simp [intOf];omega
    ·obtain⟨m,hm⟩:∃ m,k=m+1:=⟨k-1,by omega⟩
     obtain⟨x',y',g',o',hx',ha',c2,c3,-,hy',-,-⟩:=(HL.out.same HCA.out).getR (show m<R.length by omega)
     injection ha' with ha'
     injection ha' with e1 e2
     subst e1 e2
     have d2:decide (0<(k:Int))=true:=by simp;omega
     have d3:decide (0<k)=true:=by simp;omega
     have e4:(k:Int)-1=(m:Int):=by omega
     have hml:m<R.length:=by omega
     have hm1:(1:Int)≤k:=by omega
     have HM:=jh hm
     have HE:=jh e4
     have HW:Hid (IntKind.i64.wrap (m:Int)=m):=jh (IntWalk.i64_in _ (by omega))
     have HAP:Hid (apOk R k=decide (y'<x)):=jh (by have:=HX.out;rw [hm] at this ⊢;exact apOk_succ this hx' (by omega))
     have HC3:=jh c3
     clear hx' hm e4 c2 c3
     by_cases h2:x≤y'
     ·have d4:decide (x≤y')=true:=by simpa using h2
      have HF:Hid (apartB R=false):=jh (apartB_false hkl (by rw [HAP.out];simpa using h2))
      go_upto_region 4 with (fail)
      rw [← HWA.out]
      clear c0 c1
      refine wp_region_same (fun w'=>Chg (fun _=>False) wa w') (by kernel_rfl) (by kernel_rfl) ?_ ?_
      ·exact (Chg.refl _ _).drew
      (refine rdC fun K hK=>?_;apply ei;intro _ w' _ hC;(go_simp;try with_reducible rfl);(try go_simp);refine hK _ ?_;clear hK K);(refine rdC fun K hK=>?_;apply ei;intro _ w' _ hC;((obtain⟨p0,p1⟩:=HP.out w' hC;(try have c3:=hC.cellS HC3.out (fun h=>h));(try have e4:=HE.out);(try have e5:=HW.out));go_simp;try with_reducible rfl);(try go_simp);refine hK _ ?_;clear hK K);(refine rdC fun K hK=>?_;apply ei;intro _ w' _ hC;(go_simp;try with_reducible rfl);(try go_simp);refine hK _ ?_;clear hK K);(refine rdC fun K hK=>?_;apply ei;intro _ w' _ hC;((obtain⟨p0,p1⟩:=HP.out w' hC;(try have c3:=hC.cellS HC3.out (fun h=>h));(try have e4:=HE.out);(try have e5:=HW.out));go_simp;try with_reducible rfl);(try go_simp);refine hK _ ?_;clear hK K);(refine rdC fun K hK=>?_;apply ei;intro _ w' _ hC;(go_simp;try with_reducible rfl);(try go_simp);refine hK _ ?_;clear hK K);(refine rdC fun K hK=>?_;apply ei;intro _ w' _ hC;(go_simp;try with_reducible rfl);(try go_simp);refine hK _ ?_;clear hK K);(refine rdC fun K hK=>?_;apply ei;intro _ w' _ hC;(go_simp;try with_reducible rfl);(try go_simp);refine hK _ ?_;clear hK K);(refine rdC fun K hK=>?_;apply ei;intro _ w' _ hC;(go_simp;try with_reducible rfl);(try go_simp);refine hK _ ?_;clear hK K);(refine rdC fun K hK=>?_;apply ei;intro _ w' _ hC;(go_simp;try with_reducible rfl);(try go_simp);refine hK _ ?_;clear hK K);(refine rdC fun K hK=>?_;apply ei;intro _ w' _ hC;(go_simp;try with_reducible rfl);(try go_simp);refine hK _ ?_;clear hK K);(refine rdC fun K hK=>?_;apply ei;intro _ w' _ hC;((obtain⟨p0,p1⟩:=HP.out w' hC;(try have c3:=hC.cellS HC3.out (fun h=>h));(try have e4:=HE.out);(try have e5:=HW.out));go_simp;try with_reducible rfl);(try go_simp);refine hK _ ?_;clear hK K);(refine rdC fun K hK=>?_;apply ei;intro _ w' _ hC;(go_simp;try with_reducible rfl);(try go_simp);refine hK _ ?_;clear hK K);(refine rdC fun K hK=>?_;apply ei;intro _ w' _ hC;(go_simp;try with_reducible rfl);(try go_simp);refine hK _ ?_;clear hK K);(refine rdC fun K hK=>?_;apply ei;intro _ w' _ hC;((obtain⟨p0,p1⟩:=HP.out w' hC;(try have c3:=hC.cellS HC3.out (fun h=>h));(try have e4:=HE.out);(try have e5:=HW.out));go_simp;try with_reducible rfl);(try go_simp);refine hK _ ?_;clear hK K);(refine rdC fun K hK=>?_;apply ei;intro _ w' _ hC;((obtain⟨p0,p1⟩:=HP.out w' hC;(try have c3:=hC.cellS HC3.out (fun h=>h));(try have e4:=HE.out);(try have e5:=HW.out));go_simp;try with_reducible rfl);(try go_simp);refine hK _ ?_;clear hK K);(refine rdC fun K hK=>?_;apply ei;intro _ w' _ hC;((obtain⟨p0,p1⟩:=HP.out w' hC;(try have c3:=hC.cellS HC3.out (fun h=>h));(try have e4:=HE.out);(try have e5:=HW.out));go_simp;try with_reducible rfl);(try go_simp);refine hK _ ?_;clear hK K);(refine rdC fun K hK=>?_;apply ei;intro _ w' _ hC;((obtain⟨p0,p1⟩:=HP.out w' hC;(try have c3:=hC.cellS HC3.out (fun h=>h));(try have e4:=HE.out);(try have e5:=HW.out));go_simp;try with_reducible rfl);(try go_simp);refine hK _ ?_;clear hK K);(refine rdC fun K hK=>?_;apply ei;intro _ w' _ hC;(go_simp;try with_reducible rfl);(try go_simp);refine hK _ ?_;clear hK K);(refine rdC fun K hK=>?_;apply ei;intro _ w' _ hC;(go_simp;try with_reducible rfl);(try go_simp);refine hK _ ?_;clear hK K);(refine rdC fun K hK=>?_;apply ei;intro _ w' _ hC;(go_simp;try with_reducible rfl);(try go_simp);refine hK _ ?_;clear hK K)
      refine wpC_nil ?_
      intro w2 hC2
      have HC2:=jh (HCA.out.trans hC2)
      clear hC2
      go_wp2
      go_ret
      exact⟨by rw [HF.out];rfl,HC2.out⟩
     ·have d4:decide (x≤y')=false:=by simpa using h2
      have HK:Hid (∀ j,j<k+1→apOk R j=true):=jh (fun j hj=>by
       by_cases he:j=k
       ·rw [he,HAP.out];simp;omega
       ·exact HB.out j (by omega))
      go_upto_region 4 with (fail)
      rw [← HWA.out]
      clear c0 c1
      refine wp_region_same (fun w'=>Chg (fun _=>False) wa w') (by kernel_rfl) (by kernel_rfl) ?_ ?_
      ·exact (Chg.refl _ _).drew
      (refine rdC fun K hK=>?_;apply ei;intro _ w' _ hC;(go_simp;try with_reducible rfl);(try go_simp);refine hK _ ?_;clear hK K);(refine rdC fun K hK=>?_;apply ei;intro _ w' _ hC;((obtain⟨p0,p1⟩:=HP.out w' hC;(try have c3:=hC.cellS HC3.out (fun h=>h));(try have e4:=HE.out);(try have e5:=HW.out));go_simp;try with_reducible rfl);(try go_simp);refine hK _ ?_;clear hK K);(refine rdC fun K hK=>?_;apply ei;intro _ w' _ hC;(go_simp;try with_reducible rfl);(try go_simp);refine hK _ ?_;clear hK K);(refine rdC fun K hK=>?_;apply ei;intro _ w' _ hC;((obtain⟨p0,p1⟩:=HP.out w' hC;(try have c3:=hC.cellS HC3.out (fun h=>h));(try have e4:=HE.out);(try have e5:=HW.out));go_simp;try with_reducible rfl);(try go_simp);refine hK _ ?_;clear hK K);(refine rdC fun K hK=>?_;apply ei;intro _ w' _ hC;(go_simp;try with_reducible rfl);(try go_simp);refine hK _ ?_;clear hK K);(refine rdC fun K hK=>?_;apply ei;intro _ w' _ hC;(go_simp;try with_reducible rfl);(try go_simp);refine hK _ ?_;clear hK K);(refine rdC fun K hK=>?_;apply ei;intro _ w' _ hC;(go_simp;try with_reducible rfl);(try go_simp);refine hK _ ?_;clear hK K);(refine rdC fun K hK=>?_;apply ei;intro _ w' _ hC;(go_simp;try with_reducible rfl);(try go_simp);refine hK _ ?_;clear hK K);(refine rdC fun K hK=>?_;apply ei;intro _ w' _ hC;(go_simp;try with_reducible rfl);(try go_simp);refine hK _ ?_;clear hK K);(refine rdC fun K hK=>?_;apply ei;intro _ w' _ hC;(go_simp;try with_reducible rfl);(try go_simp);refine hK _ ?_;clear hK K);(refine rdC fun K hK=>?_;apply ei;intro _ w' _ hC;((obtain⟨p0,p1⟩:=HP.out w' hC;(try have c3:=hC.cellS HC3.out (fun h=>h));(try have e4:=HE.out);(try have e5:=HW.out));go_simp;try with_reducible rfl);(try go_simp);refine hK _ ?_;clear hK K);(refine rdC fun K hK=>?_;apply ei;intro _ w' _ hC;(go_simp;try with_reducible rfl);(try go_simp);refine hK _ ?_;clear hK K);(refine rdC fun K hK=>?_;apply ei;intro _ w' _ hC;(go_simp;try with_reducible rfl);(try go_simp);refine hK _ ?_;clear hK K);(refine rdC fun K hK=>?_;apply ei;intro _ w' _ hC;((obtain⟨p0,p1⟩:=HP.out w' hC;(try have c3:=hC.cellS HC3.out (fun h=>h));(try have e4:=HE.out);(try have e5:=HW.out));go_simp;try with_reducible rfl);(try go_simp);refine hK _ ?_;clear hK K);(refine rdC fun K hK=>?_;apply ei;intro _ w' _ hC;((obtain⟨p0,p1⟩:=HP.out w' hC;(try have c3:=hC.cellS HC3.out (fun h=>h));(try have e4:=HE.out);(try have e5:=HW.out));go_simp;try with_reducible rfl);(try go_simp);refine hK _ ?_;clear hK K);(refine rdC fun K hK=>?_;apply ei;intro _ w' _ hC;((obtain⟨p0,p1⟩:=HP.out w' hC;(try have c3:=hC.cellS HC3.out (fun h=>h));(try have e4:=HE.out);(try have e5:=HW.out));go_simp;try with_reducible rfl);(try go_simp);refine hK _ ?_;clear hK K);(refine rdC fun K hK=>?_;apply ei;intro _ w' _ hC;((obtain⟨p0,p1⟩:=HP.out w' hC;(try have c3:=hC.cellS HC3.out (fun h=>h));(try have e4:=HE.out);(try have e5:=HW.out));go_simp;try with_reducible rfl);(try go_simp);refine hK _ ?_;clear hK K);(refine rdC fun K hK=>?_;apply ei;intro _ w' _ hC;(go_simp;try with_reducible rfl);(try go_simp);refine hK _ ?_;clear hK K);(refine rdC fun K hK=>?_;apply ei;intro _ w' _ hC;(go_simp;try with_reducible rfl);(try go_simp);refine hK _ ?_;clear hK K);(refine rdC fun K hK=>?_;apply ei;intro _ w' _ hC;(go_simp;try with_reducible rfl);(try go_simp);refine hK _ ?_;clear hK K)
      refine wpC_nil ?_
      intro w2 hC2
      have HC2:=jh (HCA.out.trans hC2)
      clear hC2
      go_wp2
      go_roundw
      case rel=>exact⟨k+1,by omega,by go_num,HK.out,HC2.out⟩
      case measure=>simp [intOf];omega
  ·obtain rfl:k=R.length:=by omega
   have HF:Hid (apartB R=true):=jh (apartB_true HB.out)
   go_wp2
   go_ret
   exact⟨by rw [HF.out];rfl,HC.out⟩
end Go.Proofs.YtgnpmceimpjheaaGreat
namespace Go.Proofs.YtgnpmceimpjheaaGreat
open Go.RowKit
def GivesL (f:FuncId) (lb:Array Value) (p:List Int→Bool) (B:Nat) (w:World):Prop:=∀ (l:List Int) (a:Option Addr) (c:Nat) (w':World),intE.In w' B (a,l.length,c) l→l.length≤1000000000→Chg (fun _=>False) w w' →
 Calls Tryz.prog f (#[.slice a l.length c]++lb) w' fun e w''=>e=.returned (.bool (p l))∧Chg (fun _=>False) w' w''
theorem ListsIn.getIn {w:World} {B:Nat} {a:Option Addr} {n c:Nat} {LL:List (List Int)} (h:ListsIn w B (a,n,c) LL) {k:Nat} (hk:k<LL.length) :
  ∃ (l:List Int) (g o:Nat) (la:Option Addr) (lc:Nat),LL[k]?=some l∧a=some ⟨g,o,none⟩∧w.cell? ⟨g,o+k,none⟩=some (.slice la l.length lc)∧intE.In w B (la,l.length,lc) l∧g<w.heap.size∧B≤g:=by
 obtain⟨l,g,o,la,lc,gl,ol,h1,h2,h3,h4,h5,h6,h7,h8⟩:=h.get hk
 exact⟨l,g,o,la,lc,h1,h2,h3,⟨rfl,h4,gl,ol,intAt.2 h5,h6⟩,h7,h8⟩
theorem indexList_any (f:FuncId) (lb:Array Value) (p:List Int→Bool) (LL:List (List Int)) (a:Option Addr) (c B:Nat) (w:World) (eg:∀ args w,(callFunc f args).run Tryz.prog w=.ok (.enter f args) w) (h:ListsIn w B (a,LL.length,c) LL) (hp:GivesL f lb p B w) (hl:LL.length≤1000000000) (hll:∀ l∈LL,l.length≤1000000000) :
  Calls Tryz.prog 166 #[.slice a LL.length c,.func (.func f) #[] lb] w fun e w'=>e=.returned (.int .i64 (idxV p LL))∧Chg (fun _=>False) w w':=by
 have HL:=jh h
 have HP:=jh hp
 have HLL:=jh hll
 clear h hp hll
 go_enter Tryz.func166,Tryz.ntmps166
 go_wp2
 go_loopw [8] (fun q wr=>∃ k:Nat,k≤LL.length∧q=.int .i64 k∧(∀ (j:Nat) y,j<k→LL[j]?=some y→p y=false)∧Chg (fun _=>False) w wr) (fun q _=>LL.length-(intOf q).toNat)
 case atStart=>exact⟨0,by omega,rfl,fun j y h=>absurd h (Nat.not_lt_zero _),Chg.refl _ _⟩
 case round =>
  obtain⟨k,hk,rfl,hb,hc⟩:=hrel
  have HB:=jh hb
  have HC:=jh hc
  clear hb hc
  by_cases hkl:k<LL.length
  ·have b9:decide ((k:Int)<(LL.length:Int))=true:=by simp;omega
   obtain⟨x,g,o,la,lc,hx,rfl,c0,hin,-,-⟩:=(HL.out.same HC.out).getIn hkl
   have HX:=jh hx
   have hcall:=HP.out x la lc wr hin (HLL.out x (List.mem_of_getElem? hx)) HC.out
   clear hx hin
   cases hxi:p x with
   | true =>
    rw [hxi] at hcall
    have HF:Hid (idxV p LL=k):=jh (idxV_found HX.out hxi HB.out)
    have HCALL:=jh hcall
    clear hcall hxi
    go_wp2_with fail
    refine HCALL.out.mono ?_
    rintro e w2 ⟨rfl,hc2⟩
    have HC2:=jh (HC.out.trans hc2)
    clear hc2 c0
    go_wp2
    go_ret
    exact⟨by rw [HF.out];rfl,HC2.out⟩
   | false =>
    rw [hxi] at hcall
    have HB2:Hid (∀ (j:Nat) y,j<k+1→LL[j]?=some y→p y=false):=jh (fun j y hj hy=>by
     by_cases he:j=k
     ·subst he;rw [HX.out] at hy;obtain rfl:=Option.some.inj hy;exact hxi
     ·exact HB.out j y (by omega) hy)
    have HCALL:=jh hcall
    clear hcall hxi
    go_wp2_with fail
    refine HCALL.out.mono ?_
    rintro e w2 ⟨rfl,hc2⟩
    have HC2:=jh (HC.out.trans hc2)
    clear hc2 c0
    go_wp2
    go_roundw
    case rel=>exact⟨k+1,by omega,by go_num,HB2.out,HC2.out⟩
    case measure=>simp [intOf];omega
  ·obtain rfl:k=LL.length:=by omega
   have HF:Hid (idxV p LL=-1):=jh (idxV_none HB.out)
   go_wp2
   go_ret
   exact⟨by rw [HF.out];rfl,HC.out⟩
theorem containsL_any (f:FuncId) (lb:Array Value) (p:List Int→Bool) (LL:List (List Int)) (a:Option Addr) (c B:Nat) (w:World) (eg:∀ args w,(callFunc f args).run Tryz.prog w=.ok (.enter f args) w) (h:ListsIn w B (a,LL.length,c) LL) (hp:GivesL f lb p B w) (hl:LL.length≤1000000000) (hll:∀ l∈LL,l.length≤1000000000) :
  Calls Tryz.prog 127 #[.slice a LL.length c,.func (.func f) #[] lb] w fun e w'=>e=.returned (.bool (LL.any p))∧Chg (fun _=>False) w w':=by
 have HL:=jh h
 have HP:=jh hp
 have HLL:=jh hll
 clear h hp hll
 rcases idx_cases p LL with ⟨k,x,-,-,h3,-,h5⟩|⟨h3,-,h5⟩
 all_goals
  have HI:=jh h3
  have HN:=jh h5
  clear h3 h5
  go_enter Tryz.func127,Tryz.ntmps127
  go_wp2_with fail
  refine (indexList_any f lb p LL a c B _ eg HL.out HP.out hl HLL.out).mono ?_
  rintro e w2 ⟨rfl,hc2⟩
  rw [HI.out]
  have HC:=jh hc2
  clear hc2
  go_wp2
  go_ret
  exact⟨by rw [HN.out];rfl,HC.out⟩
def badEnd (e:Int):Bool:=decide (e < -1)
def badTo (n:Nat) (s:Int):Bool:=decide (s < -1) || decide ((n:Int)≤s)
def badRow (cols:Int) (n:Nat) (l:List Int):Bool:=!decide ((l.length:Int)=cols) || l.any (badTo n)
theorem badRow_eq (cols:Int) (n:Nat) (l:List Int):badRow cols n l=!rowB cols n l:=by
 have h:(!l.all (inB (-1) n))=l.any (badTo n):=by
  rw [List.not_all_eq_any_not]
  congr 1
  funext s
  unfold inB badTo
  by_cases h1:s < -1 <;> by_cases h2:(n:Int)≤s
  all_goals simp [h1,h2]
  all_goals omega
 unfold badRow rowB
 rw [Bool.not_and,h]
theorem gives_end (w:World):GivesI 126 #[] badEnd w:=by
 intro x w' hx hc
 show Calls Tryz.prog 126 #[.int .i64 x] w' _
 go_enter Tryz.func126,Tryz.ntmps126
 go_wp2
 go_ret
 exact⟨rfl,Chg.refl _ _⟩
theorem gives_to (b n:Nat) (na:Option Addr) (nc:Nat) (w:World) (h:w.cell? ⟨b,2,none⟩=some (.slice na n nc)):GivesI 129 #[.pointer (some ⟨b,0,none⟩)] (badTo n) w:=by
 intro x w' hx hc
 have h2:=hc.cellS h (fun h=>h)
 show Calls Tryz.prog 129 #[.int .i64 x,.pointer (some ⟨b,0,none⟩)] w' _
 by_cases h1:x < -1
 ·have HF:Hid (badTo n x=true):=jh (by simp [badTo,h1])
  have d1:decide (x < -1)=true:=by simpa using h1
  go_enter Tryz.func129,Tryz.ntmps129
  go_wp2
  go_ret
  exact⟨by rw [HF.out];rfl,Chg.refl _ _⟩
 ·have HF:Hid (badTo n x=decide ((n:Int)≤x)):=jh (by simp [badTo,h1])
  have d1:decide (x < -1)=false:=by simpa using h1
  go_enter Tryz.func129,Tryz.ntmps129
  go_wp2
  go_ret
  exact⟨by rw [HF.out];rfl,Chg.refl _ _⟩
theorem gives_row (p b n B:Nat) (cols:Int) (na:Option Addr) (nc:Nat) (w:World) (h0:w.cell? ⟨p,0,none⟩=some (.int .i64 cols)) (h:w.cell? ⟨b,2,none⟩=some (.slice na n nc)):GivesL 128 #[.pointer (some ⟨p,0,none⟩),.pointer (some ⟨b,0,none⟩)] (badRow cols n) B w:=by
 intro l a c w' hin hl hc
 have h1:=hc.cellS h0 (fun h=>h)
 have h2:=hc.cellS h (fun h=>h)
 have eg:=enters_of Tryz.func129 (by kernel_rfl) rfl
 have HI:=jh hin
 have HG:=jh (gives_to b n na nc w' h2)
 clear hin h2 h h0
 show Calls Tryz.prog 128 #[.slice a l.length c,.pointer (some ⟨p,0,none⟩),.pointer (some ⟨b,0,none⟩)] w' _
 by_cases hcl:(l.length:Int)=cols
 ·have HF:Hid (badRow cols n l=l.any (badTo n)):=jh (by simp [badRow,hcl])
  have d1:((l.length:Int) != cols)=false:=by simpa using hcl
  clear hcl
  go_enter Tryz.func128,Tryz.ntmps128
  go_wp2_with fail
  refine (containsI_any _ _ (badTo n) l a c B _ eg HI.out HG.out hl).mono ?_
  rintro e w2 ⟨rfl,hc2⟩
  have HC:=jh hc2
  clear hc2
  go_wp2
  go_ret
  exact⟨by rw [HF.out];rfl,HC.out⟩
 ·have HF:Hid (badRow cols n l=true):=jh (by simp [badRow,hcl])
  have d1:((l.length:Int) != cols)=true:=by simpa using hcl
  clear hcl
  go_enter Tryz.func128,Tryz.ntmps128
  go_wp2
  go_ret
  exact⟨by rw [HF.out];rfl,Chg.refl _ _⟩
theorem mayT_ends {t:LexD} (h:t.e.any badEnd=true):mayT t=false:=mayT_no (fun hm=>by
 rw [List.any_eq_true] at h
 obtain⟨e,h1,h2⟩:=h
 have:=hm.eb e h1
 simp [badEnd] at h2
 omega)
theorem mayT_good {t:LexD} (h1:apartB t.r=true) (h2:t.c.length=t.r.length) (h3:0<t.n.length) (h4:t.e.length=t.n.length) (h5:∀ c∈t.c,0≤c∧c<t.c.length) (h6:fillB t.c=true) (h7:t.e.any badEnd=false) :
  mayT t=!t.n.any (badRow (colsL t.c) t.n.length):=by
 have e:t.n.all (rowB (colsL t.c) t.n.length)=!t.n.any (badRow (colsL t.c) t.n.length):=by
  rw [List.not_any_eq_all_not]
  congr 1
  funext l
  rw [badRow_eq,Bool.not_not]
 have e2:t.e.all (fun e=>decide (-1≤e))=true:=by
  rw [List.all_eq_true]
  intro x hx
  rw [List.any_eq_false] at h7
  have:=h7 x hx
  simp [badEnd] at this
  simpa using this
 have e3:t.c.all (inB 0 t.c.length)=true:=by
  rw [List.all_eq_true]
  intro x hx
  have:=h5 x hx
  simp [inB]
  exact this
 unfold mayT
 rw [h1,e3,h6,e2,e,decide_eq_true (show t.c.length=t.r.length∧0<t.n.length∧t.e.length=t.n.length from ⟨h2,h3,h4⟩)]
 simp
theorem fillB_true {C:List Int} (h:∀ j:Nat,(j:Int)<colsL C→hasB j C=true):fillB C=true:=by
 unfold fillB
 rw [List.all_eq_true]
 intro j hj
 rw [← hasB_contains]
 exact h j (by have:=List.mem_range.1 hj;omega)
theorem fillB_false {C:List Int} {j:Nat} (hj:(j:Int)<colsL C) (h:hasB j C=false):fillB C=false:=by
 unfold fillB
 rw [List.all_eq_false]
 exact⟨j,List.mem_range.2 (by omega),by rw [← hasB_contains,h];simp⟩
def MayW (w:World) (b:Nat) (rs cs ns es:Sl) (v:Int) (wr:World):Prop :=
 (wr.cell? ⟨w.heap.size,0,none⟩=some (slV rs)∧wr.cell? ⟨w.heap.size,1,none⟩=some (slV cs)∧wr.cell? ⟨w.heap.size,2,none⟩=some (slV ns)∧wr.cell? ⟨w.heap.size,3,none⟩=some (slV es))∧(wr.cell? ⟨b,0,none⟩=some (.int .i64 v)∧wr.frozen? ⟨b,0,none⟩=false)∧Chg (fun _=>False) w wr∧w.heap.size<b
theorem MayW.chg {w wr wx:World} {b:Nat} {rs cs ns es:Sl} {v:Int} (h:MayW w b rs cs ns es v wr) (hc:Chg (fun _=>False) wr wx):MayW w b rs cs ns es v wx:=by
 obtain⟨⟨h0,h1,h2,h3⟩,⟨h4,h5⟩,h6,h7⟩:=h
 exact⟨⟨hc.cellS h0 (fun h=>h),hc.cellS h1 (fun h=>h),hc.cellS h2 (fun h=>h),hc.cellS h3 (fun h=>h)⟩,⟨hc.cellS h4 (fun h=>h),(hc.frozen (p:=⟨b,0,none⟩) (World.block_lt_of_cell? _ _ h4) (fun h=>h)).trans h5⟩,h6.trans hc,h7⟩
theorem MayW.set {w wr:World} {b:Nat} {rs cs ns es:Sl} {v:Int} (h:MayW w b rs cs ns es v wr) (v':Int):MayW w b rs cs ns es v' (wr.setCell ⟨b,0,none⟩ (.int .i64 v')):=by
 obtain⟨⟨h0,h1,h2,h3⟩,⟨h4,h5⟩,h6,h7⟩:=h
 have hs:=setCellChg wr b 0 (.int .i64 v')
 exact⟨⟨hs.cellS h0 (by simp only;omega),hs.cellS h1 (by simp only;omega),hs.cellS h2 (by simp only;omega),hs.cellS h3 (by simp only;omega)⟩,⟨World.cell?_setCell_same _ _ _ h4,(World.frozen?_setCell _ _ _ _).trans h5⟩,(h6.any.trans (hs.mono (T:=fun k=>w.heap.size≤k) (fun k _ e=>by omega))).fresh,h7⟩
end Go.Proofs.YtgnpmceimpjheaaGreat
namespace Go.Proofs.YtgnpmceimpjheaaGreat
open Go.RowKit
theorem lexMay_any (t:LexD) (rs cs ns es:Sl) (B:Nat) (w:World) (h:TabIn w B rs cs ns es t) (hf:Fair t) :
  Calls Tryz.prog 84 #[lexV rs cs ns es] w fun e w'=>e=.returned (.bool (mayT t))∧Chg (fun _=>False) w w':=by
 obtain⟨ra,rn,rc⟩:=rs
 obtain⟨ca,cn,cc⟩:=cs
 obtain⟨na,nn,nc⟩:=ns
 obtain⟨ea,en,ec⟩:=es
 obtain⟨hR,hC,hN,hE⟩:=h
 obtain⟨fr,fc,fn,fe,fl⟩:=hf
 obtain⟨rfl,hr1⟩:=hR.len
 obtain⟨rfl,hc1⟩:=hC.len
 obtain⟨rfl,hn1⟩:=hN.len
 obtain⟨rfl,he1⟩:=hE.len
 have HR:=jh hR
 have HC:=jh hC
 have HN:=jh hN
 have HE:=jh hE
 have HL:=jh fl
 have HT0:Hid (∀ wx,Chg (fun _=>False) (w.alloc (.cells #[.slice ra t.r.length rc,.slice ca t.c.length cc,.slice na t.n.length nc,.slice ea t.e.length ec] 28)) wx→wx.cell? ⟨w.heap.size,0,none⟩=some (.slice ra t.r.length rc)∧wx.cell? ⟨w.heap.size,1,none⟩=some (.slice ca t.c.length cc)∧wx.cell? ⟨w.heap.size,2,none⟩=some (.slice na t.n.length nc)∧wx.cell? ⟨w.heap.size,3,none⟩=some (.slice ea t.e.length ec)) :=
  jh (fun wx hx=>(tabBox w (ra,t.r.length,rc) (ca,t.c.length,cc) (na,t.n.length,nc) (ea,t.e.length,ec) 28).chg hx (fun h=>h))
 clear hR hC hN hE fl
 show Calls Tryz.prog 84 #[.agg #[.slice ra t.r.length rc,.slice ca t.c.length cc,.slice na t.n.length nc,.slice ea t.e.length ec]] w _
 cases hap:apartB t.r with
 | false =>
  have HF:Hid (mayT t=false):=jh (mayT_no (fun hm=>by rw [hm.ap] at hap;cases hap))
  have HAP:=jh hap
  clear hap
  go_enter Tryz.func84,Tryz.ntmps84
  go_wp2_with fail
  refine (apart_rng t.r ra rc B _ (HR.out.same ((Chg.refl _ _).alloc _)) fr).mono ?_
  rintro e w1 ⟨rfl,h1c⟩
  rw [HAP.out]
  have HC1:=jh (((Chg.refl _ w).alloc _).trans h1c)
  clear h1c
  go_wp2
  go_ret
  exact⟨by rw [HF.out];rfl,HC1.out⟩
 | true =>
  have HAP:=jh hap
  clear hap
  by_cases g1:t.c.length=t.r.length
  ·by_cases g2:0<t.n.length
   ·by_cases g3:t.e.length=t.n.length
    ·have d1:((t.c.length:Int) != (t.r.length:Int))=false:=by simp [g1]
     have d2:decide ((t.n.length:Int)<1)=false:=decide_eq_false (by omega)
     have d3:((t.e.length:Int) != (t.n.length:Int))=false:=by simp [g3]
     have d2':decide (t.n.length<1)=false:=decide_eq_false (by omega)
     have HG1:=jh g1
     have HG3:=jh g3
     clear g1 g3
     go_enter Tryz.func84,Tryz.ntmps84
     go_wp2_with fail
     refine (apart_rng t.r ra rc B _ (HR.out.same ((Chg.refl _ _).alloc _)) fr).mono ?_
     rintro e w1 ⟨rfl,h1c⟩
     rw [HAP.out]
     have HC1:=jh (((Chg.refl _ w).alloc _).trans h1c)
     obtain⟨q0,q1,q2,q3⟩:=HT0.out w1 h1c
     have HQ:=jh (HT0.out w1 h1c)
     have hlt:w.heap.size<w1.heap.size:=by have:=h1c.size;simp at this;omega
     clear h1c
     have HM0:Hid (MayW w w1.heap.size (ra,t.r.length,rc) (ca,t.c.length,cc) (na,t.n.length,nc) (ea,t.e.length,ec) (colsL (t.c.take 0)) (w1.alloc (.cells #[.int .i64 0] 3))):=jh (by
      have ha:=(Chg.refl (fun _=>False) w1).alloc (.cells #[.int .i64 0] 3)
      exact⟨⟨ha.cellS HQ.out.1 (fun h=>h),ha.cellS HQ.out.2.1 (fun h=>h),ha.cellS HQ.out.2.2.1 (fun h=>h),ha.cellS HQ.out.2.2.2 (fun h=>h)⟩,⟨by simp [colsL],World.frozen?_alloc_new _ _ _ _⟩,HC1.out.alloc _,hlt⟩)
     obtain⟨⟨y0,y1,y2,y3⟩,-,-,-⟩:=HM0.out
     unfold slV at y0 y1 y2 y3
     simp only at y0 y1 y2 y3
     go_wp2
     clear y0 y1 y2 y3
     go_loopw [38] (fun q wr=>∃ k:Nat,k≤t.c.length∧q=.int .i64 k∧(∀ (j:Nat) c,j<k→t.c[j]?=some c→0≤c∧c<t.c.length)∧MayW w w1.heap.size (ra,t.r.length,rc) (ca,t.c.length,cc) (na,t.n.length,nc) (ea,t.e.length,ec) (colsL (t.c.take k)) wr) (fun q _=>t.c.length-(intOf q).toNat)
     case atStart=>exact⟨0,by omega,rfl,fun j y h=>absurd h (Nat.not_lt_zero _),HM0.out⟩
     case round =>
      clear HM0
      obtain⟨k,hk,rfl,hb,hm⟩:=hrel
      have HB:=jh hb
      have HM:=jh hm
      obtain⟨⟨q0,q1,q2,q3⟩,⟨m0,m1⟩,hcw,-⟩:=hm
      unfold slV at q0 q1 q2 q3
      simp only at q0 q1 q2 q3
      have HCW:=jh hcw
      clear hb hcw
      obtain⟨v,hv⟩:∃ x,colsL (t.c.take k)=x:=⟨_,rfl⟩
      rw [hv] at m0
      have HV:=jh hv
      by_cases hkl:k<t.c.length
      ·have b9:decide ((k:Int)<(t.c.length:Int))=true:=by simp;omega
       obtain⟨c,g,o,hx,rfl,c0,x0,x1,-,-⟩:=(HC.out.same HCW.out).getI hkl
       have HX:=jh hx
       clear hx hv
       by_cases h1:c<0
       ·have d5:decide (c<0)=true:=by simpa using h1
        have HF:Hid (mayT t=false):=jh (mayT_no (fun hm=>by have:=hm.cb c (List.mem_of_getElem? HX.out);omega))
        go_wp2
        go_ret
        exact⟨by rw [HF.out];rfl,HCW.out⟩
       ·have d5:decide (c<0)=false:=by simpa using h1
        by_cases h2:(t.c.length:Int)≤c
        ·have d6:decide ((t.c.length:Int)≤c)=true:=by simpa using h2
         have HF:Hid (mayT t=false):=jh (mayT_no (fun hm=>by have:=hm.cb c (List.mem_of_getElem? HX.out);omega))
         go_wp2
         go_ret
         exact⟨by rw [HF.out];rfl,HCW.out⟩
        ·have d6:decide ((t.c.length:Int)≤c)=false:=by simpa using h2
         have HB2:Hid (∀ (j:Nat) c,j<k+1→t.c[j]?=some c→0≤c∧c<t.c.length):=jh (fun j y hj hy=>by
          by_cases he:j=k
          ·subst he;rw [HX.out] at hy;obtain rfl:=Option.some.inj hy;omega
          ·exact HB.out j y (by omega) hy)
         have HNV:Hid (colsL (t.c.take (k+1))=max v (c+1)):=jh (by rw [colsL_take HX.out,HV.out])
         have HM2:Hid (MayW w w1.heap.size (ra,t.r.length,rc) (some ⟨g,o,none⟩,t.c.length,cc) (na,t.n.length,nc) (ea,t.e.length,ec) (colsL (t.c.take (k+1))) (wr.setCell ⟨w1.heap.size,0,none⟩ (.int .i64 (if v<c+1 then c+1 else v)))):=jh (by
          rw [HNV.out,show max v (c+1)=if v<c+1 then c+1 else v by split <;> omega]
          exact HM.out.set _)
         clear HM
         go_wp2
         go_roundw
         case rel=>exact⟨k+1,by omega,by go_num,HB2.out,HM2.out⟩
         case measure=>simp [intOf];omega
      ·obtain rfl:k=t.c.length:=by omega
       rw [List.take_length] at HV
       have HM3:=HM
       rw [List.take_length,HV.out] at HM3
       have HCB:Hid (∀ c∈t.c,0≤c∧c<t.c.length):=jh (fun c hc=>by
        obtain⟨j,hj⟩:=List.getElem?_of_mem hc
        exact HB.out j c (List.getElem?_eq_some_iff.1 hj).1 hj)
       have hv0:0≤v:=by rw [← HV.out];exact colsL_nonneg _
       have hv1:v≤t.c.length:=by rw [← HV.out];exact colsL_le (by omega) (fun c hc=>(HCB.out c hc).2)
       clear hv HM HB
       go_wp2
       go_loopw [57] (fun q wr=>∃ k:Nat,(k:Int)≤v∧q=.int .i64 k∧(∀ (j:Nat),j<k→hasB j t.c=true)∧MayW w w1.heap.size (ra,t.r.length,rc) (ca,t.c.length,cc) (na,t.n.length,nc) (ea,t.e.length,ec) v wr) (fun q _=>v.toNat-(intOf q).toNat)
       case atStart=>exact⟨0,by omega,rfl,fun j h=>absurd h (Nat.not_lt_zero _),HM3.out⟩
       case round =>
        clear HM3 q0 q1 q2 q3 m0 m1 HCW
        obtain⟨k,hk,rfl,hb,hm⟩:=hrel
        have HB:=jh hb
        have HM:=jh hm
        obtain⟨⟨q0,q1,q2,q3⟩,⟨m0,m1⟩,hcw,-⟩:=hm
        unfold slV at q0 q1 q2 q3
        simp only at q0 q1 q2 q3
        have HCW:=jh hcw
        clear hb hcw
        by_cases hkl:(k:Int)<v
        ·have b9:decide ((k:Int)<v)=true:=by simpa using hkl
         cases hh:hasB k t.c with
         | true =>
          have HB2:Hid (∀ (j:Nat),j<k+1→hasB j t.c=true):=jh (fun j hj=>by
           by_cases he:j=k
           ·subst he;exact hh
           ·exact HB.out j (by omega))
          have HH:=jh hh
          clear hh
          go_wp2_with fail
          refine (contains_any k t.c ca cc B wr (HC.out.same HCW.out) fc).mono ?_
          rintro e w2 ⟨rfl,h2c⟩
          rw [HH.out]
          have HM2:=jh (HM.out.chg h2c)
          clear h2c HM
          go_wp2
          go_roundw
          case rel=>exact⟨k+1,by omega,by go_num,HB2.out,HM2.out⟩
          case measure=>simp [intOf];omega
         | false =>
          have HF:Hid (mayT t=false):=jh (mayT_no (fun hm=>by
           have h1:=hm.fill
           rw [fillB_false (j:=k) (by rw [HV.out];exact hkl) hh] at h1
           cases h1))
          have HH:=jh hh
          clear hh
          go_wp2_with fail
          refine (contains_any k t.c ca cc B wr (HC.out.same HCW.out) fc).mono ?_
          rintro e w2 ⟨rfl,h2c⟩
          rw [HH.out]
          have HC2:=jh (HCW.out.trans h2c)
          clear h2c
          go_wp2
          go_ret
          exact⟨by rw [HF.out];rfl,HC2.out⟩
        ·obtain rfl:(k:Int)=v:=by omega
         have b9:decide ((k:Int)<(k:Int))=false:=by simp
         have HFI:Hid (fillB t.c=true):=jh (fillB_true (fun j hj=>HB.out j (by rw [HV.out] at hj;omega)))
         have eg:=enters_of Tryz.func126 (by kernel_rfl) rfl
         go_wp2_with fail
         refine (containsI_any _ _ badEnd t.e ea ec B wr eg (HE.out.same HCW.out) (gives_end wr) fe).mono ?_
         rintro e w2 ⟨rfl,h2c⟩
         have HM2:=jh (HM.out.chg h2c)
         have HC2:=jh (HCW.out.trans h2c)
         clear h2c HM HCW eg q0 q1 q2 q3 m0 m1
         cases he:t.e.any badEnd with
         | true =>
          have HF:Hid (mayT t=false):=jh (mayT_ends he)
          clear he
          go_wp2
          go_ret
          exact⟨by rw [HF.out];rfl,HC2.out⟩
         | false =>
          have HF:Hid (mayT t=!t.n.any (badRow (k:Int) t.n.length)):=jh (by
           have:=mayT_good HAP.out HG1.out g2 HG3.out HCB.out HFI.out he
           rw [HV.out] at this
           exact this)
          clear he
          obtain⟨⟨q0,q1,q2,q3⟩,⟨m0,m1⟩,-,-⟩:=HM2.out
          unfold slV at q0 q1 q2 q3
          simp only at q0 q1 q2 q3
          have eg:=enters_of Tryz.func128 (by kernel_rfl) rfl
          have HG:=jh (gives_row w1.heap.size w.heap.size t.n.length B k na nc w2 m0 q2)
          go_wp2_with fail
          refine (containsL_any _ _ (badRow (k:Int) t.n.length) t.n na nc B w2 eg (HN.out.same HC2.out) HG.out fn HL.out).mono ?_
          rintro e w3 ⟨rfl,h3c⟩
          have HC3:=jh (HC2.out.trans h3c)
          clear h3c eg
          cases hb:t.n.any (badRow (k:Int) t.n.length) with
          | true =>
           rw [hb] at HF
           go_wp2
           go_ret
           exact⟨by rw [HF.out];rfl,HC3.out⟩
          | false =>
           rw [hb] at HF
           go_wp2
           go_ret
           exact⟨by rw [HF.out];rfl,HC3.out⟩
    ·have d1:((t.c.length:Int) != (t.r.length:Int))=false:=by simp [g1]
     have d2:decide ((t.n.length:Int)<1)=false:=decide_eq_false (by omega)
     have d2':decide (t.n.length<1)=false:=decide_eq_false (by omega)
     have d3:((t.e.length:Int) != (t.n.length:Int))=true:=by simp;omega
     have HG1:=jh g1
     clear g1
     have HF:Hid (mayT t=false):=jh (mayT_no (fun hm=>g3 hm.el))
     go_enter Tryz.func84,Tryz.ntmps84
     go_wp2_with fail
     refine (apart_rng t.r ra rc B _ (HR.out.same ((Chg.refl _ _).alloc _)) fr).mono ?_
     rintro e w1 ⟨rfl,h1c⟩
     rw [HAP.out]
     have HC1:=jh (((Chg.refl _ w).alloc _).trans h1c)
     obtain⟨q0,q1,q2,q3⟩:=HT0.out w1 h1c
     clear h1c
     go_wp2
     go_ret
     exact⟨by rw [HF.out];rfl,HC1.out⟩
   ·have d1:((t.c.length:Int) != (t.r.length:Int))=false:=by simp [g1]
    have d2:decide ((t.n.length:Int)<1)=true:=decide_eq_true (by omega)
    have d2':decide (t.n.length<1)=true:=decide_eq_true (by omega)
    have HG1:=jh g1
    clear g1
    have HF:Hid (mayT t=false):=jh (mayT_no (fun hm=>g2 hm.nl))
    go_enter Tryz.func84,Tryz.ntmps84
    go_wp2_with fail
    refine (apart_rng t.r ra rc B _ (HR.out.same ((Chg.refl _ _).alloc _)) fr).mono ?_
    rintro e w1 ⟨rfl,h1c⟩
    rw [HAP.out]
    have HC1:=jh (((Chg.refl _ w).alloc _).trans h1c)
    obtain⟨q0,q1,q2,q3⟩:=HT0.out w1 h1c
    clear h1c
    go_wp2
    go_ret
    exact⟨by rw [HF.out];rfl,HC1.out⟩
  ·have d1:((t.c.length:Int) != (t.r.length:Int))=true:=by simp;omega
   have HF:Hid (mayT t=false):=jh (mayT_no (fun hm=>g1 hm.cl))
   go_enter Tryz.func84,Tryz.ntmps84
   go_wp2_with fail
   refine (apart_rng t.r ra rc B _ (HR.out.same ((Chg.refl _ _).alloc _)) fr).mono ?_
   rintro e w1 ⟨rfl,h1c⟩
   rw [HAP.out]
   have HC1:=jh (((Chg.refl _ w).alloc _).trans h1c)
   obtain⟨q0,q1,q2,q3⟩:=HT0.out w1 h1c
   clear h1c
   go_wp2
   go_ret
   exact⟨by rw [HF.out];rfl,HC1.out⟩
end Go.Proofs.YtgnpmceimpjheaaGreat
