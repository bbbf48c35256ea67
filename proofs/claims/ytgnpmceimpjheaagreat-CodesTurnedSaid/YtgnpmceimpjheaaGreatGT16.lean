/- A part of the proof: SumsA SumsB SumsC SumsD Concat Seal PtM GreP GetC. -/
import Derived.Test.YtgnpmceimpjheaaGreatGT4
import Derived.Test.YtgnpmceimpjheaaGreatGT15
import Derived.Test.YtgnpmceimpjheaaGreatGT13
import Derived.Test.YtgnpmceimpjheaaGreatGT5
import Derived.Tactics
import Derived.Tactics2
import Derived.Defers
import Derived.Laws.Pointers
import Derived.Laws.LoneSync
import Derived.RegionTactic
import Derived.RegionCalls
import Derived.ChangeAlike
import Derived.OpenShut
import Derived.Recover
set_option maxRecDepth 100000
set_option maxHeartbeats 16000000
namespace Go.Proofs.YtgnpmceimpjheaaGreat
open Go.RowKit
theorem disable (w:World):(callFunc 197 #[]).run Tryz.prog w=.ok (.value (.tuple #[])) w:=run_call_mark0 Tryz.func197 (by kernel_rfl) (by kernel_rfl) (by kernel_rfl) .disable (by kernel_rfl) w
theorem enable (w:World):(callFunc 199 #[]).run Tryz.prog w=.ok (.value (.tuple #[])) w:=run_call_mark0 Tryz.func199 (by kernel_rfl) (by kernel_rfl) (by kernel_rfl) .enable (by kernel_rfl) w
theorem acquire (a:Addr) (w:World):(callFunc 200 #[.pointer (some a)]).run Tryz.prog w=.ok (.value (.tuple #[])) w:=run_call_marked Tryz.func200 (by kernel_rfl) (by kernel_rfl) (by kernel_rfl) .acquire (by kernel_rfl) a w
theorem releaseMerge (a:Addr) (w:World):(callFunc 202 #[.pointer (some a)]).run Tryz.prog w=.ok (.value (.tuple #[])) w:=run_call_marked Tryz.func202 (by kernel_rfl) (by kernel_rfl) (by kernel_rfl) .releaseMerge (by kernel_rfl) a w
theorem store_deferred (a:Addr) (x:Value) (u:FrameMode) (w:World) (hc:w.cell? a=some x) (hz:w.frozen? a=false) :
  CallsD Tryz.prog 185 #[.pointer (some a),.bool true] u w fun e u' w'=>u'=u∧(e=.returned (.tuple #[])∧w'=w.drew.setCell a (.int .u32 1)):=by
 have hc':w.drew.cell? a=some x:=by go_simp
 have hz':w.drew.frozen? a=false:=by go_simp
 have hst:=run_call_store (P:=Tryz.prog) Tryz.func193 (by kernel_rfl) (by kernel_rfl) (by kernel_rfl) (by kernel_rfl) (k:=.u32) (y:=1) hc' hz'
 go_enter_d Tryz.func185,Tryz.ntmps185
 go_wp2
 go_region_calls
 all_goals (go_end0;exact⟨rfl,rfl⟩)
theorem unlock_deferred (a:Addr) (u:FrameMode) (w:World) (hc:w.cell? a=some (.int .i32 1)) (hz:w.frozen? a=false) :
  CallsD Tryz.prog 184 #[.pointer (some a)] u w fun e u' w'=>u'=u∧(e=.returned (.tuple #[])∧w'=w.setCell a (.int .i32 0)):=by
 have hd:=disable
 have he:=enable
 have hr:=releaseMerge
 have hadd:=run_call_add (P:=Tryz.prog) Tryz.func203 (by kernel_rfl) (by kernel_rfl) (by kernel_rfl) .i32 (by kernel_rfl) (y:=-1) (s:=0) hc hz (by simp [go_sem];rfl)
 have hcv:=run_convert_to_unsafe (P:=Tryz.prog) (src:=284) (dst:=288) Tryz.underlying284 Tryz.underlying288 (by kernel_rfl) hc
 go_enter_d Tryz.func184,Tryz.ntmps184
 go_wp2
 go_end0
 first|exact⟨rfl,rfl⟩|(go_wp2;go_end0;exact⟨rfl,rfl⟩)
theorem lock_free (a:Addr) (w:World) (hc:w.cell? a=some (.int .i32 0)) (hz:w.frozen? a=false) :
  Calls Tryz.prog 183 #[.pointer (some a)] w fun e w'=>e=.returned (.tuple #[])∧w'=w.setCell a (.int .i32 1):=by
 have hd:=disable
 have he:=enable
 have ha:=acquire
 have hcas:=run_call_cas_hit (P:=Tryz.prog) Tryz.func198 (by kernel_rfl) (by kernel_rfl) (by kernel_rfl) .i32 (by kernel_rfl) (y:=1) hc hz
 have hc':(w.setCell a (.int .i32 1)).cell? a=some (.int .i32 1):=World.cell?_setCell_same w a _ hc
 have hcv:=run_convert_to_unsafe (P:=Tryz.prog) (src:=284) (dst:=288) Tryz.underlying284 Tryz.underlying288 (by kernel_rfl) hc'
 go_enter Tryz.func183,Tryz.ntmps183
 go_wp2
 first|go_end0|(simp only [Exit.inBlock,Exit.then];refine bodyPost_ret (results_none rfl _ _ _) rfl ?_)|refine bodyPost_ret (results_none rfl _ _ _) rfl ?_
 first|exact⟨rfl,rfl⟩|(go_wp2;go_end0;exact⟨rfl,rfl⟩)
structure SumsAt (w:World) (b:Nat) (d l:Int) (T:Nat→Int):Prop where
 c0:w.cell? ⟨b,0,none⟩=some (.int .u32 d)
 c1:w.cell? ⟨b,1,none⟩=some (.int .i32 l)
 tab:∀ i,i<256→w.cell? ⟨b,3+i,none⟩=some (.int .u32 (T i))
 z:∀ j,w.frozen? ⟨b,j,none⟩=false
theorem SumsAt.chg {S:Nat→Prop} {w w':World} {b:Nat} {d l:Int} {T:Nat→Int} (h:SumsAt w b d l T) (hc:Chg S w w') (hs:¬ S b):SumsAt w' b d l T :=
 ⟨hc.cellS h.c0 hs,hc.cellS h.c1 hs,fun i hi=>hc.cellS (h.tab i hi) hs,fun j=>(hc.frozen (p:=⟨b,j,none⟩) (by have:=World.block_lt_of_cell? _ _ h.c0;exact this) hs).trans (h.z j)⟩
theorem SumsAt.tabs {w:World} {b:Nat} {d l:Int} {T T':Nat→Int} (h:SumsAt w b d l T) (ht:∀ i,i<256→T' i=T i):SumsAt w b d l T' :=
 ⟨h.c0,h.c1,fun i hi=>by rw [ht i hi];exact h.tab i hi,h.z⟩
theorem SumsAt.put {w:World} {b:Nat} {d l:Int} {T:Nat→Int} (h:SumsAt w b d l T) {k:Nat} (hk:k<256) (v:Int):SumsAt (w.setCell ⟨b,3+k,none⟩ (.int .u32 v)) b d l (fun i=>if i=k then v else T i):=by
 refine⟨(World.cell?_setCell_other _ _ _ _ (by simp)).trans h.c0,(World.cell?_setCell_other _ _ _ _ (by intro e;injection e with _ e;omega)).trans h.c1,fun i hi=>?_,fun j=>(World.frozen?_setCell _ _ _ _).trans (h.z j)⟩
 by_cases he:i=k
 ·subst he
  rw [if_pos rfl]
  exact World.cell?_setCell_same _ _ _ (h.tab _ hi)
 ·rw [if_neg he,World.cell?_setCell_other _ _ _ _ (by intro e;injection e with _ e;omega)]
  exact h.tab i hi
def stepI (y:Int):Int:=bits BinOp.xor IntKind.u32 (y / 2) (3988292384 * bits BinOp.and IntKind.u32 y 1 % 4294967296)
def iterI:Nat→Int→Int
 | 0,y=>y
 | j+1,y=>stepI (iterI j y)
def tabI (i:Nat):Int:=iterI 8 i
theorem fill_any (b:Nat) (d l:Int) (T:Nat→Int) (w:World) (h:SumsAt w b d l T) :
  Calls Tryz.prog 120 #[.pointer (some ⟨b,0,none⟩)] w fun e w'=>e=.returned (.tuple #[])∧SumsAt w' b d l tabI∧Chg (·=b) w w':=by
 have H:=jh (h.tabs (T':=fun i=>if i<0 then tabI i else T i) (fun i _=>by rw [if_neg (by omega)]))
 clear h
 go_enter Tryz.func120,Tryz.ntmps120
 go_wp2
 go_loopw [2,4] (fun x i wr=>∃ (k:Nat),k≤256∧i=.int .i64 k∧SumsAt wr b d l (fun i=>if i<k then tabI i else T i)∧Chg (·=b) w wr) (fun _ i _=>256-(intOf i).toNat)
 case atStart=>exact⟨0,by omega,rfl,H.out,Chg.refl _ _⟩
 case round =>
  clear H
  obtain⟨k,hk,rfl,h,hc⟩:=hrel
  have H:=jh h
  have HC:=jh hc
  clear h hc
  by_cases hk2:k<256
  ·have b5:decide ((k:Int)<256)=true:=by simp;omega
   go_wp2
   obtain⟨wo,rfl⟩:∃ wo:World,wo=wr:=⟨_,rfl⟩
   go_loopw [3,9] (fun n i wr=>∃ (j:Nat) (y:Int),j≤8∧i=.int .i64 j∧n=.int .u32 y∧y=iterI j k∧wr=wo) (fun _ i _=>8-(intOf i).toNat)
   case atStart=>exact⟨0,k,by omega,rfl,rfl,rfl,rfl⟩
   case round =>
    obtain⟨j,y,hj,rfl,rfl,hy,rfl⟩:=hrel
    have HY:=jh hy
    clear hy
    by_cases hj8:j<8
    ·have b10:decide ((j:Int)<8)=true:=by simp;omega
     go_wp2
     go_roundw
     case rel=>exact⟨j+1,_,by omega,by go_num,rfl,by rw [HY.out];rfl,trivial⟩
     case measure=>simp [intOf];omega
    ·obtain rfl:j=8:=by omega
     have c1:=H.out.tab k hk2
     have z1:=H.out.z (3+k)
     have HX:Hid (SumsAt (wr.setCell ⟨b,3+k,none⟩ (.int .u32 y)) b d l (fun i=>if i<k+1 then tabI i else T i)):=jh ((H.out.put hk2 y).tabs (fun i _=>by
      by_cases he:i=k
      ·subst he
       rw [if_pos (by omega),if_pos rfl,HY.out]
       rfl
      ·rw [if_neg he]
       by_cases hi:i<k
       ·rw [if_pos (by omega),if_pos hi]
       ·rw [if_neg (by omega),if_neg hi]))
     have HC2:=jh (HC.out.trans (setCellChg wr b (3+k) (.int .u32 y)))
     clear H HC HY
     go_wp2
     go_roundw
     case rel=>first|exact⟨k+1,by omega,by go_num,HX.out,HC2.out⟩|((repeat apply Exists.intro);exact⟨⟨k+1,by omega,rfl,HX.out,HC2.out⟩,rfl⟩)
     case measure=>simp [intOf];omega
  ·obtain rfl:k=256:=by omega
   have HX:=jh (H.out.tabs (T':=tabI) (fun i hi=>by rw [if_pos hi]))
   go_wp2
   go_end0
   exact⟨rfl,HX.out,HC.out⟩
end Go.Proofs.YtgnpmceimpjheaaGreat
namespace Go.Proofs.YtgnpmceimpjheaaGreat
open Go.RowKit
theorem SumsAt.lock {w:World} {b:Nat} {d l:Int} {T:Nat→Int} (h:SumsAt w b d l T) (l':Int):SumsAt (w.setCell ⟨b,1,none⟩ (.int .i32 l')) b d l' T :=
 ⟨(World.cell?_setCell_other _ _ _ _ (by simp)).trans h.c0,World.cell?_setCell_same _ _ _ h.c1,fun i hi=>(World.cell?_setCell_other _ _ _ _ (by intro e;injection e with _ e;omega)).trans (h.tab i hi),fun j=>(World.frozen?_setCell _ _ _ _).trans (h.z j)⟩
theorem SumsAt.mark {w:World} {b:Nat} {d l:Int} {T:Nat→Int} (h:SumsAt w b d l T) (d':Int):SumsAt (w.drew.setCell ⟨b,0,none⟩ (.int .u32 d')) b d' l T :=
 ⟨World.cell?_setCell_same _ _ _ ((World.cell?_drew _ _).trans h.c0),(World.cell?_setCell_other _ _ _ _ (by simp)).trans ((World.cell?_drew _ _).trans h.c1),fun i hi=>(World.cell?_setCell_other _ _ _ _ (by intro e;injection e with _ e;omega)).trans ((World.cell?_drew _ _).trans (h.tab i hi)),fun j=>(World.frozen?_setCell _ _ _ _).trans (h.z j)⟩
theorem slow_any (b:Nat) (T:Nat→Int) (w:World) (h:SumsAt w b 0 0 T) :
  Calls Tryz.prog 162 #[.pointer (some ⟨b,0,none⟩),.func (.func 120) #[.pointer (some ⟨b,0,none⟩)] #[]] w fun e w'=>e=.returned (.tuple #[])∧SumsAt w' b 1 0 tabI∧Chg (·=b) w w':=by
 have H:=jh h
 have H1:=jh (h.lock 1)
 have HC1:=jh (setCellChg w b 1 (.int .i32 1))
 have hl:=run_call_load (P:=Tryz.prog) Tryz.func182 (by kernel_rfl) (by kernel_rfl) (by kernel_rfl) .u32 (by kernel_rfl) (w:=w.setCell ⟨b,1,none⟩ (.int .i32 1)) (a:=⟨b,0,none⟩) (x:=0) H1.out.c0
 have hnot:∀ (x:Bool) (w:World),(Op.unary .not (.bool x)).run Tryz.prog w=.ok (.bool (!x)) w:=fun _ _=>rfl
 clear h
 go_enter_defers Tryz.func162,Tryz.ntmps162
 go_wp2_with (first|(go_at_call 183;refine (lock_free ⟨b,1,none⟩ _ H.out.c1 (H.out.z 1)).mono ?_;rintro e w' ⟨rfl,rfl⟩)|(go_at_call 161;go_in))
 refine (fill_any b 0 1 T _ H1.out).mono ?_
 rintro e w2 ⟨rfl,h2,hc2⟩
 have H2:=jh h2
 have HC2:=jh (HC1.out.trans hc2)
 clear h2 hc2 H H1 HC1 hl
 go_wp2
 refine leaves_cons (f:=185) (args:=#[.pointer (some ⟨b,0,none⟩),.bool true]) (by simp) (by simp [go_sem]) ?_
 refine (store_deferred ⟨b,0,none⟩ (.int .u32 0) .returning _ H2.out.c0 (H2.out.z 0)).mono ?_
 rintro e u' w'' ⟨rfl,rfl,rfl⟩
 refine leaves_cons (f:=184) (args:=#[.pointer (some ⟨b,1,none⟩)]) (by simp [settle]) (by simp [go_sem]) ?_
 refine (unlock_deferred ⟨b,1,none⟩ _ _ (H2.out.mark 1).c1 ((H2.out.mark 1).z 1)).mono ?_
 rintro e u' w'' ⟨rfl,rfl,rfl⟩
 have HF:Hid (SumsAt ((w2.drew.setCell ⟨b,0,none⟩ (.int .u32 1)).setCell ⟨b,1,none⟩ (.int .i32 0)) b 1 0 tabI∧Chg (·=b) w ((w2.drew.setCell ⟨b,0,none⟩ (.int .u32 1)).setCell ⟨b,1,none⟩ (.int .i32 0))) :=
  jh ⟨(H2.out.mark 1).lock 0,(HC2.out.drew.trans (setCellChg _ b 0 _)).trans (setCellChg _ b 1 _)⟩
 simp [Leaves,settle,results,Tryz.results162]
 exact HF.out
theorem do_first (b:Nat) (T:Nat→Int) (w:World) (h:SumsAt w b 0 0 T) :
  Calls Tryz.prog 119 #[.pointer (some ⟨b,0,none⟩),.func (.func 120) #[.pointer (some ⟨b,0,none⟩)] #[]] w fun e w'=>e=.returned (.tuple #[])∧SumsAt w' b 1 0 tabI∧Chg (·=b) w w':=by
 have H:=jh h
 have hl:=run_call_load (P:=Tryz.prog) Tryz.func182 (by kernel_rfl) (by kernel_rfl) (by kernel_rfl) .u32 (by kernel_rfl) h.c0
 have hnot:∀ (x:Bool) (w:World),(Op.unary .not (.bool x)).run Tryz.prog w=.ok (.bool (!x)) w:=fun _ _=>rfl
 clear h
 go_enter Tryz.func119,Tryz.ntmps119
 go_wp2_with (first|(go_at_call 162;refine (slow_any b T _ H.out).mono ?_;rintro e w' ⟨rfl,h2,hc2⟩)|(go_at_call 161;go_in))
 go_end0
 exact⟨rfl,h2,hc2⟩
theorem do_done (b:Nat) (l:Int) (T:Nat→Int) (fv:Value) (w:World) (h:SumsAt w b 1 l T) :
  Calls Tryz.prog 119 #[.pointer (some ⟨b,0,none⟩),fv] w fun e w'=>e=.returned (.tuple #[])∧w'=w:=by
 have hl:=run_call_load (P:=Tryz.prog) Tryz.func182 (by kernel_rfl) (by kernel_rfl) (by kernel_rfl) .u32 (by kernel_rfl) h.c0
 have hnot:∀ (x:Bool) (w:World),(Op.unary .not (.bool x)).run Tryz.prog w=.ok (.bool (!x)) w:=fun _ _=>rfl
 clear h
 go_enter Tryz.func119,Tryz.ntmps119
 go_wp2
 go_end0
 exact⟨rfl,rfl⟩
end Go.Proofs.YtgnpmceimpjheaaGreat
namespace Go.Proofs.YtgnpmceimpjheaaGreat
open Go.RowKit
def zerosS:Array Value:=#[.int .u32 0,.int .i32 0,.int .u32 0]++Array.replicate 256 (.int .u32 0)
theorem zeroSums (w:World):(zeroValue 104).run Tryz.prog w=.ok (.agg zerosS) w:=by kernel_rfl
theorem SumsAt.made (w:World) (e:TypeId):SumsAt (w.alloc (.cells zerosS e)) w.heap.size 0 0 (fun _=>0):=by
 refine⟨by rw [World.cell?_alloc_new];simp [zerosS],by rw [World.cell?_alloc_new];simp [zerosS],fun i hi=>?_,fun j=>World.frozen?_alloc_new _ _ _ _⟩
 rw [World.cell?_alloc_new,zerosS,Array.getElem?_append_right (by simp)]
 simp [hi]
def ofStep (y c:Int):Int:=bits BinOp.xor IntKind.u32 (y / 256) (tabI (bits BinOp.xor IntKind.u8 (y % 256) c).toNat)
def ofFold (Z:List Int):Int:=Z.foldl ofStep 4294967295
def ofI (Z:List Int):Int:=bits BinOp.xor IntKind.u32 IntKind.u32.max (ofFold Z)
end Go.Proofs.YtgnpmceimpjheaaGreat
namespace Go.Proofs.YtgnpmceimpjheaaGreat
open Go.RowKit
def SumsSt (w:World) (b:Nat):Prop:=∃ (d:Int) (T:Nat→Int),SumsAt w b d 0 T∧(d=0∨(d=1∧T=tabI))
theorem SumsSt.chg {S:Nat→Prop} {w w':World} {b:Nat} (h:SumsSt w b) (hc:Chg S w w') (hs:¬ S b):SumsSt w' b:=by
 obtain⟨d,T,h1,h2⟩:=h
 exact⟨d,T,h1.chg hc hs,h2⟩
theorem SumsSt.lt {w:World} {b:Nat} (h:SumsSt w b):b<w.heap.size:=by
 obtain⟨d,T,h1,h2⟩:=h
 exact World.block_lt_of_cell? _ _ h1.c0
theorem do_any (b:Nat) (w:World) (h:SumsSt w b) :
  Calls Tryz.prog 119 #[.pointer (some ⟨b,0,none⟩),.func (.func 120) #[.pointer (some ⟨b,0,none⟩)] #[]] w fun e w'=>e=.returned (.tuple #[])∧SumsAt w' b 1 0 tabI∧Chg (·=b) w w':=by
 obtain⟨d,T,h1,h2⟩:=h
 rcases h2 with rfl|⟨rfl,rfl⟩
 ·exact do_first b T w h1
 ·exact (do_done b 0 tabI _ w h1).mono fun e w' ⟨he,hw⟩=>by subst hw;exact⟨he,h1,Chg.refl _ _⟩
theorem of_any (b:Nat) (Z:List Int) (a:Option Addr) (g o c:Nat) (w:World) (hs:SumsSt w b) (hz:BytesAt w g o Z) (hgb:Z≠[]→g≠b) (ha:0<Z.length→a=some ⟨g,o,none⟩) (hl:Z.length≤1000000000) :
  Calls Tryz.prog 76 #[.pointer (some ⟨b,0,none⟩),.slice a Z.length c] w fun e w'=>e=.returned (.int .u32 (ofI Z))∧SumsSt w' b∧Chg (·=b) w w':=by
 have HZ:=jh hz
 have HA:=jh ha
 have HS:=jh hs
 have HG:=jh hgb
 clear hz ha hs hgb
 go_enter Tryz.func76,Tryz.ntmps76
 go_wp2_with fail
 refine (do_any b w HS.out).mono ?_
 rintro e w1 ⟨rfl,h1,hc1⟩
 have H1:=jh h1
 have HC1:=jh hc1
 clear h1 hc1 HS
 go_wp2
 go_loopw [5,20] (fun n i wr=>∃ (k:Nat) (y:Int),k≤Z.length∧i=.int .i64 k∧n=.int .u32 y∧y=ofFold (Z.take k)∧SumsAt wr b 1 0 tabI∧Chg (·=b) w wr) (fun _ i _=>Z.length-(intOf i).toNat)
 case atStart=>exact⟨0,_,by omega,rfl,rfl,rfl,H1.out,HC1.out⟩
 case round =>
  clear H1 HC1
  obtain⟨k,y,hk,rfl,rfl,hy,h,hc⟩:=hrel
  have HY:=jh hy
  have H:=jh h
  have HC:=jh hc
  clear hy h hc
  by_cases hkl:k<Z.length
  ·have b21:decide ((k:Int)<(Z.length:Int))=true:=by simp;omega
   obtain⟨z,hz,c1,z0,z1⟩:=(HZ.out.chg HC.out HG.out).get hkl
   have e1:=HA.out (by omega)
   subst e1
   obtain⟨x,hx,hx2⟩:∃ x:Nat,bits BinOp.xor IntKind.u8 (y % 256) z=(x:Int)∧x<256:=by
    have h1:=bounds_u8 (wf_bits BinOp.xor IntKind.u8 (y % 256) z)
    exact⟨(bits BinOp.xor IntKind.u8 (y % 256) z).toNat,by omega,by omega⟩
   have c2:=H.out.tab x hx2
   have HN:Hid (bits BinOp.xor IntKind.u32 (y / 256) (tabI x)=ofFold (Z.take (k+1))):=jh (by
    rw [List.take_add_one,hz]
    show _=List.foldl ofStep 4294967295 (Z.take k++[z])
    rw [List.foldl_append]
    show _=ofStep (ofFold (Z.take k)) z
    rw [← HY.out]
    unfold ofStep
    rw [hx]
    rfl)
   clear hz HY
   go_wp2
   go_roundw
   case rel=>first|exact⟨k+1,_,by omega,by go_num,rfl,HN.out,H.out,HC.out⟩|((repeat apply Exists.intro);exact⟨⟨k+1,_,by omega,rfl,rfl,HN.out,H.out,HC.out⟩,rfl⟩)
   case measure=>simp [intOf];omega
  ·obtain rfl:k=Z.length:=by omega
   have HF:Hid (y=ofFold Z):=jh (by rw [HY.out,List.take_length])
   have HST:Hid (SumsSt wr b):=jh ⟨1,tabI,H.out,.inr ⟨rfl,rfl⟩⟩
   clear HY H
   go_wp2
   go_ret
   exact⟨by unfold ofI;rw [← HF.out];rfl,HST.out,HC.out⟩
def fourL (n:Int):List Int:=[n % 256,n / 256 % 256,n / 65536 % 256,n / 16777216]
theorem fourL_byte {n:Int} (h0:0≤n) (h1:n≤4294967295):∀ a∈fourL n,Byte a:=by
 intro a ha
 simp [fourL] at ha
 rcases ha with rfl|rfl|rfl|rfl <;> constructor <;> omega
theorem four_any (n:Int) (w:World) (h0:0≤n) (h1:n≤4294967295) :
  Calls Tryz.prog 75 #[.int .u32 n] w fun e w'=>∃ h,e=.returned (.slice (some ⟨h,0,none⟩) 4 4)∧w.heap.size≤h∧Row w' h (fourL n)∧Chg (fun _=>False) w w':=by
 have HR:=jh (Row.alloc w (fourL n) 5 (fourL_byte h0 h1))
 go_enter Tryz.func75,Tryz.ntmps75
 go_wp2
 go_ret
 exact⟨_,rfl,Nat.le_refl _,HR.out,(Chg.refl _ _).alloc _⟩
theorem equal_any (X Y:List Int) (ax ay:Option Addr) (gx ox gy oy cx cy:Nat) (w:World) (hx:BytesAt w gx ox X) (hax:0<X.length→ax=some ⟨gx,ox,none⟩) (hy:BytesAt w gy oy Y) (hay:0<Y.length→ay=some ⟨gy,oy,none⟩) (hl:X.length≤1000000000000) :
  Calls Tryz.prog 100 #[.slice ax X.length cx,.slice ay Y.length cy] w fun e w'=>e=.returned (.bool (decide (X=Y)))∧Chg (fun _=>False) w w':=by
 have HX:=jh hx
 have HY:=jh hy
 have HAX:=jh hax
 have HAY:=jh hay
 clear hx hy hax hay
 by_cases hxy:X.length=Y.length
 ·have b10:((X.length:Int) != (Y.length:Int))=false:=by simp [hxy]
  go_enter Tryz.func100,Tryz.ntmps100
  go_wp2
  go_loopw [13] (fun i wr=>∃ k:Nat,k≤X.length∧i=.int .i64 k∧Chg (fun _=>False) w wr∧X.take k=Y.take k) (fun i _=>X.length-(intOf i).toNat)
  case atStart=>exact⟨0,by omega,rfl,Chg.refl _ _,by simp⟩
  case round =>
   obtain⟨k,hk,rfl,hc,he⟩:=hrel
   have HC:=jh hc
   have HE:=jh he
   clear hc he
   by_cases hkl:k<X.length
   ·have b14:decide ((k:Int)<(X.length:Int))=true:=by simp;omega
    obtain⟨p,hp,c1,p0,p1⟩:=(HX.out.chg HC.out (fun _ h=>h)).get hkl
    obtain⟨q,hq,c2,q0,q1⟩:=(HY.out.chg HC.out (fun _ h=>h)).get (k:=k) (by omega)
    have e1:=HAX.out (by omega)
    have e2:=HAY.out (by omega)
    subst e1 e2
    have HP:=jh hp
    have HQ:=jh hq
    clear hp hq
    by_cases hpq:p=q
    ·subst hpq
     have HT:Hid (X.take (k+1)=Y.take (k+1)):=jh (by rw [List.take_add_one,List.take_add_one,HE.out,HP.out,HQ.out])
     clear HE HP HQ
     go_upto_region 6 with (fail)
     go_still (by kernel_rfl)
     go_wp2
     go_roundw
     case rel=>first|exact⟨k+1,by omega,by go_num,HC.out.drew,HT.out⟩|((repeat apply Exists.intro);exact⟨⟨k+1,by omega,by first|rfl|go_num,HC.out.drew,HT.out⟩,rfl,rfl,rfl⟩)
     case measure=>simp [intOf];omega
    ·have b25:(p != q)=true:=by simpa using hpq
     have HD:Hid (decide (X=Y)=false):=jh (by
      apply decide_eq_false
      intro h
      rw [h,HQ.out] at HP
      exact hpq (Option.some.inj HP.out).symm)
     clear HE HP HQ hpq
     go_upto_region 6 with (fail)
     go_still (by kernel_rfl)
     go_wp2
     go_ret
     exact⟨by rw [HD.out];rfl,HC.out.drew⟩
   ·obtain rfl:k=X.length:=by omega
    have HD:Hid (decide (X=Y)=true):=jh (by
     have:=HE.out
     rw [List.take_length,hxy,List.take_length] at this
     simp [this])
    clear HE
    go_wp2
    go_ret
    exact⟨by rw [HD.out];rfl,HC.out⟩
 ·have b10:((X.length:Int) != (Y.length:Int))=true:=by simp;omega
  have HD:Hid (decide (X=Y)=false):=jh (by
   apply decide_eq_false
   intro h
   exact hxy (by rw [h]))
  go_enter Tryz.func100,Tryz.ntmps100
  go_wp2
  go_ret
  exact⟨by rw [HD.out];rfl,Chg.refl _ _⟩
end Go.Proofs.YtgnpmceimpjheaaGreat
namespace Go.Proofs.YtgnpmceimpjheaaGreat
open Go.RowKit
theorem concat_any (X Y:List Int) (ax:Option Addr) (gx ox cx hy q:Nat) (w:World) (hx:BytesAt w gx ox X) (hax:0<X.length→ax=some ⟨gx,ox,none⟩) (hyr:BytesAt w hy 0 Y) (hyl:0<Y.length) (hxl:X.length≤100000000) (hyl2:Y.length≤100000000)
  (q0:w.cell? ⟨q,0,none⟩=some (.slice ax X.length cx)) (q1:w.cell? ⟨q,1,none⟩=some (.slice (some ⟨hy,0,none⟩) Y.length Y.length)) :
  Calls Tryz.prog 74 #[.slice (some ⟨q,0,none⟩) 2 2] w fun e w'=>∃ v,e=.returned v∧Own w' w.heap.size v (X++Y)∧Chg (fun _=>False) w w' :=
 concat_gen X Y ax gx ox cx hy Y.length q w hx hax hyr hyl (by omega) (by omega) q0 q1
end Go.Proofs.YtgnpmceimpjheaaGreat
namespace Go.Proofs.YtgnpmceimpjheaaGreat
open Go.RowKit
theorem ofI_range (Z:List Int):0≤ofI Z∧ofI Z≤4294967295:=bounds_u32 (wf_bits BinOp.xor IntKind.u32 _ _)
def sealL (Z:List Int):List Int:=Z++fourL (ofI Z)
theorem sealL_length (Z:List Int):(sealL Z).length=Z.length+4:=by simp [sealL,fourL]
theorem two_cells (w:World) (u v:Value) (e:TypeId):(w.alloc (.cells #[u,v] e)).cell? ⟨w.heap.size,0,none⟩=some u∧(w.alloc (.cells #[u,v] e)).cell? ⟨w.heap.size,1,none⟩=some v:=by
 constructor <;> · rw [World.cell?_alloc_new];rfl
theorem seal_any (b:Nat) (Z:List Int) (a:Option Addr) (g o c:Nat) (w:World) (hs:SumsSt w b) (hz:BytesAt w g o Z) (hgb:Z≠[]→g≠b) (ha:0<Z.length→a=some ⟨g,o,none⟩) (hl:Z.length≤20000000) :
  Calls Tryz.prog 31 #[.pointer (some ⟨b,0,none⟩),.slice a Z.length c] w fun e w'=>∃ h,e=.returned (.slice (some ⟨h,0,none⟩) (sealL Z).length (sealL Z).length)∧w.heap.size≤h∧Row w' h (sealL Z)∧SumsSt w' b∧Chg (·=b) w w':=by
 have HOF:=jh (of_any b Z a g o c w hs hz hgb ha (by omega))
 have HZ:=jh hz
 have HA:=jh ha
 have HG:=jh hgb
 have HL:=jh hs.lt
 obtain⟨r0,r1⟩:=ofI_range Z
 obtain⟨N,hN⟩:∃ N,ofI Z=N:=⟨_,rfl⟩
 rw [hN] at HOF r0 r1
 have HS:Hid (sealL Z=Z++fourL N):=jh (by rw [sealL,hN])
 clear hs hz hgb ha hN
 go_enter Tryz.func31,Tryz.ntmps31
 go_wp2_with fail
 refine HOF.out.mono ?_
 rintro e w1 ⟨rfl,hs1,hc1⟩
 have HS1:=jh hs1
 have HC1:=jh hc1
 clear hs1 hc1 HOF
 go_wp2_with fail
 refine (four_any N w1 r0 r1).mono ?_
 rintro e w2 ⟨h4,rfl,hh4,hr4,hc2⟩
 have HR4:=jh hr4
 have HC2:=jh hc2
 clear hr4 hc2
 go_wp2_with fail
 have HQ:=jh (two_cells w2 (.slice a Z.length c) (.slice (some ⟨h4,0,none⟩) 4 4) 45)
 have HC3:=jh ((Chg.refl (fun _=>False) w2).alloc (.cells #[.slice a Z.length c,.slice (some ⟨h4,0,none⟩) 4 4] 45))
 refine (concat_any Z (fourL N) a g o c h4 w2.heap.size _ (((HZ.out.chg HC1.out HG.out).chg HC2.out (fun _ h=>h)).chg HC3.out (fun _ h=>h)) HA.out ((HR4.out.chg HC3.out (fun h=>h)).bytes (List.prefix_refl _)) (by simp [fourL]) (by omega) (by simp [fourL]) HQ.out.1 HQ.out.2).mono ?_
 rintro e w3 ⟨v3,rfl,ho3,hc3⟩
 obtain⟨g3,C3,e3,hg3,hR3,hp3,hm3⟩:=ho3.some (by simp [fourL])
 have HC4:=jh (HC2.out.trans (HC3.out.trans hc3))
 obtain⟨PL,hPL⟩:∃ PL,(Z++fourL N).length=PL:=⟨_,rfl⟩
 have HPL:Hid (PL≤C3.length):=jh (by rw [← hPL];exact hp3.length_le)
 have HP:Hid (PL=(sealL Z).length):=jh (by rw [HS.out,hPL])
 rw [hPL] at e3
 subst e3
 have HR3:Hid (Row w3 g3 (sealL Z)):=jh (by
  rw [HS.out]
  exact⟨fun k x hk=>by have:=(hR3.bytes hp3).c k x hk;rw [Nat.zero_add] at this;exact this.1,hR3.z,hR3.lt,fun x hx=>hR3.byte x (hp3.subset hx)⟩)
 have hg3':w.heap.size≤g3:=by have h1:=HC1.out.size;have h2:=HC2.out.size;have h3:=HC3.out.size;omega
 clear hR3 hp3 ho3 hc3 hg3 hPL
 go_wp2_with fail
 refine (clip_any w3 g3 _ _ HPL.out).mono ?_
 rintro e w4 ⟨rfl,rfl⟩
 have HF:Hid (SumsSt w4 b∧Chg (·=b) w w4):=jh ⟨HS1.out.chg HC4.out (fun h=>h),HC1.out.trans HC4.out.any⟩
 go_wp2
 go_ret
 exact⟨g3,by rw [← HP.out];rfl,hg3',HR3.out,HF.out.1,HF.out.2⟩
end Go.Proofs.YtgnpmceimpjheaaGreat
namespace Go.Proofs.YtgnpmceimpjheaaGreat
open Go.RowKit
structure PutB (t:TabsD):Prop where
 w:colsL t.lx.c≤65536
 l:(ptTabs t).length≤19000000
def PutPost (w:World) (t:TabsD) (e:Ending) (w':World):Prop :=
 Chg (fun _=>False) w w'∧((mayTabs t=false∧e=.returned (.tuple #[.slice none 0 0,.int .i64 1])) ∨
  (mayTabs t=true∧∃ h,e=.returned (.tuple #[.slice (some ⟨h,0,none⟩) (sealL (ptTabs t)).length (sealL (ptTabs t)).length,.int .i64 0])∧w.heap.size≤h∧Row w' h (sealL (ptTabs t))))
theorem named_le {s:Str} (h:namedB s=true):s.size≤64:=by
 unfold namedB at h
 simp only [Bool.and_eq_true,decide_eq_true_eq] at h
 exact h.2
theorem tabs_below {w:World} {S:Nat→Prop} {m:TabsS} {t:TabsD} (h:TabsIn w S m t):TabsIn w (·<w.heap.size) m t:=TabsIn.good.mono h (fun _ hg _=>hg)
theorem put_tabs (t:TabsD) (m:TabsS) (S:Nat→Prop) (w:World) (h:TabsIn w S m t) (hf:FairTabs t) (hb:mayTabs t=true→PutB t) :
  Calls Tryz.prog 10 #[tabsV m] w (PutPost w t):=by
 obtain⟨⟨ra,rn,rc⟩,⟨ka,kn,kc⟩,⟨da,dn,dc⟩,⟨⟨x0,z0,y0⟩,⟨x1,z1,y1⟩,⟨x2,z2,y2⟩,⟨x3,z3,y3⟩⟩,⟨⟨n0,o0,m0⟩,⟨n1,o1,m1⟩,⟨n2,o2,m2⟩,⟨n3,o3,m3⟩,⟨n4,o4,m4⟩⟩,⟨la,ln,lc⟩⟩:=m
 have hT:=tabs_below h
 obtain⟨h0,h1,h2,⟨h3,h4,h5,h6⟩,⟨h7,h8,h9,h10,h11⟩,h12⟩:=h
 obtain⟨rfl,-⟩:=h0.len
 obtain⟨rfl,-⟩:=h1.len
 obtain⟨rfl,-⟩:=h2.len
 obtain⟨rfl,-⟩:=h3.len
 obtain⟨rfl,-⟩:=h4.len
 obtain⟨rfl,-⟩:=h5.len
 obtain⟨rfl,-⟩:=h6.len
 obtain⟨rfl,-⟩:=h7.len
 obtain⟨rfl,-⟩:=h8.len
 obtain⟨rfl,-⟩:=h9.len
 obtain⟨rfl,-⟩:=h10.len
 obtain⟨rfl,-⟩:=h11.len
 obtain⟨rfl,-⟩:=h12.len
 clear h0 h1 h2 h3 h4 h5 h6 h7 h8 h9 h10 h11 h12
 have HT:=jh hT
 have HFT:=jh hf
 have HKD:=jh hT.nt.kinds
 obtain⟨w0,hw0⟩:∃ W,W=w.alloc (.cells #[.slice ra t.rl.length rc,.slice ka t.tk.length kc,.slice da t.dr.length dc,.slice x0 t.lx.r.length y0,.slice x1 t.lx.c.length y1,.slice x2 t.lx.n.length y2,.slice x3 t.lx.e.length y3,.slice n0 t.nt.st.length m0,.slice n1 t.nt.s.length m1,.slice n2 t.nt.p.length m2,.slice n3 t.nt.q.length m3,.slice n4 t.nt.d.length m4,.slice la t.lk.length lc] 34):=⟨_,rfl⟩
 have HC0:Hid (Chg (fun _=>False) w w0):=jh (by rw [hw0];exact (Chg.refl _ _).alloc _)
 have HS0:Hid (w0.heap.size=w.heap.size+1):=jh (by rw [hw0];simp)
 have HD0:Hid (∀ j v,([.slice ra t.rl.length rc,.slice ka t.tk.length kc,.slice da t.dr.length dc,.slice x0 t.lx.r.length y0,.slice x1 t.lx.c.length y1,.slice x2 t.lx.n.length y2,.slice x3 t.lx.e.length y3,.slice n0 t.nt.st.length m0,.slice n1 t.nt.s.length m1,.slice n2 t.nt.p.length m2,.slice n3 t.nt.q.length m3,.slice n4 t.nt.d.length m4,.slice la t.lk.length lc]:List Value)[j]?=some v→w0.cell? ⟨w.heap.size,j,none⟩=some v):=jh (fun j v hv=>by rw [hw0];exact allocAt _ rfl (by rw [← Array.getElem?_toList];exact hv))
 have HMAY:Hid (Calls Tryz.prog 12 #[.agg #[.slice ra t.rl.length rc,.slice ka t.tk.length kc,.slice da t.dr.length dc,.slice x0 t.lx.r.length y0,.slice x1 t.lx.c.length y1,.slice x2 t.lx.n.length y2,.slice x3 t.lx.e.length y3,.slice n0 t.nt.st.length m0,.slice n1 t.nt.s.length m1,.slice n2 t.nt.p.length m2,.slice n3 t.nt.q.length m3,.slice n4 t.nt.d.length m4,.slice la t.lk.length lc]] w0 fun e w'=>e=.returned (.bool (mayTabs t))∧Chg (fun _=>False) w0 w'):=jh (may_tabs t ⟨(ra,t.rl.length,rc),(ka,t.tk.length,kc),(da,t.dr.length,dc),⟨(x0,t.lx.r.length,y0),(x1,t.lx.c.length,y1),(x2,t.lx.n.length,y2),(x3,t.lx.e.length,y3)⟩,⟨(n0,t.nt.st.length,m0),(n1,t.nt.s.length,m1),(n2,t.nt.p.length,m2),(n3,t.nt.q.length,m3),(n4,t.nt.d.length,m4)⟩,(la,t.lk.length,lc)⟩ _ w0 (TabsIn.good.chg hT HC0.out (fun _ _ h=>h)) hf)
 have d0:=HD0.out 0 _ rfl
 have d1:=HD0.out 1 _ rfl
 have d2:=HD0.out 2 _ rfl
 have d3:=HD0.out 3 _ rfl
 have d4:=HD0.out 4 _ rfl
 have d5:=HD0.out 5 _ rfl
 have d6:=HD0.out 6 _ rfl
 have d7:=HD0.out 7 _ rfl
 have d8:=HD0.out 8 _ rfl
 have d9:=HD0.out 9 _ rfl
 have d10:=HD0.out 10 _ rfl
 have d11:=HD0.out 11 _ rfl
 have d12:=HD0.out 12 _ rfl
 clear hT hf
 show Calls Tryz.prog 10 #[.agg #[.slice ra t.rl.length rc,.slice ka t.tk.length kc,.slice da t.dr.length dc,.slice x0 t.lx.r.length y0,.slice x1 t.lx.c.length y1,.slice x2 t.lx.n.length y2,.slice x3 t.lx.e.length y3,.slice n0 t.nt.st.length m0,.slice n1 t.nt.s.length m1,.slice n2 t.nt.p.length m2,.slice n3 t.nt.q.length m3,.slice n4 t.nt.d.length m4,.slice la t.lk.length lc]] w (PutPost w t)
 go_enter Tryz.func10,Tryz.ntmps10
 go_upto_region 1 with (fail)
 rw [← hw0]
 clear hw0
 go_wp2_with fail
 refine HMAY.out.mono ?_
 rintro e w1 ⟨rfl,hc1⟩
 have HC1:=jh (HC0.out.trans hc1)
 have HC01:=jh hc1
 clear hc1 HMAY d0 d1 d2 d3 d4 d5 d6 d7 d8 d9 d10 d11 d12
 cases hm:mayTabs t with
 | false =>
  have HM:=jh hm
  clear hm hb
  go_wp2
  go_ret2
  exact⟨HC1.out,.inl ⟨HM.out,rfl⟩⟩
 | true =>
  have HM:=jh hm
  have HB:=jh (hb hm)
  have HMP:=jh (mayTabs_spec hm)
  clear hm hb
  obtain⟨hb,hhb⟩:∃ b,b=w1.heap.size:=⟨_,rfl⟩
  obtain⟨pg,hpg⟩:∃ b,b=w1.heap.size+1:=⟨_,rfl⟩
  obtain⟨w3,hw3⟩:∃ W,W=(w1.alloc (.cells #[.int .u8 72,.int .u8 66,.int .u8 84,.int .u8 49] 5 (4,5))).alloc (.cells #[.slice (some ⟨hb,0,none⟩) 4 4] 83):=⟨_,rfl⟩
  have hrow:BytesAt w3 hb 0 headL:=by
   rw [hw3,hhb]
   exact (litMark w1 headL 5 (4,5) (by decide)).chg ((Chg.refl (fun _=>False) _).alloc _) (fun _ h=>h)
  have hcs:(convert 45 45 (.slice (some ⟨w1.heap.size,0,none⟩) 4 4)).run Tryz.prog (w1.alloc (.cells #[.int .u8 72,.int .u8 66,.int .u8 84,.int .u8 49] 5))=.ok (.slice (some ⟨w1.heap.size,0,none⟩) 4 4) (w1.alloc (.cells #[.int .u8 72,.int .u8 66,.int .u8 84,.int .u8 49] 5 (4,5))):=Lib.run_convert_bytes_const (P:=Tryz.prog) w1 45 5 #[.int .u8 72,.int .u8 66,.int .u8 84,.int .u8 49] 4 4 Tryz.underlying45 Tryz.underlying5
  have HSZ:Hid (w.heap.size<hb∧pg=hb+1):=jh ⟨by rw [hhb];have:=HC01.out.size;have:=HS0.out;omega,by omega⟩
  have c3:w3.cell? ⟨pg,0,none⟩=some (.slice (some ⟨hb,0,none⟩) 4 4):=by rw [hw3,hpg];exact allocNew _ _ (by simp)
  have z3:w3.frozen? ⟨pg,0,none⟩=false:=by
   have e:w1.heap.size+1=(w1.alloc (.cells #[.int .u8 72,.int .u8 66,.int .u8 84,.int .u8 49] 5 (4,5))).heap.size:=by simp
   rw [hw3,hpg,e]
   exact World.frozen?_alloc_new _ _ _ _
  have HP3:Hid (PSt pg w.heap.size w3 headL):=jh ⟨⟨_,c3,.inr ⟨hb,rfl,by have:=HSZ.out;omega,hrow.lt (by decide),hrow⟩,fun e=>by have e2:hb=pg:=Option.some.inj e;have:=HSZ.out;omega⟩,z3,by have:=HSZ.out;omega⟩
  have HCp:Hid (∀ k,k≤w.heap.size→¬ Cp pg w3 k):=jh (fun k hk e=>by
   have:=HSZ.out
   rcases e with e|⟨u,hu,e⟩
   ·omega
   ·rw [c3] at hu
    obtain rfl:=Option.some.inj hu
    have e2:hb=k:=Option.some.inj e
    omega)
  have HC13:Hid (Chg (fun _=>False) w1 w3):=jh (by rw [hw3];exact ((Chg.refl _ _).alloc _).alloc _)
  have HC3:=jh (HC1.out.trans HC13.out)
  have HK:Hid (∀ W Z',Puts pg w.heap.size w3 W Z'→∀ j v,([.slice ra t.rl.length rc,.slice ka t.tk.length kc,.slice da t.dr.length dc,.slice x0 t.lx.r.length y0,.slice x1 t.lx.c.length y1,.slice x2 t.lx.n.length y2,.slice x3 t.lx.e.length y3,.slice n0 t.nt.st.length m0,.slice n1 t.nt.s.length m1,.slice n2 t.nt.p.length m2,.slice n3 t.nt.q.length m3,.slice n4 t.nt.d.length m4,.slice la t.lk.length lc]:List Value)[j]?=some v→W.cell? ⟨w.heap.size,j,none⟩=some v):=jh (fun W Z' hp j v hv =>
   hp.keep (HCp.out _ (Nat.le_refl _)) ((HC01.out.trans HC13.out).cellS (HD0.out j v hv) (fun h=>h)))
  have HIN:Hid (∀ W Z',Puts pg w.heap.size w3 W Z'→TabsIn W (·<w.heap.size) ⟨(ra,t.rl.length,rc),(ka,t.tk.length,kc),(da,t.dr.length,dc),⟨(x0,t.lx.r.length,y0),(x1,t.lx.c.length,y1),(x2,t.lx.n.length,y2),(x3,t.lx.e.length,y3)⟩,⟨(n0,t.nt.st.length,m0),(n1,t.nt.s.length,m1),(n2,t.nt.p.length,m2),(n3,t.nt.q.length,m3),(n4,t.nt.d.length,m4)⟩,(la,t.lk.length,lc)⟩ t):=jh (fun W Z' hp =>
   TabsIn.good.chg (TabsIn.good.chg HT.out HC3.out (fun _ _ h=>h)) hp.chg (fun g hg e=>HCp.out g (by omega) e))
  obtain⟨TD,hTD⟩:∃ x,t.tk.zip t.dr=x:=⟨_,rfl⟩
  have hdr:=HMP.out.dr
  have HTD:Hid (TD.length=t.tk.length∧∀ (k:Nat) s b,t.tk[k]?=some s→t.dr[k]?=some b→TD[k]?=some (s,b)):=jh (by
   rw [← hTD]
   refine⟨by rw [List.length_zip,hdr];omega,fun k s b hs hb'=>?_⟩
   rw [List.getElem?_zip_eq_some]
   exact⟨hs,hb'⟩)
  have HPT:Hid (ptTabs t=(((((headL++ptList ptText t.rl)++putL t.tk.length)++TD.flatMap ptTok)++ptLex t.lx)++ptNet t.nt)++t.lk.flatMap (ptLook t.tk.length)):=jh (by
   unfold ptTabs ptBody
   conv=>lhs;unfold ptList
   rw [hTD,HTD.out.1]
   simp only [ptList,List.append_assoc])
  have HLEN:Hid (∀ k j,(headL++ptList ptText t.rl).length≤1000000000∧((headL++ptList ptText t.rl)++putL t.tk.length++(TD.take k).flatMap ptTok).length≤100000000 ∧
    (((((headL++ptList ptText t.rl)++putL t.tk.length)++TD.flatMap ptTok)++ptLex t.lx)).length≤1000000000∧((((((headL++ptList ptText t.rl)++putL t.tk.length)++TD.flatMap ptTok)++ptLex t.lx)++ptNet t.nt)).length≤1000000000 ∧
    ((((((headL++ptList ptText t.rl)++putL t.tk.length)++TD.flatMap ptTok)++ptLex t.lx)++ptNet t.nt)++(t.lk.take j).flatMap (ptLook t.tk.length)).length≤1000000000):=jh (fun k j=>by
   have hl:=HB.out.l
   rw [HPT.out] at hl
   have a1:=flatMap_prefix (enc:=ptTok) (L:=TD) k
   have a2:=flatMap_prefix (enc:=ptLook t.tk.length) (L:=t.lk) j
   simp only [List.length_append] at hl ⊢
   omega)
  obtain⟨NK,hNK⟩:∃ n,t.tk.length=n:=⟨_,rfl⟩
  have HNK:=jh hNK
  have HNR:Hid (ptInt (NK:Int)=putL NK):=jh (by unfold ptInt;rw [Int.toNat_natCast])
  obtain⟨ND,hND⟩:∃ n,t.dr.length=n:=⟨_,rfl⟩
  have HND:=jh hND
  have HNDK:Hid (ND=NK):=jh (by rw [← hND,← hNK];exact hdr)
  obtain⟨NL,hNL⟩:∃ n,t.lk.length=n:=⟨_,rfl⟩
  have HNL:=jh hNL
  have hnk:NK≤64:=by rw [← hNK];exact HMP.out.tk
  have hnl:NL≤1000000000:=by rw [← hNL];exact HFT.out.lk
  rw [hNK] at HTD HPT HLEN
  rw [hNK,hND,hNL] at HK HIN
  have hmf:∀ (fn:Fn) (first cap:Array Value) (w:World),(Instr.makeFunc fn first cap).run Tryz.prog w=.ok (.func fn first cap) w:=fun _ _ _ _=>rfl
  clear hrow c3 z3 hdr hTD HD0
  have hpg2:pg=hb+1:=HSZ.out.2
  go_upto_region 4 with (fail)
  rw [← hhb,← hpg2,← hw3]
  clear hw3 hhb hpg hpg2 hcs
  have d0:=HK.out _ _ HP3.out.refl 0 _ rfl
  go_wp2_with fail
  refine (ptexts_any t.rl ra rc w3 HP3.out (HIN.out _ _ HP3.out.refl).rl (fun s hs=>Nat.le_trans (named_le (HMP.out.rn s hs)) (by decide)) (by have:=HMP.out.rl;omega) (HLEN.out 0 0).1).mono ?_
  rintro e4 w4 ⟨rfl,hp4⟩
  have HP4:=jh hp4
  clear hp4 d0
  have d1:=HK.out _ _ HP4.out 1 _ rfl
  go_wp2_with fail
  refine (pnum_any (NK:Int) w4 HP4.out.st (by omega) (HLEN.out 0 0).1).mono ?_
  rintro e5 w5 ⟨rfl,hp5⟩
  rw [HNR.out] at hp5
  have HP5:=jh (HP4.out.trans hp5)
  clear hp5 d1
  have d1:=HK.out _ _ HP5.out 1 _ rfl
  go_upto_region 7 with (fail)
  clear d1
  go_loopw [31] (fun q wr=>∃ k:Nat,k≤NK∧q=.int .i64 k∧Puts pg w.heap.size w3 wr ((headL++ptList ptText t.rl)++putL NK++(TD.take k).flatMap ptTok)) (fun q _=>NK-(intOf q).toNat)
  case atStart=>exact⟨0,by omega,rfl,by simpa using HP5.out⟩
  case round =>
   clear HP5 HP4
   obtain⟨k,hk,rfl,hp⟩:=hrel
   have HP:=jh hp
   clear hp
   by_cases hkl:k<NK
   ·have b9:decide ((k:Int)<(NK:Int))=true:=by simp;omega
    have hkt:k<t.tk.length:=by rw [HNK.out];exact hkl
    have hkd:k<t.dr.length:=by rw [HND.out,HNDK.out];exact hkl
    have hkd2:k<ND:=by rw [HNDK.out];exact hkl
    have hI:=HIN.out _ _ HP.out
    have htk:=hI.tk
    have hdr:=hI.dr
    simp only at htk hdr
    rw [← HNK.out] at htk
    rw [← HND.out] at hdr
    obtain⟨s,d,g,o,hx,hrx,rfl,-,-,-,hcells⟩:=(ListR.of htk).get1' (f:=encStr) rfl hkt rfl
    have c0:=hcells _ rfl
    obtain⟨bo,db,gb,ob,hy,hry,rfl,hSb,-,-,hcells2⟩:=(ListR.of hdr).get1' (f:=fun b=>[.bool b]) rfl hkd rfl
    have e0:=hcells2 _ rfl
    obtain rfl:s=d:=hrx
    obtain rfl:bo=db:=hry
    have HX:Hid (TD[k]?=some (s,bo)):=jh (HTD.out.2 k _ _ hx hy)
    have HNM:Hid (s.size≤1000000):=jh (Nat.le_trans (named_le (HMP.out.tn s (List.mem_of_getElem? hx))) (by decide))
    have HLE:=jh (HLEN.out (k+1) 0).2.1
    rw [flatMap_take HX.out] at HLE
    have HLA:Hid (((headL++ptList ptText t.rl)++putL NK++(TD.take k).flatMap ptTok).length≤1000000000∧(((headL++ptList ptText t.rl)++putL NK++(TD.take k).flatMap ptTok)++ptText s).length≤1000000000):=jh (by
     have:=HLE.out
     simp only [ptTok,List.length_append] at this ⊢
     omega)
    have HEB:Hid (∀ W Z',Puts pg w.heap.size w3 W Z'→W.cell? ⟨w.heap.size,2,none⟩=some (.slice (some ⟨gb,ob,none⟩) ND dc)∧W.cell? ⟨gb,ob+k,none⟩=some (.bool bo)):=jh (fun W Z' hp=>by
     refine⟨HK.out _ _ hp 2 _ rfl,?_⟩
     obtain⟨b2,db,g2,o2,hy2,hry2,ha2,-,-,-,hc2⟩:=(ListR.of (by have:=(HIN.out _ _ hp).dr;simp only at this;rw [← HND.out] at this;exact this)).get1' (f:=fun b=>[.bool b]) rfl hkd rfl
     obtain rfl:b2=db:=hry2
     injection ha2 with ha2
     injection ha2 with a1 a2
     subst a1 a2
     rw [hy] at hy2
     rw [Option.some.inj hy2]
     exact hc2 _ rfl)
    have d1:=HK.out _ _ HP.out 1 _ rfl
    clear hx hy hcells hcells2 e0 htk hdr hI hkt hkd hSb
    go_wp2_with fail
    refine (ptext_any s wr HP.out.st HNM.out HLA.out.1).mono ?_
    rintro e6 w6 ⟨rfl,hp6⟩
    have HP6:=jh (HP.out.trans hp6)
    clear hp6 c0 d1
    obtain⟨d2,e0⟩:=HEB.out _ _ HP6.out
    cases bo with
    | true =>
     go_wp2_with fail
     refine (pnum_any 1 w6 HP6.out.st (by omega) HLA.out.2).mono ?_
     rintro e7 w7 ⟨rfl,hp7⟩
     have HP7:Hid (Puts pg w.heap.size w3 w7 ((headL++ptList ptText t.rl)++putL NK++(TD.take (k+1)).flatMap ptTok)):=jh (by
      have:=HP6.out.trans hp7
      rw [flatMap_take HX.out]
      simp only [ptTok,if_true,List.append_assoc] at this ⊢
      exact this)
     clear hp7 d2 e0
     go_wp2
     go_roundw
     case rel=>exact⟨k+1,by omega,by go_num,HP7.out⟩
     case measure=>simp [intOf];omega
    | false =>
     go_wp2_with fail
     refine (pnum_any 0 w6 HP6.out.st (by omega) HLA.out.2).mono ?_
     rintro e7 w7 ⟨rfl,hp7⟩
     have HP7:Hid (Puts pg w.heap.size w3 w7 ((headL++ptList ptText t.rl)++putL NK++(TD.take (k+1)).flatMap ptTok)):=jh (by
      have:=HP6.out.trans hp7
      rw [flatMap_take HX.out]
      simp only [ptTok,Bool.false_eq_true,if_false,List.append_assoc] at this ⊢
      exact this)
     clear hp7 d2 e0
     go_wp2
     go_roundw
     case rel=>exact⟨k+1,by omega,by go_num,HP7.out⟩
     case measure=>simp [intOf];omega
   ·obtain rfl:k=NK:=by omega
    have b9:decide ((k:Int)<(k:Int))=false:=by simp
    have hwhole:=HP.out
    rw [List.take_of_length_le (by rw [HTD.out.1];exact Nat.le_refl _)] at hwhole
    have HPW:=jh hwhole
    clear hwhole HP
    have d3:=HK.out _ _ HPW.out 3 _ rfl
    have d4:=HK.out _ _ HPW.out 4 _ rfl
    have d5:=HK.out _ _ HPW.out 5 _ rfl
    have d6:=HK.out _ _ HPW.out 6 _ rfl
    go_wp2_with fail
    refine (plexer_any t.lx ⟨(x0,t.lx.r.length,y0),(x1,t.lx.c.length,y1),(x2,t.lx.n.length,y2),(x3,t.lx.e.length,y3)⟩ wr HPW.out.st (HIN.out _ _ HPW.out).lx (ok_lx HMP.out.lx HMP.out.tk HFT.out.lx HB.out.w) (HLEN.out 0 0).2.2.1).mono ?_
    rintro e8 w8 ⟨rfl,hp8⟩
    have HP8:=jh (HPW.out.trans hp8)
    clear hp8 d3 d4 d5 d6
    have d7:=HK.out _ _ HP8.out 7 _ rfl
    have d8:=HK.out _ _ HP8.out 8 _ rfl
    have d9:=HK.out _ _ HP8.out 9 _ rfl
    have d10:=HK.out _ _ HP8.out 10 _ rfl
    have d11:=HK.out _ _ HP8.out 11 _ rfl
    go_wp2_with fail
    refine (pnet_any t.nt ⟨(n0,t.nt.st.length,m0),(n1,t.nt.s.length,m1),(n2,t.nt.p.length,m2),(n3,t.nt.q.length,m3),(n4,t.nt.d.length,m4)⟩ w8 HP8.out.st (HIN.out _ _ HP8.out).nt (ok_nt HMP.out HFT.out.nt HKD.out) (HLEN.out 0 0).2.2.2.1).mono ?_
    rintro e9 w9 ⟨rfl,hp9⟩
    have HP9:=jh (HP8.out.trans hp9)
    clear hp9 d7 d8 d9 d10 d11
    have d12:=HK.out _ _ HP9.out 12 _ rfl
    go_upto_region 17 with (fail)
    clear d12
    go_loopw [60] (fun q wr=>∃ j:Nat,j≤NL∧q=.int .i64 j∧Puts pg w.heap.size w3 wr ((((((headL++ptList ptText t.rl)++putL k)++TD.flatMap ptTok)++ptLex t.lx)++ptNet t.nt)++(t.lk.take j).flatMap (ptLook k))) (fun q _=>NL-(intOf q).toNat)
    case atStart=>exact⟨0,by omega,rfl,by simpa using HP9.out⟩
    case round =>
     clear HP9 HP8 HPW
     obtain⟨j,hj,rfl,hp⟩:=hrel
     have HP:=jh hp
     clear hp
     by_cases hjl:j<NL
     ·have b10:decide ((j:Int)<(NL:Int))=true:=by simp;omega
      have hjt:j<t.lk.length:=by rw [HNL.out];exact hjl
      have hlk:=(HIN.out _ _ HP.out).lk
      simp only at hlk
      rw [← HNL.out] at hlk
      obtain⟨⟨sa,sn,sc⟩,A,g,o,hx,hrx,rfl,-,-,c0⟩:=hlk.get1 (f:=slV) rfl hjt (fun _=>rfl)
      have hrl:=ListR.len (E:=lsE) (R:=lsR) hrx
      obtain⟨rfl,-⟩:=hrl
      simp only [slV] at c0
      have HX:=jh hx
      have HOKA:=jh (ok_lk HMP.out HFT.out (List.mem_of_getElem? hx))
      rw [HNK.out] at HOKA
      have HLE:=jh (HLEN.out 0 (j+1)).2.2.2.2
      rw [flatMap_take HX.out,← List.append_assoc] at HLE
      obtain⟨w10,hw10⟩:∃ W,W=wr.alloc (.cells #[.slice sa A.length sc] 63):=⟨_,rfl⟩
      have hC10:Chg (fun _=>False) wr w10:=by rw [hw10];exact (Chg.refl _ _).alloc _
      have HP10:Hid (Puts pg w.heap.size w3 w10 ((((((headL++ptList ptText t.rl)++putL k)++TD.flatMap ptTok)++ptLex t.lx)++ptNet t.nt)++(t.lk.take j).flatMap (ptLook k))):=jh (HP.out.trans (HP.out.st.fresh hC10))
      have f0:w10.cell? ⟨wr.heap.size,0,none⟩=some (.slice sa A.length sc):=by rw [hw10];exact allocNew _ _ rfl
      have HA10:Hid (ListR lsE lsR w10 (·<w.heap.size) (sa,A.length,sc) A):=jh ((ListR.good lsR.good).chg hrx hC10 (fun _ _ h=>h))
      clear hx hrx hlk hjt hC10
      go_upto_region 19 with (fail)
      rw [← hw10]
      clear hw10 c0
      have d1:=HK.out _ _ HP10.out 1 _ rfl
      go_wp2_with fail
      refine (plook_any A sa sc k w10 HP10.out.st HA10.out HOKA.out.1 (by omega) HOKA.out.2.1 HOKA.out.2.2 HLE.out).mono ?_
      rintro e11 w11 ⟨rfl,hp11⟩
      have HP11:Hid (Puts pg w.heap.size w3 w11 ((((((headL++ptList ptText t.rl)++putL k)++TD.flatMap ptTok)++ptLex t.lx)++ptNet t.nt)++(t.lk.take (j+1)).flatMap (ptLook k))):=jh (by
       have:=HP10.out.trans hp11
       rw [flatMap_take HX.out,← List.append_assoc]
       exact this)
      clear hp11 f0 d1
      go_wp2
      go_roundw
      case rel=>exact⟨j+1,by omega,by go_num,HP11.out⟩
      case measure=>simp [intOf];omega
     ·obtain rfl:j=NL:=by omega
      have b10:decide ((j:Int)<(j:Int))=false:=by simp
      have hwhole:=HP.out
      rw [List.take_of_length_le (by rw [HNL.out];exact Nat.le_refl _),← HPT.out] at hwhole
      have HPW:=jh hwhole
      clear hwhole HP
      obtain⟨v,hv,ho,hne⟩:=HPW.out.st.ex
      obtain⟨gz,cz,rfl,hgz,hgl,hbz⟩:=ho.bytes (by unfold ptTabs;simp [headL])
      have HLZ:=jh HB.out.l
      obtain⟨w12,hw12⟩:∃ W,W=wr.alloc (.cells zerosS 104):=⟨_,rfl⟩
      have hzs:=zeroSums
      have HC12:Hid (Chg (fun _=>False) wr w12):=jh (by rw [hw12];exact (Chg.refl _ _).alloc _)
      have HS12:Hid (SumsSt w12 wr.heap.size):=jh (by rw [hw12];exact⟨0,_,SumsAt.made wr _,.inl rfl⟩)
      have hv12:=HC12.out.cellS hv (fun h=>h)
      have HSEAL:=jh (seal_any wr.heap.size (ptTabs t) (some ⟨gz,0,none⟩) gz 0 cz w12 HS12.out (hbz.chg HC12.out (fun _ h=>h)) (fun _=>by omega) (fun _=>rfl) (by have:=HLZ.out;omega))
      have HCF:Hid (Chg (fun k=>w.heap.size≤k) w wr):=jh (HC3.out.any.trans (HPW.out.below HP3.out))
      obtain⟨PT,hPT⟩:∃ x,ptTabs t=x:=⟨_,rfl⟩
      have HPTE:=jh hPT
      rw [hPT] at hv hv12 HSEAL
      clear hv ho hne hgz hbz hPT
      go_upto_region 22 with (fail)
      rw [← hw12]
      clear hw12 hzs
      go_wp2_with fail
      refine HSEAL.out.mono ?_
      rintro e13 w13 ⟨h,rfl,hh,hr13,hs13,hc13⟩
      have HF:Hid (Chg (fun _=>False) w w13∧w.heap.size≤h∧Row w13 h (sealL PT)):=jh (by
       have h1:=HCF.out.size
       have h2:=HC12.out.size
       exact⟨(HCF.out.trans (HC12.out.any.trans (hc13.mono (fun k _ e=>by rw [e];exact h1)))).fresh,by omega,hr13⟩)
      clear hh hr13 hs13 hc13 hv12 HSEAL
      go_wp2
      go_ret2
      exact⟨HF.out.1,.inr ⟨HM.out,h,by rw [HPTE.out];rfl,HF.out.2.1,by rw [HPTE.out];exact HF.out.2.2⟩⟩
end Go.Proofs.YtgnpmceimpjheaaGreat
namespace Go.Proofs.YtgnpmceimpjheaaGreat
open Go.RowKit
theorem sum_mem {α:Type} (f:α→Nat):∀ (L:List α) (x:α),x∈L→f x≤(L.map f).sum
 | y :: L,x,h=>by
  rcases List.mem_cons.1 h with rfl|h
  ·simp
  ·have:=sum_mem f L x h
   simp;omega
theorem sum_len {α:Type} (f:α→Nat):∀ (L:List α),(∀ x∈L,1≤f x)→L.length≤(L.map f).sum
 | [],_=>by simp
 | y :: L,h=>by
  have h1:=sum_len f L (fun x hx=>h x (by simp [hx]))
  have h2:=h y (by simp)
  simp;omega
theorem flat_len {α:Type} (f:α→List Int) (b:Nat):∀ (L:List α),(∀ x∈L,(f x).length≤b)→(L.flatMap f).length≤b * L.length
 | [],_=>by simp
 | y :: L,h=>by
  have h1:=flat_len f b L (fun x hx=>h x (by simp [hx]))
  have h2:=h y (by simp)
  simp only [List.flatMap_cons,List.length_append,List.length_cons,Nat.mul_add]
  omega
theorem flat_sum {α:Type} (f:α→List Int) (g:α→Nat) (b c:Nat):∀ (L:List α),(∀ x∈L,(f x).length≤b+c * g x)→(L.flatMap f).length≤b * L.length+c * (L.map g).sum
 | [],_=>by simp
 | y :: L,h=>by
  have h1:=flat_sum f g b c L (fun x hx=>h x (by simp [hx]))
  have h2:=h y (by simp)
  simp only [List.flatMap_cons,List.length_append,List.length_cons,Nat.mul_add,List.map_cons,List.sum_cons]
  omega
structure NotGreat (t:TabsD):Prop where
 c:gC t (t.rl.length+t.tk.length)≤2000
 n:gN t.nt t.nt.st.length≤700
structure Light (t:TabsD):Prop where
 b:t.rl.length+t.tk.length+t.dr.length+t.lx.r.length+t.lx.c.length+t.lx.e.length+t.lk.length≤2000
 n:(t.lx.n.map fun l=>l.length+1).sum≤2000
 k:(t.lk.map fun A=>(A.map fun s=>s.2.1.length+s.2.2.length+1).sum).sum≤2000
 s:((t.rl++t.tk).map fun s=>s.size / 50).sum≤2000
 a:t.nt.st.length+t.nt.s.length+t.nt.p.length+t.nt.q.length+t.nt.d.length≤700
 e:(t.nt.st.map fun s=>s.2.1.length+s.2.2.length).sum≤700
theorem NotGreat.light {t:TabsD} (h:NotGreat t):Light t:=by
 obtain⟨h1,h2⟩:=h
 have e1:(t.rl++t.tk).take (t.rl.length+t.tk.length)=t.rl++t.tk:=List.take_of_length_le (by simp)
 unfold gC gB gA at h1
 rw [e1,List.take_length,List.take_length] at h1
 unfold gN at h2
 rw [List.take_length] at h2
 have e2:(t.lk.map fun A=>gL A A.length)=t.lk.map fun A=>(A.map fun s=>s.2.1.length+s.2.2.length+1).sum:=by
  apply List.map_congr_left
  intro A _
  unfold gL
  rw [List.take_length]
 rw [e2] at h1
 exact⟨by omega,by omega,by omega,by omega,by omega,by omega⟩
theorem Light.fair {t:TabsD} (h:Light t):FairTabs t:=by
 have hb:=h.b
 have ha:=h.a
 have hn:=h.n
 have hs:∀ s∈t.rl++t.tk,s.size≤1000000000000:=fun s hs=>by
  have h1:=sum_mem (fun s:Str=>s.size / 50) _ s hs
  have h2:=h.s
  try simp only at h1
  omega
 have hl:=sum_len (fun l:List Int=>l.length+1) t.lx.n (fun _ _=>by omega)
 refine⟨by omega,by omega,by omega,fun s hs'=>hs s (by simp [hs']),fun s hs'=>hs s (by simp [hs']),⟨by omega,by omega,by omega,by omega,fun l hl'=>?_⟩,⟨by omega,by omega,by omega,by omega,by omega,fun s hs'=>?_⟩,by omega,fun A hA=>?_⟩
 ·have:=sum_mem (fun l:List Int=>l.length+1) _ l hl'
  try simp only at this
  omega
 ·have h1:=sum_mem (fun s:StD=>s.2.1.length+s.2.2.length) _ s hs'
  have h2:=h.e
  try simp only at h1
  exact⟨by omega,by omega⟩
 ·have h1:=sum_mem (fun A:List LsD=>(A.map fun s=>s.2.1.length+s.2.2.length+1).sum) _ A hA
  have h2:=h.k
  try simp only at h1
  have h3:=sum_len (fun s:LsD=>s.2.1.length+s.2.2.length+1) A (fun _ _=>by omega)
  refine⟨by omega,fun s hs'=>?_⟩
  have h4:=sum_mem (fun s:LsD=>s.2.1.length+s.2.2.length+1) _ s hs'
  try simp only at h4
  exact⟨by omega,by omega⟩
theorem Light.small {t:TabsD} (h:Light t) (hk:∀ s∈t.nt.st,∀ e∈s.2.1,0≤e.1):SmallT t:=by
 have hb:=h.b
 have ha:=h.a
 refine⟨by omega,fun s hs=>?_,by omega,fun A hA s hs=>?_⟩
 ·have h1:=sum_mem (fun s:StD=>s.2.1.length+s.2.2.length) _ s hs
  have h2:=h.e
  try simp only at h1
  exact⟨by omega,by omega,hk s hs⟩
 ·have h1:=sum_mem (fun A:List LsD=>(A.map fun s=>s.2.1.length+s.2.2.length+1).sum) _ A hA
  have h2:=h.k
  try simp only at h1
  have h4:=sum_mem (fun s:LsD=>s.2.1.length+s.2.2.length+1) _ s hs
  try simp only at h4
  omega
theorem okN_len {m:Nat} (hm:m≤16777215) {z:Int} (h:okN m z):(ptInt z).length≤4:=putL_len 3 z.toNat (by obtain⟨h1,h2⟩:=h;omega)
theorem list_head {α:Type} {enc:α→List Int} {L:List α} (h:L.length≤16777215):(ptList enc L).length≤4+(L.flatMap enc).length:=by
 unfold ptList
 have:=putL_len 3 L.length (by omega)
 rw [List.length_append]
 omega
theorem table_len {W:Nat} {LL:List (List Int)} (h1:W≤65536) (hn:LL.length≤65536) (hmk:makeOk W LL=true):(ptTable W LL).length≤5 * (3+3 * LL.length+2 * (LL.length * W)):=by
 have hw:∀ l∈LL,l.length=W:=fun l hl=>by
  have:=List.all_eq_true.1 hmk l hl
  simp only [listOk,Bool.and_eq_true,decide_eq_true_eq] at this
  omega
 have hmay:=makeL_may (W:=W) (by omega) (by omega) hn hmk
 have HCL:∀ r∈(makeL LL).1,r.2.length≤W:=fun r hr=>by
  obtain⟨l,hl,rfl⟩:=makeL_rows LL r hr
  rw [← hw l hl]
  exact cellsFrom_le _ _ _
 have h2:=tabNums_len (O:=(makeL LL).2) HCL
 obtain⟨h3,h4⟩:=makeL_len LL
 have h5:=bytesOf_len _ (tabNums_ok hmay).1
 have h6:(makeL LL).1.length * W≤LL.length * W:=Nat.mul_le_mul_right _ h3
 show (bytesOf _).length≤_
 omega
theorem text_len {s:Str} (h:okText s):(ptText s).length≤68:=by
 unfold ptText
 unfold okText at h
 have:=putL_len 3 s.size (by omega)
 have:(strB s).length=s.size:=by simp [strB]
 rw [List.length_append]
 omega
theorem Light.put {t:TabsD} (h:Light t) (ho:OkTabs t) (hm:mayTabs t=true):colsL t.lx.c≤65536∧(ptTabs t).length≤5000000:=by
 refine⟨ho.lx.cw,?_⟩
 have hb:=h.b
 have ha:=h.a
 obtain⟨o1,o2,⟨o3,o4⟩,o5,o6,o7,o8⟩:=ho
 obtain⟨x1,x2,x3,x4,x5,x6,x7,x8,x9⟩:=o5
 obtain⟨n1,n2,n3,n4,-⟩:=o6
 have hM:=mayTabs_spec hm
 -- texts
 have t1:(ptList ptText t.rl).length≤4+68 * t.rl.length:=Nat.le_trans (list_head o1.1) (by have:=flat_len ptText 68 t.rl (fun x hx=>text_len (o1.2 x hx));omega)
 have t2:(ptList ptTok (t.tk.zip t.dr)).length≤4+72 * 64:=by
  have hz:(t.tk.zip t.dr).length≤64:=by rw [List.length_zip];omega
  have h1:=flat_len ptTok 72 (t.tk.zip t.dr) (fun x hx=>by
   have h2:=text_len (o4 _ (List.of_mem_zip hx).1)
   unfold ptTok
   rw [List.length_append]
   have:(ptInt (if x.2 then 1 else 0)).length≤4:=okN_len (m:=1) (by omega) (by cases x.2 <;> exact⟨by decide,by decide⟩)
   omega)
  have h3:=list_head (enc:=ptTok) (L:=t.tk.zip t.dr) (by omega)
  have h4:72 * (t.tk.zip t.dr).length≤72 * 64:=Nat.mul_le_mul_left _ hz
  omega
 -- the lexer
 obtain⟨W,hW⟩:∃ W:Nat,colsL t.lx.c=W:=⟨(colsL t.lx.c).toNat,by
  have:=(colsL_foldl t.lx.c 0).1
  unfold colsL
  omega⟩
 have t3:(ptLex t.lx).length≤200000:=by
  unfold ptLex
  rw [hW]
  rw [hW] at x5 x7
  have hrow:t.lx.n.length * (W+1)≤2000:=by
   have h1:∀ (LL:List (List Int)),(∀ l∈LL,l.length=W)→LL.length * (W+1)=(LL.map fun l=>l.length+1).sum:=by
    intro LL
    induction LL with
    | nil=>intro _;simp
    | cons l LL ih =>
     intro hl
     have h2:=ih (fun x hx=>hl x (by simp [hx]))
     have h3:=hl l (by simp)
     simp only [List.length_cons,List.map_cons,List.sum_cons,Nat.succ_mul,h3]
     omega
   rw [h1 t.lx.n (fun l hl=>by
    have:=List.all_eq_true.1 x7 l hl
    simp only [listOk,Bool.and_eq_true,decide_eq_true_eq] at this
    omega)]
   exact h.n
  have hnW:t.lx.n.length * (W+1)=t.lx.n.length * W+t.lx.n.length:=Nat.mul_succ _ _
  have h1:=table_len (by omega) x6 x7
  have h2:=flat_len ptRc 12 (t.lx.r.zip t.lx.c) (fun x hx=>by
   obtain⟨r1,r2,r3⟩:=x4 x hx
   have e1:=okN_len (by omega) r1
   have e2:=okN_len (by omega) r2
   have e3:=okN_len (by omega) r3
   unfold ptRc
   rw [List.length_append,List.length_append]
   omega)
  have h3:=list_head (enc:=ptRc) (L:=t.lx.r.zip t.lx.c) (by rw [List.length_zip];omega)
  have h4:(t.lx.r.zip t.lx.c).length≤2000:=by rw [List.length_zip];omega
  have h5:=flat_len ptEnd 4 t.lx.e (fun x hx=>by
   obtain⟨r1,r2⟩:=x9 x hx
   exact okN_len (m:=16777215) (by omega) ⟨by omega,by omega⟩)
  rw [List.length_append,List.length_append]
  omega
 -- the net
 have t4:(ptNet t.nt).length≤100000:=by
  have hst:∀ s∈t.nt.st,(ptState s).length≤12+12 * (s.2.1.length+s.2.2.length):=fun s hs=>by
   obtain⟨r1,⟨r2,r3⟩,r4,r5⟩:=n1.2 s hs
   have e1:=okN_len (by omega) r1
   have e2:=flat_len ptEdge 12 s.2.1 (fun x hx=>by
    obtain⟨g1,g2,g3⟩:=r3 x hx
    have e1:=okN_len (by omega) g1
    have e2:=okN_len (by omega) g2
    have e3:=okN_len (by omega) g3
    unfold ptEdge
    rw [List.length_append,List.length_append]
    omega)
   have e3:=list_head (enc:=ptEdge) r2
   have e4:=flat_len ptInt 4 s.2.2 (fun x hx=>okN_len (by omega) (r5 x hx))
   have e5:=list_head (enc:=ptInt) r4
   unfold ptState
   rw [List.length_append,List.length_append]
   omega
  have h1:=flat_sum ptState (fun s:StD=>s.2.1.length+s.2.2.length) 12 12 t.nt.st hst
  have h2:=list_head (enc:=ptState) n1.1
  have h3:=h.e
  have h4:=flat_len ptInt 4 t.nt.s (fun x hx=>okN_len (by omega) (n2.2 x hx))
  have h5:=list_head (enc:=ptInt) n2.1
  have h6:=flat_len ptInt 4 t.nt.p (fun x hx=>okN_len (by omega) (n3.2 x hx))
  have h7:=list_head (enc:=ptInt) n3.1
  have h8:=flat_len ptInt 4 t.nt.q (fun x hx=>okN_len (by omega) (n4.2 x hx))
  have h9:=list_head (enc:=ptInt) n4.1
  unfold ptNet
  rw [List.length_append,List.length_append,List.length_append]
  omega
 -- what is looked ahead by
 have t5:(t.lk.flatMap (ptLook t.tk.length)).length≤3000000:=by
  have hlk:∀ A∈t.lk,(ptLook t.tk.length A).length≤40+1000 * (A.map fun s=>s.2.1.length+s.2.2.length+1).sum:=fun A hA=>by
   obtain⟨r1,r2⟩:=o8 A hA
   have e1:=sum_len (fun s:LsD=>s.2.1.length+s.2.2.length+1) A (fun _ _=>by omega)
   have e2:=flat_sum ptLs (fun s:Int × List Int=>s.2.length) 8 4 (A.map fun s=>(s.1,s.2.1)) (fun x hx=>by
    obtain⟨s,hs,rfl⟩:=List.mem_map.1 hx
    obtain⟨k1,k2,-,-⟩:=r2 s hs
    have e1:=okN_len (by omega) k1
    have e4:=flat_len ptInt 4 s.2.1 (fun x hx=>okN_len (by omega) (k2.2 x hx))
    have e5:=list_head (enc:=ptInt) k2.1
    unfold ptLs
    rw [List.length_append]
    simp only
    omega)
   have e3:=list_head (enc:=ptLs) (L:=A.map fun s=>(s.1,s.2.1)) (by rw [List.length_map];omega)
   have e4:((A.map fun s=>(s.1,s.2.1)).map fun s:Int × List Int=>s.2.length).sum≤(A.map fun s=>s.2.1.length+s.2.2.length+1).sum:=by
    rw [List.map_map]
    clear e1 e2 e3 r1 r2 hA
    induction A with
    | nil=>simp
    | cons s A ih=>simp only [List.map_cons,List.sum_cons,Function.comp];omega
   have e5:=table_len (W:=t.tk.length+1) (LL:=A.map fun s=>lookRow t.tk.length s.2.2) (by omega) (by rw [List.length_map];omega) (by have:=makeOk_look r2;exact_mod_cast this)
   rw [List.length_map] at e2 e5
   have e6:A.length * (t.tk.length+1)≤A.length * 65:=Nat.mul_le_mul_left _ (by omega)
   unfold ptLook
   rw [List.length_append]
   have e7:ptTable ((t.tk.length:Int)+1) (A.map fun s=>lookRow t.tk.length s.2.2)=ptTable ((t.tk.length+1:Nat):Int) (A.map fun s=>lookRow t.tk.length s.2.2):=by norm_cast
   rw [e7]
   try simp only at e1
   omega
  have h1:=flat_sum (ptLook t.tk.length) (fun A:List LsD=>(A.map fun s=>s.2.1.length+s.2.2.length+1).sum) 40 1000 t.lk hlk
  have h2:=h.k
  have h3:40 * t.lk.length≤40 * 2000:=Nat.mul_le_mul_left _ (by omega)
  omega
 have t6:headL.length≤100:=by decide
 unfold ptTabs ptBody
 rw [List.length_append,List.length_append,List.length_append,List.length_append,List.length_append]
 omega
end Go.Proofs.YtgnpmceimpjheaaGreat
namespace Go.Proofs.YtgnpmceimpjheaaGreat
open Go.RowKit
def zero13:List Value:=[.slice none 0 0,.slice none 0 0,.slice none 0 0,.slice none 0 0,.slice none 0 0,.slice none 0 0,.slice none 0 0,.slice none 0 0,.slice none 0 0,.slice none 0 0,.slice none 0 0,.slice none 0 0,.slice none 0 0]
theorem catch_strange (tb eb:Nat) (w:World) (v:Nat→Value) (x:Int) (he:tb≠eb) (hc:∀ j,j<13→w.cell? ⟨tb,j,none⟩=some (v j)) (hz:∀ j,w.frozen? ⟨tb,j,none⟩=false) (h1:w.cell? ⟨eb,0,none⟩=some (.int .i64 x)) (hz1:w.frozen? ⟨eb,0,none⟩=false) :
  CallsD Tryz.prog 53 #[.pointer (some ⟨tb,0,none⟩),.pointer (some ⟨eb,0,none⟩)] (.panicking [{ v:=.iface 129 (.agg #[]),recovered:=false }]) w fun e u' w' =>
   e=.returned (.tuple #[])∧u'=.panicking [{ v:=.iface 129 (.agg #[]),recovered:=true }]∧w'=(setAll tb 0 zero13 (w.alloc (.cells #[] 129))).setCell ⟨eb,0,none⟩ (.int .i64 4):=by
 have hta:∀ w,(Instr.typeAssert (.iface 129 (.agg #[])) 20 129 true).run Tryz.prog w=.ok (.tuple #[.agg #[],.bool true]) w:=fun _=>by kernel_rfl
 obtain⟨w1,hw1⟩:∃ W,W=w.alloc (.cells #[] 129):=⟨_,rfl⟩
 have hC:Chg (fun _=>False) w w1:=by rw [hw1];exact (Chg.refl _ _).alloc _
 have hK:∀ j,j<13→w1.cell? ⟨tb,j,none⟩=some (v j):=fun j hj=>hC.cellS (hc j hj) (fun h=>h)
 have htl:tb<w.heap.size:=World.block_lt_of_cell? _ _ (hc 0 (by decide))
 have hZ:∀ j,w1.frozen? ⟨tb,j,none⟩=false:=fun j=>(hC.frozen (p:=⟨tb,j,none⟩) htl (fun h=>h)).trans (hz j)
 have ke:=hC.cellS h1 (fun h=>h)
 have ze:=(hC.frozen (p:=⟨eb,0,none⟩) (World.block_lt_of_cell? _ _ h1) (fun h=>h)).trans hz1
 clear hz hz1 h1 hC hc
 refine callsD_of_wpS Tryz.func53 rfl fun c₀ cs hu=>?_
 apply wpS_seq
 apply wpS_region
 simp [wpOpsS,go_sem,recoverD,hu,Tryz.ntmps53,Exit.thenS]
 refine wpS_of_wp ?_
 go_upto_region 2 with (fail)
 rw [← hw1]
 have HW1:=jh hw1
 clear hw1
 have k0:=hK 0 (by decide);have z0:=hZ 0
 have k1:=hK 1 (by decide);have z1:=hZ 1
 have k2:=hK 2 (by decide);have z2:=hZ 2
 have k3:=hK 3 (by decide);have z3:=hZ 3
 have k4:=hK 4 (by decide);have z4:=hZ 4
 have k5:=hK 5 (by decide);have z5:=hZ 5
 have k6:=hK 6 (by decide);have z6:=hZ 6
 have k7:=hK 7 (by decide);have z7:=hZ 7
 have k8:=hK 8 (by decide);have z8:=hZ 8
 have k9:=hK 9 (by decide);have z9:=hZ 9
 have k10:=hK 10 (by decide);have z10:=hZ 10
 have k11:=hK 11 (by decide);have z11:=hZ 11
 have k12:=hK 12 (by decide);have z12:=hZ 12
 have hne:¬ eb=tb:=fun h=>he h.symm
 go_upto_region 3 with (fail)
 go_wp2
 refine⟨rfl,_,rfl,_,results_none rfl _ _ _,rfl,rfl,?_⟩
 rw [← HW1.out]
 rfl
theorem catch_none (tb eb:Nat) (w:World) :
  CallsD Tryz.prog 53 #[.pointer (some ⟨tb,0,none⟩),.pointer (some ⟨eb,0,none⟩)] .returning w fun e u' w' =>
   e=.returned (.tuple #[])∧u'=.returning∧w'=w.alloc (.cells #[] 129):=by
 have hta:∀ w,(Instr.typeAssert .nilIface 20 129 true).run Tryz.prog w=.ok (.tuple #[.agg #[],.bool false]) w:=fun _=>by kernel_rfl
 refine callsD_of_wpS Tryz.func53 rfl fun c₀ cs hu=>?_
 apply wpS_seq
 apply wpS_region
 simp [wpOpsS,go_sem,recoverD,hu,Tryz.ntmps53,Exit.thenS]
 refine wpS_of_wp ?_
 go_wp2
 refine⟨rfl,_,?_,_,results_none rfl _ _ _,rfl,rfl,rfl⟩
 cases c₀
 simp_all
end Go.Proofs.YtgnpmceimpjheaaGreat
