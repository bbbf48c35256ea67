/- A part of the proof: PtA PtB PtC PtD MakeL PtE PtF PtG. -/
import Derived.Test.YtgnpmceimpjheaaGreatGT13
import Derived.Test.YtgnpmceimpjheaaGreatGT4
import Derived.Test.YtgnpmceimpjheaaGreatGT3
import Derived.Test.YtgnpmceimpjheaaGreatGT5
import Derived.Test.YtgnpmceimpjheaaGreatGT2
import Derived.Test.YtgnpmceimpjheaaGreatGT10
import Derived.Test.YtgnpmceimpjheaaGreatGT11
import Derived.Lib.Mul64
import Derived.Laws.Bits64b
import Derived.Laws.IdiomCopy
set_option maxRecDepth 100000
set_option maxHeartbeats 16000000
namespace Go.Proofs.YtgnpmceimpjheaaGreat
open Go.RowKit
def Cp (pg:Nat) (w:World) (k:Nat):Prop:=k=pg∨∃ v,w.cell? ⟨pg,0,none⟩=some v∧v.ownBlock=some k
def POwn (w:World) (B:Nat) (v:Value) (X:List Int):Prop :=
 Own w B v X∨∃ g,v=.slice (some ⟨g,0,none⟩) X.length X.length∧B≤g∧g<w.heap.size∧BytesAt w g 0 X
theorem POwn.chgB {S:Nat→Prop} {w w':World} {B:Nat} {v:Value} {X:List Int} (h:POwn w B v X) (hc:Chg S w w') (hs:∀ g,v.ownBlock=some g→¬ S g):POwn w' B v X:=by
 rcases h with h|⟨g,rfl,h2,h3,h4⟩
 ·exact .inl (byteOwn.1 ((byteOwn.2 h).chgB hc hs))
 ·exact .inr ⟨g,rfl,h2,Nat.lt_of_lt_of_le h3 hc.size,h4.chg hc (fun _=>hs g rfl)⟩
theorem POwn.blk {w:World} {B:Nat} {v:Value} {X:List Int} (h:POwn w B v X) {g:Nat} (hg:v.ownBlock=some g):B≤g∧g<w.heap.size:=by
 rcases h with h|⟨g',rfl,h2,h3,-⟩
 ·exact ownBlk h hg
 ·have e:g'=g:=Option.some.inj hg
  omega
theorem POwn.shape3 {w:World} {B:Nat} {v:Value} {X:List Int} (h:POwn w B v X):∃ a n c,v=.slice a n c:=by
 rcases h with h|⟨g',rfl,-⟩
 ·exact h.shape3
 ·exact⟨_,_,_,rfl⟩
theorem POwn.bytes {w:World} {B:Nat} {v:Value} {X:List Int} (h:POwn w B v X) (hx:X≠[]):∃ g c,v=.slice (some ⟨g,0,none⟩) X.length c∧B≤g∧g<w.heap.size∧BytesAt w g 0 X:=by
 rcases h with h|⟨g,rfl,h2,h3,h4⟩
 ·obtain⟨g,C,rfl,h2,h3,h4,h5⟩:=h.some hx
  exact⟨g,_,rfl,h2,h3.lt,h3.bytes h4⟩
 ·exact⟨g,_,rfl,h2,h3,h4⟩
theorem POwn.append {w:World} {B:Nat} {v:Value} {X:List Int} (h:POwn w B v X) (hB:B≤w.heap.size) (tx:TypeId) (x:Value) (Y:List Int) (hs:Src Tryz.prog 1 tx x Y.length (bytesV Y) w) (hY:∀ a∈Y,Byte a) (hlen:X.length+Y.length≤1000000000000) (ty:TypeId) :
  ∃ v' w',(Builtin.append_ #[45,tx] ty #[v,x]).run Tryz.prog w=.ok v' w'∧POwn w' B v' (X++Y)∧Chg (fun k=>v.ownBlock=some k) w w'∧(v'.ownBlock=v.ownBlock∨v'.ownBlock=some w.heap.size):=by
 rcases h with h|⟨g,rfl,h2,h3,h4⟩
 ·obtain⟨v',w',hrun,g1,-,⟨g2,g3⟩,-⟩:=(byteOwn.2 h).append hB tx x Y (by rw [byteEncs];exact hs) hY hlen ty
  exact⟨v',w',hrun,.inl (byteOwn.1 g1),g2,g3⟩
 ·rcases Nat.eq_zero_or_pos Y.length with h0|h0
  ·have hY0:=List.length_eq_zero_iff.1 h0
   subst hY0
   obtain⟨i,hi,hz,k1,k2⟩:=info_parts info8
   refine⟨_,_,run_append_nothing (P:=Tryz.prog) w 45 tx ty 5 i Tryz.underlying45 hi (some ⟨g,0,none⟩) X.length X.length (Nat.le_refl _) x (by rw [k1];exact hs),?_,Chg.refl _ _,.inl rfl⟩
   rw [List.append_nil]
   exact .inr ⟨g,rfl,h2,h3,h4⟩
  ·obtain⟨w',C,hrun,hR,hp,hC,hc⟩:=grow8 (.slice (some ⟨g,0,none⟩) X.length X.length) X _ X.length rfl (fun w' hc=>by
    have hb:=h4.chg hc (fun _ h=>h)
    refine run_firstCells_some w' 1 X.length ⟨g,0,none⟩ X.length X.length (bytesV X) (by simp) (fun j u hu=>?_)
    obtain⟨x,hx,rfl⟩:=bytesV_get hu
    rw [Addr.add_lit]
    exact (hb.c j x hx).1) h4.byte tx x Y hs hY (by omega) hlen ty
   exact⟨_,_,hrun,.inl (.inr ⟨_,C,rfl,hB,hR,hp,hC⟩),hc.any,.inr rfl⟩
theorem wpList_appendP {ops:Array Oper} {rest:List Oper} {o:Oper} {a:Act} {w:World} {Q:Exit→Act→World→Prop} (hgd:o.guard=none) (s x:Operand) (tx:TypeId)
  (ho:o.op=.call { callee:=.builtin .append,args:=#[s,x],argTypes:=#[45,tx] }) (B:Nat) (v:Value) (X Y:List Int) (u:Value) (hv:a.eval s=v) (hu:a.eval x=u)
  (h:POwn w B v X) (hB:B≤w.heap.size) (hs:Src Tryz.prog 1 tx u Y.length (bytesV Y) w) (hY:∀ a∈Y,Byte a) (hlen:X.length+Y.length≤1000000000000)
  (hK:∀ v' w',Hid (POwn w' B v' (X++Y))→Hid (Chg (fun k=>v.ownBlock=some k) w w'∧(v'.ownBlock=v.ownBlock∨v'.ownBlock=some w.heap.size))→wpList Tryz.prog ops Q rest (a.put o.dst v') w'):wpList Tryz.prog ops Q (o :: rest) a w:=by
 obtain⟨v',w',hrun,h1,h2,h3⟩:=h.append hB tx u Y hs hY hlen o.type
 exact Lib.wpList_append_run w hgd s x 45 tx ho v u hv hu v' w' hrun (hK v' w' (jh h1) (jh ⟨h2,h3⟩))
structure PSt (pg B:Nat) (w:World) (Z:List Int):Prop where
 ex:∃ v,w.cell? ⟨pg,0,none⟩=some v∧POwn w B v Z∧v.ownBlock≠some pg
 z:w.frozen? ⟨pg,0,none⟩=false
 le:B≤pg
structure Puts (pg B:Nat) (w w':World) (Z:List Int):Prop where
 st:PSt pg B w' Z
 chg:Chg (Cp pg w) w w'
 nx:∀ k,Cp pg w' k→Cp pg w k∨w.heap.size≤k
theorem PSt.lt {pg B:Nat} {w:World} {Z:List Int} (h:PSt pg B w Z):pg<w.heap.size:=by
 obtain⟨v,h1,-⟩:=h.ex
 exact World.block_lt_of_cell? _ _ h1
theorem PSt.low {pg B:Nat} {w:World} {Z:List Int} (h:PSt pg B w Z) {k:Nat} (hk:Cp pg w k):B≤k∧k<w.heap.size:=by
 obtain⟨v,h1,h2,h3⟩:=h.ex
 rcases hk with rfl|⟨u,hu,hk⟩
 ·exact⟨h.le,h.lt⟩
 ·rw [h1] at hu
  obtain rfl:=Option.some.inj hu
  exact h2.blk hk
theorem PSt.chg {pg B:Nat} {S:Nat→Prop} {w w':World} {Z:List Int} (h:PSt pg B w Z) (hc:Chg S w w') (hs:∀ k,S k→¬ Cp pg w k):PSt pg B w' Z∧∀ k,Cp pg w' k→Cp pg w k:=by
 obtain⟨v,h1,h2,h3⟩:=h.ex
 have hp:¬ S pg:=fun e=>hs _ e (.inl rfl)
 have c1:=hc.cellS h1 hp
 refine⟨⟨⟨v,c1,h2.chgB hc (fun g hg e=>hs g e (.inr ⟨v,h1,hg⟩)),h3⟩,(hc.frozen (p:=⟨pg,0,none⟩) h.lt hp).trans h.z,h.le⟩,fun k hk=>?_⟩
 rcases hk with rfl|⟨u,hu,hk⟩
 ·exact .inl rfl
 ·rw [c1] at hu
  exact .inr ⟨v,h1,by rw [Option.some.inj hu];exact hk⟩
theorem PSt.fresh {pg B:Nat} {w w':World} {Z:List Int} (h:PSt pg B w Z) (hc:Chg (fun _=>False) w w'):Puts pg B w w' Z:=by
 obtain⟨h1,h2⟩:=h.chg hc (fun _ h=>h.elim)
 exact⟨h1,hc.any,fun k hk=>.inl (h2 k hk)⟩
theorem PSt.refl {pg B:Nat} {w:World} {Z:List Int} (h:PSt pg B w Z):Puts pg B w w Z:=h.fresh (Chg.refl _ _)
theorem Puts.trans {pg B:Nat} {a b c:World} {Z Y:List Int} (h:Puts pg B a b Z) (k:Puts pg B b c Y):Puts pg B a c Y :=
 ⟨k.st,h.chg.trans2 k.chg (fun j hj hC=>(h.nx j hC).resolve_right (by omega)),fun j hj=>by
  rcases k.nx j hj with h1|h1
  ·exact h.nx j h1
  ·exact .inr (Nat.le_trans h.chg.size h1)⟩
theorem Puts.below {pg B:Nat} {w w':World} {Z Y:List Int} (hs:PSt pg B w Y) (h:Puts pg B w w' Z):Chg (fun k=>B≤k) w w':=h.chg.mono (fun _ _ hk=>(hs.low hk).1)
theorem PSt.store {pg B:Nat} {w w2 w1:World} {v v':Value} {Z Y:List Int} (h:PSt pg B w Z) (hv:w.cell? ⟨pg,0,none⟩=some v) (hc:Chg (fun _=>False) w w2) (ho:POwn w1 B v' (Z++Y))
  (h3:Chg (fun k=>v.ownBlock=some k) w2 w1) (h4:v'.ownBlock=v.ownBlock∨v'.ownBlock=some w2.heap.size) :
  (w1.cell? ⟨pg,0,none⟩=some v∧w1.frozen? ⟨pg,0,none⟩=false)∧Puts pg B w (w1.setCell ⟨pg,0,none⟩ v') (Z++Y):=by
 obtain⟨u,h1,h2,h5⟩:=h.ex
 rw [hv] at h1
 obtain rfl:=Option.some.inj h1
 have hlt:=h.lt
 have c2:=hc.cellS hv (fun h=>h)
 have c1:w1.cell? ⟨pg,0,none⟩=some v:=h3.cellS c2 h5
 have z1:w1.frozen? ⟨pg,0,none⟩=false:=(h3.frozen (p:=⟨pg,0,none⟩) (Nat.lt_of_lt_of_le hlt hc.size) h5).trans ((hc.frozen (p:=⟨pg,0,none⟩) hlt (fun h=>h)).trans h.z)
 have hne:v'.ownBlock≠some pg:=by
  rcases h4 with h4|h4
  ·rw [h4];exact h5
  ·rw [h4]
   intro e
   have:=Option.some.inj e
   have:=hc.size
   omega
 have c3:(w1.setCell ⟨pg,0,none⟩ v').cell? ⟨pg,0,none⟩=some v':=World.cell?_setCell_same _ _ _ c1
 refine⟨⟨c1,z1⟩,⟨⟨v',c3,ho.chgB (setCellChg w1 pg 0 v') (fun g hg e=>hne (by subst e;exact hg)),hne⟩,(World.frozen?_setCell _ _ _ _).trans z1,h.le⟩,
  ((hc.any).trans (h3.mono (fun k _ e=>.inr ⟨v,hv,e⟩))).trans ((setCellChg w1 pg 0 v').mono (fun k _ e=>.inl e)),fun k hk=>?_⟩
 rcases hk with rfl|⟨u,hu,hk⟩
 ·exact .inl (.inl rfl)
 ·rw [c3] at hu
  obtain rfl:=Option.some.inj hu
  rcases h4 with h4|h4
  ·rw [h4] at hk;exact .inl (.inr ⟨v,hv,hk⟩)
  ·rw [h4] at hk
   obtain rfl:=Option.some.inj hk
   exact .inr hc.size
theorem strBytes (s:Str):byteCells s=bytesV (strB s):=by
 simp only [byteCells,bytesV,strB,List.map_map]
 rfl
end Go.Proofs.YtgnpmceimpjheaaGreat
namespace Go.Proofs.YtgnpmceimpjheaaGreat
open Go.RowKit
theorem pnum_any {pg B:Nat} {Z:List Int} (z:Int) (w:World) (h:PSt pg B w Z) (hz:0≤z∧z<4294967296) (hl:Z.length≤1000000000) :
  Calls Tryz.prog 27 #[.pointer (some ⟨pg,0,none⟩),.int .i64 z] w fun e w'=>e=.returned (.tuple #[])∧Puts pg B w w' (Z++ptInt z):=by
 obtain⟨n,rfl⟩:=Int.eq_ofNat_of_zero_le hz.1
 have hn:n<4294967296:=by omega
 rw [show ptInt (n:Int)=putL n by unfold ptInt;rw [Int.toNat_natCast]]
 clear hz
 obtain⟨v,hv,ho,hne⟩:=h.ex
 obtain⟨va,vl,vc,rfl⟩:=ho.shape3
 have HP:=jh h
 have HV:=jh hv
 have HNE:Hid (¬ (Value.slice va vl vc).ownBlock=some pg):=jh hne
 have hbl:=h.lt
 have hble:=h.le
 obtain⟨wd,hwd⟩:∃ wd,wd=w.drew:=⟨_,rfl⟩
 have HWD:Hid (Chg (fun _=>False) w wd):=jh (by rw [hwd];exact (Chg.refl _ _).drew)
 have HWE:Hid (w.drew=wd):=jh hwd.symm
 have HVD:Hid (wd.cell? ⟨pg,0,none⟩=some (.slice va vl vc)):=jh (HWD.out.cellS hv (fun h=>h))
 have HOD:Hid (POwn wd B (.slice va vl vc) Z):=jh (ho.chgB HWD.out (fun _ _ h=>h))
 have HBL:Hid (pg<wd.heap.size):=jh (Nat.lt_of_lt_of_le hbl HWD.out.size)
 have hw5:IntKind.u32.wrap (n:Int)=n:=by rw [IntKind.wrap_u32];omega
 clear h hwd hv ho hne
 go_enter Tryz.func27,Tryz.ntmps27
 refine wp_region_late (fun x=>Chg (fun k=>(Value.slice va vl vc).ownBlock=some k) wd x) (fun i=>decide (i=11)) (by kernel_rfl) ?_
 show wpAnyL _ _ _ _ _ _ 12 (Array.replicate 12 false) _ w.drew
 rw [HWE.out]
 have HSS:Hid (Chg (fun k=>(Value.slice va vl vc).ownBlock=some k) wd wd):=jh (Chg.refl _ _)
 (refine lrd 0 HSS.out fun K hK=>?_;apply ei;intro w' hC;(go_simp;try with_reducible rfl);(try go_simp);refine hK _ ?_;clear hK K)
 (refine lrd 1 HSS.out fun K hK=>?_;apply ei;intro w' hC;(go_simp;try with_reducible rfl);(try go_simp);refine hK _ ?_;clear hK K)
 (refine lrd 2 HSS.out fun K hK=>?_;apply ei;intro w' hC;(go_simp;try with_reducible rfl);(try go_simp);refine hK _ ?_;clear hK K)
 (refine lrd 3 HSS.out fun K hK=>?_;apply ei;intro w' hC;(go_simp;try with_reducible rfl);(try go_simp);refine hK _ ?_;clear hK K)
 (refine lrd 4 HSS.out fun K hK=>?_;apply ei;intro w' hC;((have q:=hC.cellS HVD.out HNE.out);go_simp;try with_reducible rfl);(try go_simp);refine hK _ ?_;clear hK K)
 (refine lrd 5 HSS.out fun K hK=>?_;apply ei;intro w' hC;(go_simp;try with_reducible rfl);(try go_simp);refine hK _ ?_;clear hK K)
 (refine lrd 6 HSS.out fun K hK=>?_;apply ei;intro w' hC;(go_simp;try with_reducible rfl);(try go_simp);refine hK _ ?_;clear hK K)
 refine late_call (i:=7) (by kernel_rfl) rfl rfl 62 #[.slice none 0 0,.int .u32 n] (fun u w''=>∃ h,u=.slice (some ⟨h,0,none⟩) ([]++putL n).length ([]++putL n).length∧Row w'' h ([]++putL n)∧Chg (fun _=>False) wd w'') (by go_simp) ?_ ?_
 ·refine (put_any [] n none 0 0 0 wd ⟨fun k a hk=>by simp at hk,fun h=>(h rfl).elim⟩ (fun h=>by simp at h) (by simp) hn).mono ?_
  rintro e w2 ⟨h,rfl,_,h2,h3⟩
  exact⟨_,rfl,fun _=>h3.any,h,rfl,h2,h3⟩
 rintro u w2 hs2 ⟨h,rfl,hr,hc⟩ K hK
 have HSS:=jh (hs2 (by decide))
 have HF2:Hid (POwn w2 B (.slice va vl vc) Z):=jh (HOD.out.chgB hc (fun _ _ h=>h))
 have HR:=jh hr
 have HC:=jh hc
 rw [List.nil_append] at HR ⊢
 obtain⟨PL,hPL⟩:∃ PL,(putL n).length=PL:=⟨_,rfl⟩
 have HPL:=jh hPL
 rw [hPL]
 clear hs2 hr hc hPL
 (try go_simp)
 refine hK _ ?_
 clear hK K
 refine late_append (i:=8) (by kernel_rfl) rfl rfl (.tmp 8) (.tmp 11) 45 45 rfl (.slice va vl vc) (.slice (some ⟨h,0,none⟩) PL PL) rfl rfl (fun v' w1=>POwn w1 B v' (Z++putL n)∧Chg (fun k=>(Value.slice va vl vc).ownBlock=some k) w2 w1∧(v'.ownBlock=(Value.slice va vl vc).ownBlock∨v'.ownBlock=some w2.heap.size)) ?_ ?_
 ·have hsrc:=srcBytes (c:=PL) (HR.out.bytes (List.prefix_refl _)) (fun _=>rfl)
  rw [HPL.out] at hsrc
  have h5:=putL_len5 hn
  obtain⟨v',w1,hrun,h1,h3,h4⟩:=HF2.out.append (by have:=HBL.out;have:=HC.out.size;omega) 45 (.slice (some ⟨h,0,none⟩) PL PL) (putL n) (by rw [HPL.out];exact hsrc) (putL_byte n) (by omega) 45
  exact⟨v',w1,hrun,fun _=>HSS.out.trans h3,h1,h3,h4⟩
 rintro v' w1 hs ⟨h1,h3,h4⟩ K hK
 have HSS:=jh (hs (by decide))
 obtain⟨va',vl',vc',hv'⟩:=h1.shape3
 subst hv'
 obtain⟨⟨k1,k2⟩,hf1⟩:=HP.out.store HV.out (HWD.out.trans HC.out) h1 h3 h4
 have HFF:=jh hf1
 clear hf1 h1 h3 h4 hs
 (try go_simp)
 refine hK _ ?_
 clear hK K
 (refine lrd 9 HSS.out fun K hK=>?_;apply ei;intro w' hC;(go_simp;try with_reducible rfl);(try go_simp);refine hK _ ?_;clear hK K)
 (refine lrd 10 HSS.out fun K hK=>?_;apply ei;intro w' hC;(go_simp;try with_reducible rfl);(try go_simp);refine hK _ ?_;clear hK K)
 (refine late_store (i:=11) (by kernel_rfl) rfl rfl fun K hK=>?_;apply Exists.intro;refine⟨?_,(fun h=>absurd h (by decide)),?_⟩;(go_simp;try first|with_reducible rfl|exact⟨rfl,rfl⟩);(try go_simp);refine hK _ _ ?_;clear hK K)
 refine late_done (by kernel_rfl) ?_ _
 go_wp2
 go_end0
 exact⟨rfl,HFF.out⟩
theorem ptext_any {pg B:Nat} {Z:List Int} (s:Str) (w:World) (h:PSt pg B w Z) (hs:s.size≤1000000) (hl:Z.length≤1000000000) :
  Calls Tryz.prog 26 #[.pointer (some ⟨pg,0,none⟩),.string s] w fun e w'=>e=.returned (.tuple #[])∧Puts pg B w w' (Z++ptText s):=by
 have HN:=jh (pnum_any (s.size:Int) w h (by omega) hl)
 have HS:=jh hs
 have HL:=jh hl
 clear h hs hl
 go_enter Tryz.func26,Tryz.ntmps26
 go_wp2_with fail
 refine HN.out.mono ?_
 rintro e w2 ⟨rfl,hp⟩
 have HP:=jh hp
 obtain⟨v,hv,ho,hne⟩:=hp.st.ex
 obtain⟨va,vl,vc,rfl⟩:=ho.shape3
 have HV:=jh hv
 have HO:=jh ho
 have HB:Hid (B≤w2.heap.size):=jh (by have:=hp.st.lt;have:=hp.st.le;omega)
 have HZL:Hid ((Z++ptInt (s.size:Int)).length≤2000000000):=jh (by
  have:=putL_len5 (n:=s.size) (by have:=HS.out;omega)
  have h2:=HL.out
  rw [List.length_append]
  unfold ptInt
  rw [Int.toNat_natCast]
  omega)
 have HSB:=jh (strB_length s)
 clear hp ho hne
 go_wp2_with (at_builtin;refine wpList_appendP rfl _ _ 9 rfl B (.slice va vl vc) (Z++ptInt (s.size:Int)) (strB s) (.string s) rfl rfl HO.out HB.out (by rw [← strBytes,HSB.out];exact Src.ofString w2 Tryz.underlying9 s) (strB_byte s) (by have:=HZL.out;have:=HS.out;have:=HSB.out;omega) ?_;intro v' w1 HO1 HB1;obtain⟨va',vl',vc',hv'⟩:=HO1.out.shape3;subst hv';obtain⟨⟨k1,k2⟩,hf1⟩:=HP.out.st.store HV.out (Chg.refl _ _) HO1.out HB1.out.1 HB1.out.2;have HFF:=jh (HP.out.trans hf1);clear hf1)
 go_wp2
 go_end0
 refine⟨rfl,?_⟩
 have:=HFF.out
 rw [List.append_assoc] at this
 unfold ptText
 unfold ptInt at this
 rw [Int.toNat_natCast] at this
 exact this
end Go.Proofs.YtgnpmceimpjheaaGreat
namespace Go.Proofs.YtgnpmceimpjheaaGreat
open Go.RowKit
section
variable {β δ:Type}
structure SideW (pg B:Nat) (C:World→Nat→Prop) (St:World→List δ→List Int→Prop):Prop where
 get:∀ {w acc Z},St w acc Z→PSt pg B w Z
 sub:∀ {w k},Cp pg w k→C w k
 low:∀ {w acc Z k},St w acc Z→C w k→B≤k
 move:∀ {w w' acc Z Z'},St w acc Z→Puts pg B w w' Z'→St w' acc Z'∧∀ k,C w' k→C w k∨w.heap.size≤k
def WPost (C:World→Nat→Prop) (St:World→List δ→List Int→Prop) (w:World) (L:List δ) (Z:List Int) (e:Ending) (w':World):Prop :=
 e=.returned (.tuple #[])∧St w' L Z∧Chg (C w) w w'∧∀ k,C w' k→C w k∨w.heap.size≤k
def Writes (f:FuncId) (fa lb:Array Value) (enc:δ→List Int) (ok:δ→Prop) (E:Elt β) (val:β→Value) (R:Rp β δ) (B:Nat) (C:World→Nat→Prop) (St:World→List δ→List Int→Prop):Prop :=
 ∀ (w:World) (acc:List δ) (Z:List Int) (x:β) (d:δ),St w acc Z→acc.length≤1000000000→E.ok x→R w (·<B) x d→ok d→(Z++enc d).length≤1000000000 →
  Calls Tryz.prog f (fa++#[val x]++lb) w (WPost C St w (acc++[d]) (Z++enc d))
theorem WPost.trans {C:World→Nat→Prop} {St:World→List δ→List Int→Prop} {a b c:World} {L M:List δ} {Z Y:List Int} {e e':Ending} (h:WPost C St a L Z e b) (k:WPost C St b M Y e' c):WPost C St a M Y e' c:=by
 obtain⟨-,h2,h3,h4⟩:=h
 obtain⟨k1,k2,k3,k4⟩:=k
 refine⟨k1,k2,h3.trans2 k3 (fun j hj hC=>(h4 j hC).resolve_right (by omega)),fun j hj=>?_⟩
 rcases k4 j hj with h5|h5
 ·exact h4 j h5
 ·exact .inr (Nat.le_trans h3.size h5)
theorem WPost.puts {pg B:Nat} {C:World→Nat→Prop} {St:World→List δ→List Int→Prop} (hS:SideW pg B C St) {w w':World} {acc:List δ} {Z Z':List Int} (h:St w acc Z) (hp:Puts pg B w w' Z'):WPost C St w acc Z' (.returned (.tuple #[])) w':=by
 obtain⟨h1,h2⟩:=hS.move h hp
 exact⟨rfl,h1,hp.chg.mono (fun k _ hk=>hS.sub hk),h2⟩
theorem flatMap_take {enc:δ→List Int} {L:List δ} {k:Nat} {d:δ} (h:L[k]?=some d):(L.take (k+1)).flatMap enc=(L.take k).flatMap enc++enc d:=by
 rw [List.take_add_one,h,List.flatMap_append]
 simp
theorem flatMap_prefix {enc:δ→List Int} {L:List δ} (k:Nat):((L.take k).flatMap enc).length≤(L.flatMap enc).length:=by
 conv=>rhs;rw [← List.take_append_drop k L,List.flatMap_append,List.length_append]
 omega
end
def encInt1 (n:Int):List Value:=[.int .i64 n]
theorem putStr {δ:Type} {R:Rp Str δ} (hR:Good R) {pg B:Nat} {C:World→Nat→Prop} {St:World→List δ→List Int→Prop} (hS:SideW pg B C St) (f:FuncId) (fa lb:Array Value) (enc:δ→List Int) (ok:δ→Prop) (eg:∀ args w,(callFunc f args).run Tryz.prog w=.ok (.enter f args) w)
  (hW:Writes f fa lb enc ok strE strVal R B C St) (L:List δ) (a:Option Addr) (c:Nat) (w:World) (Z:List Int) (h:St w [] Z) (hL:ListR strE R w (·<B) (a,L.length,c) L) (hok:∀ d∈L,ok d) (hn:L.length≤1000000000) (hl:(Z++ptList enc L).length≤1000000000) :
  Calls Tryz.prog 25 #[.pointer (some ⟨pg,0,none⟩),.slice a L.length c,.func (.func f) fa lb] w (WPost C St w L (Z++ptList enc L)):=by
 have HW:=jh hW
 have HR:=jh hR
 have HS:=jh hS
 have HST:=jh h
 have HL:=jh hL
 have HOK:=jh hok
 have HLEN:=jh hl
 have HN:=jh (pnum_any (L.length:Int) w (hS.get h) (by omega) (by rw [List.length_append] at hl;omega))
 have HPL:Hid (ptInt (L.length:Int)=putL L.length):=jh (by unfold ptInt;rw [Int.toNat_natCast])
 clear hW hR hS h hL hok hl
 go_enter Tryz.func25,Tryz.ntmps25
 go_wp2_with fail
 refine HN.out.mono ?_
 rintro e w1 ⟨rfl,hp⟩
 rw [HPL.out] at hp
 have HP0:=jh (WPost.puts HS.out HST.out hp)
 clear hp HN
 go_wp2
 go_loopw [14] (fun q wr=>∃ k:Nat,k≤L.length∧q=.int .i64 k∧WPost C St w (L.take k) (Z++putL L.length++(L.take k).flatMap enc) (.returned (.tuple #[])) wr) (fun q _=>L.length-(intOf q).toNat)
 case atStart=>exact⟨0,by omega,rfl,by simpa using HP0.out⟩
 case round =>
  clear HP0
  obtain⟨k,hk,rfl,hp⟩:=hrel
  have HP:=jh hp
  clear hp
  by_cases hkl:k<L.length
  ·have b9:decide ((k:Int)<(L.length:Int))=true:=by simp;omega
   have HLW:=jh ((ListR.good HR.out).chg HL.out HP.out.2.2.1 (fun g hg hC=>by have:=HS.out.low HST.out hC;omega))
   obtain⟨x,d,g,o,hx,hr,rfl,-,-,hox,hcells⟩:=HLW.out.get1' (f:=encStr) rfl hkl rfl
   have HX:=jh hx
   have HRX:=jh hr
   have HOX:=jh hox
   have HLE:Hid ((Z++putL L.length++(L.take k).flatMap enc++enc d).length≤1000000000):=jh (by
    have h1:=HLEN.out
    have h2:=flatMap_prefix (enc:=enc) (L:=L) (k+1)
    rw [flatMap_take HX.out] at h2
    unfold ptList at h1
    simp only [List.length_append] at h1 h2 ⊢
    omega)
   have HCALL:Hid (∀ W,Chg (fun _=>False) wr W→Calls Tryz.prog f (fa++#[strVal x]++lb) W (WPost C St w (L.take (k+1)) (Z++putL L.length++(L.take (k+1)).flatMap enc))):=jh (fun W hc=>by
    have h1:=WPost.puts HS.out HP.out.2.1 ((HS.out.get HP.out.2.1).fresh hc)
    refine (HW.out W (L.take k) _ x d h1.2.1 (by rw [List.length_take];omega) HOX.out (HR.out.chg HRX.out hc (fun _ _ h=>h)) (HOK.out d (List.mem_of_getElem? HX.out)) HLE.out).mono ?_
    intro e w' h2
    have h3:=(HP.out.trans h1).trans h2
    rw [flatMap_take HX.out,List.take_add_one,HX.out,← List.append_assoc]
    exact h3)
   have hcs:=hcells
   clear hx hr hox HLW
   first|(have c0:=hcells _ rfl)|(obtain⟨c0,c1,c2⟩:=hcells _ _ _ rfl)
   clear hcells hcs
   try unfold slV at c1
   try unfold slV at c2
   go_wp2_with fail
   refine (HCALL.out _ (by first|exact Chg.refl _ _|exact (Chg.refl _ _).alloc _)).mono ?_
   rintro e w2 ⟨rfl,h2⟩
   have HP2:Hid (WPost C St w (L.take (k+1)) (Z++putL L.length++(L.take (k+1)).flatMap enc) (.returned (.tuple #[])) w2):=jh ⟨rfl,h2⟩
   clear h2 c0 HCALL
   go_wp2
   go_roundw
   case rel=>exact⟨k+1,by omega,by go_num,HP2.out⟩
   case measure=>simp [intOf];omega
  ·obtain rfl:k=L.length:=by omega
   have HF:Hid (WPost C St w L (Z++ptList enc L) (.returned (.tuple #[])) wr):=jh (by
    have:=HP.out
    rw [List.take_of_length_le (Nat.le_refl _),List.append_assoc] at this
    exact this)
   go_wp2
   go_end0
   exact HF.out
theorem putInt {δ:Type} {R:Rp Int δ} (hR:Good R) {pg B:Nat} {C:World→Nat→Prop} {St:World→List δ→List Int→Prop} (hS:SideW pg B C St) (f:FuncId) (fa lb:Array Value) (enc:δ→List Int) (ok:δ→Prop) (eg:∀ args w,(callFunc f args).run Tryz.prog w=.ok (.enter f args) w)
  (hW:Writes f fa lb enc ok intE intVal R B C St) (L:List δ) (a:Option Addr) (c:Nat) (w:World) (Z:List Int) (h:St w [] Z) (hL:ListR intE R w (·<B) (a,L.length,c) L) (hok:∀ d∈L,ok d) (hn:L.length≤1000000000) (hl:(Z++ptList enc L).length≤1000000000) :
  Calls Tryz.prog 69 #[.pointer (some ⟨pg,0,none⟩),.slice a L.length c,.func (.func f) fa lb] w (WPost C St w L (Z++ptList enc L)):=by
 have HW:=jh hW
 have HR:=jh hR
 have HS:=jh hS
 have HST:=jh h
 have HL:=jh hL
 have HOK:=jh hok
 have HLEN:=jh hl
 have HN:=jh (pnum_any (L.length:Int) w (hS.get h) (by omega) (by rw [List.length_append] at hl;omega))
 have HPL:Hid (ptInt (L.length:Int)=putL L.length):=jh (by unfold ptInt;rw [Int.toNat_natCast])
 clear hW hR hS h hL hok hl
 go_enter Tryz.func69,Tryz.ntmps69
 go_wp2_with fail
 refine HN.out.mono ?_
 rintro e w1 ⟨rfl,hp⟩
 rw [HPL.out] at hp
 have HP0:=jh (WPost.puts HS.out HST.out hp)
 clear hp HN
 go_wp2
 go_loopw [14] (fun q wr=>∃ k:Nat,k≤L.length∧q=.int .i64 k∧WPost C St w (L.take k) (Z++putL L.length++(L.take k).flatMap enc) (.returned (.tuple #[])) wr) (fun q _=>L.length-(intOf q).toNat)
 case atStart=>exact⟨0,by omega,rfl,by simpa using HP0.out⟩
 case round =>
  clear HP0
  obtain⟨k,hk,rfl,hp⟩:=hrel
  have HP:=jh hp
  clear hp
  by_cases hkl:k<L.length
  ·have b9:decide ((k:Int)<(L.length:Int))=true:=by simp;omega
   have HLW:=jh ((ListR.good HR.out).chg HL.out HP.out.2.2.1 (fun g hg hC=>by have:=HS.out.low HST.out hC;omega))
   obtain⟨x,d,g,o,hx,hr,rfl,-,-,hox,hcells⟩:=HLW.out.get1' (f:=encInt1) rfl hkl rfl
   have HX:=jh hx
   have HRX:=jh hr
   have HOX:=jh hox
   have HLE:Hid ((Z++putL L.length++(L.take k).flatMap enc++enc d).length≤1000000000):=jh (by
    have h1:=HLEN.out
    have h2:=flatMap_prefix (enc:=enc) (L:=L) (k+1)
    rw [flatMap_take HX.out] at h2
    unfold ptList at h1
    simp only [List.length_append] at h1 h2 ⊢
    omega)
   have HCALL:Hid (∀ W,Chg (fun _=>False) wr W→Calls Tryz.prog f (fa++#[intVal x]++lb) W (WPost C St w (L.take (k+1)) (Z++putL L.length++(L.take (k+1)).flatMap enc))):=jh (fun W hc=>by
    have h1:=WPost.puts HS.out HP.out.2.1 ((HS.out.get HP.out.2.1).fresh hc)
    refine (HW.out W (L.take k) _ x d h1.2.1 (by rw [List.length_take];omega) HOX.out (HR.out.chg HRX.out hc (fun _ _ h=>h)) (HOK.out d (List.mem_of_getElem? HX.out)) HLE.out).mono ?_
    intro e w' h2
    have h3:=(HP.out.trans h1).trans h2
    rw [flatMap_take HX.out,List.take_add_one,HX.out,← List.append_assoc]
    exact h3)
   have hcs:=hcells
   clear hx hr hox HLW
   first|(have c0:=hcells _ rfl)|(obtain⟨c0,c1,c2⟩:=hcells _ _ _ rfl)
   clear hcells hcs
   try unfold slV at c1
   try unfold slV at c2
   go_wp2_with fail
   refine (HCALL.out _ (by first|exact Chg.refl _ _|exact (Chg.refl _ _).alloc _)).mono ?_
   rintro e w2 ⟨rfl,h2⟩
   have HP2:Hid (WPost C St w (L.take (k+1)) (Z++putL L.length++(L.take (k+1)).flatMap enc) (.returned (.tuple #[])) w2):=jh ⟨rfl,h2⟩
   clear h2 c0 HCALL
   go_wp2
   go_roundw
   case rel=>exact⟨k+1,by omega,by go_num,HP2.out⟩
   case measure=>simp [intOf];omega
  ·obtain rfl:k=L.length:=by omega
   have HF:Hid (WPost C St w L (Z++ptList enc L) (.returned (.tuple #[])) wr):=jh (by
    have:=HP.out
    rw [List.take_of_length_le (Nat.le_refl _),List.append_assoc] at this
    exact this)
   go_wp2
   go_end0
   exact HF.out
theorem putEdge {δ:Type} {R:Rp EdgeD δ} (hR:Good R) {pg B:Nat} {C:World→Nat→Prop} {St:World→List δ→List Int→Prop} (hS:SideW pg B C St) (f:FuncId) (fa lb:Array Value) (enc:δ→List Int) (ok:δ→Prop) (eg:∀ args w,(callFunc f args).run Tryz.prog w=.ok (.enter f args) w)
  (hW:Writes f fa lb enc ok edgeE edgeVal R B C St) (L:List δ) (a:Option Addr) (c:Nat) (w:World) (Z:List Int) (h:St w [] Z) (hL:ListR edgeE R w (·<B) (a,L.length,c) L) (hok:∀ d∈L,ok d) (hn:L.length≤1000000000) (hl:(Z++ptList enc L).length≤1000000000) :
  Calls Tryz.prog 67 #[.pointer (some ⟨pg,0,none⟩),.slice a L.length c,.func (.func f) fa lb] w (WPost C St w L (Z++ptList enc L)):=by
 have HW:=jh hW
 have HR:=jh hR
 have HS:=jh hS
 have HST:=jh h
 have HL:=jh hL
 have HOK:=jh hok
 have HLEN:=jh hl
 have HN:=jh (pnum_any (L.length:Int) w (hS.get h) (by omega) (by rw [List.length_append] at hl;omega))
 have HPL:Hid (ptInt (L.length:Int)=putL L.length):=jh (by unfold ptInt;rw [Int.toNat_natCast])
 clear hW hR hS h hL hok hl
 go_enter Tryz.func67,Tryz.ntmps67
 go_wp2_with fail
 refine HN.out.mono ?_
 rintro e w1 ⟨rfl,hp⟩
 rw [HPL.out] at hp
 have HP0:=jh (WPost.puts HS.out HST.out hp)
 clear hp HN
 go_wp2
 go_loopw [14] (fun q wr=>∃ k:Nat,k≤L.length∧q=.int .i64 k∧WPost C St w (L.take k) (Z++putL L.length++(L.take k).flatMap enc) (.returned (.tuple #[])) wr) (fun q _=>L.length-(intOf q).toNat)
 case atStart=>exact⟨0,by omega,rfl,by simpa using HP0.out⟩
 case round =>
  clear HP0
  obtain⟨k,hk,rfl,hp⟩:=hrel
  have HP:=jh hp
  clear hp
  by_cases hkl:k<L.length
  ·have b9:decide ((k:Int)<(L.length:Int))=true:=by simp;omega
   have HLW:=jh ((ListR.good HR.out).chg HL.out HP.out.2.2.1 (fun g hg hC=>by have:=HS.out.low HST.out hC;omega))
   obtain⟨x,d,g,o,hx,hr,rfl,-,-,hox,hcells⟩:=HLW.out.get3 (f:=encEdge) rfl hkl rfl
   have HX:=jh hx
   have HRX:=jh hr
   have HOX:=jh hox
   have HLE:Hid ((Z++putL L.length++(L.take k).flatMap enc++enc d).length≤1000000000):=jh (by
    have h1:=HLEN.out
    have h2:=flatMap_prefix (enc:=enc) (L:=L) (k+1)
    rw [flatMap_take HX.out] at h2
    unfold ptList at h1
    simp only [List.length_append] at h1 h2 ⊢
    omega)
   have HCALL:Hid (∀ W,Chg (fun _=>False) wr W→Calls Tryz.prog f (fa++#[edgeVal x]++lb) W (WPost C St w (L.take (k+1)) (Z++putL L.length++(L.take (k+1)).flatMap enc))):=jh (fun W hc=>by
    have h1:=WPost.puts HS.out HP.out.2.1 ((HS.out.get HP.out.2.1).fresh hc)
    refine (HW.out W (L.take k) _ x d h1.2.1 (by rw [List.length_take];omega) HOX.out (HR.out.chg HRX.out hc (fun _ _ h=>h)) (HOK.out d (List.mem_of_getElem? HX.out)) HLE.out).mono ?_
    intro e w' h2
    have h3:=(HP.out.trans h1).trans h2
    rw [flatMap_take HX.out,List.take_add_one,HX.out,← List.append_assoc]
    exact h3)
   have hcs:=hcells
   clear hx hr hox HLW
   first|(have c0:=hcells _ rfl)|(obtain⟨c0,c1,c2⟩:=hcells _ _ _ rfl)
   clear hcells hcs
   try unfold slV at c1
   try unfold slV at c2
   go_wp2_with fail
   refine (HCALL.out _ (by first|exact Chg.refl _ _|exact (Chg.refl _ _).alloc _)).mono ?_
   rintro e w2 ⟨rfl,h2⟩
   have HP2:Hid (WPost C St w (L.take (k+1)) (Z++putL L.length++(L.take (k+1)).flatMap enc) (.returned (.tuple #[])) w2):=jh ⟨rfl,h2⟩
   clear h2 c0 HCALL
   go_wp2
   go_roundw
   case rel=>exact⟨k+1,by omega,by go_num,HP2.out⟩
   case measure=>simp [intOf];omega
  ·obtain rfl:k=L.length:=by omega
   have HF:Hid (WPost C St w L (Z++ptList enc L) (.returned (.tuple #[])) wr):=jh (by
    have:=HP.out
    rw [List.take_of_length_le (Nat.le_refl _),List.append_assoc] at this
    exact this)
   go_wp2
   go_end0
   exact HF.out
theorem putSt {δ:Type} {R:Rp (Int × Sl × Sl) δ} (hR:Good R) {pg B:Nat} {C:World→Nat→Prop} {St:World→List δ→List Int→Prop} (hS:SideW pg B C St) (f:FuncId) (fa lb:Array Value) (enc:δ→List Int) (ok:δ→Prop) (eg:∀ args w,(callFunc f args).run Tryz.prog w=.ok (.enter f args) w)
  (hW:Writes f fa lb enc ok stE stVal R B C St) (L:List δ) (a:Option Addr) (c:Nat) (w:World) (Z:List Int) (h:St w [] Z) (hL:ListR stE R w (·<B) (a,L.length,c) L) (hok:∀ d∈L,ok d) (hn:L.length≤1000000000) (hl:(Z++ptList enc L).length≤1000000000) :
  Calls Tryz.prog 65 #[.pointer (some ⟨pg,0,none⟩),.slice a L.length c,.func (.func f) fa lb] w (WPost C St w L (Z++ptList enc L)):=by
 have HW:=jh hW
 have HR:=jh hR
 have HS:=jh hS
 have HST:=jh h
 have HL:=jh hL
 have HOK:=jh hok
 have HLEN:=jh hl
 have HN:=jh (pnum_any (L.length:Int) w (hS.get h) (by omega) (by rw [List.length_append] at hl;omega))
 have HPL:Hid (ptInt (L.length:Int)=putL L.length):=jh (by unfold ptInt;rw [Int.toNat_natCast])
 clear hW hR hS h hL hok hl
 go_enter Tryz.func65,Tryz.ntmps65
 go_wp2_with fail
 refine HN.out.mono ?_
 rintro e w1 ⟨rfl,hp⟩
 rw [HPL.out] at hp
 have HP0:=jh (WPost.puts HS.out HST.out hp)
 clear hp HN
 go_wp2
 go_loopw [14] (fun q wr=>∃ k:Nat,k≤L.length∧q=.int .i64 k∧WPost C St w (L.take k) (Z++putL L.length++(L.take k).flatMap enc) (.returned (.tuple #[])) wr) (fun q _=>L.length-(intOf q).toNat)
 case atStart=>exact⟨0,by omega,rfl,by simpa using HP0.out⟩
 case round =>
  clear HP0
  obtain⟨k,hk,rfl,hp⟩:=hrel
  have HP:=jh hp
  clear hp
  by_cases hkl:k<L.length
  ·have b9:decide ((k:Int)<(L.length:Int))=true:=by simp;omega
   have HLW:=jh ((ListR.good HR.out).chg HL.out HP.out.2.2.1 (fun g hg hC=>by have:=HS.out.low HST.out hC;omega))
   obtain⟨x,d,g,o,hx,hr,rfl,-,-,hox,hcells⟩:=HLW.out.get3 (f:=encSt) rfl hkl rfl
   have HX:=jh hx
   have HRX:=jh hr
   have HOX:=jh hox
   have HLE:Hid ((Z++putL L.length++(L.take k).flatMap enc++enc d).length≤1000000000):=jh (by
    have h1:=HLEN.out
    have h2:=flatMap_prefix (enc:=enc) (L:=L) (k+1)
    rw [flatMap_take HX.out] at h2
    unfold ptList at h1
    simp only [List.length_append] at h1 h2 ⊢
    omega)
   have HCALL:Hid (∀ W,Chg (fun _=>False) wr W→Calls Tryz.prog f (fa++#[stVal x]++lb) W (WPost C St w (L.take (k+1)) (Z++putL L.length++(L.take (k+1)).flatMap enc))):=jh (fun W hc=>by
    have h1:=WPost.puts HS.out HP.out.2.1 ((HS.out.get HP.out.2.1).fresh hc)
    refine (HW.out W (L.take k) _ x d h1.2.1 (by rw [List.length_take];omega) HOX.out (HR.out.chg HRX.out hc (fun _ _ h=>h)) (HOK.out d (List.mem_of_getElem? HX.out)) HLE.out).mono ?_
    intro e w' h2
    have h3:=(HP.out.trans h1).trans h2
    rw [flatMap_take HX.out,List.take_add_one,HX.out,← List.append_assoc]
    exact h3)
   have hcs:=hcells
   clear hx hr hox HLW
   first|(have c0:=hcells _ rfl)|(obtain⟨c0,c1,c2⟩:=hcells _ _ _ rfl)
   clear hcells hcs
   try unfold slV at c1
   try unfold slV at c2
   go_wp2_with fail
   refine (HCALL.out _ (by first|exact Chg.refl _ _|exact (Chg.refl _ _).alloc _)).mono ?_
   rintro e w2 ⟨rfl,h2⟩
   have HP2:Hid (WPost C St w (L.take (k+1)) (Z++putL L.length++(L.take (k+1)).flatMap enc) (.returned (.tuple #[])) w2):=jh ⟨rfl,h2⟩
   clear h2 c0 HCALL
   go_wp2
   go_roundw
   case rel=>exact⟨k+1,by omega,by go_num,HP2.out⟩
   case measure=>simp [intOf];omega
  ·obtain rfl:k=L.length:=by omega
   have HF:Hid (WPost C St w L (Z++ptList enc L) (.returned (.tuple #[])) wr):=jh (by
    have:=HP.out
    rw [List.take_of_length_le (Nat.le_refl _),List.append_assoc] at this
    exact this)
   go_wp2
   go_end0
   exact HF.out
theorem putLs {δ:Type} {R:Rp (Int × Sl × Sl) δ} (hR:Good R) {pg B:Nat} {C:World→Nat→Prop} {St:World→List δ→List Int→Prop} (hS:SideW pg B C St) (f:FuncId) (fa lb:Array Value) (enc:δ→List Int) (ok:δ→Prop) (eg:∀ args w,(callFunc f args).run Tryz.prog w=.ok (.enter f args) w)
  (hW:Writes f fa lb enc ok lsE lsVal R B C St) (L:List δ) (a:Option Addr) (c:Nat) (w:World) (Z:List Int) (h:St w [] Z) (hL:ListR lsE R w (·<B) (a,L.length,c) L) (hok:∀ d∈L,ok d) (hn:L.length≤1000000000) (hl:(Z++ptList enc L).length≤1000000000) :
  Calls Tryz.prog 70 #[.pointer (some ⟨pg,0,none⟩),.slice a L.length c,.func (.func f) fa lb] w (WPost C St w L (Z++ptList enc L)):=by
 have HW:=jh hW
 have HR:=jh hR
 have HS:=jh hS
 have HST:=jh h
 have HL:=jh hL
 have HOK:=jh hok
 have HLEN:=jh hl
 have HN:=jh (pnum_any (L.length:Int) w (hS.get h) (by omega) (by rw [List.length_append] at hl;omega))
 have HPL:Hid (ptInt (L.length:Int)=putL L.length):=jh (by unfold ptInt;rw [Int.toNat_natCast])
 clear hW hR hS h hL hok hl
 go_enter Tryz.func70,Tryz.ntmps70
 go_wp2_with fail
 refine HN.out.mono ?_
 rintro e w1 ⟨rfl,hp⟩
 rw [HPL.out] at hp
 have HP0:=jh (WPost.puts HS.out HST.out hp)
 clear hp HN
 go_wp2
 go_loopw [14] (fun q wr=>∃ k:Nat,k≤L.length∧q=.int .i64 k∧WPost C St w (L.take k) (Z++putL L.length++(L.take k).flatMap enc) (.returned (.tuple #[])) wr) (fun q _=>L.length-(intOf q).toNat)
 case atStart=>exact⟨0,by omega,rfl,by simpa using HP0.out⟩
 case round =>
  clear HP0
  obtain⟨k,hk,rfl,hp⟩:=hrel
  have HP:=jh hp
  clear hp
  by_cases hkl:k<L.length
  ·have b9:decide ((k:Int)<(L.length:Int))=true:=by simp;omega
   have HLW:=jh ((ListR.good HR.out).chg HL.out HP.out.2.2.1 (fun g hg hC=>by have:=HS.out.low HST.out hC;omega))
   obtain⟨x,d,g,o,hx,hr,rfl,-,-,hox,hcells⟩:=HLW.out.get3 (f:=encLs) rfl hkl rfl
   have HX:=jh hx
   have HRX:=jh hr
   have HOX:=jh hox
   have HLE:Hid ((Z++putL L.length++(L.take k).flatMap enc++enc d).length≤1000000000):=jh (by
    have h1:=HLEN.out
    have h2:=flatMap_prefix (enc:=enc) (L:=L) (k+1)
    rw [flatMap_take HX.out] at h2
    unfold ptList at h1
    simp only [List.length_append] at h1 h2 ⊢
    omega)
   have HCALL:Hid (∀ W,Chg (fun _=>False) wr W→Calls Tryz.prog f (fa++#[lsVal x]++lb) W (WPost C St w (L.take (k+1)) (Z++putL L.length++(L.take (k+1)).flatMap enc))):=jh (fun W hc=>by
    have h1:=WPost.puts HS.out HP.out.2.1 ((HS.out.get HP.out.2.1).fresh hc)
    refine (HW.out W (L.take k) _ x d h1.2.1 (by rw [List.length_take];omega) HOX.out (HR.out.chg HRX.out hc (fun _ _ h=>h)) (HOK.out d (List.mem_of_getElem? HX.out)) HLE.out).mono ?_
    intro e w' h2
    have h3:=(HP.out.trans h1).trans h2
    rw [flatMap_take HX.out,List.take_add_one,HX.out,← List.append_assoc]
    exact h3)
   have hcs:=hcells
   clear hx hr hox HLW
   first|(have c0:=hcells _ rfl)|(obtain⟨c0,c1,c2⟩:=hcells _ _ _ rfl)
   clear hcells hcs
   try unfold slV at c1
   try unfold slV at c2
   go_wp2_with fail
   refine (HCALL.out _ (by first|exact Chg.refl _ _|exact (Chg.refl _ _).alloc _)).mono ?_
   rintro e w2 ⟨rfl,h2⟩
   have HP2:Hid (WPost C St w (L.take (k+1)) (Z++putL L.length++(L.take (k+1)).flatMap enc) (.returned (.tuple #[])) w2):=jh ⟨rfl,h2⟩
   clear h2 c0 HCALL
   go_wp2
   go_roundw
   case rel=>exact⟨k+1,by omega,by go_num,HP2.out⟩
   case measure=>simp [intOf];omega
  ·obtain rfl:k=L.length:=by omega
   have HF:Hid (WPost C St w L (Z++ptList enc L) (.returned (.tuple #[])) wr):=jh (by
    have:=HP.out
    rw [List.take_of_length_le (Nat.le_refl _),List.append_assoc] at this
    exact this)
   go_wp2
   go_end0
   exact HF.out
end Go.Proofs.YtgnpmceimpjheaaGreat
namespace Go.Proofs.YtgnpmceimpjheaaGreat
open Go.RowKit
abbrev U32 (z:Int):Prop:=0≤z∧z<4294967296
def S0w (δ:Type) (pg B:Nat):World→List δ→List Int→Prop:=fun w _ Z=>PSt pg B w Z
theorem side0w (δ:Type) (pg B:Nat):SideW (δ:=δ) pg B (Cp pg) (S0w δ pg B) where
 get:=fun h=>h
 sub:=fun h=>h
 low:=fun h hk=>(PSt.low h hk).1
 move:=fun _ hp=>⟨hp.st,hp.nx⟩
theorem WPost.puts0 {δ:Type} {pg B:Nat} {w w':World} {L:List δ} {Z:List Int} {e:Ending} (h:WPost (Cp pg) (S0w δ pg B) w L Z e w'):e=.returned (.tuple #[])∧Puts pg B w w' Z:=⟨h.1,h.2.1,h.2.2.1,h.2.2.2⟩
theorem Puts.keep {pg B:Nat} {w w':World} {Z:List Int} (hp:Puts pg B w w' Z) {b j:Nat} (hb:¬ Cp pg w b) {u:Value} (hc:w.cell? ⟨b,j,none⟩=some u):w'.cell? ⟨b,j,none⟩=some u:=hp.chg.cellS hc hb
theorem Puts.out {pg B:Nat} {w w':World} {Z:List Int} (hp:Puts pg B w w' Z) {b:Nat} (hl:b<w.heap.size) (hb:¬ Cp pg w b):¬ Cp pg w' b:=fun e=>(hp.nx b e).elim hb (fun h=>by omega)
theorem PSt.new {pg B:Nat} {w:World} {Z:List Int} (h:PSt pg B w Z) {k:Nat} (hk:w.heap.size≤k):¬ Cp pg w k:=fun e=>by have:=(h.low e).2;omega
structure PSb (pg B bx:Nat) (w:World) (Z:List Int):Prop where
 g:PSt pg B w Z
 c:w.cell? ⟨bx,0,none⟩=some (.pointer (some ⟨pg,0,none⟩))
 n:¬ Cp pg w bx
theorem PSb.puts {pg B bx:Nat} {w w':World} {Z Z':List Int} (h:PSb pg B bx w Z) (hp:Puts pg B w w' Z'):PSb pg B bx w' Z':=⟨hp.st,hp.keep h.n h.c,hp.out (World.block_lt_of_cell? _ _ h.c) h.n⟩
def Sbw (δ:Type) (pg B bx:Nat):World→List δ→List Int→Prop:=fun w _ Z=>PSb pg B bx w Z
theorem sideBw (δ:Type) (pg B bx:Nat):SideW (δ:=δ) pg B (Cp pg) (Sbw δ pg B bx) where
 get:=fun h=>h.g
 sub:=fun h=>h
 low:=fun h hk=>(PSt.low h.g hk).1
 move:=fun h hp=>⟨h.puts hp,hp.nx⟩
theorem PSb.post {δ:Type} {pg B bx:Nat} {w w':World} {Z Z':List Int} {L:List δ} {e:Ending} (h:PSb pg B bx w Z) (hp:e=.returned (.tuple #[])∧Puts pg B w w' Z'):WPost (Cp pg) (Sbw δ pg B bx) w L Z' e w':=⟨hp.1,h.puts hp.2,hp.2.chg,hp.2.nx⟩
theorem WPost.putsB {δ:Type} {pg B bx:Nat} {w w':World} {L:List δ} {Z:List Int} {e:Ending} (h:WPost (Cp pg) (Sbw δ pg B bx) w L Z e w'):e=.returned (.tuple #[])∧Puts pg B w w' Z:=⟨h.1,h.2.1.g,h.2.2.1,h.2.2.2⟩
theorem writes_num (pg B:Nat):Writes 27 #[.pointer (some ⟨pg,0,none⟩)] #[] ptInt U32 intE intVal eqR B (Cp pg) (S0w Int pg B):=by
 intro w acc Z x d h _ hx hr hok hl
 obtain rfl:x=d:=hr
 show Calls Tryz.prog 27 #[.pointer (some ⟨pg,0,none⟩),.int .i64 x] w _
 refine (pnum_any x w h hok (by rw [List.length_append] at hl;omega)).mono ?_
 rintro e w' ⟨rfl,hp⟩
 exact⟨rfl,hp.st,hp.chg,hp.nx⟩
theorem writes_text (pg B:Nat):Writes 26 #[.pointer (some ⟨pg,0,none⟩)] #[] ptText (fun s=>s.size≤1000000) strE strVal eqR B (Cp pg) (S0w Str pg B):=by
 intro w acc Z x d h _ hx hr hok hl
 obtain rfl:x=d:=hr
 show Calls Tryz.prog 26 #[.pointer (some ⟨pg,0,none⟩),.string x] w _
 refine (ptext_any x w h hok (by rw [List.length_append] at hl;omega)).mono ?_
 rintro e w' ⟨rfl,hp⟩
 exact⟨rfl,hp.st,hp.chg,hp.nx⟩
theorem pints_any {pg B:Nat} {Z:List Int} (L:List Int) (a:Option Addr) (c:Nat) (w:World) (h:PSt pg B w Z) (hL:intE.InS w (·<B) (a,L.length,c) L) (hok:∀ z∈L,U32 z) (hn:L.length≤1000000000) (hl:(Z++ptList ptInt L).length≤1000000000) :
  Calls Tryz.prog 69 #[.pointer (some ⟨pg,0,none⟩),.slice a L.length c,.func (.func 27) #[.pointer (some ⟨pg,0,none⟩)] #[]] w fun e w'=>e=.returned (.tuple #[])∧Puts pg B w w' (Z++ptList ptInt L) :=
 (putInt eqR.good (side0w Int pg B) _ _ _ ptInt U32 (enters_of Tryz.func27 (by kernel_rfl) rfl) (writes_num pg B) L a c w Z h (ListR.of hL) hok hn hl).mono fun _ _ h=>h.puts0
theorem ptexts_any {pg B:Nat} {Z:List Int} (L:List Str) (a:Option Addr) (c:Nat) (w:World) (h:PSt pg B w Z) (hL:strE.InS w (·<B) (a,L.length,c) L) (hok:∀ s∈L,s.size≤1000000) (hn:L.length≤1000000000) (hl:(Z++ptList ptText L).length≤1000000000) :
  Calls Tryz.prog 25 #[.pointer (some ⟨pg,0,none⟩),.slice a L.length c,.func (.func 26) #[.pointer (some ⟨pg,0,none⟩)] #[]] w fun e w'=>e=.returned (.tuple #[])∧Puts pg B w w' (Z++ptList ptText L) :=
 (putStr eqR.good (side0w Str pg B) _ _ _ ptText (fun s=>s.size≤1000000) (enters_of Tryz.func26 (by kernel_rfl) rfl) (writes_text pg B) L a c w Z h (ListR.of hL) hok hn hl).mono fun _ _ h=>h.puts0
def okE (e:EdgeD):Prop:=(0≤e.1∧e.1≤255)∧U32 e.2.1∧U32 e.2.2
theorem pedge_any {pg B bx:Nat} {Z:List Int} (e:EdgeD) (w:World) (h:PSb pg B bx w Z) (hok:okE e) (hl:(Z++ptEdge e).length≤1000000000) :
  Calls Tryz.prog 68 #[edgeVal e,.pointer (some ⟨bx,0,none⟩)] w fun e' w'=>e'=.returned (.tuple #[])∧Puts pg B w w' (Z++ptEdge e):=by
 obtain⟨k,x,t⟩:=e
 obtain⟨o1,o2,o3⟩:=hok
 simp only at o1 o2 o3
 have hl3:Z.length≤1000000000∧(Z++ptInt k).length≤1000000000∧((Z++ptInt k)++ptInt x).length≤1000000000:=by
  simp only [ptEdge,List.length_append] at hl ⊢;omega
 have HL:=jh hl3
 obtain⟨w0,hw0⟩:∃ W,W=w.alloc (.cells #[.int .u8 k,.int .i64 x,.int .i64 t] 71):=⟨_,rfl⟩
 have hP0:Puts pg B w w0 Z:=h.g.fresh (by rw [hw0];exact (Chg.refl _ _).alloc _)
 have HP0:=jh hP0
 have hB0:=h.puts hP0
 have hn:¬ Cp pg w0 w.heap.size:=fun e=>by
  have h1:=h.g.chg (S:=fun _=>False) (w':=w0) (by rw [hw0];exact (Chg.refl _ _).alloc _) (fun _ h=>h.elim)
  exact h.g.new (Nat.le_refl _) (h1.2 _ e)
 have HK:Hid (∀ W Z',Puts pg B w0 W Z'→W.cell? ⟨bx,0,none⟩=some (.pointer (some ⟨pg,0,none⟩))∧W.cell? ⟨w.heap.size,0,none⟩=some (.int .u8 k)∧W.cell? ⟨w.heap.size,1,none⟩=some (.int .i64 x)∧W.cell? ⟨w.heap.size,2,none⟩=some (.int .i64 t)):=jh (fun W Z' hp =>
  ⟨hp.keep hB0.n hB0.c,hp.keep hn (by rw [hw0,World.cell?_alloc_new];rfl),hp.keep hn (by rw [hw0,World.cell?_alloc_new];rfl),hp.keep hn (by rw [hw0,World.cell?_alloc_new];rfl)⟩)
 have hwk:IntKind.i64.wrap k=k:=by rw [IntKind.wrap_i64];omega
 have HZ:=jh hB0.g
 have HO1:Hid (U32 k):=jh ⟨by omega,by omega⟩
 have HO2:=jh o2
 have HO3:=jh o3
 clear h hP0 hB0 hn hl hl3 o2 o3
 show Calls Tryz.prog 68 #[.agg #[.int .u8 k,.int .i64 x,.int .i64 t],.pointer (some ⟨bx,0,none⟩)] w _
 go_enter Tryz.func68,Tryz.ntmps68
 go_upto_region 1 with (fail)
 rw [← hw0]
 clear hw0
 obtain⟨q0,q1,q2,q3⟩:=HK.out w0 Z HZ.out.refl
 go_wp2_with fail
 refine (pnum_any k w0 HZ.out HO1.out HL.out.1).mono ?_
 rintro e1 w1 ⟨rfl,hp1⟩
 have HP1:=jh hp1
 clear hp1 q0 q1 q2 q3
 obtain⟨q0,q1,q2,q3⟩:=HK.out w1 _ HP1.out
 go_wp2_with fail
 refine (pnum_any x w1 HP1.out.st HO2.out HL.out.2.1).mono ?_
 rintro e2 w2 ⟨rfl,hp2⟩
 have HP2:=jh (HP1.out.trans hp2)
 clear hp2 q0 q1 q2 q3
 obtain⟨q0,q1,q2,q3⟩:=HK.out w2 _ HP2.out
 go_wp2_with fail
 refine (pnum_any t w2 HP2.out.st HO3.out HL.out.2.2).mono ?_
 rintro e3 w3 ⟨rfl,hp3⟩
 have HP3:=jh (HP0.out.trans (HP2.out.trans hp3))
 clear hp3 q0 q1 q2 q3
 go_wp2
 go_end0
 refine⟨rfl,?_⟩
 have:=HP3.out
 rw [List.append_assoc,List.append_assoc] at this
 exact this
theorem writes_edge (pg B bx:Nat):Writes 68 #[] #[.pointer (some ⟨bx,0,none⟩)] ptEdge okE edgeE edgeVal eqR B (Cp pg) (Sbw EdgeD pg B bx):=by
 intro w acc Z x d h _ hx hr hok hl
 obtain rfl:x=d:=hr
 show Calls Tryz.prog 68 #[edgeVal x,.pointer (some ⟨bx,0,none⟩)] w _
 exact (pedge_any x w h hok hl).mono fun _ _ hp=>PSb.post h hp
def okS (s:StD):Prop:=U32 s.1∧(s.2.1.length≤1000000000∧∀ e∈s.2.1,okE e)∧s.2.2.length≤1000000000∧∀ z∈s.2.2,U32 z
theorem pstate_any {pg B bx:Nat} {Z:List Int} (y:Int × Sl × Sl) (s:StD) (w:World) (h:PSb pg B bx w Z) (hr:stR w (·<B) y s) (hok:okS s) (hl:(Z++ptState s).length≤1000000000) :
  Calls Tryz.prog 66 #[stVal y,.pointer (some ⟨bx,0,none⟩)] w fun e' w'=>e'=.returned (.tuple #[])∧Puts pg B w w' (Z++ptState s):=by
 obtain⟨k,es,ds⟩:=s
 obtain⟨yk,⟨ea,en,ec⟩,⟨da,dn,dc⟩⟩:=y
 obtain⟨r1,r2,r3,r4⟩:=hr
 simp only at r1 r2 r3 r4
 subst r1
 obtain⟨rfl,-⟩:=r3.len
 obtain⟨rfl,-⟩:=r4.len
 obtain⟨o1,⟨o2,o3⟩,o4,o5⟩:=hok
 simp only at o1 o2 o3 o4 o5
 have HL:Hid (Z.length≤1000000000∧((Z++ptInt yk)++ptList ptEdge es).length≤1000000000∧(((Z++ptInt yk)++ptList ptEdge es)++ptList ptInt ds).length≤1000000000):=jh (by
  simp only [ptState,List.length_append] at hl ⊢;omega)
 obtain⟨w0,hw0⟩:∃ W,W=w.alloc (.cells #[.int .i64 yk,.slice ea es.length ec,.slice da ds.length dc] 74):=⟨_,rfl⟩
 have hP0:Puts pg B w w0 Z:=h.g.fresh (by rw [hw0];exact (Chg.refl _ _).alloc _)
 have HP0:=jh hP0
 have hB0:=h.puts hP0
 have HB0:=jh hB0
 have hn:¬ Cp pg w0 w.heap.size:=fun e=>by
  have h1:=h.g.chg (S:=fun _=>False) (w':=w0) (by rw [hw0];exact (Chg.refl _ _).alloc _) (fun _ h=>h.elim)
  exact h.g.new (Nat.le_refl _) (h1.2 _ e)
 have HK:Hid (∀ W Z',Puts pg B w0 W Z'→W.cell? ⟨bx,0,none⟩=some (.pointer (some ⟨pg,0,none⟩))∧W.cell? ⟨w.heap.size,0,none⟩=some (.int .i64 yk)∧W.cell? ⟨w.heap.size,1,none⟩=some (.slice ea es.length ec)∧W.cell? ⟨w.heap.size,2,none⟩=some (.slice da ds.length dc)):=jh (fun W Z' hp =>
  ⟨hp.keep hB0.n hB0.c,hp.keep hn (by rw [hw0,World.cell?_alloc_new];rfl),hp.keep hn (by rw [hw0,World.cell?_alloc_new];rfl),hp.keep hn (by rw [hw0,World.cell?_alloc_new];rfl)⟩)
 have HES:Hid (∀ W Z',Puts pg B w0 W Z'→edgeE.InS W (·<B) (ea,es.length,ec) es∧intE.InS W (·<B) (da,ds.length,dc) ds):=jh (fun W Z' hp=>by
  have hc:=(HP0.out.below h.g).trans ((hp.below HB0.out.g))
  exact⟨r3.chg hc (fun g hg e=>by omega),r4.chg hc (fun g hg e=>by omega)⟩)
 have hmf:∀ (fn:Fn) (first cap:Array Value) (w:World),(Instr.makeFunc fn first cap).run Tryz.prog w=.ok (.func fn first cap) w:=fun _ _ _ _=>rfl
 have eg:=enters_of Tryz.func68 (by kernel_rfl) rfl
 have HZ:=jh hB0.g
 have HO1:=jh o1
 have HO3:=jh o3
 have HO5:=jh o5
 clear h hP0 hB0 hn hl r2 r3 r4 o1 o3 o5
 show Calls Tryz.prog 66 #[.agg #[.int .i64 yk,.slice ea es.length ec,.slice da ds.length dc],.pointer (some ⟨bx,0,none⟩)] w _
 go_enter Tryz.func66,Tryz.ntmps66
 go_upto_region 1 with (fail)
 rw [← hw0]
 clear hw0
 obtain⟨q0,q1,q2,q3⟩:=HK.out w0 Z HZ.out.refl
 go_wp2_with fail
 refine (pnum_any yk w0 HZ.out HO1.out HL.out.1).mono ?_
 rintro e1 w1 ⟨rfl,hp1⟩
 have HP1:=jh hp1
 clear hp1 q0 q1 q2 q3
 obtain⟨q0,q1,q2,q3⟩:=HK.out w1 _ HP1.out
 go_wp2_with fail
 refine (putEdge eqR.good (sideBw EdgeD pg B bx) _ _ _ ptEdge okE eg (writes_edge pg B bx) es ea ec w1 _ (HB0.out.puts HP1.out) (ListR.of (HES.out w1 _ HP1.out).1) HO3.out o2 HL.out.2.1).mono ?_
 intro e2 w2 h2
 obtain⟨rfl,hp2⟩:=h2.putsB
 have HP2:=jh (HP1.out.trans hp2)
 clear hp2 h2 q0 q1 q2 q3
 obtain⟨q0,q1,q2,q3⟩:=HK.out w2 _ HP2.out
 go_wp2_with fail
 refine (pints_any ds da dc w2 HP2.out.st (HES.out w2 _ HP2.out).2 HO5.out o4 HL.out.2.2).mono ?_
 rintro e3 w3 ⟨rfl,hp3⟩
 have HP3:=jh (HP0.out.trans (HP2.out.trans hp3))
 clear hp3 q0 q1 q2 q3
 go_wp2
 go_end0
 refine⟨rfl,?_⟩
 have:=HP3.out
 rw [List.append_assoc,List.append_assoc] at this
 exact this
theorem writes_state (pg B bx:Nat):Writes 66 #[] #[.pointer (some ⟨bx,0,none⟩)] ptState okS stE stVal stR B (Cp pg) (Sbw StD pg B bx):=by
 intro w acc Z x d h _ hx hr hok hl
 show Calls Tryz.prog 66 #[stVal x,.pointer (some ⟨bx,0,none⟩)] w _
 exact (pstate_any x d w h hr hok hl).mono fun _ _ hp=>PSb.post h hp
end Go.Proofs.YtgnpmceimpjheaaGreat
namespace Go.Proofs.YtgnpmceimpjheaaGreat
open Go.RowKit
theorem makeL_rows (LL:List (List Int)):∀ r∈(makeL LL).1,∃ l∈LL,r=rowL l:=by
 have key:∀ (LL:List (List Int)) (t:List RowD × List Int) (r:RowD),r∈(LL.foldl (fun t l=>addL t (rowL l)) t).1→r∈t.1∨∃ l∈LL,r=rowL l:=by
  intro LL
  induction LL with
  | nil=>intro t r h;exact .inl h
  | cons l LL ih =>
   intro t r h
   rcases ih (addL t (rowL l)) r h with h|⟨l',h1,h2⟩
   ·unfold addL at h
    split at h
    ·exact .inl h
    ·rcases List.mem_append.1 h with h|h
     ·exact .inl h
     ·exact .inr ⟨l,by simp,List.mem_singleton.1 h⟩
   ·exact .inr ⟨l',by simp [h1],h2⟩
 intro r h
 rcases key LL ([],[]) r h with h|h
 ·cases h
 ·exact h
theorem nextL_append:∀ (X Y:List Int) (next m:Int),nextL next m (X++Y)=(nextL next m X).bind (fun n=>nextL n m Y)
 | [],Y,next,m=>rfl
 | x :: X,Y,next,m=>by
  simp only [List.cons_append,nextL]
  split
  ·rfl
  ·exact nextL_append X Y _ m
def Made (t:List RowD × List Int):Prop:=t.1.Nodup∧∀ m:Int,(t.1.length:Int)≤m→nextL 0 m t.2=some (t.1.length:Int)
theorem Made.add {t:List RowD × List Int} (h:Made t) (r:RowD):Made (addL t r):=by
 obtain⟨R,O⟩:=t
 obtain⟨h1,h2⟩:=h
 unfold addL
 by_cases hh:hasRow r R=true
 ·rw [if_pos hh]
  refine⟨h1,fun m hm=>?_⟩
  show nextL 0 m (O++[idxV (rowEq r) R])=some (R.length:Int)
  rw [nextL_append,h2 m hm]
  rcases idx_cases (rowEq r) R with ⟨k,x,hk,-,h3,-,-⟩|⟨-,-,h5⟩
  ·have hkl:=(List.getElem?_eq_some_iff.1 hk).1
   rw [h3]
   simp only at hm
   show nextL (R.length:Int) m [(k:Int)]=_
   simp only [nextL]
   rw [if_neg (by omega),if_neg (by omega)]
  ·have:R.any (rowEq r)=true:=hh
   rw [h5] at this
   cases this
 ·rw [if_neg hh]
  refine⟨?_,fun m hm=>?_⟩
  ·show (R++[r]).Nodup
   rw [List.nodup_append]
   refine⟨h1,by simp,fun a ha b hb=>?_⟩
   simp at hb
   subst hb
   intro e
   subst e
   exact hh (hasRow_iff.2 ha)
  ·show nextL 0 m (O++[(R.length:Int)])=some ((R++[r]).length:Int)
   have hm':(R.length:Int)+1≤m:=by simpa using hm
   rw [nextL_append,h2 m (by show (R.length:Int)≤m;omega)]
   show nextL (R.length:Int) m [(R.length:Int)]=_
   simp only [nextL]
   rw [if_neg (by omega)]
   simp
theorem made (LL:List (List Int)):Made (makeL LL):=by
 have key:∀ (LL:List (List Int)) (t:List RowD × List Int),Made t→Made (LL.foldl (fun t l=>addL t (rowL l)) t):=by
  intro LL
  induction LL with
  | nil=>intro t h;exact h
  | cons l LL ih=>intro t h;exact ih _ (h.add _)
 exact key LL ([],[]) ⟨by simp,fun m hm=>rfl⟩
theorem makeL_may {W:Int} {LL:List (List Int)} (h0:0≤W) (h1:W≤65536) (hn:LL.length≤65536) (h:makeOk W LL=true):mayL (W,(makeL LL).1,(makeL LL).2)=true:=by
 obtain⟨m1,m2⟩:=made LL
 have hlen:=(makeL_len LL).2
 rw [mayL_good ⟨h0,h1,by omega⟩ (fun r hr=>?_) m1,m2 _ (Int.le_refl _)]
 ·simp
 ·obtain⟨l,hl,rfl⟩:=makeL_rows LL r hr
  have:=List.all_eq_true.1 h l hl
  simp only [listOk,Bool.and_eq_true,Bool.not_eq_true',decide_eq_true_eq] at this
  obtain⟨g1,g2⟩:=this
  rw [← g2,Int.toNat_natCast]
  exact fineL_rowL l (noValB_false.1 g1)
end Go.Proofs.YtgnpmceimpjheaaGreat
namespace Go.Proofs.YtgnpmceimpjheaaGreat
open Go.RowKit
theorem PSt.newF {pg B:Nat} {w w0:World} {Z:List Int} (h:PSt pg B w Z) (hc:Chg (fun _=>False) w w0) {k:Nat} (hk:w.heap.size≤k):¬ Cp pg w0 k:=fun e=>h.new hk ((h.chg hc (fun _ h=>h.elim)).2 _ e)
structure OkNt (n:NetD):Prop where
 st:n.st.length≤1000000000∧∀ s∈n.st,okS s
 s:n.s.length≤1000000000∧∀ z∈n.s,U32 z
 p:n.p.length≤1000000000∧∀ z∈n.p,U32 z
 q:n.q.length≤1000000000∧∀ z∈n.q,U32 z
theorem pnet_any {pg B:Nat} {Z:List Int} (n:NetD) (m:NetS) (w:World) (h:PSt pg B w Z) (hm:NetIn w (·<B) m n) (hok:OkNt n) (hl:(Z++ptNet n).length≤1000000000) :
  Calls Tryz.prog 29 #[.pointer (some ⟨pg,0,none⟩),netV m] w fun e' w'=>e'=.returned (.tuple #[])∧Puts pg B w w' (Z++ptNet n):=by
 obtain⟨⟨sa,sn,sc⟩,⟨aa,an,ac⟩,⟨pa,pn,pc⟩,⟨qa,qn,qc⟩,⟨da,dn,dc⟩⟩:=m
 obtain⟨h1,h2,h3,h4,h5⟩:=hm
 obtain⟨rfl,-⟩:=h1.len
 obtain⟨rfl,-⟩:=h2.len
 obtain⟨rfl,-⟩:=h3.len
 obtain⟨rfl,-⟩:=h4.len
 simp only at h1 h2 h3 h4
 have HL:Hid ((Z++ptList ptState n.st).length≤1000000000∧((Z++ptList ptState n.st)++ptList ptInt n.s).length≤1000000000∧(((Z++ptList ptState n.st)++ptList ptInt n.s)++ptList ptInt n.p).length≤1000000000∧((((Z++ptList ptState n.st)++ptList ptInt n.s)++ptList ptInt n.p)++ptList ptInt n.q).length≤1000000000):=jh (by
  simp only [ptNet,List.length_append] at hl ⊢;omega)
 obtain⟨w0,hw0⟩:∃ W,W=(w.alloc (.cells #[.pointer (some ⟨pg,0,none⟩)] 81)).alloc (.cells #[.slice sa n.st.length sc,.slice aa n.s.length ac,.slice pa n.p.length pc,.slice qa n.q.length qc,.slice da dn dc] 31):=⟨_,rfl⟩
 have hC0:Chg (fun _=>False) w w0:=by rw [hw0];exact ((Chg.refl _ w).alloc _).alloc _
 have hP0:Puts pg B w w0 Z:=h.fresh hC0
 have HP0:=jh hP0
 have n0:¬ Cp pg w0 w.heap.size:=h.newF hC0 (Nat.le_refl _)
 have n1:¬ Cp pg w0 (w.heap.size+1):=h.newF hC0 (by omega)
 have c0:w0.cell? ⟨w.heap.size,0,none⟩=some (.pointer (some ⟨pg,0,none⟩)):=by rw [hw0];exact allocOld _ (allocNew _ _ rfl)
 have d0:w0.cell? ⟨w.heap.size+1,0,none⟩=some (.slice sa n.st.length sc):=by rw [hw0];exact allocAt _ (by simp) rfl
 have d1:w0.cell? ⟨w.heap.size+1,1,none⟩=some (.slice aa n.s.length ac):=by rw [hw0];exact allocAt _ (by simp) rfl
 have d2:w0.cell? ⟨w.heap.size+1,2,none⟩=some (.slice pa n.p.length pc):=by rw [hw0];exact allocAt _ (by simp) rfl
 have d3:w0.cell? ⟨w.heap.size+1,3,none⟩=some (.slice qa n.q.length qc):=by rw [hw0];exact allocAt _ (by simp) rfl
 have HK:Hid (∀ W Z',Puts pg B w0 W Z'→W.cell? ⟨w.heap.size,0,none⟩=some (.pointer (some ⟨pg,0,none⟩))∧W.cell? ⟨w.heap.size+1,0,none⟩=some (.slice sa n.st.length sc)∧W.cell? ⟨w.heap.size+1,1,none⟩=some (.slice aa n.s.length ac)∧W.cell? ⟨w.heap.size+1,2,none⟩=some (.slice pa n.p.length pc)∧W.cell? ⟨w.heap.size+1,3,none⟩=some (.slice qa n.q.length qc)):=jh (fun W Z' hp =>
  ⟨hp.keep n0 c0,hp.keep n1 d0,hp.keep n1 d1,hp.keep n1 d2,hp.keep n1 d3⟩)
 have HB0:Hid (PSb pg B w.heap.size w0 Z):=jh ⟨hP0.st,c0,n0⟩
 have HES:Hid (∀ W Z',Puts pg B w0 W Z'→ListR stE stR W (·<B) (sa,n.st.length,sc) n.st∧intE.InS W (·<B) (aa,n.s.length,ac) n.s∧intE.InS W (·<B) (pa,n.p.length,pc) n.p∧intE.InS W (·<B) (qa,n.q.length,qc) n.q):=jh (fun W Z' hp=>by
  have hc:=(HP0.out.below h).trans ((hp.below HB0.out.g))
  exact⟨(ListR.good stR.good).chg h1 hc (fun g hg e=>by omega),h2.chg hc (fun g hg e=>by omega),h3.chg hc (fun g hg e=>by omega),h4.chg hc (fun g hg e=>by omega)⟩)
 have hmf:∀ (fn:Fn) (first cap:Array Value) (w:World),(Instr.makeFunc fn first cap).run Tryz.prog w=.ok (.func fn first cap) w:=fun _ _ _ _=>rfl
 have eg:=enters_of Tryz.func66 (by kernel_rfl) rfl
 have HOK:=jh hok
 clear h hP0 n0 n1 c0 d0 d1 d2 d3 hl h1 h2 h3 h4 h5 hok hC0
 show Calls Tryz.prog 29 #[.pointer (some ⟨pg,0,none⟩),.agg #[.slice sa n.st.length sc,.slice aa n.s.length ac,.slice pa n.p.length pc,.slice qa n.q.length qc,.slice da dn dc]] w _
 go_enter Tryz.func29,Tryz.ntmps29
 go_upto_region 1 with (fail)
 rw [← hw0]
 clear hw0
 obtain⟨q0,q1,q2,q3,q4⟩:=HK.out w0 Z HB0.out.g.refl
 go_wp2_with fail
 refine (putSt stR.good (sideBw StD pg B w.heap.size) _ _ _ ptState okS eg (writes_state pg B w.heap.size) n.st sa sc w0 _ HB0.out (HES.out w0 _ HB0.out.g.refl).1 HOK.out.st.2 HOK.out.st.1 HL.out.1).mono ?_
 intro e1 w1 h1
 obtain⟨rfl,hp1⟩:=h1.putsB
 have HP1:=jh hp1
 clear hp1 h1 q0 q1 q2 q3 q4
 obtain⟨q0,q1,q2,q3,q4⟩:=HK.out w1 _ HP1.out
 go_wp2_with fail
 refine (pints_any n.s aa ac w1 HP1.out.st (HES.out w1 _ HP1.out).2.1 HOK.out.s.2 HOK.out.s.1 HL.out.2.1).mono ?_
 rintro e2 w2 ⟨rfl,hp2⟩
 have HP2:=jh (HP1.out.trans hp2)
 clear hp2 q0 q1 q2 q3 q4
 obtain⟨q0,q1,q2,q3,q4⟩:=HK.out w2 _ HP2.out
 go_wp2_with fail
 refine (pints_any n.p pa pc w2 HP2.out.st (HES.out w2 _ HP2.out).2.2.1 HOK.out.p.2 HOK.out.p.1 HL.out.2.2.1).mono ?_
 rintro e3 w3 ⟨rfl,hp3⟩
 have HP3:=jh (HP2.out.trans hp3)
 clear hp3 q0 q1 q2 q3 q4
 obtain⟨q0,q1,q2,q3,q4⟩:=HK.out w3 _ HP3.out
 go_wp2_with fail
 refine (pints_any n.q qa qc w3 HP3.out.st (HES.out w3 _ HP3.out).2.2.2 HOK.out.q.2 HOK.out.q.1 HL.out.2.2.2).mono ?_
 rintro e4 w4 ⟨rfl,hp4⟩
 have HP4:=jh (HP0.out.trans (HP3.out.trans hp4))
 clear hp4 q0 q1 q2 q3 q4
 go_wp2
 go_end0
 refine⟨rfl,?_⟩
 have:=HP4.out
 simp only [List.append_assoc] at this
 exact this
theorem tabNums_len {W:Nat} {R:List RowD} {O:List Int} (h:∀ r∈R,r.2.length≤W):(tabNums ((W:Int),R,O)).length≤3+2 * R.length+2 * (R.length * W)+O.length:=by
 have cp:∀ (l:List (Int × Int)) (last:Int),(cellsPut last l).length=2 * l.length:=by
  intro l
  induction l with
  | nil=>intro last;rfl
  | cons c l ih=>intro last;simp only [cellsPut,List.length_cons,ih];omega
 have key:∀ (R:List RowD),(∀ r∈R,r.2.length≤W)→(R.flatMap rowPut).length≤2 * R.length+2 * (R.length * W):=by
  intro R
  induction R with
  | nil=>intro _;simp
  | cons r R ih =>
   intro h
   have h1:=ih (fun x hx=>h x (by simp [hx]))
   have h2:=h r (by simp)
   have h4:(R.length+1) * W=R.length * W+W:=Nat.succ_mul _ _
   simp only [List.flatMap_cons,List.length_append,List.length_cons]
   rw [h4]
   have h3:(rowPut r).length=2+2 * r.2.length:=by simp only [rowPut,List.length_cons,cp];omega
   omega
 have:=key R h
 simp only [tabNums,List.length_cons,List.length_append]
 omega
theorem ptable_any {pg B:Nat} {Z:List Int} (W:Nat) (LL:List (List Int)) (a:Option Addr) (c:Nat) (w:World) (h:PSt pg B w Z) (hL:ListsIn w 0 (a,LL.length,c) LL) (hW:W≤65536) (hn:LL.length≤65536) (hmk:makeOk W LL=true) (hpr:LL.length * W≤4194304)
  (hl:(Z++ptTable W LL).length≤1000000000) :
  Calls Tryz.prog 63 #[.pointer (some ⟨pg,0,none⟩),.int .i64 W,.slice a LL.length c] w fun e' w'=>e'=.returned (.tuple #[])∧Puts pg B w w' (Z++ptTable W LL):=by
 have hw:∀ l∈LL,l.length=W:=fun l hl=>by
  have:=List.all_eq_true.1 hmk l hl
  simp only [listOk,Bool.and_eq_true,decide_eq_true_eq] at this
  omega
 have HMAY:=jh (makeL_may (W:=W) (by omega) (by omega) hn hmk)
 have HMK:=jh (make_any (W:Int) LL a c 0 w hL (by omega) (by omega) hn (fun l hl=>by rw [hw l hl];exact hW))
 have HP:=jh h
 have HLEN:=jh (makeL_len LL)
 have hOL:(makeL LL).2.length≤65536:=by rw [(makeL_len LL).2];exact hn
 have hRL:(makeL LL).1.length≤65536:=Nat.le_trans (makeL_len LL).1 hn
 have HCL:Hid (∀ r∈(makeL LL).1,r.2.length≤W):=jh (fun r hr=>by
  obtain⟨l,hl,rfl⟩:=makeL_rows LL r hr
  rw [← hw l hl]
  exact cellsFrom_le _ _ _)
 have HNN:Hid ((tabNums ((W:Int),(makeL LL).1,(makeL LL).2)).length≤10000000):=jh (by
  have h1:=tabNums_len (O:=(makeL LL).2) HCL.out
  have h2:(makeL LL).1.length * W≤LL.length * W:=Nat.mul_le_mul_right _ (makeL_len LL).1
  omega)
 have HZL:=jh hl
 have HPT:Hid (ptTable W LL=putTab ((W:Int),(makeL LL).1,(makeL LL).2)):=jh rfl
 have HBY:Hid (∀ a∈ptTable W LL,Byte a):=jh (bytesOf_byte _)
 obtain⟨PT,hPT⟩:∃ P,ptTable W LL=P:=⟨_,rfl⟩
 rw [hPT] at HZL HPT HBY ⊢
 obtain⟨R,hR⟩:∃ R,(makeL LL).1=R:=⟨_,rfl⟩
 obtain⟨O,hO⟩:∃ O,(makeL LL).2=O:=⟨_,rfl⟩
 rw [hR] at hRL HCL
 rw [hO] at hOL
 rw [hR,hO] at HMAY HNN HPT
 clear h hL hl hw hPT
 go_enter Tryz.func63,Tryz.ntmps63
 go_wp2_with fail
 refine HMK.out.mono ?_
 rintro e w1 (⟨hbad,-,-⟩|⟨-,ra,oa,rfl,hri,hoi,hc1⟩)
 ·rw [hmk] at hbad;cases hbad
 rw [hR] at hri
 rw [hO] at hoi
 simp only [hR,hO,tabV]
 have HRI:=jh hri
 have HC1:=jh hc1
 obtain⟨g,o,HOAT,HOAP⟩:∃ (g o:Nat),Hid (I.BytesAt w1 g o O)∧Hid (0<O.length→oa=some ⟨g,o,none⟩):=by
  rcases hoi with ⟨rfl,-⟩|⟨g,hg,hrow,-⟩
  ·exact⟨0,0,jh ⟨fun k a hk=>by simp at hk,fun h=>absurd rfl h⟩,jh (fun h=>absurd h (by simp))⟩
  ·exact⟨g,0,jh (hrow.bytes (List.prefix_refl _)),jh (fun _=>hg)⟩
 clear hri hoi hc1 HMK hmk
 obtain⟨w2,hw2⟩:∃ X,X=w1.alloc (.cells #[.int .i64 W,.slice ra R.length R.length,.slice oa O.length O.length] 201):=⟨_,rfl⟩
 have HC2:Hid (Chg (fun _=>False) w1 w2):=jh (by rw [hw2];exact (Chg.refl _ _).alloc _)
 have k0:w2.cell? ⟨w1.heap.size,0,none⟩=some (.int .i64 W):=by rw [hw2,World.cell?_alloc_new];rfl
 have k1:w2.cell? ⟨w1.heap.size,1,none⟩=some (.slice ra R.length R.length):=by rw [hw2,World.cell?_alloc_new];rfl
 have k2:w2.cell? ⟨w1.heap.size,2,none⟩=some (.slice oa O.length O.length):=by rw [hw2,World.cell?_alloc_new];rfl
 go_upto_region 1 with (fail)
 rw [← hw2]
 clear hw2
 have HPUT:=jh (put_ok [] (W:Int) R O ra oa none R.length O.length 0 0 0 _ g o w2 ⟨by omega,by omega⟩ (HRI.out.same HC2.out) (by omega) (fun r hr=>Nat.le_trans (HCL.out r hr) (by omega)) (HOAT.out.chg HC2.out (fun _ h=>h)) HOAP.out (by omega) HMAY.out ⟨fun j a hj=>by simp at hj,fun h=>absurd rfl h⟩ (fun h=>absurd h (by simp)) (by simp) HNN.out)
 rw [List.nil_append,← HPT.out] at HPUT
 simp only [List.length_nil] at HPUT
 go_wp2_with fail
 refine HPUT.out.mono ?_
 rintro e w3 ⟨hb,rfl,-,hr3,hc3⟩
 have HR3:=jh hr3
 have HC3:=jh (HC1.out.trans (HC2.out.trans hc3))
 clear hr3 hc3 k0 k1 k2 HPUT
 have hP3:=HP.out.fresh HC3.out
 have HP3:=jh hP3
 obtain⟨v,hv,ho,hne⟩:=hP3.st.ex
 obtain⟨va,vl,vc,rfl⟩:=ho.shape3
 have HV:=jh hv
 have HO:=jh ho
 have HB:Hid (B≤w3.heap.size):=jh (by have:=hP3.st.lt;have:=hP3.st.le;omega)
 clear hP3 ho hne
 go_wp2_with (at_builtin;refine wpList_appendP rfl _ _ 45 rfl B (.slice va vl vc) Z PT (.slice (some ⟨hb,0,none⟩) PT.length PT.length) rfl rfl HO.out HB.out (srcBytes (HR3.out.bytes (List.prefix_refl _)) (fun _=>rfl)) HBY.out (by have:=HZL.out;rw [List.length_append] at this;omega) ?_;intro v' w4 HO1 HB1;obtain⟨va',vl',vc',hv'⟩:=HO1.out.shape3;subst hv';obtain⟨⟨k1,k2⟩,hf1⟩:=HP3.out.st.store HV.out (Chg.refl _ _) HO1.out HB1.out.1 HB1.out.2;have HFF:=jh (HP3.out.trans hf1);clear hf1)
 go_wp2
 go_end0
 exact⟨rfl,HFF.out⟩
end Go.Proofs.YtgnpmceimpjheaaGreat
namespace Go.Proofs.YtgnpmceimpjheaaGreat
open Go.RowKit
structure OkLx (t:LexD):Prop where
 cl:t.c.length=t.r.length
 rl:t.r.length≤1000000000
 el:t.e.length≤1000000000
 rs:∀ r∈t.r,U32 r.1∧U32 r.2
 cs:∀ c∈t.c,0≤c∧c≤1000000000
 cw:colsL t.c≤65536
 nl:t.n.length≤65536
 mo:makeOk (colsL t.c) t.n=true
 pr:(t.n.length:Int) * colsL t.c≤4194304
 eb:∀ e∈t.e,-1≤e∧e≤1000000000
theorem plexer_any {pg B:Nat} {Z:List Int} (t:LexD) (m:LexS) (w:World) (h:PSt pg B w Z) (hm:LexIn w (·<B) m t) (hok:OkLx t) (hl:(Z++ptLex t).length≤1000000000) :
  Calls Tryz.prog 28 #[.pointer (some ⟨pg,0,none⟩),lexV' m] w fun e' w'=>e'=.returned (.tuple #[])∧Puts pg B w w' (Z++ptLex t):=by
 obtain⟨⟨ra,rn,rc⟩,⟨ca,cn,cc⟩,⟨na,nn,nc⟩,⟨ea,en,ec⟩⟩:=m
 obtain⟨h1,h2,h3,h4⟩:=hm
 obtain⟨rfl,-⟩:=h1.len
 obtain⟨rfl,-⟩:=h2.len
 obtain⟨rfl,-⟩:=h3.len
 obtain⟨rfl,-⟩:=h4.len
 simp only at h1 h2 h3 h4
 obtain⟨NR,hNR⟩:∃ n,t.r.length=n:=⟨_,rfl⟩
 obtain⟨NE,hNE⟩:∃ n,t.e.length=n:=⟨_,rfl⟩
 have HNR:=jh hNR
 have HNE:=jh hNE
 have HNC:Hid (t.c.length=NR):=jh (by rw [← hNR];exact hok.cl)
 have hr8:NR≤1000000000:=by rw [← hNR];exact hok.rl
 have he8:NE≤1000000000:=by rw [← hNE];exact hok.el
 obtain⟨W,hW⟩:=Int.eq_ofNat_of_zero_le (colsL_nonneg t.c)
 have HW:Hid (colsL t.c=(W:Int)):=jh hW
 obtain⟨RC,hRC⟩:∃ x,t.r.zip t.c=x:=⟨_,rfl⟩
 have HRC:Hid (RC.length=NR∧∀ (k:Nat) r c,t.r[k]?=some r→t.c[k]?=some c→RC[k]?=some (r,c)):=jh (by
  rw [← hRC]
  refine⟨by rw [List.length_zip,hok.cl,hNR];omega,fun k r c hr hc=>?_⟩
  rw [List.getElem?_zip_eq_some]
  exact⟨hr,hc⟩)
 have HPT:Hid (ptLex t=putL NR++RC.flatMap ptRc++(ptTable (W:Int) t.n++t.e.flatMap ptEnd)):=jh (by
  unfold ptLex ptList
  rw [hRC,HRC.out.1,hW])
 have HTW:Hid (W≤65536∧t.n.length≤65536∧makeOk (W:Int) t.n=true∧t.n.length * W≤4194304):=jh (by
  have a1:=hok.cw
  have a2:=hok.mo
  have a3:=hok.pr
  rw [hW] at a1 a2 a3
  refine⟨by omega,hok.nl,a2,?_⟩
  have:((t.n.length * W:Nat):Int)=(t.n.length:Int) * (W:Int):=by simp
  omega)
 have HL:Hid (∀ k j,(Z++putL NR++(RC.take k).flatMap ptRc).length≤1000000000∧((Z++putL NR++RC.flatMap ptRc)++ptTable (W:Int) t.n).length≤1000000000∧(((Z++putL NR++RC.flatMap ptRc)++ptTable (W:Int) t.n)++(t.e.take j).flatMap ptEnd).length≤1000000000):=jh (fun k j=>by
  rw [HPT.out] at hl
  have a1:=flatMap_prefix (enc:=ptRc) (L:=RC) k
  have a2:=flatMap_prefix (enc:=ptEnd) (L:=t.e) j
  simp only [List.length_append] at hl ⊢
  omega)
 obtain⟨w0,hw0⟩:∃ X,X=w.alloc (.cells #[.slice ra NR rc,.slice ca t.c.length cc,.slice na t.n.length nc,.slice ea NE ec] 28):=⟨_,rfl⟩
 have hC0:Chg (fun _=>False) w w0:=by rw [hw0];exact (Chg.refl _ w).alloc _
 have hP0:Puts pg B w w0 Z:=h.fresh hC0
 have HP0:=jh hP0
 have HZ0:=jh hP0.st
 have n0:¬ Cp pg w0 w.heap.size:=h.newF hC0 (Nat.le_refl _)
 have d0:w0.cell? ⟨w.heap.size,0,none⟩=some (.slice ra NR rc):=by rw [hw0,World.cell?_alloc_new];rfl
 have d1:w0.cell? ⟨w.heap.size,1,none⟩=some (.slice ca t.c.length cc):=by rw [hw0,World.cell?_alloc_new];rfl
 have d2:w0.cell? ⟨w.heap.size,2,none⟩=some (.slice na t.n.length nc):=by rw [hw0,World.cell?_alloc_new];rfl
 have d3:w0.cell? ⟨w.heap.size,3,none⟩=some (.slice ea NE ec):=by rw [hw0,World.cell?_alloc_new];rfl
 have HK:Hid (∀ W Z',Puts pg B w0 W Z'→W.cell? ⟨w.heap.size,0,none⟩=some (.slice ra NR rc)∧W.cell? ⟨w.heap.size,1,none⟩=some (.slice ca t.c.length cc)∧W.cell? ⟨w.heap.size,2,none⟩=some (.slice na t.n.length nc)∧W.cell? ⟨w.heap.size,3,none⟩=some (.slice ea NE ec)):=jh (fun W Z' hp =>
  ⟨hp.keep n0 d0,hp.keep n0 d1,hp.keep n0 d2,hp.keep n0 d3⟩)
 have HES:Hid (∀ X Z',Puts pg B w0 X Z'→rngE.InS X (·<B) (ra,t.r.length,rc) t.r∧intE.InS X (·<B) (ca,t.c.length,cc) t.c∧ListR listE (inR intE) X (·<B) (na,t.n.length,nc) t.n∧intE.InS X (·<B) (ea,t.e.length,ec) t.e):=jh (fun X Z' hp=>by
  have hc:=(HP0.out.below h).trans ((hp.below HZ0.out))
  exact⟨h1.chg hc (fun g hg e=>by omega),h2.chg hc (fun g hg e=>by omega),(ListR.good inR.good).chg h3 hc (fun g hg e=>by omega),h4.chg hc (fun g hg e=>by omega)⟩)
 have HOK:=jh hok
 have HRI:Hid (ptInt (NR:Int)=putL NR):=jh (by unfold ptInt;rw [Int.toNat_natCast])
 have HZL:Hid (Z.length≤1000000000):=jh (by rw [List.length_append] at hl;omega)
 rw [HPT.out]
 show Calls Tryz.prog 28 #[.pointer (some ⟨pg,0,none⟩),.agg #[.slice ra t.r.length rc,.slice ca t.c.length cc,.slice na t.n.length nc,.slice ea t.e.length ec]] w _
 rw [hNR,hNE]
 clear h hP0 n0 d0 d1 d2 d3 hl h1 h2 h3 h4 hok hC0 hNR hNE hW hRC
 go_enter Tryz.func28,Tryz.ntmps28
 go_upto_region 1 with (fail)
 rw [← hw0]
 clear hw0
 obtain⟨q0,q1,q2,q3⟩:=HK.out w0 Z HZ0.out.refl
 go_wp2_with fail
 refine (pnum_any (NR:Int) w0 HZ0.out (by omega) HZL.out).mono ?_
 rintro e1 w1 ⟨rfl,hp1⟩
 rw [HRI.out] at hp1
 have HP1:=jh hp1
 clear hp1 q0 q1 q2 q3
 obtain⟨q0,q1,q2,q3⟩:=HK.out w1 _ HP1.out
 go_upto_region 3 with (fail)
 go_loopw [16] (fun q wr=>∃ k:Nat,k≤NR∧q=.int .i64 k∧Puts pg B w0 wr (Z++putL NR++(RC.take k).flatMap ptRc)) (fun q _=>NR-(intOf q).toNat)
 case atStart=>exact⟨0,by omega,rfl,by simpa using HP1.out⟩
 case round =>
  clear HP1 q0 q1 q2 q3
  obtain⟨k,hk,rfl,hp⟩:=hrel
  have HP:=jh hp
  clear hp
  by_cases hkl:k<NR
  ·have b9:decide ((k:Int)<(NR:Int))=true:=by simp;omega
   have hkr:k<t.r.length:=by rw [HNR.out];exact hkl
   have hkc:k<t.c.length:=by rw [HNC.out];exact hkl
   obtain⟨h1,h2,-,-⟩:=HES.out wr _ HP.out
   obtain⟨⟨lo,hi⟩,d,g,o,hx,hr,rfl,-,-,-,hcells⟩:=(ListR.of h1).get2 (f:=encRng) rfl hkr rfl
   obtain⟨c0,c1⟩:=hcells _ _ rfl
   obtain⟨z,d',gc,oc,hxc,hrc,rfl,-,-,-,hcells'⟩:=(ListR.of h2).get1' (f:=encInt1) rfl hkc rfl
   have e0:=hcells' _ rfl
   obtain rfl:(lo,hi)=d:=hr
   obtain rfl:z=d':=hrc
   have HX:Hid (RC[k]?=some ((lo,hi),z)):=jh (HRC.out.2 k _ _ hx hxc)
   obtain⟨o1,o2⟩:=HOK.out.rs _ (List.mem_of_getElem? hx)
   obtain⟨o3,o4⟩:=HOK.out.cs _ (List.mem_of_getElem? hxc)
   simp only at o1 o2
   have HO:Hid (U32 lo∧U32 hi∧U32 z):=jh ⟨o1,o2,by omega,by omega⟩
   have HLE:Hid ((Z++putL NR++(RC.take k).flatMap ptRc).length≤1000000000∧((Z++putL NR++(RC.take k).flatMap ptRc)++ptInt lo).length≤1000000000∧(((Z++putL NR++(RC.take k).flatMap ptRc)++ptInt lo)++ptInt hi).length≤1000000000):=jh (by
    have a1:=(HL.out (k+1) 0).1
    rw [flatMap_take HX.out] at a1
    simp only [ptRc,List.length_append] at a1 ⊢
    omega)
   have w1':IntKind.i64.wrap lo=lo:=by rw [IntKind.wrap_i64];omega
   have w2':IntKind.i64.wrap hi=hi:=by rw [IntKind.wrap_i64];omega
   obtain⟨w4,hw4⟩:∃ X,X=wr.alloc (.cells #[.int .i32 lo,.int .i32 hi] 117):=⟨_,rfl⟩
   have hC4:Chg (fun _=>False) wr w4:=by rw [hw4];exact (Chg.refl _ wr).alloc _
   have HP4:Hid (Puts pg B w0 w4 (Z++putL NR++(RC.take k).flatMap ptRc)):=jh (HP.out.trans (HP.out.st.fresh hC4))
   have n4:¬ Cp pg w4 wr.heap.size:=HP.out.st.newF hC4 (Nat.le_refl _)
   have f0:w4.cell? ⟨wr.heap.size,0,none⟩=some (.int .i32 lo):=by rw [hw4,World.cell?_alloc_new];rfl
   have f1:w4.cell? ⟨wr.heap.size,1,none⟩=some (.int .i32 hi):=by rw [hw4,World.cell?_alloc_new];rfl
   have g0:∀ X,Chg (fun k=>B≤k) wr X→X.cell? ⟨gc,oc+k,none⟩=some (.int .i64 z)→True:=fun _ _ _=>trivial
   have hgc:gc<B:=by
    obtain⟨-,-,g',o',h5,h6⟩:=h2
    obtain⟨h7,h8⟩:=h6 (by omega)
    injection h7 with h7
    injection h7 with h7
    rw [h7];exact h8
   have HK4:Hid (∀ X Z',Puts pg B w4 X Z'→X.cell? ⟨wr.heap.size,0,none⟩=some (.int .i32 lo)∧X.cell? ⟨wr.heap.size,1,none⟩=some (.int .i32 hi)∧X.cell? ⟨gc,oc+k,none⟩=some (.int .i64 z)):=jh (fun X Z' hp =>
    ⟨hp.keep n4 f0,hp.keep n4 f1,(hp.below HP4.out.st).cellS (hC4.cellS e0 (fun h=>h)) (by show ¬ B≤gc;omega)⟩)
   clear hx hxc hcells hcells' o1 o2 o3 o4 n4 f0 f1 g0 hgc h1 h2 hC4 hkr
   go_upto_region 5 with (fail)
   rw [← hw4]
   clear hw4 e0
   obtain⟨q0,q1,q2⟩:=HK4.out w4 _ HP4.out.st.refl
   go_wp2_with fail
   refine (pnum_any lo w4 HP4.out.st HO.out.1 HLE.out.1).mono ?_
   rintro e5 w5 ⟨rfl,hp5⟩
   have HP5:=jh hp5
   clear hp5 q0 q1 q2
   obtain⟨q0,q1,q2⟩:=HK4.out w5 _ HP5.out
   go_wp2_with fail
   refine (pnum_any hi w5 HP5.out.st HO.out.2.1 HLE.out.2.1).mono ?_
   rintro e6 w6 ⟨rfl,hp6⟩
   have HP6:=jh (HP5.out.trans hp6)
   clear hp6 q0 q1 q2
   obtain⟨q0,q1,q2⟩:=HK4.out w6 _ HP6.out
   obtain⟨r0,r1,r2,r3⟩:=HK.out w6 _ (HP4.out.trans HP6.out)
   clear q0 q1 r0 r2 r3
   go_wp2_with fail
   refine (pnum_any z w6 HP6.out.st HO.out.2.2 HLE.out.2.2).mono ?_
   rintro e7 w7 ⟨rfl,hp7⟩
   have HP7:Hid (Puts pg B w0 w7 (Z++putL NR++(RC.take (k+1)).flatMap ptRc)):=jh (by
    have:=HP4.out.trans (HP6.out.trans hp7)
    rw [flatMap_take HX.out]
    simp only [ptRc,List.append_assoc] at this ⊢
    exact this)
   clear hp7 q2 r1
   go_wp2
   go_roundw
   case rel=>exact⟨k+1,by omega,by go_num,HP7.out⟩
   case measure=>simp [intOf];omega
  ·obtain rfl:k=NR:=by omega
   have b9:decide ((k:Int)<(k:Int))=false:=by simp
   have hwhole:=HP.out
   rw [List.take_of_length_le (by rw [HRC.out.1];exact Nat.le_refl _)] at hwhole
   have HPW:=jh hwhole
   clear hwhole
   go_upto_region 9 with (fail)
   obtain⟨wd,hwd⟩:∃ X,wr.drew=X:=⟨_,rfl⟩
   have HWD:Hid (Chg (fun _=>False) wr wd):=jh (by rw [← hwd];exact (Chg.refl _ _).drew)
   refine wp_region_late (fun x=>Chg (fun _=>False) wd x) (fun i=>decide (i=5)) (by kernel_rfl) ?_
   show wpAnyL _ _ _ _ _ _ 6 (Array.replicate 6 false) _ wr.drew
   rw [hwd]
   clear hwd
   have HSS:Hid (Chg (fun _=>False) wd wd):=jh (Chg.refl _ _)
   have HKD:Hid (∀ X,Chg (fun _=>False) wd X→X.cell? ⟨w.heap.size,0,none⟩=some (.slice ra k rc)∧X.cell? ⟨w.heap.size,1,none⟩=some (.slice ca t.c.length cc)∧X.cell? ⟨w.heap.size,2,none⟩=some (.slice na t.n.length nc)∧X.cell? ⟨w.heap.size,3,none⟩=some (.slice ea NE ec)):=jh (fun X hc=>HK.out X _ (HPW.out.trans (HPW.out.st.fresh (HWD.out.trans hc))))
   (refine lrd 0 HSS.out fun K hK=>?_;apply ei;intro w' hC;(go_simp;try with_reducible rfl);(try go_simp);refine hK _ ?_;clear hK K)
   (refine lrd 1 HSS.out fun K hK=>?_;apply ei;intro w' hC;((obtain⟨q0,q1,q2,q3⟩:=HKD.out _ hC);go_simp;try with_reducible rfl);(try go_simp);refine hK _ ?_;clear hK K)
   (refine lrd 3 HSS.out fun K hK=>?_;apply ei;intro w' hC;(go_simp;try with_reducible rfl);(try go_simp);refine hK _ ?_;clear hK K)
   (refine lrd 4 HSS.out fun K hK=>?_;apply ei;intro w' hC;((obtain⟨q0,q1,q2,q3⟩:=HKD.out _ hC);go_simp;try with_reducible rfl);(try go_simp);refine hK _ ?_;clear hK K)
   refine late_call (i:=2) (by kernel_rfl) rfl rfl 64 #[.agg #[.slice ra k rc,.slice ca t.c.length cc,.slice na t.n.length nc,.slice ea NE ec]] (fun u w''=>u=.int .i64 (W:Int)) (by go_simp) ?_ ?_
   ·have h2:=(HES.out wd _ (HPW.out.trans (HPW.out.st.fresh HWD.out))).2.1
    have hc2:intE.In wd 0 (ca,t.c.length,cc) t.c:=Elt.InS.in' h2 (fun _ _=>Nat.zero_le _)
    have:=columns_any t.c ra na ea ca k rc t.n.length nc NE ec cc 0 wd hc2 (by have:=HNC.out;omega) HOK.out.cs
    rw [HW.out] at this
    refine this.mono ?_
    rintro e' w'' ⟨rfl,hc⟩
    exact⟨_,rfl,fun _=>hc,rfl⟩
   rintro u w2 hs2 rfl K hK
   have HC2:=jh (HWD.out.trans (hs2 (by decide)))
   clear hs2
   (try go_simp)
   refine hK _ ?_
   clear hK K
   have HP2:=jh (HPW.out.trans (HPW.out.st.fresh HC2.out))
   refine late_call (i:=5) (by kernel_rfl) rfl rfl 63 #[.pointer (some ⟨pg,0,none⟩),.int .i64 (W:Int),.slice na t.n.length nc] (fun u w''=>u=.tuple #[]∧Puts pg B w0 w'' ((Z++putL k++RC.flatMap ptRc)++ptTable (W:Int) t.n)) (by go_simp) ?_ ?_
   ·have h3:=(HES.out w2 _ HP2.out).2.2.1
    have hli:ListsIn w2 0 (na,t.n.length,nc) t.n:=by
     have:=(ListR.good inR.good).mono h3 (S':=(0≤·)) (fun _ _ _=>Nat.zero_le _)
     exact this
    refine (ptable_any W t.n na nc w2 HP2.out.st hli HTW.out.1 HTW.out.2.1 HTW.out.2.2.1 HTW.out.2.2.2 (HL.out 0 0).2.1).mono ?_
    rintro e' w'' ⟨rfl,hp⟩
    exact⟨_,rfl,fun h=>absurd h (by decide),rfl,HP2.out.trans hp⟩
   rintro u w3-⟨rfl,hp3⟩ K hK
   have HP3:=jh hp3
   clear hp3
   (try go_simp)
   refine hK _ ?_
   clear hK K
   refine late_done (by kernel_rfl) ?_ _
   obtain⟨q0,q1,q2,q3⟩:=HK.out w3 _ HP3.out
   clear q0 q1 q2
   go_upto_region 11 with (fail)
   go_loopw [48] (fun q wr=>∃ j:Nat,j≤NE∧q=.int .i64 j∧Puts pg B w0 wr (((Z++putL k++RC.flatMap ptRc)++ptTable (W:Int) t.n)++(t.e.take j).flatMap ptEnd)) (fun q _=>NE-(intOf q).toNat)
   case atStart=>exact⟨0,by omega,rfl,by simpa using HP3.out⟩
   case round =>
    clear HP3 q3
    obtain⟨j,hj,rfl,hp⟩:=hrel
    have HPJ:=jh hp
    clear hp
    by_cases hjl:j<NE
    ·have b10:decide ((j:Int)<(NE:Int))=true:=by simp;omega
     have hje:j<t.e.length:=by rw [HNE.out];exact hjl
     obtain⟨-,-,-,h4⟩:=HES.out wr _ HPJ.out
     obtain⟨z,d',gc,oc,hxc,hrc,rfl,-,-,-,hcells'⟩:=(ListR.of h4).get1' (f:=encInt1) rfl hje rfl
     have e0:=hcells' _ rfl
     obtain rfl:z=d':=hrc
     have HX:=jh hxc
     obtain⟨o3,o4⟩:=HOK.out.eb _ (List.mem_of_getElem? hxc)
     have HO:Hid (U32 (z+1)):=jh ⟨by omega,by omega⟩
     have w1':wrap64 (z+1)=z+1:=by unfold wrap64;omega
     clear h4 hxc hcells' hje
     go_wp2_with fail
     refine (pnum_any (z+1) wr HPJ.out.st HO.out (HL.out 0 j).2.2).mono ?_
     rintro e7 w7 ⟨rfl,hp7⟩
     have HP7:Hid (Puts pg B w0 w7 (((Z++putL k++RC.flatMap ptRc)++ptTable (W:Int) t.n)++(t.e.take (j+1)).flatMap ptEnd)):=jh (by
      have:=HPJ.out.trans hp7
      rw [flatMap_take HX.out]
      unfold ptEnd at this ⊢
      simp only [List.append_assoc] at this ⊢
      exact this)
     clear hp7 e0
     go_wp2
     go_roundw
     case rel=>exact⟨j+1,by omega,by go_num,HP7.out⟩
     case measure=>simp [intOf];omega
    ·obtain rfl:j=NE:=by omega
     have b10:decide ((j:Int)<(j:Int))=false:=by simp
     have HF:Hid (Puts pg B w wr (Z++(putL k++RC.flatMap ptRc++(ptTable (W:Int) t.n++t.e.flatMap ptEnd)))):=jh (by
      have:=HP0.out.trans HPJ.out
      rw [List.take_of_length_le (by rw [HNE.out];exact Nat.le_refl _)] at this
      simp only [List.append_assoc] at this ⊢
      exact this)
     go_wp2
     go_end0
     exact⟨rfl,HF.out⟩
end Go.Proofs.YtgnpmceimpjheaaGreat
namespace Go.Proofs.YtgnpmceimpjheaaGreat
open Go.RowKit
theorem mul64_one (n:Nat) (hn:n≤1000) (w:World):Calls Tryz.prog 160 #[.int .u64 1,.int .u64 n] w fun e w'=>e=.returned (.tuple #[.int .u64 0,.int .u64 n])∧w'=w:=by
 have f1:bits .and .u64 1 4294967295=1:=by decide
 have f2:bits .and .u64 (n:Int) 4294967295=n:=by
  have h:=bits_and_u64_nat n 4294967295 (by omega) (by omega)
  have e:n &&& 4294967295=n % 4294967296:=Nat.and_two_pow_sub_one_eq_mod n 32
  rw [e,Nat.mod_eq_of_lt (by omega)] at h
  exact h
 have f3:(n:Int) / 4294967296=0:=by omega
 have f4:IntKind.u64.wrap (n:Int)=n:=by rw [IntKind.wrap_u64];omega
 have f5:bits .and .u64 0 4294967295=0:=by decide
 go_enter Tryz.func160,Tryz.ntmps160
 go_wp2
 go_ret2
 exact⟨rfl,rfl⟩
theorem mul_one (n:Nat) (hn:n≤1000) (w:World):Calls Tryz.prog 118 #[.int .u64 1,.int .u64 n] w fun e w'=>e=.returned (.tuple #[.int .u64 0,.int .u64 n])∧w'=w:=by
 go_enter Tryz.func118,Tryz.ntmps118
 go_wp2_with fail
 refine (mul64_one n hn w).mono ?_
 rintro e w1 ⟨rfl,rfl⟩
 go_wp2
 go_ret2
 exact⟨rfl,rfl⟩
theorem wpList_copyRun {P:Program} {ops:Array Oper} {rest:List Oper} {o:Oper} {a:Act} {w:World} {Q:Exit→Act→World→Prop} (hgd:o.guard=none) (d s:Operand) (dT sT:TypeId)
  (ho:o.op=.call { callee:=.builtin .copy,args:=#[d,s],argTypes:=#[dT,sT] }) (v u:Value) (hd:a.eval d=v) (hs:a.eval s=u) {v':Value} {w':World}
  (hr:(Builtin.copy_ #[dT,sT] o.type #[v,u]).run P w=.ok v' w') (h:wpList P ops Q rest (a.put o.dst v') w'):wpList P ops Q (o :: rest) a w:=by
 refine wpList_plain hgd fun K hK=>?_
 unfold Oper.wp
 simp [execOp,ho,resolve,invoke,builtin,hd,hs,hr,Result.andThen]
 exact hK _ _ h
theorem late_copy {P:Program} {md:Region.Mode} {ops:Array Oper} {Q:Exit→Act→World→Prop} {S:World→Prop} {late:Nat→Bool} {i:Nat} {oi:Oper} {fuel:Nat} {listed:Array Bool} {a:Act} {w:World} (hr:Region.ready md ops listed=[i]) (hi:ops[i]?=some oi)
  (hw:Region.wanted oi (yielded ops a.tmps)=true) (d s:Operand) (dT sT:TypeId) (ho:oi.op=.call { callee:=.builtin .copy,args:=#[d,s],argTypes:=#[dT,sT] }) (v u:Value) (hd:a.eval d=v) (hs:a.eval s=u) {v':Value} {w':World}
  (hrun:(Builtin.copy_ #[dT,sT] oi.type #[v,u]).run P w=.ok v' w') (hS:late i=false→S w')
  (h:∀ K:Act→Prop,(∀ a,wpAnyL P md ops Q S late fuel (listed.setIfInBounds i true) a w'→K a)→K (a.put oi.dst v')) :
  wpAnyL P md ops Q S late (fuel+1) listed a w:=by
 refine⟨fun h0=>(by rw [hr] at h0;cases h0),fun j hj=>?_⟩
 rw [hr] at hj
 obtain rfl:j=i:=by simpa using hj
 have hx:(execOp a.eval oi).run P w=.ok (.value v') w':=by
  simp [execOp,ho,resolve,invoke,builtin,hd,hs,hrun,Result.andThen]
 unfold Go.wpOp
 simp only [hi,hw,if_true,Oper.wp,hx,Oper.upon]
 exact .inl ⟨hS,h _ (fun _ h=>h)⟩
theorem copy_rep {w:World} {h g os k m n d dc sc:Nat} {C:List Int} {z:Int} (ty:TypeId) (hR:I.Row w h C) (hp:List.replicate k z <+: C) (hn:C.length=n) (hz:I.Byte z) (hsrc:∀ j,j<m→w.cell? ⟨g,os+j,none⟩=some (.int .i64 z)) {sl:Nat} (hm:m=Nat.min sl d) (hk:k+m≤n) :
  (Builtin.copy_ #[25,25] ty #[.slice (some ⟨h,k,none⟩) d dc,.slice (some ⟨g,os,none⟩) sl sc]).run Tryz.prog w=.ok (.int .i64 m) (w.setCells h k (I.bytesV (List.replicate m z))) ∧
   ∃ C',I.Row (w.setCells h k (I.bytesV (List.replicate m z))) h C'∧C'.length=n∧List.replicate (k+m) z <+: C':=by
 subst hn
 obtain⟨i,hi,hiz,h1,h2⟩:=info_parts intE.info
 have hl:(I.bytesV (List.replicate m z)).length=m:=by simp
 have hrun:=run_copy_cells (P:=Tryz.prog) w 25 25 ty 3 h k d dc ⟨g,os,none⟩ sl sc (I.bytesV (List.replicate m z)) Tryz.underlying25 (by rw [show (3:TypeId)=intE.e from rfl,hi,Option.map_some,h1];rfl) (by rw [hl,hm]) (fun j v hj=>by
   obtain⟨a,ha,rfl⟩:=I.bytesV_get hj
   have hjm:=(List.getElem?_eq_some_iff.1 ha).1
   rw [List.length_replicate] at hjm
   have:a=z:=(List.mem_replicate.1 (List.mem_of_getElem? ha)).2
   rw [this,Addr.add_lit]
   exact hsrc j hjm) (fun j hj=>by
   rw [hl] at hj
   rw [hR.c (k+j) _ (List.getElem?_eq_getElem (by omega))];rfl) (fun j _=>hR.z _) I.bytesV_one
 rw [hl] at hrun
 obtain⟨C',c1,c2,c3⟩:=hR.put (X:=List.replicate k z) (Y:=List.replicate m z) hp (by simp;omega) (fun a ha=>by rw [(List.mem_replicate.1 ha).2];exact hz)
 rw [List.length_replicate] at c1
 exact⟨hrun,C',c1,c2,by rw [← List.replicate_append_replicate] at *;exact c3⟩
theorem row_all {w:World} {h k:Nat} {C:List Int} {z:Int} (hR:I.Row w h C) (hp:List.replicate k z <+: C):∀ j,j<k→w.cell? ⟨h,0+j,none⟩=some (.int .i64 z):=fun j hj=>by
 obtain⟨Y,rfl⟩:=hp
 rw [Nat.zero_add]
 refine hR.c j z ?_
 rw [List.getElem?_append_left (by simpa using hj)]
 simp [hj]
theorem repeat_any (n:Nat) (h1:1≤n) (hn:n≤1000) (g:Nat) (w:World) (hx:w.cell? ⟨g,0,none⟩=some (.int .i64 (-1))) :
  Calls Tryz.prog 72 #[.slice (some ⟨g,0,none⟩) 1 1,.int .i64 n] w fun e w'=>∃ h,e=.returned (.slice (some ⟨h,0,none⟩) n n)∧w.heap.size≤h∧I.Row w' h (List.replicate n (-1))∧Chg (fun _=>False) w w':=by
 have HX:=jh hx
 have b1:decide ((n:Int)<0)=false:=by simp
 have b2:¬ ((n:Int)<0):=by omega
 have w1:IntKind.u64.wrap (n:Int)=n:=by rw [IntKind.wrap_u64];omega
 have w2:IntKind.i64.wrap (n:Int)=n:=by rw [IntKind.wrap_i64];omega
 have b3:decide ((9223372036854775807:Int)<(n:Int))=false:=by simp;omega
 have b4:¬ ((9223372036854775807:Int)<(n:Int)):=by omega
 have hcr:∀ (W:World),I.Row W w.heap.size (List.replicate n 0)→W.cell? ⟨g,0,none⟩=some (.int .i64 (-1))→(Builtin.copy_ #[25,25] 3 #[.slice (some ⟨w.heap.size,0,none⟩) n n,.slice (some ⟨g,0,none⟩) 1 1]).run Tryz.prog W=.ok (.int .i64 1) (W.setCells w.heap.size 0 (I.bytesV (List.replicate 1 (-1)))) ∧
   ∃ C',I.Row (W.setCells w.heap.size 0 (I.bytesV (List.replicate 1 (-1)))) w.heap.size C'∧C'.length=n∧List.replicate (0+1) (-1) <+: C':=fun W hR hc =>
  copy_rep (m:=1) 3 hR (by simp) (by simp) (by decide) (fun j hj=>by rw [show j=0 by omega];exact hc) (by show 1=min 1 n;omega) (by omega)
 have HCR:=jh hcr
 clear hx hcr
 go_enter Tryz.func72,Tryz.ntmps72
 go_wp2_with fail
 refine (mul_one n hn w).mono ?_
 rintro e wm ⟨rfl,rfl⟩
 obtain⟨h,hh⟩:∃ b,b=wm.heap.size:=⟨_,rfl⟩
 have HH:=jh hh
 rw [← hh] at HCR
 go_upto_region 7 with (at_make;refine intE.wpList_make rfl _ _ _ rfl rfl _ _ _ _ n n rfl rfl rfl (by omega) (by omega) (by omega) ?_;intro w7 HR7 HC7)
 rw [← hh] at HR7 ⊢
 clear hh
 have HR7':Hid (I.Row w7 h (List.replicate n 0)):=jh (intRow.1 HR7.out)
 obtain⟨hrun,C8,r8,l8,p8⟩:=HCR.out w7 HR7'.out (HC7.out.cellS HX.out (fun h=>h))
 obtain⟨w8,hw8⟩:∃ X,X=w7.setCells h 0 (I.bytesV (List.replicate 1 (-1))):=⟨_,rfl⟩
 rw [← hw8] at hrun r8
 have HRUN:=jh hrun
 have HR8:=jh r8
 have HL8:=jh l8
 have HP8:=jh p8
 have HC8:Hid (Chg (fun k=>wm.heap.size≤k) wm w8):=jh (HC7.out.any.trans (by rw [hw8];exact (setCellsChg _ _ _ _).mono (fun k _ e=>by rw [e,HH.out];exact Nat.le_refl _)))
 clear hrun r8 l8 p8 hw8 HCR HR7 HR7'
 go_upto_region 8 with (refine wpList_copyRun rfl _ _ 25 25 rfl _ _ rfl rfl HRUN.out ?_)
 clear HRUN
 go_loopw [8] (fun q wr=>∃ (k:Nat) (C:List Int),1≤k∧k≤n∧q=.int .i64 k∧I.Row wr h C∧Hid (C.length=n)∧List.replicate k (-1) <+: C∧Chg (fun k=>wm.heap.size≤k) wm wr) (fun q _=>n-(intOf q).toNat)
 case atStart=>exact⟨1,C8,by omega,by omega,rfl,HR8.out,HL8,HP8.out,HC8.out⟩
 case round =>
  clear HR8 HL8 HP8 HC8
  obtain⟨k,C,hk1,hk,rfl,hR,HL,hp,hc⟩:=hrel
  have HR:=jh hR
  have HP:=jh hp
  have HC:=jh hc
  clear hR hp hc
  by_cases hkn:k<n
  ·have b9:decide ((k:Int)<(n:Int))=true:=by simp;omega
   have b10:(k:Int)≤(n:Int):=by omega
   have b11:¬ n=k:=by omega
   obtain⟨m,hm⟩:∃ m,m=Nat.min k (n-k):=⟨_,rfl⟩
   have hm2:1≤m∧k+m≤n∧m≤k:=by rw [hm];show 1≤min k (n-k)∧k+min k (n-k)≤n∧min k (n-k)≤k;omega
   have w3:IntKind.i64.wrap ((k:Int)+(m:Int))=((k+m:Nat):Int):=by rw [IntKind.wrap_i64];omega
   have w4:wrap64 ((k:Int)+(m:Int))=((k+m:Nat):Int):=by unfold wrap64;omega
   obtain⟨wd,hwd⟩:∃ X,wr.drew=X:=⟨_,rfl⟩
   have HWD:Hid (Chg (fun _=>False) wr wd):=jh (by rw [← hwd];exact (Chg.refl _ _).drew)
   have hRD:I.Row wd h C:=HR.out.chg HWD.out (fun h=>h)
   obtain⟨hrun,C',r',l',p'⟩:=copy_rep (g:=h) (os:=0) (k:=k) (m:=m) (d:=n-k) (dc:=n-k) (sc:=n) (sl:=k) 3 hRD HP.out HL.out (by decide) (fun j hj=>row_all hRD HP.out j (Nat.lt_of_lt_of_le hj hm2.2.2)) hm hm2.2.1
   obtain⟨w9,hw9⟩:∃ X,X=wd.setCells h k (I.bytesV (List.replicate m (-1))):=⟨_,rfl⟩
   rw [← hw9] at hrun r'
   have HRUN:=jh hrun
   have HR9:=jh r'
   have HL9:=jh l'
   have HP9:=jh p'
   have HC9:Hid (Chg (fun k=>wm.heap.size≤k) wm w9):=jh ((HC.out.trans HWD.out.any).trans (by rw [hw9];exact (setCellsChg _ _ _ _).mono (fun k _ e=>by rw [e,HH.out];exact Nat.le_refl _)))
   clear hrun r' l' p' hw9 hRD HR HP HC HL hm
   go_upto_region 9 with (fail)
   refine wp_region_late (fun _=>True) (fun _=>false) (by kernel_rfl) ?_
   show wpAnyL _ _ _ _ _ _ 10 (Array.replicate 10 false) _ wr.drew
   rw [hwd]
   clear hwd
   have HSS:Hid True:=jh trivial
   (refine lrd 0 HSS.out fun K hK=>?_;apply ei;intro w' hC;(go_simp;try with_reducible rfl);(try go_simp);refine hK _ ?_;clear hK K)
   (refine lrd 1 HSS.out fun K hK=>?_;apply ei;intro w' hC;(go_simp;try with_reducible rfl);(try go_simp);refine hK _ ?_;clear hK K)
   (refine lrd 2 HSS.out fun K hK=>?_;apply ei;intro w' hC;(go_simp;try with_reducible rfl);(try go_simp);refine hK _ ?_;clear hK K)
   (refine lrd 3 HSS.out fun K hK=>?_;apply ei;intro w' hC;(go_simp;try with_reducible rfl);(try go_simp);refine hK _ ?_;clear hK K)
   (refine lrd 4 HSS.out fun K hK=>?_;apply ei;intro w' hC;(go_simp;try with_reducible rfl);(try go_simp);refine hK _ ?_;clear hK K)
   (refine lrd 5 HSS.out fun K hK=>?_;apply ei;intro w' hC;(go_simp;try with_reducible rfl);(try go_simp);refine hK _ ?_;clear hK K)
   (refine lrd 6 HSS.out fun K hK=>?_;apply ei;intro w' hC;(go_simp;try with_reducible rfl);(try go_simp);refine hK _ ?_;clear hK K)
   refine late_copy (i:=7) (by kernel_rfl) rfl rfl (.tmp 41) (.tmp 44) 25 25 rfl _ _ rfl rfl HRUN.out (fun _=>trivial) (fun K hK=>?_)
   (try go_simp)
   refine hK _ ?_
   clear hK K
   (refine lrd 8 HSS.out fun K hK=>?_;apply ei;intro w' hC;(go_simp;try with_reducible rfl);(try go_simp);refine hK _ ?_;clear hK K)
   (refine lrd 9 HSS.out fun K hK=>?_;apply ei;intro w' hC;(go_simp;try with_reducible rfl);(try go_simp);refine hK _ ?_;clear hK K)
   refine late_done (by kernel_rfl) ?_ _
   go_wp2
   go_roundw
   case rel=>exact⟨k+m,C',by omega,hm2.2.1,by go_num,HR9.out,HL9,HP9.out,HC9.out⟩
   case measure=>simp [intOf];omega
  ·obtain rfl:k=n:=by omega
   have b9:decide ((k:Int)<(k:Int))=false:=by simp
   have HF:Hid (I.Row wr h (List.replicate k (-1))):=jh (by
    have h2:=HP.out
    obtain⟨Y,hY⟩:=h2
    have h3:=congrArg List.length hY
    rw [List.length_append,List.length_replicate,HL.out] at h3
    have h4:Y=[]:=List.length_eq_zero_iff.1 (by omega)
    rw [h4,List.append_nil] at hY
    rw [hY];exact HR.out)
   go_wp2
   go_ret
   exact⟨h,rfl,by rw [HH.out];exact Nat.le_refl _,HF.out,HC.out.fresh⟩
end Go.Proofs.YtgnpmceimpjheaaGreat
