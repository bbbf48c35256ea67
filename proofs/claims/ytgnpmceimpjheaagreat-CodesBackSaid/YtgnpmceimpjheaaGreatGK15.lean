/- A part of the proof: PtI PtJ PtK BackL EncL CodR EncP CodQ EncT EncO PtL SumsA SumsB SumsC SumsD Concat. -/
import Derived.Test.YtgnpmceimpjheaaGreatGK14
import Derived.Test.YtgnpmceimpjheaaGreatGK7
import Derived.Test.YtgnpmceimpjheaaGreatGK4
import Derived.Test.YtgnpmceimpjheaaGreatGK11
import Derived.Test.YtgnpmceimpjheaaGreatGK8
import Derived.Test.YtgnpmceimpjheaaGreatGK13
import Derived.Tactics
import Derived.Tactics2
import Derived.Defers
import Derived.Laws.Pointers
import Derived.Laws.LoneSync
import Derived.RegionTactic
import Derived.RegionCalls
import Derived.ChangeAlike
import Derived.OpenShut
namespace Go.Proofs.YtgnpmceimpjheaaGreat
open Go.RowKit
def Ck (pg bl:Nat) (w:World) (k:Nat):Prop:=Cp pg w k∨k=bl∨∃ v,w.cell? ⟨bl,0,none⟩=some v∧v.ownBlock=some k
structure PSk (pg B bx bt bl tk:Nat) (w:World) (acc:List LsD) (Z:List Int):Prop where
 b:PSb pg B bx w Z
 t:w.cell? ⟨bt,0,none⟩=some (.int .i64 tk)
 nt:¬ Ck pg bl w bt
 nx:¬ Ck pg bl w bx
 nl:¬ Cp pg w bl
 lb:B≤bl
 zl:w.frozen? ⟨bl,0,none⟩=false
 ex:∃ v X,w.cell? ⟨bl,0,none⟩=some v∧listE.Own w B v X∧(∀ k,v.ownBlock=some k→¬ Cp pg w k∧k≠bl)∧X.length=acc.length∧∀ (j:Nat) x d,X[j]?=some x→acc[j]?=some d→intE.InS w (fun k=>¬ Ck pg bl w k) x (lookRow tk d.2.2)
theorem PSk.lt {pg B bx bt bl tk:Nat} {w:World} {acc:List LsD} {Z:List Int} (h:PSk pg B bx bt bl tk w acc Z) {k:Nat} (hk:Ck pg bl w k):B≤k∧k < w.heap.size:=by
 obtain ⟨v,X,h1,h2,-⟩:=h.ex
 rcases hk with hk | rfl | ⟨u,hu,hk⟩
 ·exact h.b.g.low hk
 ·exact ⟨h.lb,World.block_lt_of_cell? _ _ h1⟩
 ·rw [h1] at hu
  obtain rfl:=Option.some.inj hu
  exact h2.blk hk
theorem PSk.turn {pg B bx bt bl tk:Nat} {S:Nat→Prop} {w w':World} {acc:List LsD} {Z Z':List Int} (h:PSk pg B bx bt bl tk w acc Z) (hst:PSt pg B w' Z') (hc:Chg S w w') (hs:∀ k,k < w.heap.size→S k→Cp pg w k) (hn:∀ k,Cp pg w' k→Cp pg w k∨w.heap.size≤k) :
  PSk pg B bx bt bl tk w' acc Z'∧∀ k,Ck pg bl w' k→Ck pg bl w k∨w.heap.size≤k:=by
 obtain ⟨v,X,h1,h2,h3,h4,h5⟩:=h.ex
 have hbl:=World.block_lt_of_cell? _ _ h1
 have hb:=h.b.c
 have hbx:=World.block_lt_of_cell? _ _ h.b.c
 have hbt:=World.block_lt_of_cell? _ _ h.t
 simp only at hbl hbx hbt
 have hc':Chg (Cp pg w) w w':=hc.mono hs
 have c1:=hc'.cellS h1 h.nl
 have key:∀ k,Ck pg bl w' k→Ck pg bl w k∨w.heap.size≤k:=fun k hk=>by
  rcases hk with hk | hk | ⟨u,hu,hk⟩
  ·rcases hn k hk with h6 | h6
   ·exact .inl (.inl h6)
   ·exact .inr h6
  ·exact .inl (.inr (.inl hk))
  ·rw [c1] at hu
   obtain rfl:=Option.some.inj hu
   exact .inl (.inr (.inr ⟨v,h1,hk⟩))
 have nn:∀ {b},b < w.heap.size→¬ Cp pg w b→¬ Cp pg w' b:=fun hl hb e=>(hn _ e).elim hb (fun h=>by omega)
 refine ⟨⟨⟨hst,hc'.cellS hb h.b.n,nn hbx h.b.n⟩,hc'.cellS h.t (fun e=>h.nt (.inl e)),fun e=>(key _ e).elim h.nt (fun h=>by omega),fun e=>(key _ e).elim h.nx (fun h=>by omega),nn hbl h.nl,h.lb,(hc'.frozen (p:=⟨bl,0,none⟩) hbl h.nl).trans h.zl,
  v,X,c1,h2.chgB hc' (fun g hg e=>(h3 g hg).1 e),fun k hk=>⟨nn (h2.blk hk).2 (h3 k hk).1,(h3 k hk).2⟩,h4,fun j x d hx hd=>?_⟩,key⟩
 have r1:=(h5 j x d hx hd).mono (S':=fun k=>¬ Ck pg bl w k∧k < w.heap.size) (fun g hg hs=>⟨hs,hg⟩)
 have r2:=r1.chg hc' (fun g hg e=>hg.1 (.inl e))
 exact r2.mono (fun g _ hg e=>(key g e).elim hg.1 (fun h=>by omega))
theorem sideK (pg B bx bt bl tk:Nat):SideW (δ:=LsD) pg B (Ck pg bl) (PSk pg B bx bt bl tk) where
 get:=fun h=>h.b.g
 sub:=fun h=>.inl h
 low:=fun h hk=>(PSk.lt h hk).1
 move:=fun h hp=>PSk.turn h hp.st hp.chg (fun _ _ h=>h) hp.nx
theorem PSk.fresh {pg B bx bt bl tk:Nat} {w w':World} {acc:List LsD} {Z:List Int} (h:PSk pg B bx bt bl tk w acc Z) (hc:Chg (fun _=>False) w w'):PSk pg B bx bt bl tk w' acc Z∧∀ k,w.heap.size≤k→¬ Ck pg bl w' k:=by
 obtain ⟨h1,h2⟩:=h.b.g.chg hc (fun _ h=>h.elim)
 have h3:=(h.turn h1 hc (fun _ _ h=>h.elim) (fun k hk=>.inl (h2 k hk))).1
 refine ⟨h3,fun k hk e=>?_⟩
 obtain ⟨v,X,h4,h5,-⟩:=h.ex
 have c1:=hc.cellS h4 (fun h=>h)
 rcases e with e | e | ⟨u,hu,e⟩
 ·have:=(h.b.g.low (h2 k e)).2;omega
 ·have:=World.block_lt_of_cell? _ _ h4;simp only at this;omega
 ·rw [c1] at hu
  obtain rfl:=Option.some.inj hu
  have:=(h5.blk e).2;omega
theorem PSk.push {pg B bx bt bl tk:Nat} {w wa wb:World} {acc:List LsD} {Z:List Int} {v v':Value} {X:List Sl} {y:Sl} {d:LsD} (h:PSk pg B bx bt bl tk w acc Z)
  (h1:w.cell? ⟨bl,0,none⟩=some v) (h3:∀ k,v.ownBlock=some k→¬ Cp pg w k∧k≠bl) (h4:X.length=acc.length) (h5:∀ (j:Nat) x d,X[j]?=some x→acc[j]?=some d→intE.InS w (fun k=>¬ Ck pg bl w k) x (lookRow tk d.2.2))
  (hy:intE.InS w (fun k=>¬ Ck pg bl w k) y (lookRow tk d.2.2)) (ha:Chg (fun _=>False) w wa) (ho:listE.Own wb B v' (X++[y])) (hb:Chg (fun k=>v.ownBlock=some k) wa wb) (hv:v'.ownBlock=v.ownBlock∨v'.ownBlock=some wa.heap.size) :
  (wb.cell? ⟨bl,0,none⟩=some v∧wb.frozen? ⟨bl,0,none⟩=false)∧WPost (Ck pg bl) (PSk pg B bx bt bl tk) w (acc++[d]) Z (.returned (.tuple #[])) (wb.setCell ⟨bl,0,none⟩ v'):=by
 have hbl:=World.block_lt_of_cell? _ _ h1
 have hbx:=World.block_lt_of_cell? _ _ h.b.c
 have hbt:=World.block_lt_of_cell? _ _ h.t
 simp only at hbl hbx hbt
 have hsa:=ha.size
 have nob:¬ v.ownBlock=some bl:=fun e=>(h3 bl e).2 rfl
 have hab:Chg (fun k=>v.ownBlock=some k) w wb:=ha.any.trans hb
 have cb:wb.cell? ⟨bl,0,none⟩=some v:=hab.cellS h1 nob
 have zb:wb.frozen? ⟨bl,0,none⟩=false:=(hab.frozen (p:=⟨bl,0,none⟩) hbl nob).trans h.zl
 obtain ⟨w',hw'⟩:∃ W,W=wb.setCell ⟨bl,0,none⟩ v':=⟨_,rfl⟩
 have hs:Chg (·=bl) wb w':=by rw [hw'];exact setCellChg wb bl 0 v'
 have hc:Chg (fun k=>v.ownBlock=some k∨k=bl) w w':=(hab.mono (fun _ _ e=>.inl e)).trans (hs.mono (fun _ _ e=>.inr e))
 have c':w'.cell? ⟨bl,0,none⟩=some v':=by rw [hw'];exact World.cell?_setCell_same _ _ _ cb
 obtain ⟨p1,p2⟩:=h.b.g.chg hc (fun k hk e=>by
  rcases hk with hk | rfl
  ·exact (h3 k hk).1 e
  ·exact h.nl e)
 have key:∀ k,Ck pg bl w' k→Ck pg bl w k∨w.heap.size≤k:=fun k hk=>by
  rcases hk with hk | hk | ⟨u,hu,hk⟩
  ·exact .inl (.inl (p2 k hk))
  ·exact .inl (.inr (.inl hk))
  ·rw [c'] at hu
   obtain rfl:=Option.some.inj hu
   rcases hv with hv | hv
   ·rw [hv] at hk;exact .inl (.inr (.inr ⟨v,h1,hk⟩))
   ·rw [hv] at hk;have:=Option.some.inj hk;exact .inr (by omega)
 have nS:∀ {b},¬ Ck pg bl w b→¬ (v.ownBlock=some b∨b=bl):=fun hb e=>by
  rcases e with e | e
  ·exact hb (.inr (.inr ⟨v,h1,e⟩))
  ·exact hb (.inr (.inl e))
 have nob':∀ g,v'.ownBlock=some g→¬ g=bl:=fun g hg e=>by
  rcases hv with hv | hv
  ·rw [hv] at hg;exact (h3 g hg).2 e
  ·rw [hv] at hg;have:=Option.some.inj hg;omega
 have hel:∀ {x:Sl} {L:List Int},intE.InS w (fun k=>¬ Ck pg bl w k) x L→intE.InS w' (fun k=>¬ Ck pg bl w' k) x L:=fun hx=>by
  have r1:=hx.mono (S':=fun k=>¬ Ck pg bl w k∧k < w.heap.size) (fun g hg hs=>⟨hs,hg⟩)
  have r2:=r1.chg hc (fun g hg e=>nS hg.1 e)
  exact r2.mono (fun g _ hg e=>(key g e).elim hg.1 (fun h=>by omega))
 rw [← hw']
 refine ⟨⟨cb,zb⟩,rfl,⟨⟨p1,hc.cellS h.b.c (nS h.nx),fun e=>h.b.n (p2 _ e)⟩,hc.cellS h.t (nS h.nt),fun e=>(key _ e).elim h.nt (fun h=>by omega),fun e=>(key _ e).elim h.nx (fun h=>by omega),fun e=>h.nl (p2 _ e),h.lb,by rw [hw'];exact (World.frozen?_setCell _ _ _ _).trans zb,
  v',X++[y],c',ho.chgB hs (fun g hg e=>nob' g hg e),fun k hk=>⟨fun e=>?_,nob' k hk⟩,by simp [h4],fun j x d' hx hd=>?_⟩,hc.mono (fun k _ hk=>?_),key⟩
 ·rcases hv with hv | hv
  ·rw [hv] at hk;exact (h3 k hk).1 (p2 k e)
  ·rw [hv] at hk;have:=Option.some.inj hk;have:=(h.b.g.low (p2 k e)).2;omega
 ·rw [List.getElem?_append] at hx hd
  by_cases hj:j < X.length
  ·rw [if_pos hj] at hx
   rw [if_pos (by omega)] at hd
   exact hel (h5 j x d' hx hd)
  ·rw [if_neg hj] at hx
   rw [if_neg (by omega)] at hd
   have hj0:j - X.length=0:=by
    have:=(List.getElem?_eq_some_iff.1 hx).1
    simp at this;omega
   rw [hj0] at hx
   rw [show j - acc.length=0 by omega] at hd
   simp at hx hd
   subst hx hd
   exact hel hy
 ·rcases hk with hk | hk
  ·exact .inr (.inr ⟨v,h1,hk⟩)
  ·exact .inr (.inl hk)
theorem rowSet {w:World} {h j:Nat} {C:List Int} {x:Int} (hR:I.Row w h C) (hj:j < C.length) (hx:I.Byte x):I.Row (w.setCell ⟨h,j,none⟩ (.int .i64 x)) h (C.set j x) :=
 ⟨fun k a hk=>by
  by_cases e:k=j
  ·subst e
   rw [List.getElem?_set_self hj] at hk
   obtain rfl:=Option.some.inj hk
   exact World.cell?_setCell_same _ _ _ (hR.c k _ (List.getElem?_eq_getElem hj))
  ·rw [List.getElem?_set_ne (Ne.symm e)] at hk
   rw [World.cell?_setCell_other _ _ _ _ (by intro h;injection h with _ h;exact e h.symm)]
   exact hR.c k a hk,fun k=>(World.frozen?_setCell _ _ _ _).trans (hR.z k),Nat.lt_of_lt_of_le hR.lt (setCellChg _ _ _ _).size,fun a ha=>by
  rcases List.mem_or_eq_of_mem_set ha with h | h
  ·exact hR.byte a h
  ·rw [h];exact hx⟩
theorem lookRow_len (tk:Nat) (es:List (Int × Int)):(lookRow tk es).length=tk+1:=by
 have:∀ (es:List (Int × Int)) (L:List Int),(es.foldl (fun l e=>l.set (e.1+1).toNat e.2) L).length=L.length:=by
  intro es
  induction es with
  | nil=>intro L;rfl
  | cons e es ih=>intro L;rw [List.foldl_cons,ih,List.length_set]
 unfold lookRow
 rw [this,List.length_replicate]
theorem lookRow_take (tk:Nat) {es:List (Int × Int)} {k:Nat} {e:Int × Int} (h:es[k]?=some e):lookRow tk (es.take (k+1))=(lookRow tk (es.take k)).set (e.1+1).toNat e.2:=by
 unfold lookRow
 rw [List.take_add_one,h,List.foldl_append]
 rfl
end Go.Proofs.YtgnpmceimpjheaaGreat
namespace Go.Proofs.YtgnpmceimpjheaaGreat
open Go.RowKit
structure OkL (tk:Nat) (d:LsD):Prop where
 k:0≤d.1∧d.1≤255
 a:d.2.1.length≤1000000000∧∀ z∈d.2.1,U32 z
 el:d.2.2.length≤1000000000
 e:∀ e∈d.2.2,-1≤e.1∧e.1 < tk∧I.Byte e.2
def ptL (d:LsD):List Int:=ptLs (d.1,d.2.1)
set_option maxRecDepth 100000 in
set_option maxHeartbeats 4000000 in
theorem plook1_any {pg B bx bt bl tk:Nat} {Z:List Int} {acc:List LsD} (y:Int × Sl × Sl) (d:LsD) (w:World) (h:PSk pg B bx bt bl tk w acc Z) (hr:lsR w (· < B) y d) (hok:OkL tk d) (htk:tk≤900) (hac:acc.length≤1000000000) (hl:(Z++ptL d).length≤1000000000) :
  Calls Tryz.prog 71 #[lsVal y,.pointer (some ⟨bx,0,none⟩),.pointer (some ⟨bt,0,none⟩),.pointer (some ⟨bl,0,none⟩)] w (WPost (Ck pg bl) (PSk pg B bx bt bl tk) w (acc++[d]) (Z++ptL d)):=by
 obtain ⟨k,al,es⟩:=d
 obtain ⟨yk,⟨aa,an,ac⟩,⟨ea,en,ec⟩⟩:=y
 obtain ⟨r1,r2,r3,r4⟩:=hr
 simp only at r1 r2 r3 r4
 subst r1
 obtain ⟨rfl,-⟩:=r3.len
 obtain ⟨rfl,-⟩:=r4.len
 obtain ⟨o1,⟨o2,o3⟩,o4,o5⟩:=hok
 simp only at o1 o2 o3 o4 o5
 have HL:Hid (Z.length≤1000000000∧((Z++ptInt yk)++ptList ptInt al).length≤1000000000):=jh (by
  simp only [ptL,ptLs,List.length_append] at hl ⊢;omega)
 obtain ⟨w0,hw0⟩:∃ W,W=w.alloc (.cells #[.int .u8 yk,.slice aa al.length ac,.slice ea es.length ec] 67):=⟨_,rfl⟩
 have hC0:Chg (fun _=>False) w w0:=by rw [hw0];exact (Chg.refl _ _).alloc _
 have HS:=jh h
 have HP0:Hid (Puts pg B w w0 Z):=jh (h.b.g.fresh hC0)
 have hn:¬ Cp pg w0 w.heap.size:=h.b.g.newF hC0 (Nat.le_refl _)
 have HK:Hid (∀ W Z',Puts pg B w0 W Z'→W.cell? ⟨bx,0,none⟩=some (.pointer (some ⟨pg,0,none⟩))∧W.cell? ⟨bt,0,none⟩=some (.int .i64 tk)∧W.cell? ⟨w.heap.size,0,none⟩=some (.int .u8 yk)∧W.cell? ⟨w.heap.size,1,none⟩=some (.slice aa al.length ac)∧W.cell? ⟨w.heap.size,2,none⟩=some (.slice ea es.length ec)):=jh (fun W Z' hp=>by
  have h1:=HP0.out.trans hp
  exact ⟨h1.keep h.b.n h.b.c,h1.keep (fun e=>h.nt (.inl e)) h.t,hp.keep hn (by rw [hw0,World.cell?_alloc_new];rfl),hp.keep hn (by rw [hw0,World.cell?_alloc_new];rfl),hp.keep hn (by rw [hw0,World.cell?_alloc_new];rfl)⟩)
 have HES:Hid (∀ W Z',Puts pg B w0 W Z'→intE.InS W (· < B) (aa,al.length,ac) al∧ledgeE.InS W (· < B) (ea,es.length,ec) es):=jh (fun W Z' hp=>by
  have hc:=(HP0.out.trans hp).below h.b.g
  exact ⟨r3.chg hc (fun g hg e=>by omega),r4.chg hc (fun g hg e=>by omega)⟩)
 have hmf:∀ (fn:Fn) (first cap:Array Value) (w:World),(Instr.makeFunc fn first cap).run Tryz.prog w=.ok (.func fn first cap) w:=fun _ _ _ _=>rfl
 have hwk:IntKind.i64.wrap yk=yk:=by rw [IntKind.wrap_i64];omega
 have HO1:Hid (U32 yk):=jh ⟨by omega,by omega⟩
 have HO3:=jh o3
 have HO5:=jh o5
 have HAC:=jh hac
 clear h hn hl r2 r3 r4 o3 o5 hC0 hac
 show Calls Tryz.prog 71 #[.agg #[.int .u8 yk,.slice aa al.length ac,.slice ea es.length ec],.pointer (some ⟨bx,0,none⟩),.pointer (some ⟨bt,0,none⟩),.pointer (some ⟨bl,0,none⟩)] w _
 go_enter Tryz.func71,Tryz.ntmps71
 go_upto_region 1 with (fail)
 rw [← hw0]
 clear hw0
 obtain ⟨q0,q1,q2,q3,q4⟩:=HK.out w0 Z HP0.out.st.refl
 go_wp2_with fail
 refine (pnum_any yk w0 HP0.out.st HO1.out HL.out.1).mono ?_
 rintro e1 w1 ⟨rfl,hp1⟩
 have HP1:=jh hp1
 clear hp1 q0 q1 q2 q3 q4
 obtain ⟨q0,q1,q2,q3,q4⟩:=HK.out w1 _ HP1.out
 go_wp2_with fail
 refine (pints_any al aa ac w1 HP1.out.st (HES.out w1 _ HP1.out).1 HO3.out o2 HL.out.2).mono ?_
 rintro e2 w2 ⟨rfl,hp2⟩
 have HP2:=jh (HP1.out.trans hp2)
 clear hp2 q0 q1 q2 q3 q4
 obtain ⟨q0,q1,q2,q3,q4⟩:=HK.out w2 _ HP2.out
 have HPT:=jh (HP0.out.trans HP2.out)
 have HS2:Hid (PSk pg B bx bt bl tk w2 acc ((Z++ptInt yk)++ptList ptInt al)∧∀ k,Ck pg bl w2 k→Ck pg bl w k∨w.heap.size≤k):=jh ((sideK pg B bx bt bl tk).move HS.out HPT.out)
 have wt1:wrap64 ((tk:Int)+1)=((tk+1:Nat):Int):=by unfold wrap64;omega
 obtain ⟨w2a,hw2a⟩:∃ W,W=w2.alloc (.cells #[.int .i64 (-1)] 3):=⟨_,rfl⟩
 have HC2a:Hid (Chg (fun _=>False) w2 w2a):=jh (by rw [hw2a];exact (Chg.refl _ _).alloc _)
 have hx2:w2a.cell? ⟨w2.heap.size,0,none⟩=some (.int .i64 (-1)):=by rw [hw2a];exact allocNew _ _ rfl
 have HRP:=jh (repeat_any (tk+1) (by omega) (by omega) w2.heap.size w2a hx2)
 have q1a:=allocOld (.cells #[.int .i64 (-1)] 3) q1
 go_wp2_with fail
 rw [← hw2a]
 clear hw2a hx2 q0 q1 q2 q3 q4 q1a
 refine HRP.out.mono ?_
 rintro e3 w3 ⟨h,rfl,hh,hr3,hc3⟩
 have HH:Hid (w2.heap.size≤h):=jh (Nat.le_trans HC2a.out.size hh)
 have HR3:=jh hr3
 have HC3:=jh (HC2a.out.trans hc3)
 clear hh hr3 hc3 HRP
 obtain ⟨-,-,-,-,q4⟩:=HK.out w3 _ (HP2.out.trans (HP2.out.st.fresh HC3.out))
 go_upto_region 5 with (fail)
 clear q4
 go_loopw [26] (fun q wr=>∃ k:Nat,k≤es.length∧q=.int .i64 k∧I.Row wr h (lookRow tk (es.take k))∧Chg (·=h) w3 wr) (fun q _=>es.length - (intOf q).toNat)
 case atStart=>exact ⟨0,by omega,rfl,HR3.out,Chg.refl _ _⟩
 case round =>
  clear HR3
  obtain ⟨j,hj,rfl,hR,hc⟩:=hrel
  have HR:=jh hR
  have HC:=jh hc
  clear hR hc
  have HC2:Hid (Chg (fun _=>False) w2 wr):=jh (HC3.out.trans2 HC.out (fun g hg e=>by have:=HH.out;omega))
  by_cases hjl:j < es.length
  ·have b9:decide ((j:Int) < (es.length:Int))=true:=by simp;omega
   have h4:=(HES.out wr _ (HP2.out.trans (HP2.out.st.fresh HC2.out))).2
   obtain ⟨⟨tok,tt⟩,d',g,o,hx,hrx,rfl,-,-,-,hcells⟩:=(ListR.of h4).get2 (f:=encPair) rfl hjl rfl
   obtain ⟨c0,c1⟩:=hcells _ _ rfl
   obtain rfl:(tok,tt)=d':=hrx
   have HX:=jh hx
   obtain ⟨t1,t2,t3⟩:=HO5.out _ (List.mem_of_getElem? hx)
   simp only at t1 t2 t3
   obtain ⟨u,hu⟩:=Int.eq_ofNat_of_zero_le (show 0≤tok+1 by omega)
   have hu2:u < tk+1:=by omega
   have HLL:=jh (lookRow_len tk (es.take j))
   have wt2:wrap64 (tok+1)=(u:Int):=by unfold wrap64;omega
   have b5:(u:Int) < ((tk+1:Nat):Int):=by omega
   have b6:(u:Int) < (tk:Int)+1:=by omega
   obtain ⟨w6,hw6⟩:∃ W,W=wr.alloc (.cells #[.int .i64 tok,.int .i64 tt] 149):=⟨_,rfl⟩
   have HC6:Hid (Chg (fun _=>False) wr w6):=jh (by rw [hw6];exact (Chg.refl _ _).alloc _)
   have f0:w6.cell? ⟨wr.heap.size,0,none⟩=some (.int .i64 tok):=by rw [hw6,World.cell?_alloc_new];rfl
   have f1:w6.cell? ⟨wr.heap.size,1,none⟩=some (.int .i64 tt):=by rw [hw6,World.cell?_alloc_new];rfl
   have hR6:I.Row w6 h (lookRow tk (es.take j)):=HR.out.chg HC6.out (fun h=>h)
   have f2:w6.cell? ⟨h,u,none⟩=some (.int .i64 ((lookRow tk (es.take j)).getD u 0)):=by
    have:=hR6.c u ((lookRow tk (es.take j)).getD u 0) (by rw [List.getD_eq_getElem?_getD,List.getElem?_eq_getElem (by rw [HLL.out];exact hu2)];rfl)
    exact this
   have f3:=hR6.z u
   have HR7:Hid (I.Row (w6.setCell ⟨h,u,none⟩ (.int .i64 tt)) h (lookRow tk (es.take (j+1)))):=jh (by
    rw [lookRow_take tk HX.out]
    have:=rowSet hR6 (j:=u) (x:=tt) (by rw [HLL.out];exact hu2) t3
    simp only
    rw [show (tok+1).toNat=u by omega]
    exact this)
   have HC7:Hid (Chg (·=h) w3 (w6.setCell ⟨h,u,none⟩ (.int .i64 tt))):=jh ((HC.out.trans HC6.out.any).trans (setCellChg _ _ _ _))
   clear hx hcells h4 t1 t2 t3 hu hR6
   go_upto_region 7 with (fail)
   rw [← hw6]
   clear hw6 c0 c1
   go_wp2
   go_roundw
   case rel=>exact ⟨j+1,by omega,by go_num,HR7.out,HC7.out⟩
   case measure=>simp [intOf];omega
  ·obtain rfl:j=es.length:=by omega
   have b9:decide ((es.length:Int) < (es.length:Int))=false:=by simp
   have HRF:Hid (I.Row wr h (lookRow tk es)):=jh (by
    have:=HR.out
    rwa [List.take_of_length_le (Nat.le_refl _)] at this)
   obtain ⟨hk1,hk2⟩:=PSk.fresh HS2.out.1 HC2.out
   obtain ⟨v,X,x1,x2,x3,x4,x5⟩:=hk1.ex
   have HKR:=jh hk1
   have HX2:=jh x2
   have HX1:=jh x1
   have HX3:=jh x3
   have HX4:=jh x4
   have HX5:=jh x5
   have hny:¬ Ck pg bl wr h:=hk2 h HH.out
   have HY:Hid (intE.InS wr (fun k=>¬ Ck pg bl wr k) (some ⟨h,0,none⟩,tk+1,tk+1) (lookRow tk es)):=jh ⟨(lookRow_len tk es).symm,Nat.le_refl _,h,0,(intRow.2 HRF.out).at' (List.prefix_refl _),fun _=>⟨rfl,hny⟩⟩
   obtain ⟨va,vl,vc,hv⟩:=x2.shape3
   subst hv
   obtain ⟨wa,hwa⟩:∃ W,W=wr.alloc (.cells #[.slice (some ⟨h,0,none⟩) (tk+1) (tk+1)] 25):=⟨_,rfl⟩
   have HCA:Hid (Chg (fun _=>False) wr wa):=jh (by rw [hwa];exact (Chg.refl _ _).alloc _)
   have HWA:=jh hwa
   have HBW:Hid (B≤wr.heap.size):=jh (by have:=hk1.b.g.lt;have:=hk1.b.g.le;omega)
   have HXL:Hid (X.length≤1000000000):=jh (by rw [x4];exact HAC.out)
   clear hk1 hk2 x2 x3 x4 x5 hny hwa
   go_wp2_with (at_builtin;go_loud (refine Elt.wpList_append2 listE rfl _ _ 26 26 rfl rfl B (.slice va vl vc) X [(some ⟨h,0,none⟩,tk+1,tk+1)] (.slice (some ⟨wr.heap.size,0,none⟩) 1 1) rfl rfl (HX2.out.chg ((Chg.refl (fun _=>False) _).alloc _) (fun _ _ _ h=>h)) (by have:=HBW.out;simp;omega) (Elt.srcLit listE (w:=wr) (Y:=[(some ⟨h,0,none⟩,tk+1,tk+1)]) (e:=25) 1 (fun _ _=>trivial)) (fun _ _=>trivial) (by have:=HXL.out;simp;omega) ?_;intro v' wb HO1 HC4 HB1;obtain ⟨va',vl',vc',hv'⟩:=HO1.out.shape3;subst hv';obtain ⟨⟨k1,k2⟩,hf1⟩:=PSk.push (d:=(yk,al,es)) HKR.out HX1.out HX3.out HX4.out HX5.out HY.out ((Chg.refl (fun _=>False) wr).alloc _) HO1.out HB1.out.1 HB1.out.2;have HFF:=jh hf1;clear hf1))
   go_wp2
   go_end0
   have HPR:=HPT.out.trans (HP2.out.st.fresh HC2.out)
   have h1:=WPost.puts (sideK pg B bx bt bl tk) HS.out HPR
   have h2:=h1.trans HFF.out
   rw [List.append_assoc] at h2
   exact h2
end Go.Proofs.YtgnpmceimpjheaaGreat
namespace Go.Proofs.YtgnpmceimpjheaaGreat
open Go.RowKit
theorem writes_look {pg B bx bt bl tk:Nat} (htk:tk≤900):Writes 71 #[] #[.pointer (some ⟨bx,0,none⟩),.pointer (some ⟨bt,0,none⟩),.pointer (some ⟨bl,0,none⟩)] ptL (OkL tk) lsE lsVal lsR B (Ck pg bl) (PSk pg B bx bt bl tk):=by
 intro w acc Z x d h ha hx hr hok hl
 show Calls Tryz.prog 71 #[lsVal x,.pointer (some ⟨bx,0,none⟩),.pointer (some ⟨bt,0,none⟩),.pointer (some ⟨bl,0,none⟩)] w _
 exact plook1_any x d w h hr hok htk ha hl
theorem ptLook_eq (tk:Nat) (A:List LsD):ptLook tk A=ptList ptL A++ptTable ((tk+1:Nat):Int) (A.map (fun s=>lookRow tk s.2.2)):=by
 unfold ptLook ptList
 rw [List.length_map,List.flatMap_map]
 rfl
set_option maxRecDepth 100000 in
set_option maxHeartbeats 4000000 in
theorem plook_any {pg B:Nat} {Z:List Int} (A:List LsD) (a:Option Addr) (c tk:Nat) (w:World) (h:PSt pg B w Z) (hA:ListR lsE lsR w (· < B) (a,A.length,c) A) (hok:∀ d∈A,OkL tk d) (htk:tk≤64) (han:A.length≤4096) (hmk:makeOk ((tk:Int)+1) (A.map (fun s=>lookRow tk s.2.2))=true) (hl:(Z++ptLook tk A).length≤1000000000) :
  Calls Tryz.prog 30 #[.pointer (some ⟨pg,0,none⟩),.agg #[.slice a A.length c],.int .i64 tk] w fun e' w'=>e'=.returned (.tuple #[])∧Puts pg B w w' (Z++ptLook tk A):=by
 rw [ptLook_eq] at hl ⊢
 obtain ⟨LL,hLL⟩:∃ x,A.map (fun s=>lookRow tk s.2.2)=x:=⟨_,rfl⟩
 have HLL:=jh hLL
 have hLn:LL.length=A.length:=by rw [← hLL];simp
 have HLN:=jh hLn
 rw [hLL] at hl hmk ⊢
 clear hLL hLn
 have HL:Hid ((Z++ptList ptL A).length≤1000000000∧((Z++ptList ptL A)++ptTable ((tk+1:Nat):Int) LL).length≤1000000000):=jh (by
  simp only [List.length_append] at hl ⊢;omega)
 obtain ⟨w0,hw0⟩:∃ W,W=(((w.alloc (.cells #[.pointer (some ⟨pg,0,none⟩)] 81)).alloc (.cells #[.slice a A.length c] 63)).alloc (.cells #[.int .i64 tk] 3)).alloc (.cells #[.slice none 0 0] 26):=⟨_,rfl⟩
 have hC0:Chg (fun _=>False) w w0:=by rw [hw0];exact ((((Chg.refl _ w).alloc _).alloc _).alloc _).alloc _
 have HP0:Hid (Puts pg B w w0 Z):=jh (h.fresh hC0)
 have c0:w0.cell? ⟨w.heap.size,0,none⟩=some (.pointer (some ⟨pg,0,none⟩)):=by rw [hw0];exact allocOld _ (allocOld _ (allocOld _ (allocNew _ _ rfl)))
 have c1:w0.cell? ⟨w.heap.size+1,0,none⟩=some (.slice a A.length c):=by rw [hw0];exact allocOld _ (allocOld _ (allocNew _ _ (by simp)))
 have c2:w0.cell? ⟨w.heap.size+1+1,0,none⟩=some (.int .i64 tk):=by rw [hw0];exact allocOld _ (allocNew _ _ (by simp))
 have c3:w0.cell? ⟨w.heap.size+1+1+1,0,none⟩=some (.slice none 0 0):=by rw [hw0];exact allocNew _ _ (by simp)
 have z3:w0.frozen? ⟨w.heap.size+1+1+1,0,none⟩=false:=by
  have e:w.heap.size+1+1+1=(((w.alloc (.cells #[.pointer (some ⟨pg,0,none⟩)] 81)).alloc (.cells #[.slice a A.length c] 63)).alloc (.cells #[.int .i64 tk] 3)).heap.size:=by simp
  rw [hw0,e]
  exact World.frozen?_alloc_new _ _ _ _
 obtain ⟨bl,hbl⟩:∃ b,b=w.heap.size+1+1+1:=⟨_,rfl⟩
 rw [← hbl] at c3 z3
 obtain ⟨bt,hbt⟩:∃ b,b=w.heap.size+1+1:=⟨_,rfl⟩
 rw [← hbt] at c2
 obtain ⟨ba,hba⟩:∃ b,b=w.heap.size+1:=⟨_,rfl⟩
 rw [← hba] at c1
 obtain ⟨bx,hbx⟩:∃ b,b=w.heap.size:=⟨_,rfl⟩
 rw [← hbx] at c0
 have hnp:∀ k,w.heap.size≤k→¬ Cp pg w0 k:=fun k hk=>h.newF hC0 hk
 have hnk:∀ k,w.heap.size≤k→k≠bl→¬ Ck pg bl w0 k:=fun k hk hkl e=>by
  rcases e with e | e | ⟨u,hu,e⟩
  ·exact hnp k hk e
  ·exact hkl e
  ·rw [c3] at hu
   obtain rfl:=Option.some.inj hu
   cases e
 have HB:Hid (bx=w.heap.size∧ba=w.heap.size+1∧bt=w.heap.size+2∧bl=w.heap.size+3∧B≤w.heap.size):=jh ⟨hbx,hba,by omega,by omega,by have:=h.lt;have:=h.le;omega⟩
 have HS0:Hid (PSk pg B bx bt bl tk w0 [] Z):=jh ⟨⟨HP0.out.st,c0,hnp _ (by omega)⟩,c2,hnk _ (by omega) (by omega),hnk _ (by omega) (by omega),hnp _ (by omega),by have:=HB.out;omega,z3,.slice none 0 0,[],c3,.nil _ _,(fun k hk=>by cases hk),rfl,fun j x d hx=>by simp at hx⟩
 have HNA:Hid (¬ Ck pg bl w0 ba):=jh (hnk _ (by omega) (by omega))
 have HN3:Hid (∀ v,w0.cell? ⟨bl,0,none⟩=some v→v=.slice none 0 0):=jh (fun v hv=>by rw [c3] at hv;exact (Option.some.inj hv).symm)
 have HC0:=jh hC0
 have HPS:=jh h
 have HA0:=jh ((ListR.good lsR.good).chg hA hC0 (fun _ _ h=>h))
 have HOK:=jh hok
 have HMK:=jh hmk
 have hmf:∀ (fn:Fn) (first cap:Array Value) (w:World),(Instr.makeFunc fn first cap).run Tryz.prog w=.ok (.func fn first cap) w:=fun _ _ _ _=>rfl
 have eg:=enters_of Tryz.func71 (by kernel_rfl) rfl
 have wt1:wrap64 ((tk:Int)+1)=((tk+1:Nat):Int):=by unfold wrap64;omega
 have HPUT:=jh (putLs lsR.good (sideK pg B bx bt bl tk) 71 #[] #[.pointer (some ⟨bx,0,none⟩),.pointer (some ⟨bt,0,none⟩),.pointer (some ⟨bl,0,none⟩)] ptL (OkL tk) eg (writes_look (by omega)) A a c w0 Z HS0.out HA0.out hok (by omega) HL.out.1)
 have d1:=HS0.out.b.c
 have d2:=c1
 clear h hA hok hmk hl hC0 c1 c3 z3 hnp hnk c0 c2
 go_enter Tryz.func30,Tryz.ntmps30
 go_upto_region 2 with (fail)
 rw [← hw0,← hbl,← hbt,← hba,← hbx]
 clear hw0 hbl hbt hba hbx
 go_wp2_with fail
 refine HPUT.out.mono ?_
 rintro e1 w1 ⟨rfl,hs1,hc1,hn1⟩
 have HS1:=jh hs1
 have HC1:=jh hc1
 have HN1:=jh hn1
 clear hc1 hn1 HPUT d1 d2
 obtain ⟨v,X,x1,x2,-,x4,x5⟩:=hs1.ex
 obtain ⟨va,vc,rfl⟩:=x2.shape
 have HLI:Hid (ListsIn w1 0 (va,LL.length,vc) LL):=jh (by
  obtain ⟨a',g,c',e1,e2,e3,e4⟩:=x2.at'
  injection e1 with e1 e5 e6
  subst e1 e6
  have hn:=HLN.out
  refine ⟨X,⟨by show LL.length=X.length;omega,by show LL.length≤vc;omega,g,0,e3,fun hp=>⟨(e4 hp).1,Nat.zero_le _⟩⟩,by omega,fun j x l hx hl=>?_⟩
  rw [← HLL.out,List.getElem?_map] at hl
  obtain ⟨d,hd,rfl⟩:=Option.map_eq_some_iff.1 hl
  exact Elt.InS.in' (x5 j x d hx hd) (fun _ _=>Nat.zero_le _))
 have HPT:Hid (Puts pg B w w1 (Z++ptList ptL A)):=jh (by
  have hw0l:=HC0.out.size
  have hcp:=HPS.out.chg HC0.out (fun _ h=>h.elim)
  have hcell:=HN3.out
  have hck:∀ k,Ck pg bl w0 k→Cp pg w0 k∨k=bl:=fun k hk=>by
   rcases hk with hk | hk | ⟨u,hu,hk⟩
   ·exact .inl hk
   ·exact .inr hk
   ·rw [hcell u hu] at hk;cases hk
  refine ⟨hs1.b.g,(HC0.out.any (S:=Cp pg w)).trans2 HC1.out (fun k hk e=>?_),fun k hk=>?_⟩
  ·rcases hck k e with e | e
   ·exact hcp.2 k e
   ·have:=HB.out;omega
  ·rcases HN1.out k (.inl hk) with e | e
   ·rcases hck k e with e | e
    ·exact .inl (hcp.2 k e)
    ·exact .inr (by have:=HB.out;omega)
   ·exact .inr (by omega))
 have d1:=hs1.b.c
 have d2:=hs1.t
 have hXL:X.length=LL.length:=by rw [HLN.out];exact x4
 have HTB:=jh (ptable_any (tk+1) LL va vc w1 HPT.out.st HLI.out (by omega) (by have:=HLN.out;omega) (by rw [show ((tk+1:Nat):Int)=(tk:Int)+1 by omega];exact HMK.out) (by
  rw [HLN.out]
  have:=Nat.mul_le_mul han (show tk+1≤65 by omega)
  omega) HL.out.2)
 have d3:=x1
 rw [hXL] at d3
 clear hXL x1 x2 x4 x5 hs1 HLI
 go_wp2_with fail
 refine HTB.out.mono ?_
 rintro e2 w2 ⟨rfl,hp2⟩
 have HF:=jh (HPT.out.trans hp2)
 clear hp2 d1 d2 d3 HTB
 go_wp2
 go_end0
 refine ⟨rfl,?_⟩
 have:=HF.out
 rw [List.append_assoc] at this
 exact this
end Go.Proofs.YtgnpmceimpjheaaGreat
namespace Go.Proofs.YtgnpmceimpjheaaGreat
open Go.RowKit
theorem idxV_has {r:RowD} {R:List RowD} (h:r∈R):∃ j:Nat,idxV (rowEq r) R=j∧R[j]?=some r:=by
 have h1:R.findIdx (rowEq r) < R.length:=by
  rw [List.findIdx_lt_length]
  exact ⟨r,h,by simp [rowEq]⟩
 refine ⟨R.findIdx (rowEq r),by unfold idxV;rw [if_pos h1],?_⟩
 have h2:=List.findIdx_getElem (w:=h1)
 rw [List.getElem?_eq_getElem h1]
 simp only [rowEq,decide_eq_true_eq] at h2
 rw [← h2]
theorem makeL_tells (LL:List (List Int)):∀ (i:Nat) (L:List Int),LL[i]?=some L→∃ j:Nat,(makeL LL).2[i]?=some (j:Int)∧(makeL LL).1[j]?=some (rowL L):=by
 have key:∀ (n:Nat),n≤LL.length→∀ (i:Nat) (L:List Int),i < n→LL[i]?=some L→∃ j:Nat,(makeL (LL.take n)).2[i]?=some (j:Int)∧(makeL (LL.take n)).1[j]?=some (rowL L):=by
  intro n
  induction n with
  | zero=>intro _ i L h;omega
  | succ n ih =>
   intro hn i L hi hL
   have hl:LL[n]?=some LL[n]:=List.getElem?_eq_getElem (by omega)
   have e:LL.take (n+1)=LL.take n++[LL[n]]:=by rw [List.take_add_one,hl];rfl
   have hlen:=(makeL_len (LL.take n)).2
   rw [List.length_take] at hlen
   rw [e,makeL_snoc]
   generalize makeL (LL.take n)=t at *
   obtain ⟨R,O⟩:=t
   simp only at hlen ih
   unfold addL
   by_cases hin:i < n
   ·obtain ⟨j,h1,h2⟩:=ih (by omega) i L hin hL
    have h3:=(List.getElem?_eq_some_iff.1 h1).1
    have h4:=(List.getElem?_eq_some_iff.1 h2).1
    refine ⟨j,?_⟩
    split
    ·exact ⟨by rw [List.getElem?_append_left h3];exact h1,h2⟩
    ·exact ⟨by rw [List.getElem?_append_left h3];exact h1,by rw [List.getElem?_append_left h4];exact h2⟩
   ·obtain rfl:i=n:=by omega
    rw [hl] at hL
    obtain rfl:=Option.some.inj hL
    split
    ·rename_i hh
     obtain ⟨j,h1,h2⟩:=idxV_has (hasRow_iff.1 hh)
     refine ⟨j,?_,h2⟩
     show (O++[idxV (rowEq (rowL LL[i])) R])[i]?=_
     rw [h1,List.getElem?_append_right (by omega),show i - O.length=0 by omega]
     rfl
    ·refine ⟨R.length,?_,?_⟩
     ·show (O++[(R.length:Int)])[i]?=_
      rw [List.getElem?_append_right (by omega),show i - O.length=0 by omega]
      rfl
     ·show (R++[rowL LL[i]])[R.length]?=_
      simp
 intro i L hL
 have:=key LL.length (Nat.le_refl _) i L (List.getElem?_eq_some_iff.1 hL).1 hL
 rwa [List.take_length] at this
theorem makeL_at {W:Int} {LL:List (List Int)} {i k:Nat} {L:List Int} {n:Int} (hL:LL[i]?=some L) (hn:L[k]?=some n) (hk:(k:Int) < W):atTab (W,(makeL LL).1,(makeL LL).2) i k=n:=by
 obtain ⟨j,h1,h2⟩:=makeL_tells LL i L hL
 have h3:=(List.getElem?_eq_some_iff.1 h1).1
 have h4:=(List.getElem?_eq_some_iff.1 h2).1
 unfold atTab
 simp only
 rw [if_neg (by omega),Int.toNat_natCast,h1]
 simp only
 rw [if_neg (by omega),Int.toNat_natCast,h2]
 exact atRow_rowL L k n hn
end Go.Proofs.YtgnpmceimpjheaaGreat
namespace Go.Proofs.YtgnpmceimpjheaaGreat
open Go.RowKit
theorem listsT_make {W:Nat} {LL:List (List Int)} (h:∀ l∈LL,l.length=W):listsT ((W:Int),(makeL LL).1,(makeL LL).2)=LL:=by
 refine List.ext_getElem (by simp [listsT,(makeL_len LL).2]) (fun i h1 h2=>?_)
 simp only [listsT,List.getElem_map,List.getElem_range,Int.toNat_natCast]
 have hl:=h _ (List.getElem_mem h2)
 refine List.ext_getElem (by simp [hl]) (fun k k1 k2=>?_)
 simp only [List.getElem_map,List.getElem_range]
 exact makeL_at (List.getElem?_eq_getElem h2) (List.getElem?_eq_getElem k2) (by rw [hl] at k2;omega)
end Go.Proofs.YtgnpmceimpjheaaGreat
namespace Go.Proofs.YtgnpmceimpjheaaGreat
open Go.RowKit
theorem textG_some {b r:List Int} {s:Str} (h:textG b=some (s,r)):∃ n b1,numG 64 b=some (n,b1)∧n≤b1.length∧s=strOfNums (b1.take n.toNat)∧r=b1.drop n.toNat:=by
 unfold textG at h
 split at h
 ·cases h
 ·rename_i n b1 h1
  split at h
  ·rename_i h2
   injection h with h
   injection h with e1 e2
   exact ⟨n,b1,h1,h2,e1.symm,e2.symm⟩
  ·cases h
theorem numG_le {m:Nat} {b r:List Int} {x:Int} (h:numG m b=some (x,r)):∃ n:Nat,x=n∧n≤m:=by
 obtain ⟨n,k,_,h1,h2,_⟩:=numG_some h
 exact ⟨n,h1,h2⟩
theorem textG_size {b r:List Int} {s:Str} (h:textG b=some (s,r)):s.size≤64:=by
 obtain ⟨n,b1,h1,h2,rfl,_⟩:=textG_some h
 obtain ⟨k,rfl,hk⟩:=numG_le h1
 show (strOfNums _).data.size≤64
 simp only [strOfNums,List.size_toArray,List.length_map,List.length_take]
 omega
theorem repG_all {α:Type} {one:Rdr α} {P:α→Prop} (hP:∀ b x r,one b=some (x,r)→P x):∀ (k:Nat) (acc L:List α) (b r:List Int),repG one k acc b=some (L,r)→(∀ x∈acc,P x)→∀ x∈L,P x
 | 0,acc,L,b,r,h,ha=>by
  simp only [repG] at h
  injection h with h
  injection h with h1 _
  rw [← h1];exact ha
 | k+1,acc,L,b,r,h,ha=>by
  unfold repG at h
  split at h
  ·cases h
  ·rename_i x r1 h1
   exact repG_all hP k _ L r1 r h (fun y hy=>by
    rcases List.mem_append.1 hy with hy | hy
    ·exact ha y hy
    ·rw [List.mem_singleton.1 hy];exact hP _ _ _ h1)
theorem listG_some {α:Type} {one:Rdr α} {b r:List Int} {L:List α} (h:listG one b=some (L,r)):∃ (n:Nat) (b1:List Int),anyG b=some ((n:Int),b1)∧n≤16777215∧repG one n [] b1=some (L,r)∧L.length=n:=by
 unfold listG at h
 split at h
 ·cases h
 ·rename_i x b1 h1
  obtain ⟨n,rfl,hn⟩:=numG_le h1
  have h2:=repG_length h
  exact ⟨n,b1,h1,hn,h,by rw [h2];simp⟩
theorem listG_len {α:Type} {one:Rdr α} {b r:List Int} {L:List α} (h:listG one b=some (L,r)):L.length≤16777215:=by
 obtain ⟨n,_,_,h2,_,h3⟩:=listG_some h
 omega
theorem listG_all {α:Type} {one:Rdr α} {P:α→Prop} (hP:∀ b x r,one b=some (x,r)→P x) {b r:List Int} {L:List α} (h:listG one b=some (L,r)):∀ x∈L,P x:=by
 obtain ⟨n,b1,_,_,h2,_⟩:=listG_some h
 exact repG_all hP n [] L b1 r h2 (fun x hx=>by cases hx)
theorem tableG_some {b r:List Int} {ls:List (List Int)} {w:Int} (h:tableG b=some ((ls,w),r)):∃ (m sz:Nat) (R:List RowD) (O:List Int),takeOk b mostP=true∧takeP b mostP=(((m:Int),R,O),sz,false)∧mayL ((m:Int),R,O)=true∧m≤65536∧O.length≤65536∧sz≤b.length∧(O.length:Int) * (m:Int)≤4194304∧ls=listsT ((m:Int),R,O)∧w=m∧r=b.drop sz:=by
 unfold tableG at h
 split at h
 ·rename_i hk
  obtain ⟨m,sz,R,O,h1,h2,h3,h4,h5⟩:=takeOk_spec hk
  rw [h1] at h
  simp only at h
  split at h
  ·rename_i h6
   injection h with h
   injection h with e1 e2
   injection e1 with e1 e3
   exact ⟨m,sz,R,O,hk,h1,h2,h3,h4,h5,h6,e1.symm,e3.symm,e2.symm⟩
  ·cases h
 ·cases h
theorem tableG_len {b r:List Int} {ls:List (List Int)} {w:Int} (h:tableG b=some ((ls,w),r)):ls.length≤65536∧∀ l∈ls,l.length≤65536:=by
 obtain ⟨m,sz,R,O,_,_,_,h1,h2,_,_,rfl,_,_⟩:=tableG_some h
 unfold listsT
 refine ⟨by simpa using h2,fun l hl=>?_⟩
 rw [List.mem_map] at hl
 obtain ⟨i,_,rfl⟩:=hl
 simpa using h1
theorem stateG_some {b r:List Int} {s:StD} (h:stateG b=some (s,r)):∃ b1 b2,anyG b=some (s.1,b1)∧listG edgeG b1=some (s.2.1,b2)∧listG anyG b2=some (s.2.2,r):=by
 unfold stateG at h
 split at h
 ·cases h
 split at h
 ·cases h
 split at h
 ·cases h
 rename_i h1 _ _ _ h2 _ _ _ h3
 injection h with h
 injection h with e1 e2
 subst e1 e2
 exact ⟨_,_,h1,h2,h3⟩
theorem lexG_some {b r:List Int} {t:LexD} (h:lexG b=some (t,r)):∃ rc b1 w b2,listG rcG b=some (rc,b1)∧tableG b1=some ((t.n,w),b2)∧w=colsL (rc.map (·.2))∧repG endG t.n.length [] b2=some (t.e,r)∧t.r=rc.map (·.1)∧t.c=rc.map (·.2):=by
 unfold lexG at h
 split at h
 ·cases h
 split at h
 ·cases h
 split at h
 ·split at h
  ·cases h
  ·rename_i h1 _ _ _ _ h2 h3 _ _ _ h4
   injection h with h
   injection h with e1 e2
   subst e1 e2
   exact ⟨_,_,_,_,h1,h2,h3,h4,rfl,rfl⟩
 ·cases h
theorem netG_some {b r:List Int} {n:NetD} (h:netG b=some (n,r)):∃ b1 b2 b3,listG stateG b=some (n.st,b1)∧listG anyG b1=some (n.s,b2)∧listG anyG b2=some (n.p,b3)∧listG anyG b3=some (n.q,r)∧n.d=decsOf n.st:=by
 unfold netG at h
 split at h
 ·cases h
 split at h
 ·cases h
 split at h
 ·cases h
 split at h
 ·cases h
 rename_i h1 _ _ _ h2 _ _ _ h3 _ _ _ h4
 injection h with h
 injection h with e1 e2
 subst e1 e2
 exact ⟨_,_,_,h1,h2,h3,h4,rfl⟩
theorem lookG_some {tk:Nat} {b r:List Int} {A:List LsD} (h:lookG tk b=some (A,r)):∃ ss b1 ls,listG lsG b=some (ss,b1)∧tableG b1=some ((ls,(tk:Int)+1),r)∧ls.length=ss.length∧A=List.zipWith (fun s l=>(s.1,s.2,edgesOf l)) ss ls:=by
 unfold lookG at h
 split at h
 ·cases h
 split at h
 ·cases h
 split at h
 ·rename_i h1 _ _ _ _ h2 h3
  injection h with h
  injection h with e1 e2
  subst e1 e2
  obtain ⟨rfl,h3⟩:=h3
  exact ⟨_,_,_,h1,h2,h3,rfl⟩
 ·cases h
theorem bodyG_some {b r:List Int} {t:TabsD} (h:bodyG b=some (t,r)):∃ b1 tk b2 b3 b4,listG textG b=some (t.rl,b1)∧listG tokG b1=some (tk,b2)∧lexG b2=some (t.lx,b3)∧netG b3=some (t.nt,b4)∧repG (lookG tk.length) t.nt.d.length [] b4=some (t.lk,r)∧t.tk=tk.map (·.1)∧t.dr=tk.map (·.2):=by
 unfold bodyG at h
 split at h
 ·cases h
 split at h
 ·cases h
 split at h
 ·cases h
 split at h
 ·cases h
 split at h
 ·cases h
 rename_i h1 _ _ _ h2 _ _ _ h3 _ _ _ h4 _ _ _ h5
 injection h with h
 injection h with e1 e2
 subst e1 e2
 exact ⟨_,_,_,_,_,h1,h2,h3,h4,h5,rfl,rfl⟩
theorem tokG_some {b r:List Int} {x:Str × Bool} (h:tokG b=some (x,r)):∃ b1 n,textG b=some (x.1,b1)∧numG 1 b1=some (n,r)∧x.2=decide (n=1):=by
 unfold tokG at h
 split at h
 ·cases h
 split at h
 ·cases h
 rename_i h1 _ _ _ h2
 injection h with h
 injection h with e1 e2
 subst e1 e2
 exact ⟨_,_,h1,h2,rfl⟩
theorem lsG_some {b r:List Int} {x:Int × List Int} (h:lsG b=some (x,r)):∃ b1,numG 3 b=some (x.1,b1)∧listG anyG b1=some (x.2,r):=by
 unfold lsG at h
 split at h
 ·cases h
 split at h
 ·cases h
 rename_i h1 _ _ _ h2
 injection h with h
 injection h with e1 e2
 subst e1 e2
 exact ⟨_,h1,h2⟩
theorem decsFrom_len:∀ (L:List StD) (k:Nat),(decsFrom k L).length≤L.length
 | [],_=>Nat.le_refl _
 | s :: L,k=>by
  have:=decsFrom_len L (k+1)
  simp only [decsFrom]
  split <;> simp <;> omega
theorem edgesFrom_len:∀ (L:List Int) (k:Int),(edgesFrom k L).length≤L.length
 | [],_=>Nat.le_refl _
 | s :: L,k=>by
  have:=edgesFrom_len L (k+1)
  simp only [edgesFrom]
  split <;> simp <;> omega
theorem fair_body {b r:List Int} {t:TabsD} (h:bodyG b=some (t,r)):FairTabs t:=by
 obtain ⟨b1,tk,b2,b3,b4,h1,h2,h3,h4,h5,e1,e2⟩:=bodyG_some h
 obtain ⟨rc,c1,w,c2,h6,h7,-,h8,e3,e4⟩:=lexG_some h3
 obtain ⟨d1,d2,d3,g1,g2,g3,g4,e5⟩:=netG_some h4
 have l1:=listG_len h1
 have l2:=listG_len h2
 have l3:=listG_len h6
 obtain ⟨l4,l5⟩:=tableG_len h7
 have l6:=repG_length h8
 have l7:=listG_len g1
 have l8:=listG_len g2
 have l9:=listG_len g3
 have l10:=listG_len g4
 have l11:=repG_length h5
 have l12:=decsFrom_len t.nt.st 0
 have l13:t.nt.d.length≤16777215:=by rw [e5];exact Nat.le_trans l12 l7
 simp only [List.length_nil,Nat.zero_add] at l6 l11
 refine ⟨by omega,by rw [e1,List.length_map];omega,by rw [e2,List.length_map];omega,fun s hs=>?_,fun s hs=>?_,⟨by rw [e3,List.length_map];omega,by rw [e4,List.length_map];omega,by omega,by omega,fun l hl=>Nat.le_trans (l5 l hl) (by decide)⟩,⟨by omega,by omega,by omega,by omega,by omega,fun s hs=>?_⟩,by omega,fun A hA=>?_⟩
 ·exact Nat.le_trans (listG_all (P:=fun s=>s.size≤64) (fun _ _ _ h=>textG_size h) h1 s hs) (by decide)
 ·rw [e1] at hs
  obtain ⟨x,hx,rfl⟩:=List.mem_map.1 hs
  exact Nat.le_trans (listG_all (P:=fun x=>x.1.size≤64) (fun _ _ _ h=>by obtain ⟨_,_,h,_⟩:=tokG_some h;exact textG_size h) h2 x hx) (by decide)
 ·refine listG_all (P:=stB) (fun b x r h=>?_) g1 s hs
  obtain ⟨_,_,_,k1,k2⟩:=stateG_some h
  exact ⟨Nat.le_trans (listG_len k1) (by decide),Nat.le_trans (listG_len k2) (by decide)⟩
 ·refine repG_all (P:=fun A=>A.length≤1000000000∧∀ d∈A,lsB d) (fun b x r h=>?_) _ [] _ _ _ h5 (fun x hx=>by cases hx) A hA
  obtain ⟨ss,_,ls,k1,k2,k3,rfl⟩:=lookG_some h
  have k4:=listG_len k1
  obtain ⟨k5,k6⟩:=tableG_len k2
  refine ⟨by rw [List.length_zipWith];omega,fun d hd=>?_⟩
  obtain ⟨j,hj,rfl⟩:=List.mem_iff_getElem.1 hd
  rw [List.length_zipWith] at hj
  simp only [List.getElem_zipWith]
  refine ⟨Nat.le_trans (listG_all (P:=fun x=>x.2.length≤16777215) (fun _ _ _ h=>by obtain ⟨_,_,h⟩:=lsG_some h;exact listG_len h) k1 ss[j] (List.getElem_mem _)) (by decide),?_⟩
  exact Nat.le_trans (Nat.le_trans (edgesFrom_len _ _) (k6 ls[j] (List.getElem_mem _))) (by decide)
end Go.Proofs.YtgnpmceimpjheaaGreat
namespace Go.Proofs.YtgnpmceimpjheaaGreat
open Go.RowKit
section
variable {α:Type}
def Back (one:Rdr α) (enc:α→List Int) (ok:α→Prop):Prop:=∀ x r,ok x→one (enc x++r)=some (x,r)
def okN (m:Nat) (x:Int):Prop:=0≤x∧x≤m
theorem back_num {m:Nat} (hm:m < 4294967296):Back (numG m) ptInt (okN m):=by
 rintro x r ⟨h1,h2⟩
 obtain ⟨n,rfl⟩:=Int.eq_ofNat_of_zero_le h1
 unfold numG ptInt
 simp only [Int.toNat_natCast]
 rw [takeL_whole (by omega) r]
 simp only
 rw [if_pos (by omega),List.drop_append_of_le_length (Nat.le_refl _),List.drop_length,List.nil_append]
theorem back_rep {one:Rdr α} {enc:α→List Int} {ok:α→Prop} (h:Back one enc ok):∀ (L acc:List α) (r:List Int),(∀ x∈L,ok x)→repG one L.length acc (L.flatMap enc++r)=some (acc++L,r)
 | [],acc,r,_=>by simp [repG]
 | x :: L,acc,r,hL=>by
  simp only [List.length_cons,repG,List.flatMap_cons,List.append_assoc]
  rw [h x _ (hL x (by simp))]
  simp only
  rw [back_rep h L _ r (fun y hy=>hL y (by simp [hy]))]
  simp
def okL (ok:α→Prop) (L:List α):Prop:=L.length≤16777215∧∀ x∈L,ok x
theorem back_list {one:Rdr α} {enc:α→List Int} {ok:α→Prop} (h:Back one enc ok):Back (listG one) (ptList enc) (okL ok):=by
 rintro L r ⟨h1,h2⟩
 unfold listG ptList
 have:=back_num (m:=16777215) (by decide) (L.length:Int) (L.flatMap enc++r) ⟨by omega,by omega⟩
 simp only [ptInt,Int.toNat_natCast] at this
 rw [List.append_assoc]
 unfold anyG
 rw [this]
 simp only [Int.toNat_natCast]
 rw [back_rep h L [] r h2,List.nil_append]
end
theorem back_any:Back anyG ptInt (okN 16777215):=back_num (by decide)
def okText (s:Str):Prop:=s.size≤64
theorem back_text:Back textG ptText okText:=by
 intro s r hs
 unfold textG ptText
 have:=back_num (m:=64) (by decide) (s.size:Int) (strB s++r) ⟨by omega,by have h:s.size≤64:=hs;omega⟩
 simp only [ptInt,Int.toNat_natCast] at this
 rw [List.append_assoc,this]
 simp only [Int.toNat_natCast]
 have hl:=strB_length s
 rw [if_pos (by rw [List.length_append,hl];omega),List.take_append_of_le_length (by omega),List.take_of_length_le (by omega),strOf_strB,List.drop_append_of_le_length (by omega),List.drop_of_length_le (by omega),List.nil_append]
def okEdge (e:EdgeD):Prop:=okN 3 e.1∧okN 16777215 e.2.1∧okN 16777215 e.2.2
theorem back_edge:Back edgeG ptEdge okEdge:=by
 rintro ⟨k,x,t⟩ r ⟨h1,h2,h3⟩
 unfold edgeG ptEdge
 simp only [List.append_assoc]
 rw [back_num (by decide) k _ h1]
 simp only
 rw [back_any x _ h2]
 simp only
 rw [back_any t _ h3]
def okState (s:StD):Prop:=okN 16777215 s.1∧okL okEdge s.2.1∧okL (okN 16777215) s.2.2
theorem back_state:Back stateG ptState okState:=by
 rintro ⟨k,x,t⟩ r ⟨h1,h2,h3⟩
 unfold stateG ptState
 simp only [List.append_assoc]
 rw [back_any k _ h1]
 simp only
 rw [back_list back_edge x _ h2]
 simp only
 rw [back_list back_any t _ h3]
def okRc (x:(Int × Int) × Int):Prop:=okN 16777215 x.1.1∧okN 16777215 x.1.2∧okN 16777215 x.2
theorem back_rc:Back rcG ptRc okRc:=by
 rintro ⟨⟨k,x⟩,t⟩ r ⟨h1,h2,h3⟩
 unfold rcG ptRc
 simp only [List.append_assoc]
 rw [back_any k _ h1]
 simp only
 rw [back_any x _ h2]
 simp only
 rw [back_any t _ h3]
def okEnd (e:Int):Prop:=-1≤e∧e≤16777214
theorem back_end:Back endG ptEnd okEnd:=by
 rintro x r ⟨h1,h2⟩
 unfold endG ptEnd
 rw [back_any (x+1) _ ⟨by omega,by omega⟩]
 simp only
 rw [show x+1 - 1=x by omega]
theorem back_table {W:Nat} {LL:List (List Int)} (r:List Int) (h1:W≤65536) (hn:LL.length≤65536) (hm:makeOk W LL=true) (hc:(LL.length:Int) * W≤4194304):tableG (ptTable W LL++r)=some ((LL,(W:Int)),r):=by
 have hmay:=makeL_may (by omega) (by omega) hn hm
 have hw:∀ l∈LL,l.length=W:=fun l hl=>by
  have:=List.all_eq_true.1 hm l hl
  simp only [listOk,Bool.and_eq_true,decide_eq_true_eq] at this
  omega
 unfold tableG ptTable
 rw [if_pos (takeOk_put hmay r),take_put hmay r]
 simp only
 rw [if_pos (by rw [(makeL_len LL).2];exact hc),listsT_make hw,List.drop_append_of_le_length (Nat.le_refl _),List.drop_length,List.nil_append]
end Go.Proofs.YtgnpmceimpjheaaGreat
namespace Go.Proofs.YtgnpmceimpjheaaGreat
open Go.RowKit
def tabsG (Z:List Int):Option TabsD:=if Z.take 4=headL then match bodyG (Z.drop 4) with
 | none=>none
 | some (t,r)=>if r=[]∧mayTabs t=true then some t else none
 else none
section
variable {β δ:Type} {E:Elt β} {R:Rp β δ}
theorem LSt.store (hR:Good R) {C T:World→Nat→Prop} {St:World→List δ→List Int→Prop} {S:Nat→Prop} {w wr w':World} {v:Value} {acc:List δ} {Z:List Int} {X:List β} (h:LSt E R C T St w wr v acc Z X) (hc:Chg S wr w') (hS:∀ k,S k→C wr k) (hst:St w' acc Z)
  (hT:∀ k,T w' k→T wr k) (hC:∀ k,C w' k→C wr k) (hsub:∀ k,C wr k→T wr k):LSt E R C T St w w' v acc Z X :=
 ⟨h.own.chgB hc (fun g hg e=>h.ob g hg (hsub g (hS g e))),h.len,fun j x d hx hd=>hR.mono (hR.chg (h.rel j x d hx hd) hc (fun g hg e=>hg.2.1 (hsub g (hS g e)))) (fun g _ hg=>⟨hg.1,fun ht=>hg.2.1 (hT g ht),hg.2.2⟩),hst,
  h.chg.trans2 hc (fun g hg e=>(h.cg g (hS g e)).resolve_right (by omega)),fun k hk=>h.tg k (hT k hk),fun k hk=>h.cg k (hC k hk),fun k hk ht=>h.ob k hk (hT k ht)⟩
end
structure QSt (pg gb bx tb:Nat) (w8:World) (w:World) (Z:List Int):Prop where
 g:GetSb pg gb bx w Z
 lt:pg < tb∧gb < tb∧bx < tb∧tb < w.heap.size
 o:∀ j u,j < 12→w8.cell? ⟨tb,j,none⟩=some u→w.cell? ⟨tb,j,none⟩=some u
 z:∀ j,w.frozen? ⟨tb,j,none⟩=false
def Tq (pg gb bx tb:Nat):World→Nat→Prop:=fun _ k=>k=pg∨k=gb∨k=bx∨k=tb
def Cq (pg tb:Nat):World→Nat→Prop:=fun _ k=>k=pg∨k=tb
theorem QSt.chg {pg gb bx tb:Nat} {w8 w w':World} {Z:List Int} {S:Nat→Prop} (h:QSt pg gb bx tb w8 w Z) (hc:Chg S w w') (h1:¬ S pg) (h2:¬ S gb) (h3:¬ S bx) (h4:¬ S tb):QSt pg gb bx tb w8 w' Z :=
 ⟨h.g.chg hc h1 h2 h3,⟨h.lt.1,h.lt.2.1,h.lt.2.2.1,Nat.lt_of_lt_of_le h.lt.2.2.2 hc.size⟩,fun j u hj hu=>hc.cellS (h.o j u hj hu) h4,fun j=>(hc.frozen (p:=⟨tb,j,none⟩) h.lt.2.2.2 h4).trans (h.z j)⟩
theorem QSt.go {pg gb bx tb:Nat} {w8 w w':World} {Z r:List Int} (h:QSt pg gb bx tb w8 w Z) (hg:GetSt pg gb w' r) (hc:Chg (·=pg) w w'):QSt pg gb bx tb w8 w' r:=by
 have h4:¬ tb=pg:=by have:=h.lt;omega
 exact ⟨h.g.go hg hc,⟨h.lt.1,h.lt.2.1,h.lt.2.2.1,Nat.lt_of_lt_of_le h.lt.2.2.2 hc.size⟩,fun j u hj hu=>hc.cellS (h.o j u hj hu) h4,fun j=>(hc.frozen (p:=⟨tb,j,none⟩) h.lt.2.2.2 h4).trans (h.z j)⟩
theorem QSt.set {pg gb bx tb:Nat} {w8 w:World} {Z:List Int} (h:QSt pg gb bx tb w8 w Z) (v:Value):QSt pg gb bx tb w8 (w.setCell ⟨tb,12,none⟩ v) Z:=by
 have hc:=setCellChg w tb 12 v
 have hl:=h.lt
 exact ⟨h.g.chg hc (by omega) (by omega) (by omega),⟨hl.1,hl.2.1,hl.2.2.1,Nat.lt_of_lt_of_le hl.2.2.2 hc.size⟩,fun j u hj hu=>by
  rw [World.cell?_setCell_other _ _ _ _ (by intro e;injection e with _ e;omega)]
  exact h.o j u hj hu,fun j=>(World.frozen?_setCell _ _ _ _).trans (h.z j)⟩
theorem sideQ {δ:Type} (pg gb bx tb:Nat) (w8:World):Side pg gb (Cq pg tb) (Tq pg gb bx tb) (fun w (_:List δ) Z=>QSt pg gb bx tb w8 w Z) where
 get:=fun h=>h.g.g
 pgC:=fun _=>.inl rfl
 sub:=fun h=>by
  rcases h with h | h
  ·exact .inl h
  ·exact .inr (.inr (.inr h))
 lt:=fun {w acc Z k} h ht=>by
  rcases ht with rfl | rfl | rfl | rfl
  ·exact h.g.g.lt
  ·exact h.g.g.lb
  ·exact h.g.lt
  ·exact h.lt.2.2.2
 keep:=fun {S w w' acc Z} h hc hs=>⟨QSt.chg h hc (fun e=>hs _ e (.inl rfl)) (fun e=>hs _ e (.inr (.inl rfl))) (fun e=>hs _ e (.inr (.inr (.inl rfl)))) (fun e=>hs _ e (.inr (.inr (.inr rfl)))),fun _ h=>h,fun _ h=>h⟩
 move:=fun h hg hc=>⟨QSt.go h hg hc,fun _ h=>h,fun _ h=>h⟩
theorem strHead:strOfNums headL=⟨#[72,66,84,49]⟩:=by decide
set_option maxRecDepth 100000 in
theorem tables_short {pg n c:Nat} {a:Option Addr} (w:World) (h:w.cell? ⟨pg,0,none⟩=some (.slice a n c)) (hn:n < 4):Calls Tryz.prog 55 #[.pointer (some ⟨pg,0,none⟩)] w fun e w'=>e=strangeP∧Chg (fun _=>False) w w':=by
 have hlt:=World.block_lt_of_cell? _ _ h
 have b1:decide (4≤n)=false:=decide_eq_false (by omega)
 have b1':decide ((4:Int)≤(n:Int))=false:=decide_eq_false (by omega)
 obtain ⟨w0,hw0⟩:∃ W,W=(w.alloc (.cells #[.pointer (some ⟨pg,0,none⟩)] 132)).alloc (.cells #[.slice none 0 0,.slice none 0 0,.slice none 0 0,.slice none 0 0,.slice none 0 0,.slice none 0 0,.slice none 0 0,.slice none 0 0,.slice none 0 0,.slice none 0 0,.slice none 0 0,.slice none 0 0,.slice none 0 0] 34):=⟨_,rfl⟩
 have HC0:Hid (Chg (fun _=>False) w w0):=jh (by rw [hw0];exact ((Chg.refl _ w).alloc _).alloc _)
 have q0:w0.cell? ⟨w.heap.size,0,none⟩=some (.pointer (some ⟨pg,0,none⟩)):=by rw [hw0];exact allocOld _ (allocNew _ _ rfl)
 have q1:=HC0.out.cellS h (fun h=>h)
 clear h
 go_enter Tryz.func55,Tryz.ntmps55
 go_upto_region 1 with (fail)
 rw [← hw0]
 clear hw0
 go_wp2_with fail
 refine (must_no _).mono ?_
 rintro e w3 ⟨rfl,rfl⟩
 exact ⟨rfl,rfl,HC0.out⟩
end Go.Proofs.YtgnpmceimpjheaaGreat
namespace Go.Proofs.YtgnpmceimpjheaaGreat
open Go.RowKit
theorem map_zip1 {α β:Type}:∀ (a:List α) (b:List β),a.length=b.length→(a.zip b).map (·.1)=a
 | [],[],_=>rfl
 | [],_ :: _,h=>by simp at h
 | _ :: _,[],h=>by simp at h
 | x :: a,y :: b,h=>by simp only [List.zip_cons_cons,List.map_cons];rw [map_zip1 a b (by simpa using h)]
theorem map_zip2 {α β:Type}:∀ (a:List α) (b:List β),a.length=b.length→(a.zip b).map (·.2)=b
 | [],[],_=>rfl
 | [],_ :: _,h=>by simp at h
 | _ :: _,[],h=>by simp at h
 | x :: a,y :: b,h=>by simp only [List.zip_cons_cons,List.map_cons];rw [map_zip2 a b (by simpa using h)]
structure OkLex (t:LexD):Prop where
 cl:t.c.length=t.r.length
 el:t.e.length=t.n.length
 rl:t.r.length≤16777215
 rc:∀ x∈t.r.zip t.c,okRc x
 cw:colsL t.c≤65536
 nl:t.n.length≤65536
 mo:makeOk (colsL t.c) t.n=true
 pr:(t.n.length:Int) * colsL t.c≤4194304
 eb:∀ e∈t.e,okEnd e
theorem back_lex:Back lexG ptLex OkLex:=by
 rintro t r ⟨h1,h2,h3,h4,h5,h6,h7,h8,h9⟩
 obtain ⟨W,hW⟩:=Int.eq_ofNat_of_zero_le (colsL_nonneg t.c)
 unfold lexG ptLex
 simp only [List.append_assoc]
 rw [back_list back_rc (t.r.zip t.c) _ ⟨by rw [List.length_zip];omega,h4⟩]
 simp only
 rw [hW] at h5 h7 h8 ⊢
 rw [back_table _ (by omega) h6 h7 h8]
 simp only
 rw [map_zip2 _ _ h1.symm,map_zip1 _ _ h1.symm,if_pos hW.symm]
 have:=back_rep back_end t.e [] r h9
 rw [h2,List.nil_append] at this
 rw [this]
structure OkNet (n:NetD):Prop where
 st:okL okState n.st
 s:okL (okN 16777215) n.s
 p:okL (okN 16777215) n.p
 q:okL (okN 16777215) n.q
 d:decsOf n.st=n.d
theorem back_net:Back netG ptNet OkNet:=by
 rintro t r ⟨h1,h2,h3,h4,h5⟩
 unfold netG ptNet
 simp only [List.append_assoc]
 rw [back_list back_state _ _ h1]
 simp only
 rw [back_list back_any _ _ h2]
 simp only
 rw [back_list back_any _ _ h3]
 simp only
 rw [back_list back_any _ _ h4]
 simp only
 rw [h5]
def shiftE (es:List (Int × Int)):List (Int × Int):=es.map (fun e=>(e.1+1,e.2))
theorem lookRow_fill (tk:Nat) (es:List (Int × Int)):lookRow tk es=fillL (tk+1) (-1,shiftE es):=by
 unfold lookRow fillL shiftE
 simp only
 rw [List.foldl_map]
theorem edges_cells:∀ (L:List Int) (k:Nat),(∀ x∈L,-1≤x)→edgesFrom ((k:Int) - 1) L=(cellsFrom (-1) k L).map (fun c=>(c.1 - 1,c.2))
 | [],_,_=>rfl
 | x :: L,k,h=>by
  have ih:=edges_cells L (k+1) (fun y hy=>h y (by simp [hy]))
  have hx:=h x (by simp)
  simp only [edgesFrom,cellsFrom]
  rw [show ((k:Int) - 1)+1=((k+1:Nat):Int) - 1 by omega,ih]
  by_cases hh:x=-1
  ·rw [if_neg (by omega),if_pos hh]
  ·rw [if_pos (by omega),if_neg hh];rfl
theorem edgesOf_cells {L:List Int} (h:∀ x∈L,-1≤x):edgesOf L=(cellsFrom (-1) 0 L).map (fun c=>(c.1 - 1,c.2)):=edges_cells L 0 h
theorem back_shift (cs:List (Int × Int)):(shiftE cs).map (fun c=>(c.1 - 1,c.2))=cs:=by
 unfold shiftE
 rw [List.map_map]
 conv=>rhs;rw [← List.map_id cs]
 refine List.map_congr_left (fun c _=>?_)
 simp only [Function.comp,id]
 rw [show c.1+1 - 1=c.1 by omega]
theorem fine_shift {tk:Int}:∀ (es:List (Int × Int)) (last:Int),risingB (es.map (·.1)) last tk=true→(∀ e∈es,0≤e.2∧e.2≤16777215)→fineCells (tk+1) (-1) last (shiftE es)=true
 | [],_,_,_=>rfl
 | e :: es,last,h,hv=>by
  simp only [List.map_cons,risingB] at h
  split at h
  ·cases h
  ·rename_i hn
   have hx:=hv e (by simp)
   have ih:=fine_shift es (e.1+1) h (fun y hy=>hv y (by simp [hy]))
   simp only [shiftE,List.map_cons,fineCells,Bool.and_eq_true,decide_eq_true_eq,Bool.not_eq_true',decide_eq_false_iff_not]
   exact ⟨⟨⟨⟨by omega,by omega⟩,by omega,by omega⟩,by omega⟩,ih⟩
theorem lookRow_spec {tk:Nat} {es:List (Int × Int)} (h:risingB (es.map (·.1)) (-1) tk=true) (hv:∀ e∈es,0≤e.2∧e.2≤16777215):(lookRow tk es).length=tk+1∧(∀ x∈lookRow tk es,isVal x)∧edgesOf (lookRow tk es)=es:=by
 have hf:=fine_shift es (-1) h hv
 have hf0:fineCells ((0+(tk+1):Nat):Int) (-1) (((0:Nat):Int) - 1) (shiftE es)=true:=by
  rw [show ((0+(tk+1):Nat):Int)=(tk:Int)+1 by omega];exact hf
 have h1:=fold_spread (-1) _ (tk+1) (shiftE es) 0 [] rfl rfl hf0
 rw [List.nil_append,List.nil_append] at h1
 have e1:lookRow tk es=spread (-1) (tk+1) (shiftE es) 0:=by rw [lookRow_fill];exact h1
 have hvals:=spread_vals (-1) _ ⟨by omega,by omega⟩ (tk+1) (shiftE es) 0 _ hf0
 rw [e1]
 refine ⟨spread_length _ _ _ _,hvals,?_⟩
 rw [edgesOf_cells (fun x hx=>(hvals x hx).1),cells_spread (-1) _ (tk+1) (shiftE es) 0 rfl hf0,back_shift]
structure OkLs (tk:Nat) (s:LsD):Prop where
 k:okN 3 s.1
 a:okL (okN 16777215) s.2.1
 r:risingB (s.2.2.map (·.1)) (-1) tk=true
 t:∀ e∈s.2.2,0≤e.2∧e.2≤16777215
theorem makeOk_look {tk:Nat} {A:List LsD} (h:∀ s∈A,OkLs tk s):makeOk ((tk:Int)+1) (A.map (fun s=>lookRow tk s.2.2))=true:=by
 unfold makeOk
 rw [List.all_eq_true]
 intro l hl
 obtain ⟨s,hs,rfl⟩:=List.mem_map.1 hl
 obtain ⟨h1,h2,-⟩:=lookRow_spec (h s hs).r (h s hs).t
 simp only [listOk,Bool.and_eq_true,decide_eq_true_eq,Bool.not_eq_true']
 refine ⟨?_,by rw [h1];rfl⟩
 unfold noValB
 rw [List.any_eq_false]
 intro x hx
 have:=h2 x hx
 simp only [valB,Bool.not_eq_true',decide_eq_false_iff_not,Classical.not_not]
 exact this
theorem back_look (tk:Nat) (htk:tk≤64):Back (lookG tk) (ptLook tk) (fun A=>A.length≤4096∧∀ s∈A,OkLs tk s):=by
 rintro A r ⟨h1,h2⟩
 unfold lookG ptLook
 simp only [List.append_assoc]
 have back_ls:Back lsG ptLs (fun s=>okN 3 s.1∧okL (okN 16777215) s.2):=by
  rintro ⟨k,l⟩ r ⟨h1,h2⟩
  unfold lsG ptLs
  simp only [List.append_assoc]
  rw [back_num (by decide) k _ h1]
  simp only
  rw [back_list back_any _ _ h2]
 rw [back_list back_ls _ _ ⟨by rw [List.length_map];omega,fun x hx=>by
  obtain ⟨s,hs,rfl⟩:=List.mem_map.1 hx
  exact ⟨(h2 s hs).k,(h2 s hs).a⟩⟩]
 simp only
 have hbt:=back_table (W:=tk+1) (LL:=A.map (fun (s:LsD)=>lookRow tk s.2.2)) r (by omega) (by rw [List.length_map];omega) (by have:=makeOk_look h2;rw [show ((tk+1:Nat):Int)=(tk:Int)+1 by omega];exact this) (by
  rw [List.length_map]
  have:(A.length:Int) * ((tk+1:Nat):Int)=((A.length * (tk+1):Nat):Int):=by simp
  rw [this]
  have:=Nat.mul_le_mul h1 (show tk+1≤65 by omega)
  omega)
 rw [show ((tk+1:Nat):Int)=(tk:Int)+1 by omega] at hbt
 rw [hbt]
 simp only
 rw [if_pos ⟨trivial,by simp⟩]
 have hz:∀ (A:List LsD),(∀ s∈A,OkLs tk s)→List.zipWith (fun (s:Int × List Int) l=>(s.1,s.2,edgesOf l)) (A.map (fun s=>(s.1,s.2.1))) (A.map (fun s=>lookRow tk s.2.2))=A:=by
  intro A
  induction A with
  | nil=>intro _;rfl
  | cons s A ih =>
   intro h
   simp only [List.map_cons,List.zipWith_cons_cons]
   rw [ih (fun x hx=>h x (by simp [hx])),(lookRow_spec (h s (by simp)).r (h s (by simp)).t).2.2]
 rw [hz A h2]
def okTok (x:Str × Bool):Prop:=okText x.1
theorem back_tok:Back tokG ptTok okTok:=by
 rintro ⟨s,b⟩ r h
 unfold tokG ptTok
 simp only [List.append_assoc]
 rw [back_text s _ h]
 simp only
 cases b
 ·have:=back_num (m:=1) (by decide) 0 r ⟨by omega,by omega⟩
  simp only [Bool.false_eq_true,if_false]
  rw [this]
  rfl
 ·have:=back_num (m:=1) (by decide) 1 r ⟨by omega,by omega⟩
  simp only [if_true]
  rw [this]
  rfl
structure OkTabs (t:TabsD):Prop where
 rl:okL okText t.rl
 dl:t.tk.length=t.dr.length
 tk:t.tk.length≤64∧∀ s∈t.tk,okText s
 lx:OkLex t.lx
 nt:OkNet t.nt
 ll:t.lk.length=t.nt.d.length
 lk:∀ A∈t.lk,A.length≤4096∧∀ s∈A,OkLs t.tk.length s
theorem back_body:Back bodyG ptBody OkTabs:=by
 rintro t r ⟨h1,h2,h3,h4,h5,h6,h7⟩
 unfold bodyG ptBody
 simp only [List.append_assoc]
 rw [back_list back_text _ _ h1]
 simp only
 rw [back_list back_tok (t.tk.zip t.dr) _ ⟨by rw [List.length_zip];omega,fun x hx=>h3.2 _ (List.of_mem_zip hx).1⟩]
 simp only
 rw [back_lex _ _ h4]
 simp only
 rw [back_net _ _ h5]
 simp only
 have hz:(t.tk.zip t.dr).length=t.tk.length:=by rw [List.length_zip];omega
 rw [hz,← h6,back_rep (back_look t.tk.length h3.1) t.lk [] r h7,map_zip1 _ _ h2,map_zip2 _ _ h2]
 rfl
theorem tabs_back {t:TabsD} (h:OkTabs t) (hm:mayTabs t=true):tabsG (ptTabs t)=some t:=by
 unfold tabsG ptTabs
 have:=back_body t [] h
 rw [List.append_nil] at this
 rw [show (headL++ptBody t).take 4=headL from rfl,if_pos rfl,show (headL++ptBody t).drop 4=ptBody t from rfl,this]
 simp only
 rw [if_pos ⟨trivial,hm⟩]
end Go.Proofs.YtgnpmceimpjheaaGreat
namespace Go.Proofs.YtgnpmceimpjheaaGreat
open Go.RowKit
structure SmallT (t:TabsD):Prop where
 r:t.lx.r.length≤65536
 st:∀ s∈t.nt.st,s.2.1.length≤65536∧s.2.2.length≤65536∧∀ e∈s.2.1,0≤e.1
 q:t.nt.q.length≤65536
 al:∀ A∈t.lk,∀ s∈A,s.2.1.length≤65536
theorem any_not {α:Type} {p:α→Bool} {L:List α} (h:L.any (fun x=>!p x)=false):∀ x∈L,p x=true:=by
 intro x hx
 have:=List.any_eq_false.1 h x hx
 simpa using this
theorem rising_spec:∀ (l:List Int) (least most:Int),risingB l least most=true→∀ x∈l,least≤x∧x < most
 | [],_,_,_,x,hx=>by cases hx
 | n :: l,least,most,h,x,hx=>by
  simp only [risingB] at h
  split at h
  ·cases h
  ·rename_i hn
   rcases List.mem_cons.1 hx with rfl | hx
   ·omega
   ·have:=rising_spec l _ _ h x hx
    omega
structure MayP (t:TabsD):Prop where
 rl1:1≤t.rl.length
 rl:t.rl.length≤64
 tk:t.tk.length≤64
 dr:t.dr.length=t.tk.length
 rn:∀ s∈t.rl,namedB s=true
 tn:∀ s∈t.tk,namedB s=true
 lx:lexerB t.lx t.tk.length=true
 nt:mayNet t.nt=true
 sl:t.nt.s.length=t.rl.length
 st:t.nt.st.length≤65536
 ll:t.lk.length=t.nt.d.length
 lk:looksOk t=true
 tb:∀ s∈t.nt.st,s.2.1.any (tokBad t.tk.length)=false
theorem mayTabs_spec {t:TabsD} (h:mayTabs t=true):MayP t:=by
 unfold mayTabs at h
 simp only [Bool.and_eq_true,decide_eq_true_eq,Bool.not_eq_true'] at h
 obtain ⟨⟨⟨⟨⟨⟨⟨⟨⟨⟨⟨⟨h1,h2⟩,h3⟩,h4⟩,h5⟩,h6⟩,h7⟩,h8⟩,h9⟩,h10⟩,h11⟩,h12⟩,h13⟩:=h
 refine ⟨h1,h2,h3,h4,any_not h5,any_not h6,h7,h8,h9,h10,h11,h12,fun s hs=>?_⟩
 have:=List.any_eq_false.1 h13 s hs
 simpa using this
structure LexP (t:LexD) (tk:Nat):Prop where
 m:MayS t
 nl:t.n.length≤65536
 pr:(t.n.length:Int) * colsL t.c≤4194304
 rs:∀ r∈t.r,0≤r.1∧r.2≤1114111∧r.1≤r.2
 eb:∀ e∈t.e,-1≤e∧e < tk
theorem lexerB_spec {t:LexD} {tk:Nat} (h:lexerB t tk=true):LexP t tk:=by
 unfold lexerB at h
 simp only [Bool.and_eq_true,decide_eq_true_eq,Bool.not_eq_true'] at h
 obtain ⟨⟨⟨⟨h1,h2⟩,h3⟩,h4⟩,h5⟩:=h
 have hm:=mayT_iff.1 h1
 refine ⟨hm,h2,h3,fun r hr=>?_,fun e he=>⟨hm.eb e he,?_⟩⟩
 ·have:=List.any_eq_false.1 h4 r hr
  simp only [strangeR,Bool.or_eq_true,decide_eq_true_eq,not_or] at this
  obtain ⟨j,hj,rfl⟩:=List.mem_iff_getElem.1 hr
  have ha:=hm.ap
  unfold apartB at ha
  have hb:=List.all_eq_true.1 ha j (List.mem_range.2 hj)
  simp only [apOk,Bool.and_eq_true,decide_eq_true_eq] at hb
  have hc:=hb.1
  rw [List.getD_eq_getElem?_getD,List.getElem?_eq_getElem hj,Option.getD_some] at hc
  exact ⟨by omega,by omega,hc⟩
 ·have hne:t.e≠[]:=by intro e;rw [e] at he;cases he
  have:=(maxI_spec hne).2 e he
  omega
theorem ok_mo {t:LexD} {tk:Nat} (h:lexerB t tk=true):makeOk (colsL t.c) t.n=true:=by
 obtain ⟨hm,h2,h3,h4,h5⟩:=lexerB_spec h
 unfold makeOk
 rw [List.all_eq_true]
 intro l hl
 obtain ⟨c1,c2⟩:=hm.row l hl
 simp only [listOk,Bool.and_eq_true,decide_eq_true_eq,Bool.not_eq_true']
 refine ⟨?_,c1⟩
 unfold noValB
 rw [List.any_eq_false]
 intro x hx
 have:=c2 x hx
 simp only [valB,Bool.not_eq_true',decide_eq_false_iff_not,Classical.not_not]
 exact ⟨this.1,by omega⟩
theorem ok_lex {t:LexD} {tk:Nat} (h:lexerB t tk=true) (htk:tk≤64) (hr:t.r.length≤16777215) (hw:colsL t.c≤65536):OkLex t:=by
 obtain ⟨hm,h2,h3,h4,h5⟩:=lexerB_spec h
 refine ⟨hm.cl,hm.el,hr,fun x hx=>?_,hw,h2,?_,h3,fun e he=>?_⟩
 ·obtain ⟨a1,a2,a3⟩:=h4 _ (List.of_mem_zip hx).1
  obtain ⟨b1,b2⟩:=hm.cb _ (List.of_mem_zip hx).2
  have:=hm.cl
  exact ⟨⟨by omega,by omega⟩,⟨by omega,by omega⟩,⟨by omega,by omega⟩⟩
 ·exact ok_mo h
 ·have:=h5 e he
  exact ⟨this.1,by omega⟩
structure NetP (n:NetD):Prop where
 sp:n.s.length=n.p.length
 sb:∀ i∈n.s,0≤i∧i < n.st.length
 pb:∀ i∈n.p,0≤i∧i < n.st.length
 qb:∀ i∈n.q,0≤i∧i < n.st.length
 st:∀ s∈n.st,stMay n.st.length n.s.length n.q.length s=true∧0≤s.1∧s.1 < n.s.length
 d:decsOf n.st=n.d
theorem mayNet_spec {n:NetD} (h:mayNet n=true):NetP n:=by
 unfold mayNet at h
 simp only [Bool.and_eq_true,decide_eq_true_eq,Bool.not_eq_true'] at h
 obtain ⟨⟨⟨⟨h1,h2⟩,h3⟩,h4⟩,h5⟩:=h
 have hb:=any_not h2
 have hs:∀ i,stateB n.st.length i=true→0≤i∧i < n.st.length:=fun i hi=>by
  simpa [stateB] using hi
 refine ⟨h1,fun i hi=>hs i (hb i (by simp [hi])),fun i hi=>hs i (hb i (by simp [hi])),fun i hi=>?_,fun s hs=>?_,h5⟩
 ·have:=List.any_eq_false.1 h3 i hi
  simp only [predBad,Bool.or_eq_true,decide_eq_true_eq,not_or] at this
  exact ⟨by omega,by omega⟩
 ·have:=List.all_eq_true.1 h4 s hs
  simp only [stOk,Bool.and_eq_true,decide_eq_true_eq] at this
  exact ⟨this.1.1,this.1.2,this.2⟩
structure StP (ns nst np:Nat) (s:StD):Prop where
 e:∀ e∈s.2.1,e.1≤3∧0≤e.2.1∧(e.1=1∨e.2.1 < mostE nst np e.1)∧0≤e.2.2∧e.2.2 < ns
 d:s.2.2.length=0∨(s.2.2.length=s.2.1.length∧∀ i∈s.2.2,0≤i∧i < ns)
theorem stMay_spec {ns nst np:Nat} {s:StD} (h:stMay ns nst np s=true):StP ns nst np s:=by
 unfold stMay at h
 simp only [Bool.and_eq_true,Bool.or_eq_true,decide_eq_true_eq,Bool.not_eq_true'] at h
 obtain ⟨h1,h2⟩:=h
 refine ⟨fun e he=>?_,?_⟩
 ·have:=List.any_eq_false.1 h1 e he
  simp only [edgeBad,stateB,Bool.or_eq_true,Bool.and_eq_true,decide_eq_true_eq,Bool.not_eq_true',Bool.and_eq_false_iff,decide_eq_false_iff_not,not_or,not_and] at this
  obtain ⟨⟨⟨a1,a2⟩,a3⟩,a4⟩:=this
  refine ⟨by omega,by omega,?_,by omega,by omega⟩
  by_cases hk:e.1=1
  ·exact .inl hk
  ·have:=a3 hk
   exact .inr (by omega)
 ·rcases h2 with h2 | ⟨⟨⟨h2,-⟩,-⟩,h3⟩
  ·exact .inl h2
  ·exact .inr ⟨h2,fun i hi=>by
    have:=any_not h3 i hi
    simpa [stateB] using this⟩
theorem ok_net {t:TabsD} (h:MayP t) (hst:∀ s∈t.nt.st,s.2.1.length≤16777215∧s.2.2.length≤16777215∧∀ e∈s.2.1,0≤e.1) (hq:t.nt.q.length≤16777215):OkNet t.nt:=by
 obtain ⟨h1,h2,h3,h4,h5,h6⟩:=mayNet_spec h.nt
 have b1:=h.st
 have b2:=h.sl
 have b3:=h.rl
 have b4:=h.tk
 refine ⟨⟨by omega,fun s hs=>?_⟩,⟨by omega,fun i hi=>?_⟩,⟨by omega,fun i hi=>?_⟩,⟨hq,fun i hi=>?_⟩,h6⟩
 ·obtain ⟨c1,c2,c3⟩:=h5 s hs
  obtain ⟨d1,d2⟩:=stMay_spec c1
  obtain ⟨e1,e2,e3⟩:=hst s hs
  refine ⟨⟨c2,by omega⟩,⟨e1,fun e he=>?_⟩,⟨e2,fun i hi=>?_⟩⟩
  ·obtain ⟨g1,g2,g3,g4,g5⟩:=d1 e he
   have g6:=e3 e he
   refine ⟨⟨g6,by omega⟩,⟨g2,?_⟩,⟨g4,by omega⟩⟩
   rcases g3 with g3 | g3
   ·have:=List.any_eq_false.1 (h.tb s hs) e he
    simp only [tokBad,g3,decide_true,Bool.true_and,decide_eq_true_eq] at this
    omega
   ·unfold mostE at g3
    split at g3
    ·omega
    ·split at g3 <;> omega
  ·rcases d2 with d2 | ⟨-,d2⟩
   ·rw [List.length_eq_zero_iff.1 d2] at hi;cases hi
   ·have:=d2 i hi
    exact ⟨this.1,by omega⟩
 ·have:=h2 i hi
  exact ⟨this.1,by omega⟩
 ·have:=h3 i hi
  exact ⟨this.1,by omega⟩
 ·have:=h4 i hi
  exact ⟨this.1,by omega⟩
theorem mayAuto_spec {A:List LsD} {alts tk:Int} (h:mayAuto A alts tk=true):1≤A.length∧A.length≤4096∧∀ s∈A,fineB A.length alts tk s=true:=by
 unfold mayAuto at h
 simp only [Bool.and_eq_true,decide_eq_true_eq,Bool.not_eq_true'] at h
 exact ⟨h.1.1,h.1.2,any_not h.2⟩
theorem kindB_spec {k:Int} {na ne:Nat} (h:kindB k na ne=true):0≤k∧k≤3:=by
 unfold kindB at h
 split at h
 ·omega
 split at h
 ·omega
 split at h
 ·omega
 simp only [Bool.and_eq_true,decide_eq_true_eq] at h
 omega
theorem look_may {t:TabsD} (h:MayP t) {A:List LsD} (hA:A∈t.lk):∃ s∈t.nt.st,mayAuto A (s.2.2.length:Nat) t.tk.length=true:=by
 obtain ⟨i,hi,rfl⟩:=List.mem_iff_getElem.1 hA
 have hl:=h.lk
 unfold looksOk at hl
 have hid:i < t.nt.d.length:=by rw [← h.ll];exact hi
 have:=List.all_eq_true.1 hl i (List.mem_range.2 hid)
 rw [List.getD_eq_getElem?_getD,List.getElem?_eq_getElem hi,Option.getD_some] at this
 have hd:=(mayNet_spec h.nt).d
 have hm:t.nt.d.getD i 0∈decsFrom 0 t.nt.st:=by
  rw [show decsFrom 0 t.nt.st=t.nt.d from hd]
  exact getD_mem hid
 obtain ⟨j,hj,hjl⟩:=decsFrom_spec _ _ _ hm
 rw [hj] at this
 simp only [Nat.zero_add,Int.toNat_natCast] at this
 rw [List.getD_eq_getElem?_getD (l:=t.nt.st),List.getElem?_eq_getElem hjl,Option.getD_some] at this
 exact ⟨t.nt.st[j],List.getElem_mem _,this⟩
theorem ok_look {t:TabsD} (h:MayP t) (hst:∀ s∈t.nt.st,s.2.2.length≤16777215) {A:List LsD} (hA:A∈t.lk) (hal:∀ s∈A,s.2.1.length≤16777215):A.length≤4096∧∀ s∈A,OkLs t.tk.length s:=by
 obtain ⟨u,hu,hm⟩:=look_may h hA
 have hul:=hst u hu
 obtain ⟨-,h2,h3⟩:=mayAuto_spec hm
 refine ⟨h2,fun s hs=>?_⟩
 have hf:=h3 s hs
 unfold fineB at hf
 simp only [Bool.and_eq_true,Bool.not_eq_true'] at hf
 obtain ⟨⟨⟨f1,f2⟩,f3⟩,f4⟩:=hf
 refine ⟨kindB_spec f4,⟨hal s hs,fun x hx=>?_⟩,f3,fun e he=>?_⟩
 ·have:=rising_spec _ _ _ f2 x hx
  exact ⟨this.1,by omega⟩
 ·have:=List.any_eq_false.1 f1 e he
  simp only [badLe,Bool.or_eq_true,decide_eq_true_eq,not_or] at this
  exact ⟨by omega,by omega⟩
theorem ok_tabs {t:TabsD} (hm:mayTabs t=true) (hs:SmallT t):OkTabs t:=by
 have h:=mayTabs_spec hm
 have hx:=lexerB_spec h.lx
 have hr:=hs.r
 have hcl:=hx.m.cl
 have hw:colsL t.lx.c≤65536:=by
  have:=colsL_le (C:=t.lx.c) (m:=t.lx.c.length) (by omega) (fun c hc=>(hx.m.cb c hc).2)
  omega
 have hn:∀ s,namedB s=true→okText s:=fun s hs=>by
  unfold namedB at hs
  simp only [Bool.and_eq_true,decide_eq_true_eq] at hs
  exact hs.2
 have b1:=h.rl
 refine ⟨⟨by omega,fun s hs=>hn s (h.rn s hs)⟩,h.dr.symm,⟨h.tk,fun s hs=>hn s (h.tn s hs)⟩,ok_lex h.lx h.tk (by omega) hw,ok_net h (fun s hs'=>?_) (by have:=hs.q;omega),h.ll,fun A hA=>ok_look h (fun s hs'=>?_) hA (fun s hs'=>?_)⟩
 ·have:=hs.st s hs'
  exact ⟨by omega,by omega,this.2.2⟩
 ·have:=(hs.st s hs').2.1;omega
 ·have:=hs.al A hA s hs';omega
end Go.Proofs.YtgnpmceimpjheaaGreat
namespace Go.Proofs.YtgnpmceimpjheaaGreat
open Go.RowKit
theorem Elt.InS.oks {α:Type} {E:Elt α} {w:World} {S:Nat→Prop} {s:Sl} {L:List α} (h:E.InS w S s L):∀ x∈L,E.ok x:=by
 obtain ⟨-,-,g,o,h3,-⟩:=h
 exact h3.ok
theorem NetIn.kinds {w:World} {S:Nat→Prop} {m:NetS} {n:NetD} (h:NetIn w S m n):∀ s∈n.st,∀ e∈s.2.1,0≤e.1∧e.1≤255:=by
 intro s hs e he
 obtain ⟨X,-,h2,h3⟩:=h.st
 obtain ⟨j,hj,rfl⟩:=List.mem_iff_getElem.1 hs
 have hx:X[j]?=some X[j]:=List.getElem?_eq_getElem (by omega)
 have hr:=h3 j _ _ hx (List.getElem?_eq_getElem hj)
 exact (hr.2.2.1.oks e he).1
theorem ok_nt {t:TabsD} (h:MayP t) (hf:FairN t.nt) (hk:∀ s∈t.nt.st,∀ e∈s.2.1,0≤e.1∧e.1≤255):OkNt t.nt:=by
 obtain ⟨h1,h2,h3,h4,h5,h6⟩:=mayNet_spec h.nt
 have b1:=h.st
 have b2:=h.sl
 have b3:=h.rl
 have b4:=h.tk
 have b5:=hf.q
 refine ⟨⟨by omega,fun s hs=>?_⟩,⟨by omega,fun i hi=>?_⟩,⟨by omega,fun i hi=>?_⟩,⟨by omega,fun i hi=>?_⟩⟩
 ·obtain ⟨c1,c2,c3⟩:=h5 s hs
  obtain ⟨d1,d2⟩:=stMay_spec c1
  obtain ⟨e1,e2⟩:=hf.e s hs
  refine ⟨⟨c2,by omega⟩,⟨e1,fun e he=>?_⟩,e2,fun i hi=>?_⟩
  ·obtain ⟨g1,g2,g3,g4,g5⟩:=d1 e he
   refine ⟨hk s hs e he,⟨g2,?_⟩,⟨g4,by omega⟩⟩
   rcases g3 with g3 | g3
   ·have:=List.any_eq_false.1 (h.tb s hs) e he
    simp only [tokBad,g3,decide_true,Bool.true_and,decide_eq_true_eq] at this
    omega
   ·unfold mostE at g3
    split at g3
    ·omega
    ·split at g3 <;> omega
  ·rcases d2 with d2 | ⟨-,d2⟩
   ·rw [List.length_eq_zero_iff.1 d2] at hi;cases hi
   ·have:=d2 i hi
    exact ⟨this.1,by omega⟩
 ·have:=h2 i hi
  exact ⟨this.1,by omega⟩
 ·have:=h3 i hi
  exact ⟨this.1,by omega⟩
 ·have:=h4 i hi
  exact ⟨this.1,by omega⟩
theorem ok_lx {t:LexD} {tk:Nat} (h:lexerB t tk=true) (htk:tk≤64) (hf:Fair t) (hw:colsL t.c≤65536):OkLx t:=by
 obtain ⟨hm,h2,h3,h4,h5⟩:=lexerB_spec h
 have f1:=hf.r
 refine ⟨hm.cl,f1,by rw [hm.el];omega,fun r hr=>?_,fun c hc=>?_,hw,h2,ok_mo h,h3,fun e he=>?_⟩
 ·obtain ⟨a1,a2,a3⟩:=h4 r hr
  exact ⟨⟨by omega,by omega⟩,⟨by omega,by omega⟩⟩
 ·have:=hm.cb c hc
  have:=hm.cl
  omega
 ·have:=h5 e he
  omega
theorem makeOk_rows {tk:Nat} {A:List LsD} (h:∀ s∈A,risingB (s.2.2.map (·.1)) (-1) tk=true∧∀ e∈s.2.2,0≤e.2∧e.2≤16777215):makeOk ((tk:Int)+1) (A.map (fun s=>lookRow tk s.2.2))=true:=by
 unfold makeOk
 rw [List.all_eq_true]
 intro l hl
 obtain ⟨s,hs,rfl⟩:=List.mem_map.1 hl
 obtain ⟨h1,h2,-⟩:=lookRow_spec (h s hs).1 (h s hs).2
 simp only [listOk,Bool.and_eq_true,decide_eq_true_eq,Bool.not_eq_true']
 refine ⟨?_,by rw [h1];rfl⟩
 unfold noValB
 rw [List.any_eq_false]
 intro x hx
 have:=h2 x hx
 simp only [valB,Bool.not_eq_true',decide_eq_false_iff_not,Classical.not_not]
 exact this
theorem ok_lk {t:TabsD} (h:MayP t) (hf:FairTabs t) {A:List LsD} (hA:A∈t.lk):(∀ d∈A,OkL t.tk.length d)∧A.length≤4096∧makeOk ((t.tk.length:Int)+1) (A.map (fun s=>lookRow t.tk.length s.2.2))=true:=by
 obtain ⟨u,hu,hm⟩:=look_may h hA
 have hul:=(hf.nt.e u hu).2
 obtain ⟨-,h2,h3⟩:=mayAuto_spec hm
 have key:∀ s∈A,OkL t.tk.length s∧risingB (s.2.2.map (·.1)) (-1) t.tk.length=true∧∀ e∈s.2.2,0≤e.2∧e.2≤16777215:=fun s hs=>by
  have hfn:=h3 s hs
  unfold fineB at hfn
  simp only [Bool.and_eq_true,Bool.not_eq_true'] at hfn
  obtain ⟨⟨⟨f1,f2⟩,f3⟩,f4⟩:=hfn
  have hb:=(hf.la A hA).2 s hs
  have h4:=kindB_spec f4
  have he:∀ e∈s.2.2,0≤e.2∧e.2≤16777215:=fun e he=>by
   have:=List.any_eq_false.1 f1 e he
   simp only [badLe,Bool.or_eq_true,decide_eq_true_eq,not_or] at this
   exact ⟨by omega,by omega⟩
  refine ⟨⟨⟨h4.1,by omega⟩,⟨hb.1,fun x hx=>?_⟩,hb.2,fun e hh=>?_⟩,f3,he⟩
  ·have:=rising_spec _ _ _ f2 x hx
   exact ⟨this.1,by omega⟩
  ·have h5:=rising_spec _ _ _ f3 e.1 (List.mem_map.2 ⟨e,hh,rfl⟩)
   have h6:=he e hh
   exact ⟨h5.1,h5.2,⟨by omega,by omega⟩⟩
 exact ⟨fun d hd=>(key d hd).1,h2,makeOk_rows (fun s hs=>(key s hs).2)⟩
end Go.Proofs.YtgnpmceimpjheaaGreat
namespace Go.Proofs.YtgnpmceimpjheaaGreat
open Go.RowKit
set_option maxRecDepth 100000 in
theorem disable (w:World):(callFunc 197 #[]).run Tryz.prog w=.ok (.value (.tuple #[])) w:=run_call_mark0 Tryz.func197 (by kernel_rfl) (by kernel_rfl) (by kernel_rfl) .disable (by kernel_rfl) w
set_option maxRecDepth 100000 in
theorem enable (w:World):(callFunc 199 #[]).run Tryz.prog w=.ok (.value (.tuple #[])) w:=run_call_mark0 Tryz.func199 (by kernel_rfl) (by kernel_rfl) (by kernel_rfl) .enable (by kernel_rfl) w
set_option maxRecDepth 100000 in
theorem acquire (a:Addr) (w:World):(callFunc 200 #[.pointer (some a)]).run Tryz.prog w=.ok (.value (.tuple #[])) w:=run_call_marked Tryz.func200 (by kernel_rfl) (by kernel_rfl) (by kernel_rfl) .acquire (by kernel_rfl) a w
set_option maxRecDepth 100000 in
theorem releaseMerge (a:Addr) (w:World):(callFunc 202 #[.pointer (some a)]).run Tryz.prog w=.ok (.value (.tuple #[])) w:=run_call_marked Tryz.func202 (by kernel_rfl) (by kernel_rfl) (by kernel_rfl) .releaseMerge (by kernel_rfl) a w
set_option maxRecDepth 100000 in
theorem store_deferred (a:Addr) (x:Value) (u:FrameMode) (w:World) (hc:w.cell? a=some x) (hz:w.frozen? a=false) :
  CallsD Tryz.prog 185 #[.pointer (some a),.bool true] u w fun e u' w'=>u'=u∧(e=.returned (.tuple #[])∧w'=w.drew.setCell a (.int .u32 1)):=by
 have hc':w.drew.cell? a=some x:=by go_simp
 have hz':w.drew.frozen? a=false:=by go_simp
 have hst:=run_call_store (P:=Tryz.prog) Tryz.func193 (by kernel_rfl) (by kernel_rfl) (by kernel_rfl) (by kernel_rfl) (k:=.u32) (y:=1) hc' hz'
 go_enter_d Tryz.func185,Tryz.ntmps185
 go_wp2
 go_region_calls
 all_goals (go_end0;exact ⟨rfl,rfl⟩)
set_option maxRecDepth 100000 in
theorem unlock_deferred (a:Addr) (u:FrameMode) (w:World) (hc:w.cell? a=some (.int .i32 1)) (hz:w.frozen? a=false) :
  CallsD Tryz.prog 184 #[.pointer (some a)] u w fun e u' w'=>u'=u∧(e=.returned (.tuple #[])∧w'=w.setCell a (.int .i32 0)):=by
 have hd:=disable
 have he:=enable
 have hr:=releaseMerge
 have hadd:=run_call_add (P:=Tryz.prog) Tryz.func203 (by kernel_rfl) (by kernel_rfl) (by kernel_rfl) .i32 (by kernel_rfl) (y:=-1) (s:=0) hc hz (by simp [go_sem];rfl)
 have hcv:=run_convert_to_unsafe (P:=Tryz.prog) (src:=284) (dst:=288) Tryz.underlying284 Tryz.underlying288 (by kernel_rfl) hc
 go_enter_d Tryz.func184,Tryz.ntmps184
 go_wp2
 go_end0
 first | exact ⟨rfl,rfl⟩ | (go_wp2;go_end0;exact ⟨rfl,rfl⟩)
set_option maxRecDepth 100000 in
theorem lock_free (a:Addr) (w:World) (hc:w.cell? a=some (.int .i32 0)) (hz:w.frozen? a=false) :
  Calls Tryz.prog 183 #[.pointer (some a)] w fun e w'=>e=.returned (.tuple #[])∧w'=w.setCell a (.int .i32 1):=by
 have hd:=disable
 have he:=enable
 have ha:=acquire
 have hcas:=run_call_cas_hit (P:=Tryz.prog) Tryz.func198 (by kernel_rfl) (by kernel_rfl) (by kernel_rfl) .i32 (by kernel_rfl) (y:=1) hc hz
 have hc':(w.setCell a (.int .i32 1)).cell? a=some (.int .i32 1):=World.cell?_setCell_same w a _ hc
 have hcv:=run_convert_to_unsafe (P:=Tryz.prog) (src:=284) (dst:=288) Tryz.underlying284 Tryz.underlying288 (by kernel_rfl) hc'
 go_enter Tryz.func183,Tryz.ntmps183
 go_wp2
 first | go_end0 | (simp only [Exit.inBlock,Exit.then];refine bodyPost_ret (results_none rfl _ _ _) rfl ?_) | refine bodyPost_ret (results_none rfl _ _ _) rfl ?_
 first | exact ⟨rfl,rfl⟩ | (go_wp2;go_end0;exact ⟨rfl,rfl⟩)
structure SumsAt (w:World) (b:Nat) (d l:Int) (T:Nat→Int):Prop where
 c0:w.cell? ⟨b,0,none⟩=some (.int .u32 d)
 c1:w.cell? ⟨b,1,none⟩=some (.int .i32 l)
 tab:∀ i,i < 256→w.cell? ⟨b,3+i,none⟩=some (.int .u32 (T i))
 z:∀ j,w.frozen? ⟨b,j,none⟩=false
set_option maxRecDepth 100000 in
theorem SumsAt.chg {S:Nat→Prop} {w w':World} {b:Nat} {d l:Int} {T:Nat→Int} (h:SumsAt w b d l T) (hc:Chg S w w') (hs:¬ S b):SumsAt w' b d l T :=
 ⟨hc.cellS h.c0 hs,hc.cellS h.c1 hs,fun i hi=>hc.cellS (h.tab i hi) hs,fun j=>(hc.frozen (p:=⟨b,j,none⟩) (by have:=World.block_lt_of_cell? _ _ h.c0;exact this) hs).trans (h.z j)⟩
set_option maxRecDepth 100000 in
theorem SumsAt.tabs {w:World} {b:Nat} {d l:Int} {T T':Nat→Int} (h:SumsAt w b d l T) (ht:∀ i,i < 256→T' i=T i):SumsAt w b d l T' :=
 ⟨h.c0,h.c1,fun i hi=>by rw [ht i hi];exact h.tab i hi,h.z⟩
set_option maxRecDepth 100000 in
theorem SumsAt.put {w:World} {b:Nat} {d l:Int} {T:Nat→Int} (h:SumsAt w b d l T) {k:Nat} (hk:k < 256) (v:Int):SumsAt (w.setCell ⟨b,3+k,none⟩ (.int .u32 v)) b d l (fun i=>if i=k then v else T i):=by
 refine ⟨(World.cell?_setCell_other _ _ _ _ (by simp)).trans h.c0,(World.cell?_setCell_other _ _ _ _ (by intro e;injection e with _ e;omega)).trans h.c1,fun i hi=>?_,fun j=>(World.frozen?_setCell _ _ _ _).trans (h.z j)⟩
 by_cases he:i=k
 ·subst he
  rw [if_pos rfl]
  exact World.cell?_setCell_same _ _ _ (h.tab _ hi)
 ·rw [if_neg he,World.cell?_setCell_other _ _ _ _ (by intro e;injection e with _ e;omega)]
  exact h.tab i hi
def stepI (y:Int):Int:=bits BinOp.xor IntKind.u32 (y / 2) (3988292384 * bits BinOp.and IntKind.u32 y 1 % 4294967296)
def iterI:Nat→Int→Int
 | 0,y=>y
 | j+1,y=>stepI (iterI j y)
def tabI (i:Nat):Int:=iterI 8 i
set_option maxHeartbeats 2000000 in
set_option maxRecDepth 100000 in
theorem fill_any (b:Nat) (d l:Int) (T:Nat→Int) (w:World) (h:SumsAt w b d l T) :
  Calls Tryz.prog 120 #[.pointer (some ⟨b,0,none⟩)] w fun e w'=>e=.returned (.tuple #[])∧SumsAt w' b d l tabI∧Chg (·=b) w w':=by
 have H:=jh (h.tabs (T':=fun i=>if i < 0 then tabI i else T i) (fun i _=>by rw [if_neg (by omega)]))
 clear h
 go_enter Tryz.func120,Tryz.ntmps120
 go_wp2
 go_loopw [2,4] (fun x i wr=>∃ (k:Nat),k≤256∧i=.int .i64 k∧SumsAt wr b d l (fun i=>if i < k then tabI i else T i)∧Chg (·=b) w wr) (fun _ i _=>256 - (intOf i).toNat)
 case atStart=>exact ⟨0,by omega,rfl,H.out,Chg.refl _ _⟩
 case round =>
  clear H
  obtain ⟨k,hk,rfl,h,hc⟩:=hrel
  have H:=jh h
  have HC:=jh hc
  clear h hc
  by_cases hk2:k < 256
  ·have b5:decide ((k:Int) < 256)=true:=by simp;omega
   go_wp2
   obtain ⟨wo,rfl⟩:∃ wo:World,wo=wr:=⟨_,rfl⟩
   go_loopw [3,9] (fun n i wr=>∃ (j:Nat) (y:Int),j≤8∧i=.int .i64 j∧n=.int .u32 y∧y=iterI j k∧wr=wo) (fun _ i _=>8 - (intOf i).toNat)
   case atStart=>exact ⟨0,k,by omega,rfl,rfl,rfl,rfl⟩
   case round =>
    obtain ⟨j,y,hj,rfl,rfl,hy,rfl⟩:=hrel
    have HY:=jh hy
    clear hy
    by_cases hj8:j < 8
    ·have b10:decide ((j:Int) < 8)=true:=by simp;omega
     go_wp2
     go_roundw
     case rel=>exact ⟨j+1,_,by omega,by go_num,rfl,by rw [HY.out];rfl,trivial⟩
     case measure=>simp [intOf];omega
    ·obtain rfl:j=8:=by omega
     have c1:=H.out.tab k hk2
     have z1:=H.out.z (3+k)
     have HX:Hid (SumsAt (wr.setCell ⟨b,3+k,none⟩ (.int .u32 y)) b d l (fun i=>if i < k+1 then tabI i else T i)):=jh ((H.out.put hk2 y).tabs (fun i _=>by
      by_cases he:i=k
      ·subst he
       rw [if_pos (by omega),if_pos rfl,HY.out]
       rfl
      ·rw [if_neg he]
       by_cases hi:i < k
       ·rw [if_pos (by omega),if_pos hi]
       ·rw [if_neg (by omega),if_neg hi]))
     have HC2:=jh (HC.out.trans (setCellChg wr b (3+k) (.int .u32 y)))
     clear H HC HY
     go_wp2
     go_roundw
     case rel=>first | exact ⟨k+1,by omega,by go_num,HX.out,HC2.out⟩ | ((repeat apply Exists.intro);exact ⟨⟨k+1,by omega,rfl,HX.out,HC2.out⟩,rfl⟩)
     case measure=>simp [intOf];omega
  ·obtain rfl:k=256:=by omega
   have HX:=jh (H.out.tabs (T':=tabI) (fun i hi=>by rw [if_pos hi]))
   go_wp2
   go_end0
   exact ⟨rfl,HX.out,HC.out⟩
end Go.Proofs.YtgnpmceimpjheaaGreat
namespace Go.Proofs.YtgnpmceimpjheaaGreat
open Go.RowKit
theorem SumsAt.lock {w:World} {b:Nat} {d l:Int} {T:Nat→Int} (h:SumsAt w b d l T) (l':Int):SumsAt (w.setCell ⟨b,1,none⟩ (.int .i32 l')) b d l' T :=
 ⟨(World.cell?_setCell_other _ _ _ _ (by simp)).trans h.c0,World.cell?_setCell_same _ _ _ h.c1,fun i hi=>(World.cell?_setCell_other _ _ _ _ (by intro e;injection e with _ e;omega)).trans (h.tab i hi),fun j=>(World.frozen?_setCell _ _ _ _).trans (h.z j)⟩
theorem SumsAt.mark {w:World} {b:Nat} {d l:Int} {T:Nat→Int} (h:SumsAt w b d l T) (d':Int):SumsAt (w.drew.setCell ⟨b,0,none⟩ (.int .u32 d')) b d' l T :=
 ⟨World.cell?_setCell_same _ _ _ ((World.cell?_drew _ _).trans h.c0),(World.cell?_setCell_other _ _ _ _ (by simp)).trans ((World.cell?_drew _ _).trans h.c1),fun i hi=>(World.cell?_setCell_other _ _ _ _ (by intro e;injection e with _ e;omega)).trans ((World.cell?_drew _ _).trans (h.tab i hi)),fun j=>(World.frozen?_setCell _ _ _ _).trans (h.z j)⟩
set_option maxRecDepth 100000 in
set_option maxHeartbeats 1600000 in
theorem slow_any (b:Nat) (T:Nat→Int) (w:World) (h:SumsAt w b 0 0 T) :
  Calls Tryz.prog 162 #[.pointer (some ⟨b,0,none⟩),.func (.func 120) #[.pointer (some ⟨b,0,none⟩)] #[]] w fun e w'=>e=.returned (.tuple #[])∧SumsAt w' b 1 0 tabI∧Chg (·=b) w w':=by
 have H:=jh h
 have H1:=jh (h.lock 1)
 have HC1:=jh (setCellChg w b 1 (.int .i32 1))
 have hl:=run_call_load (P:=Tryz.prog) Tryz.func182 (by kernel_rfl) (by kernel_rfl) (by kernel_rfl) .u32 (by kernel_rfl) (w:=w.setCell ⟨b,1,none⟩ (.int .i32 1)) (a:=⟨b,0,none⟩) (x:=0) H1.out.c0
 have hnot:∀ (x:Bool) (w:World),(Op.unary .not (.bool x)).run Tryz.prog w=.ok (.bool (!x)) w:=fun _ _=>rfl
 clear h
 go_enter_defers Tryz.func162,Tryz.ntmps162
 go_wp2_with (first | (go_at_call 183;refine (lock_free ⟨b,1,none⟩ _ H.out.c1 (H.out.z 1)).mono ?_;rintro e w' ⟨rfl,rfl⟩) | (go_at_call 161;go_in))
 refine (fill_any b 0 1 T _ H1.out).mono ?_
 rintro e w2 ⟨rfl,h2,hc2⟩
 have H2:=jh h2
 have HC2:=jh (HC1.out.trans hc2)
 clear h2 hc2 H H1 HC1 hl
 go_wp2
 refine leaves_cons (f:=185) (args:=#[.pointer (some ⟨b,0,none⟩),.bool true]) (by simp) (by simp [go_sem]) ?_
 refine (store_deferred ⟨b,0,none⟩ (.int .u32 0) .returning _ H2.out.c0 (H2.out.z 0)).mono ?_
 rintro e u' w'' ⟨rfl,rfl,rfl⟩
 refine leaves_cons (f:=184) (args:=#[.pointer (some ⟨b,1,none⟩)]) (by simp [settle]) (by simp [go_sem]) ?_
 refine (unlock_deferred ⟨b,1,none⟩ _ _ (H2.out.mark 1).c1 ((H2.out.mark 1).z 1)).mono ?_
 rintro e u' w'' ⟨rfl,rfl,rfl⟩
 have HF:Hid (SumsAt ((w2.drew.setCell ⟨b,0,none⟩ (.int .u32 1)).setCell ⟨b,1,none⟩ (.int .i32 0)) b 1 0 tabI∧Chg (·=b) w ((w2.drew.setCell ⟨b,0,none⟩ (.int .u32 1)).setCell ⟨b,1,none⟩ (.int .i32 0))) :=
  jh ⟨(H2.out.mark 1).lock 0,(HC2.out.drew.trans (setCellChg _ b 0 _)).trans (setCellChg _ b 1 _)⟩
 simp [Leaves,settle,results,Tryz.results162]
 exact HF.out
set_option maxRecDepth 100000 in
set_option maxHeartbeats 1600000 in
theorem do_first (b:Nat) (T:Nat→Int) (w:World) (h:SumsAt w b 0 0 T) :
  Calls Tryz.prog 119 #[.pointer (some ⟨b,0,none⟩),.func (.func 120) #[.pointer (some ⟨b,0,none⟩)] #[]] w fun e w'=>e=.returned (.tuple #[])∧SumsAt w' b 1 0 tabI∧Chg (·=b) w w':=by
 have H:=jh h
 have hl:=run_call_load (P:=Tryz.prog) Tryz.func182 (by kernel_rfl) (by kernel_rfl) (by kernel_rfl) .u32 (by kernel_rfl) h.c0
 have hnot:∀ (x:Bool) (w:World),(Op.unary .not (.bool x)).run Tryz.prog w=.ok (.bool (!x)) w:=fun _ _=>rfl
 clear h
 go_enter Tryz.func119,Tryz.ntmps119
 go_wp2_with (first | (go_at_call 162;refine (slow_any b T _ H.out).mono ?_;rintro e w' ⟨rfl,h2,hc2⟩) | (go_at_call 161;go_in))
 go_end0
 exact ⟨rfl,h2,hc2⟩
theorem do_done (b:Nat) (l:Int) (T:Nat→Int) (fv:Value) (w:World) (h:SumsAt w b 1 l T) :
  Calls Tryz.prog 119 #[.pointer (some ⟨b,0,none⟩),fv] w fun e w'=>e=.returned (.tuple #[])∧w'=w:=by
 have hl:=run_call_load (P:=Tryz.prog) Tryz.func182 (by kernel_rfl) (by kernel_rfl) (by kernel_rfl) .u32 (by kernel_rfl) h.c0
 have hnot:∀ (x:Bool) (w:World),(Op.unary .not (.bool x)).run Tryz.prog w=.ok (.bool (!x)) w:=fun _ _=>rfl
 clear h
 go_enter Tryz.func119,Tryz.ntmps119
 go_wp2
 go_end0
 exact ⟨rfl,rfl⟩
end Go.Proofs.YtgnpmceimpjheaaGreat
namespace Go.Proofs.YtgnpmceimpjheaaGreat
open Go.RowKit
def zerosS:Array Value:=#[.int .u32 0,.int .i32 0,.int .u32 0]++Array.replicate 256 (.int .u32 0)
theorem zeroSums (w:World):(zeroValue 104).run Tryz.prog w=.ok (.agg zerosS) w:=by kernel_rfl
theorem SumsAt.made (w:World) (e:TypeId):SumsAt (w.alloc (.cells zerosS e)) w.heap.size 0 0 (fun _=>0):=by
 refine ⟨by rw [World.cell?_alloc_new];simp [zerosS],by rw [World.cell?_alloc_new];simp [zerosS],fun i hi=>?_,fun j=>World.frozen?_alloc_new _ _ _ _⟩
 rw [World.cell?_alloc_new,zerosS,Array.getElem?_append_right (by simp)]
 simp [hi]
def ofStep (y c:Int):Int:=bits BinOp.xor IntKind.u32 (y / 256) (tabI (bits BinOp.xor IntKind.u8 (y % 256) c).toNat)
def ofFold (Z:List Int):Int:=Z.foldl ofStep 4294967295
def ofI (Z:List Int):Int:=bits BinOp.xor IntKind.u32 IntKind.u32.max (ofFold Z)
end Go.Proofs.YtgnpmceimpjheaaGreat
namespace Go.Proofs.YtgnpmceimpjheaaGreat
open Go.RowKit
def SumsSt (w:World) (b:Nat):Prop:=∃ (d:Int) (T:Nat→Int),SumsAt w b d 0 T∧(d=0∨(d=1∧T=tabI))
theorem SumsSt.chg {S:Nat→Prop} {w w':World} {b:Nat} (h:SumsSt w b) (hc:Chg S w w') (hs:¬ S b):SumsSt w' b:=by
 obtain ⟨d,T,h1,h2⟩:=h
 exact ⟨d,T,h1.chg hc hs,h2⟩
theorem SumsSt.lt {w:World} {b:Nat} (h:SumsSt w b):b < w.heap.size:=by
 obtain ⟨d,T,h1,h2⟩:=h
 exact World.block_lt_of_cell? _ _ h1.c0
theorem do_any (b:Nat) (w:World) (h:SumsSt w b) :
  Calls Tryz.prog 119 #[.pointer (some ⟨b,0,none⟩),.func (.func 120) #[.pointer (some ⟨b,0,none⟩)] #[]] w fun e w'=>e=.returned (.tuple #[])∧SumsAt w' b 1 0 tabI∧Chg (·=b) w w':=by
 obtain ⟨d,T,h1,h2⟩:=h
 rcases h2 with rfl | ⟨rfl,rfl⟩
 ·exact do_first b T w h1
 ·exact (do_done b 0 tabI _ w h1).mono fun e w' ⟨he,hw⟩=>by subst hw;exact ⟨he,h1,Chg.refl _ _⟩
set_option maxRecDepth 100000 in
set_option maxHeartbeats 2000000 in
theorem of_any (b:Nat) (Z:List Int) (a:Option Addr) (g o c:Nat) (w:World) (hs:SumsSt w b) (hz:BytesAt w g o Z) (hgb:Z≠[]→g≠b) (ha:0 < Z.length→a=some ⟨g,o,none⟩) (hl:Z.length≤1000000000) :
  Calls Tryz.prog 76 #[.pointer (some ⟨b,0,none⟩),.slice a Z.length c] w fun e w'=>e=.returned (.int .u32 (ofI Z))∧SumsSt w' b∧Chg (·=b) w w':=by
 have HZ:=jh hz
 have HA:=jh ha
 have HS:=jh hs
 have HG:=jh hgb
 clear hz ha hs hgb
 go_enter Tryz.func76,Tryz.ntmps76
 go_wp2_with fail
 refine (do_any b w HS.out).mono ?_
 rintro e w1 ⟨rfl,h1,hc1⟩
 have H1:=jh h1
 have HC1:=jh hc1
 clear h1 hc1 HS
 go_wp2
 go_loopw [5,20] (fun n i wr=>∃ (k:Nat) (y:Int),k≤Z.length∧i=.int .i64 k∧n=.int .u32 y∧y=ofFold (Z.take k)∧SumsAt wr b 1 0 tabI∧Chg (·=b) w wr) (fun _ i _=>Z.length - (intOf i).toNat)
 case atStart=>exact ⟨0,_,by omega,rfl,rfl,rfl,H1.out,HC1.out⟩
 case round =>
  clear H1 HC1
  obtain ⟨k,y,hk,rfl,rfl,hy,h,hc⟩:=hrel
  have HY:=jh hy
  have H:=jh h
  have HC:=jh hc
  clear hy h hc
  by_cases hkl:k < Z.length
  ·have b21:decide ((k:Int) < (Z.length:Int))=true:=by simp;omega
   obtain ⟨z,hz,c1,z0,z1⟩:=(HZ.out.chg HC.out HG.out).get hkl
   have e1:=HA.out (by omega)
   subst e1
   obtain ⟨x,hx,hx2⟩:∃ x:Nat,bits BinOp.xor IntKind.u8 (y % 256) z=(x:Int)∧x < 256:=by
    have h1:=bounds_u8 (wf_bits BinOp.xor IntKind.u8 (y % 256) z)
    exact ⟨(bits BinOp.xor IntKind.u8 (y % 256) z).toNat,by omega,by omega⟩
   have c2:=H.out.tab x hx2
   have HN:Hid (bits BinOp.xor IntKind.u32 (y / 256) (tabI x)=ofFold (Z.take (k+1))):=jh (by
    rw [List.take_add_one,hz]
    show _=List.foldl ofStep 4294967295 (Z.take k++[z])
    rw [List.foldl_append]
    show _=ofStep (ofFold (Z.take k)) z
    rw [← HY.out]
    unfold ofStep
    rw [hx]
    rfl)
   clear hz HY
   go_wp2
   go_roundw
   case rel=>first | exact ⟨k+1,_,by omega,by go_num,rfl,HN.out,H.out,HC.out⟩ | ((repeat apply Exists.intro);exact ⟨⟨k+1,_,by omega,rfl,rfl,HN.out,H.out,HC.out⟩,rfl⟩)
   case measure=>simp [intOf];omega
  ·obtain rfl:k=Z.length:=by omega
   have HF:Hid (y=ofFold Z):=jh (by rw [HY.out,List.take_length])
   have HST:Hid (SumsSt wr b):=jh ⟨1,tabI,H.out,.inr ⟨rfl,rfl⟩⟩
   clear HY H
   go_wp2
   go_ret
   exact ⟨by unfold ofI;rw [← HF.out];rfl,HST.out,HC.out⟩
def fourL (n:Int):List Int:=[n % 256,n / 256 % 256,n / 65536 % 256,n / 16777216]
theorem fourL_byte {n:Int} (h0:0≤n) (h1:n≤4294967295):∀ a∈fourL n,Byte a:=by
 intro a ha
 simp [fourL] at ha
 rcases ha with rfl | rfl | rfl | rfl <;> constructor <;> omega
theorem four_any (n:Int) (w:World) (h0:0≤n) (h1:n≤4294967295) :
  Calls Tryz.prog 75 #[.int .u32 n] w fun e w'=>∃ h,e=.returned (.slice (some ⟨h,0,none⟩) 4 4)∧w.heap.size≤h∧Row w' h (fourL n)∧Chg (fun _=>False) w w':=by
 have HR:=jh (Row.alloc w (fourL n) 5 (fourL_byte h0 h1))
 go_enter Tryz.func75,Tryz.ntmps75
 go_wp2
 go_ret
 exact ⟨_,rfl,Nat.le_refl _,HR.out,(Chg.refl _ _).alloc _⟩
set_option maxRecDepth 100000 in
set_option maxHeartbeats 2000000 in
theorem equal_any (X Y:List Int) (ax ay:Option Addr) (gx ox gy oy cx cy:Nat) (w:World) (hx:BytesAt w gx ox X) (hax:0 < X.length→ax=some ⟨gx,ox,none⟩) (hy:BytesAt w gy oy Y) (hay:0 < Y.length→ay=some ⟨gy,oy,none⟩) (hl:X.length≤1000000000000) :
  Calls Tryz.prog 100 #[.slice ax X.length cx,.slice ay Y.length cy] w fun e w'=>e=.returned (.bool (decide (X=Y)))∧Chg (fun _=>False) w w':=by
 have HX:=jh hx
 have HY:=jh hy
 have HAX:=jh hax
 have HAY:=jh hay
 clear hx hy hax hay
 by_cases hxy:X.length=Y.length
 ·have b10:((X.length:Int) != (Y.length:Int))=false:=by simp [hxy]
  go_enter Tryz.func100,Tryz.ntmps100
  go_wp2
  go_loopw [13] (fun i wr=>∃ k:Nat,k≤X.length∧i=.int .i64 k∧Chg (fun _=>False) w wr∧X.take k=Y.take k) (fun i _=>X.length - (intOf i).toNat)
  case atStart=>exact ⟨0,by omega,rfl,Chg.refl _ _,by simp⟩
  case round =>
   obtain ⟨k,hk,rfl,hc,he⟩:=hrel
   have HC:=jh hc
   have HE:=jh he
   clear hc he
   by_cases hkl:k < X.length
   ·have b14:decide ((k:Int) < (X.length:Int))=true:=by simp;omega
    obtain ⟨p,hp,c1,p0,p1⟩:=(HX.out.chg HC.out (fun _ h=>h)).get hkl
    obtain ⟨q,hq,c2,q0,q1⟩:=(HY.out.chg HC.out (fun _ h=>h)).get (k:=k) (by omega)
    have e1:=HAX.out (by omega)
    have e2:=HAY.out (by omega)
    subst e1 e2
    have HP:=jh hp
    have HQ:=jh hq
    clear hp hq
    by_cases hpq:p=q
    ·subst hpq
     have HT:Hid (X.take (k+1)=Y.take (k+1)):=jh (by rw [List.take_add_one,List.take_add_one,HE.out,HP.out,HQ.out])
     clear HE HP HQ
     go_upto_region 6 with (fail)
     go_still (by kernel_rfl)
     go_wp2
     go_roundw
     case rel=>first | exact ⟨k+1,by omega,by go_num,HC.out.drew,HT.out⟩ | ((repeat apply Exists.intro);exact ⟨⟨k+1,by omega,by first | rfl | go_num,HC.out.drew,HT.out⟩,rfl,rfl,rfl⟩)
     case measure=>simp [intOf];omega
    ·have b25:(p != q)=true:=by simpa using hpq
     have HD:Hid (decide (X=Y)=false):=jh (by
      apply decide_eq_false
      intro h
      rw [h,HQ.out] at HP
      exact hpq (Option.some.inj HP.out).symm)
     clear HE HP HQ hpq
     go_upto_region 6 with (fail)
     go_still (by kernel_rfl)
     go_wp2
     go_ret
     exact ⟨by rw [HD.out];rfl,HC.out.drew⟩
   ·obtain rfl:k=X.length:=by omega
    have HD:Hid (decide (X=Y)=true):=jh (by
     have:=HE.out
     rw [List.take_length,hxy,List.take_length] at this
     simp [this])
    clear HE
    go_wp2
    go_ret
    exact ⟨by rw [HD.out];rfl,HC.out⟩
 ·have b10:((X.length:Int) != (Y.length:Int))=true:=by simp;omega
  have HD:Hid (decide (X=Y)=false):=jh (by
   apply decide_eq_false
   intro h
   exact hxy (by rw [h]))
  go_enter Tryz.func100,Tryz.ntmps100
  go_wp2
  go_ret
  exact ⟨by rw [HD.out];rfl,Chg.refl _ _⟩
end Go.Proofs.YtgnpmceimpjheaaGreat
namespace Go.Proofs.YtgnpmceimpjheaaGreat
open Go.RowKit
theorem concat_any (X Y:List Int) (ax:Option Addr) (gx ox cx hy q:Nat) (w:World) (hx:BytesAt w gx ox X) (hax:0 < X.length→ax=some ⟨gx,ox,none⟩) (hyr:BytesAt w hy 0 Y) (hyl:0 < Y.length) (hxl:X.length≤100000000) (hyl2:Y.length≤100000000)
  (q0:w.cell? ⟨q,0,none⟩=some (.slice ax X.length cx)) (q1:w.cell? ⟨q,1,none⟩=some (.slice (some ⟨hy,0,none⟩) Y.length Y.length)) :
  Calls Tryz.prog 74 #[.slice (some ⟨q,0,none⟩) 2 2] w fun e w'=>∃ v,e=.returned v∧Own w' w.heap.size v (X++Y)∧Chg (fun _=>False) w w' :=
 concat_gen X Y ax gx ox cx hy Y.length q w hx hax hyr hyl (by omega) (by omega) q0 q1
end Go.Proofs.YtgnpmceimpjheaaGreat
