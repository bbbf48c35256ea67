/- A part of the proof: PtI PtJ PtK BackL EncL CodR EncP CodQ EncT EncO PtL. -/
import Derived.Test.YtgnpmceimpjheaaGreatGT14
import Derived.Test.YtgnpmceimpjheaaGreatGT7
import Derived.Test.YtgnpmceimpjheaaGreatGT4
import Derived.Test.YtgnpmceimpjheaaGreatGT11
import Derived.Test.YtgnpmceimpjheaaGreatGT8
import Derived.Test.YtgnpmceimpjheaaGreatGT13
set_option maxRecDepth 100000
set_option maxHeartbeats 16000000
namespace Go.Proofs.YtgnpmceimpjheaaGreat
open Go.RowKit
def Ck (pg bl:Nat) (w:World) (k:Nat):Prop:=Cp pg w k∨k=bl∨∃ v,w.cell? ⟨bl,0,none⟩=some v∧v.ownBlock=some k
structure PSk (pg B bx bt bl tk:Nat) (w:World) (acc:List LsD) (Z:List Int):Prop where
 b:PSb pg B bx w Z
 t:w.cell? ⟨bt,0,none⟩=some (.int .i64 tk)
 nt:¬ Ck pg bl w bt
 nx:¬ Ck pg bl w bx
 nl:¬ Cp pg w bl
 lb:B≤bl
 zl:w.frozen? ⟨bl,0,none⟩=false
 ex:∃ v X,w.cell? ⟨bl,0,none⟩=some v∧listE.Own w B v X∧(∀ k,v.ownBlock=some k→¬ Cp pg w k∧k≠bl)∧X.length=acc.length∧∀ (j:Nat) x d,X[j]?=some x→acc[j]?=some d→intE.InS w (fun k=>¬ Ck pg bl w k) x (lookRow tk d.2.2)
theorem PSk.lt {pg B bx bt bl tk:Nat} {w:World} {acc:List LsD} {Z:List Int} (h:PSk pg B bx bt bl tk w acc Z) {k:Nat} (hk:Ck pg bl w k):B≤k∧k<w.heap.size:=by
 obtain⟨v,X,h1,h2,-⟩:=h.ex
 rcases hk with hk|rfl|⟨u,hu,hk⟩
 ·exact h.b.g.low hk
 ·exact⟨h.lb,World.block_lt_of_cell? _ _ h1⟩
 ·rw [h1] at hu
  obtain rfl:=Option.some.inj hu
  exact h2.blk hk
theorem PSk.turn {pg B bx bt bl tk:Nat} {S:Nat→Prop} {w w':World} {acc:List LsD} {Z Z':List Int} (h:PSk pg B bx bt bl tk w acc Z) (hst:PSt pg B w' Z') (hc:Chg S w w') (hs:∀ k,k<w.heap.size→S k→Cp pg w k) (hn:∀ k,Cp pg w' k→Cp pg w k∨w.heap.size≤k) :
  PSk pg B bx bt bl tk w' acc Z'∧∀ k,Ck pg bl w' k→Ck pg bl w k∨w.heap.size≤k:=by
 obtain⟨v,X,h1,h2,h3,h4,h5⟩:=h.ex
 have hbl:=World.block_lt_of_cell? _ _ h1
 have hb:=h.b.c
 have hbx:=World.block_lt_of_cell? _ _ h.b.c
 have hbt:=World.block_lt_of_cell? _ _ h.t
 simp only at hbl hbx hbt
 have hc':Chg (Cp pg w) w w':=hc.mono hs
 have c1:=hc'.cellS h1 h.nl
 have key:∀ k,Ck pg bl w' k→Ck pg bl w k∨w.heap.size≤k:=fun k hk=>by
  rcases hk with hk|hk|⟨u,hu,hk⟩
  ·rcases hn k hk with h6|h6
   ·exact .inl (.inl h6)
   ·exact .inr h6
  ·exact .inl (.inr (.inl hk))
  ·rw [c1] at hu
   obtain rfl:=Option.some.inj hu
   exact .inl (.inr (.inr ⟨v,h1,hk⟩))
 have nn:∀ {b},b<w.heap.size→¬ Cp pg w b→¬ Cp pg w' b:=fun hl hb e=>(hn _ e).elim hb (fun h=>by omega)
 refine⟨⟨⟨hst,hc'.cellS hb h.b.n,nn hbx h.b.n⟩,hc'.cellS h.t (fun e=>h.nt (.inl e)),fun e=>(key _ e).elim h.nt (fun h=>by omega),fun e=>(key _ e).elim h.nx (fun h=>by omega),nn hbl h.nl,h.lb,(hc'.frozen (p:=⟨bl,0,none⟩) hbl h.nl).trans h.zl,
  v,X,c1,h2.chgB hc' (fun g hg e=>(h3 g hg).1 e),fun k hk=>⟨nn (h2.blk hk).2 (h3 k hk).1,(h3 k hk).2⟩,h4,fun j x d hx hd=>?_⟩,key⟩
 have r1:=(h5 j x d hx hd).mono (S':=fun k=>¬ Ck pg bl w k∧k<w.heap.size) (fun g hg hs=>⟨hs,hg⟩)
 have r2:=r1.chg hc' (fun g hg e=>hg.1 (.inl e))
 exact r2.mono (fun g _ hg e=>(key g e).elim hg.1 (fun h=>by omega))
theorem sideK (pg B bx bt bl tk:Nat):SideW (δ:=LsD) pg B (Ck pg bl) (PSk pg B bx bt bl tk) where
 get:=fun h=>h.b.g
 sub:=fun h=>.inl h
 low:=fun h hk=>(PSk.lt h hk).1
 move:=fun h hp=>PSk.turn h hp.st hp.chg (fun _ _ h=>h) hp.nx
theorem PSk.fresh {pg B bx bt bl tk:Nat} {w w':World} {acc:List LsD} {Z:List Int} (h:PSk pg B bx bt bl tk w acc Z) (hc:Chg (fun _=>False) w w'):PSk pg B bx bt bl tk w' acc Z∧∀ k,w.heap.size≤k→¬ Ck pg bl w' k:=by
 obtain⟨h1,h2⟩:=h.b.g.chg hc (fun _ h=>h.elim)
 have h3:=(h.turn h1 hc (fun _ _ h=>h.elim) (fun k hk=>.inl (h2 k hk))).1
 refine⟨h3,fun k hk e=>?_⟩
 obtain⟨v,X,h4,h5,-⟩:=h.ex
 have c1:=hc.cellS h4 (fun h=>h)
 rcases e with e|e|⟨u,hu,e⟩
 ·have:=(h.b.g.low (h2 k e)).2;omega
 ·have:=World.block_lt_of_cell? _ _ h4;simp only at this;omega
 ·rw [c1] at hu
  obtain rfl:=Option.some.inj hu
  have:=(h5.blk e).2;omega
theorem PSk.push {pg B bx bt bl tk:Nat} {w wa wb:World} {acc:List LsD} {Z:List Int} {v v':Value} {X:List Sl} {y:Sl} {d:LsD} (h:PSk pg B bx bt bl tk w acc Z)
  (h1:w.cell? ⟨bl,0,none⟩=some v) (h3:∀ k,v.ownBlock=some k→¬ Cp pg w k∧k≠bl) (h4:X.length=acc.length) (h5:∀ (j:Nat) x d,X[j]?=some x→acc[j]?=some d→intE.InS w (fun k=>¬ Ck pg bl w k) x (lookRow tk d.2.2))
  (hy:intE.InS w (fun k=>¬ Ck pg bl w k) y (lookRow tk d.2.2)) (ha:Chg (fun _=>False) w wa) (ho:listE.Own wb B v' (X++[y])) (hb:Chg (fun k=>v.ownBlock=some k) wa wb) (hv:v'.ownBlock=v.ownBlock∨v'.ownBlock=some wa.heap.size) :
  (wb.cell? ⟨bl,0,none⟩=some v∧wb.frozen? ⟨bl,0,none⟩=false)∧WPost (Ck pg bl) (PSk pg B bx bt bl tk) w (acc++[d]) Z (.returned (.tuple #[])) (wb.setCell ⟨bl,0,none⟩ v'):=by
 have hbl:=World.block_lt_of_cell? _ _ h1
 have hbx:=World.block_lt_of_cell? _ _ h.b.c
 have hbt:=World.block_lt_of_cell? _ _ h.t
 simp only at hbl hbx hbt
 have hsa:=ha.size
 have nob:¬ v.ownBlock=some bl:=fun e=>(h3 bl e).2 rfl
 have hab:Chg (fun k=>v.ownBlock=some k) w wb:=ha.any.trans hb
 have cb:wb.cell? ⟨bl,0,none⟩=some v:=hab.cellS h1 nob
 have zb:wb.frozen? ⟨bl,0,none⟩=false:=(hab.frozen (p:=⟨bl,0,none⟩) hbl nob).trans h.zl
 obtain⟨w',hw'⟩:∃ W,W=wb.setCell ⟨bl,0,none⟩ v':=⟨_,rfl⟩
 have hs:Chg (·=bl) wb w':=by rw [hw'];exact setCellChg wb bl 0 v'
 have hc:Chg (fun k=>v.ownBlock=some k∨k=bl) w w':=(hab.mono (fun _ _ e=>.inl e)).trans (hs.mono (fun _ _ e=>.inr e))
 have c':w'.cell? ⟨bl,0,none⟩=some v':=by rw [hw'];exact World.cell?_setCell_same _ _ _ cb
 obtain⟨p1,p2⟩:=h.b.g.chg hc (fun k hk e=>by
  rcases hk with hk|rfl
  ·exact (h3 k hk).1 e
  ·exact h.nl e)
 have key:∀ k,Ck pg bl w' k→Ck pg bl w k∨w.heap.size≤k:=fun k hk=>by
  rcases hk with hk|hk|⟨u,hu,hk⟩
  ·exact .inl (.inl (p2 k hk))
  ·exact .inl (.inr (.inl hk))
  ·rw [c'] at hu
   obtain rfl:=Option.some.inj hu
   rcases hv with hv|hv
   ·rw [hv] at hk;exact .inl (.inr (.inr ⟨v,h1,hk⟩))
   ·rw [hv] at hk;have:=Option.some.inj hk;exact .inr (by omega)
 have nS:∀ {b},¬ Ck pg bl w b→¬ (v.ownBlock=some b∨b=bl):=fun hb e=>by
  rcases e with e|e
  ·exact hb (.inr (.inr ⟨v,h1,e⟩))
  ·exact hb (.inr (.inl e))
 have nob':∀ g,v'.ownBlock=some g→¬ g=bl:=fun g hg e=>by
  rcases hv with hv|hv
  ·rw [hv] at hg;exact (h3 g hg).2 e
  ·rw [hv] at hg;have:=Option.some.inj hg;omega
 have hel:∀ {x:Sl} {L:List Int},intE.InS w (fun k=>¬ Ck pg bl w k) x L→intE.InS w' (fun k=>¬ Ck pg bl w' k) x L:=fun hx=>by
  have r1:=hx.mono (S':=fun k=>¬ Ck pg bl w k∧k<w.heap.size) (fun g hg hs=>⟨hs,hg⟩)
  have r2:=r1.chg hc (fun g hg e=>nS hg.1 e)
  exact r2.mono (fun g _ hg e=>(key g e).elim hg.1 (fun h=>by omega))
 rw [← hw']
 refine⟨⟨cb,zb⟩,rfl,⟨⟨p1,hc.cellS h.b.c (nS h.nx),fun e=>h.b.n (p2 _ e)⟩,hc.cellS h.t (nS h.nt),fun e=>(key _ e).elim h.nt (fun h=>by omega),fun e=>(key _ e).elim h.nx (fun h=>by omega),fun e=>h.nl (p2 _ e),h.lb,by rw [hw'];exact (World.frozen?_setCell _ _ _ _).trans zb,
  v',X++[y],c',ho.chgB hs (fun g hg e=>nob' g hg e),fun k hk=>⟨fun e=>?_,nob' k hk⟩,by simp [h4],fun j x d' hx hd=>?_⟩,hc.mono (fun k _ hk=>?_),key⟩
 ·rcases hv with hv|hv
  ·rw [hv] at hk;exact (h3 k hk).1 (p2 k e)
  ·rw [hv] at hk;have:=Option.some.inj hk;have:=(h.b.g.low (p2 k e)).2;omega
 ·rw [List.getElem?_append] at hx hd
  by_cases hj:j<X.length
  ·rw [if_pos hj] at hx
   rw [if_pos (by omega)] at hd
   exact hel (h5 j x d' hx hd)
  ·rw [if_neg hj] at hx
   rw [if_neg (by omega)] at hd
   have hj0:j-X.length=0:=by
    have:=(List.getElem?_eq_some_iff.1 hx).1
    simp at this;omega
   rw [hj0] at hx
   rw [show j-acc.length=0 by omega] at hd
   simp at hx hd
   subst hx hd
   exact hel hy
 ·rcases hk with hk|hk
  ·exact .inr (.inr ⟨v,h1,hk⟩)
  ·exact .inr (.inl hk)
theorem rowSet {w:World} {h j:Nat} {C:List Int} {x:Int} (hR:I.Row w h C) (hj:j<C.length) (hx:I.Byte x):I.Row (w.setCell ⟨h,j,none⟩ (.int .i64 x)) h (C.set j x) :=
 ⟨fun k a hk=>by
  by_cases e:k=j
  ·subst e
   rw [List.getElem?_set_self hj] at hk
   obtain rfl:=Option.some.inj hk
   exact World.cell?_setCell_same _ _ _ (hR.c k _ (List.getElem?_eq_getElem hj))
  ·rw [List.getElem?_set_ne (Ne.symm e)] at hk
   rw [World.cell?_setCell_other _ _ _ _ (by intro h;injection h with _ h;exact e h.symm)]
   exact hR.c k a hk,fun k=>(World.frozen?_setCell _ _ _ _).trans (hR.z k),Nat.lt_of_lt_of_le hR.lt (setCellChg _ _ _ _).size,fun a ha=>by
  rcases List.mem_or_eq_of_mem_set ha with h|h
  ·exact hR.byte a h
  ·rw [h];exact hx⟩
theorem lookRow_len (tk:Nat) (es:List (Int × Int)):(lookRow tk es).length=tk+1:=by
 have:∀ (es:List (Int × Int)) (L:List Int),(es.foldl (fun l e=>l.set (e.1+1).toNat e.2) L).length=L.length:=by
  intro es
  induction es with
  | nil=>intro L;rfl
  | cons e es ih=>intro L;rw [List.foldl_cons,ih,List.length_set]
 unfold lookRow
 rw [this,List.length_replicate]
theorem lookRow_take (tk:Nat) {es:List (Int × Int)} {k:Nat} {e:Int × Int} (h:es[k]?=some e):lookRow tk (es.take (k+1))=(lookRow tk (es.take k)).set (e.1+1).toNat e.2:=by
 unfold lookRow
 rw [List.take_add_one,h,List.foldl_append]
 rfl
end Go.Proofs.YtgnpmceimpjheaaGreat
namespace Go.Proofs.YtgnpmceimpjheaaGreat
open Go.RowKit
structure OkL (tk:Nat) (d:LsD):Prop where
 k:0≤d.1∧d.1≤255
 a:d.2.1.length≤1000000000∧∀ z∈d.2.1,U32 z
 el:d.2.2.length≤1000000000
 e:∀ e∈d.2.2,-1≤e.1∧e.1<tk∧I.Byte e.2
def ptL (d:LsD):List Int:=ptLs (d.1,d.2.1)
theorem plook1_any {pg B bx bt bl tk:Nat} {Z:List Int} {acc:List LsD} (y:Int × Sl × Sl) (d:LsD) (w:World) (h:PSk pg B bx bt bl tk w acc Z) (hr:lsR w (·<B) y d) (hok:OkL tk d) (htk:tk≤900) (hac:acc.length≤1000000000) (hl:(Z++ptL d).length≤1000000000) :
  Calls Tryz.prog 71 #[lsVal y,.pointer (some ⟨bx,0,none⟩),.pointer (some ⟨bt,0,none⟩),.pointer (some ⟨bl,0,none⟩)] w (WPost (Ck pg bl) (PSk pg B bx bt bl tk) w (acc++[d]) (Z++ptL d)):=by
 obtain⟨k,al,es⟩:=d
 obtain⟨yk,⟨aa,an,ac⟩,⟨ea,en,ec⟩⟩:=y
 obtain⟨r1,r2,r3,r4⟩:=hr
 simp only at r1 r2 r3 r4
 subst r1
 obtain⟨rfl,-⟩:=r3.len
 obtain⟨rfl,-⟩:=r4.len
 obtain⟨o1,⟨o2,o3⟩,o4,o5⟩:=hok
 simp only at o1 o2 o3 o4 o5
 have HL:Hid (Z.length≤1000000000∧((Z++ptInt yk)++ptList ptInt al).length≤1000000000):=jh (by
  simp only [ptL,ptLs,List.length_append] at hl ⊢;omega)
 obtain⟨w0,hw0⟩:∃ W,W=w.alloc (.cells #[.int .u8 yk,.slice aa al.length ac,.slice ea es.length ec] 67):=⟨_,rfl⟩
 have hC0:Chg (fun _=>False) w w0:=by rw [hw0];exact (Chg.refl _ _).alloc _
 have HS:=jh h
 have HP0:Hid (Puts pg B w w0 Z):=jh (h.b.g.fresh hC0)
 have hn:¬ Cp pg w0 w.heap.size:=h.b.g.newF hC0 (Nat.le_refl _)
 have HK:Hid (∀ W Z',Puts pg B w0 W Z'→W.cell? ⟨bx,0,none⟩=some (.pointer (some ⟨pg,0,none⟩))∧W.cell? ⟨bt,0,none⟩=some (.int .i64 tk)∧W.cell? ⟨w.heap.size,0,none⟩=some (.int .u8 yk)∧W.cell? ⟨w.heap.size,1,none⟩=some (.slice aa al.length ac)∧W.cell? ⟨w.heap.size,2,none⟩=some (.slice ea es.length ec)):=jh (fun W Z' hp=>by
  have h1:=HP0.out.trans hp
  exact⟨h1.keep h.b.n h.b.c,h1.keep (fun e=>h.nt (.inl e)) h.t,hp.keep hn (by rw [hw0,World.cell?_alloc_new];rfl),hp.keep hn (by rw [hw0,World.cell?_alloc_new];rfl),hp.keep hn (by rw [hw0,World.cell?_alloc_new];rfl)⟩)
 have HES:Hid (∀ W Z',Puts pg B w0 W Z'→intE.InS W (·<B) (aa,al.length,ac) al∧ledgeE.InS W (·<B) (ea,es.length,ec) es):=jh (fun W Z' hp=>by
  have hc:=(HP0.out.trans hp).below h.b.g
  exact⟨r3.chg hc (fun g hg e=>by omega),r4.chg hc (fun g hg e=>by omega)⟩)
 have hmf:∀ (fn:Fn) (first cap:Array Value) (w:World),(Instr.makeFunc fn first cap).run Tryz.prog w=.ok (.func fn first cap) w:=fun _ _ _ _=>rfl
 have hwk:IntKind.i64.wrap yk=yk:=by rw [IntKind.wrap_i64];omega
 have HO1:Hid (U32 yk):=jh ⟨by omega,by omega⟩
 have HO3:=jh o3
 have HO5:=jh o5
 have HAC:=jh hac
 clear h hn hl r2 r3 r4 o3 o5 hC0 hac
 show Calls Tryz.prog 71 #[.agg #[.int .u8 yk,.slice aa al.length ac,.slice ea es.length ec],.pointer (some ⟨bx,0,none⟩),.pointer (some ⟨bt,0,none⟩),.pointer (some ⟨bl,0,none⟩)] w _
 go_enter Tryz.func71,Tryz.ntmps71
 go_upto_region 1 with (fail)
 rw [← hw0]
 clear hw0
 obtain⟨q0,q1,q2,q3,q4⟩:=HK.out w0 Z HP0.out.st.refl
 go_wp2_with fail
 refine (pnum_any yk w0 HP0.out.st HO1.out HL.out.1).mono ?_
 rintro e1 w1 ⟨rfl,hp1⟩
 have HP1:=jh hp1
 clear hp1 q0 q1 q2 q3 q4
 obtain⟨q0,q1,q2,q3,q4⟩:=HK.out w1 _ HP1.out
 go_wp2_with fail
 refine (pints_any al aa ac w1 HP1.out.st (HES.out w1 _ HP1.out).1 HO3.out o2 HL.out.2).mono ?_
 rintro e2 w2 ⟨rfl,hp2⟩
 have HP2:=jh (HP1.out.trans hp2)
 clear hp2 q0 q1 q2 q3 q4
 obtain⟨q0,q1,q2,q3,q4⟩:=HK.out w2 _ HP2.out
 have HPT:=jh (HP0.out.trans HP2.out)
 have HS2:Hid (PSk pg B bx bt bl tk w2 acc ((Z++ptInt yk)++ptList ptInt al)∧∀ k,Ck pg bl w2 k→Ck pg bl w k∨w.heap.size≤k):=jh ((sideK pg B bx bt bl tk).move HS.out HPT.out)
 have wt1:wrap64 ((tk:Int)+1)=((tk+1:Nat):Int):=by unfold wrap64;omega
 obtain⟨w2a,hw2a⟩:∃ W,W=w2.alloc (.cells #[.int .i64 (-1)] 3):=⟨_,rfl⟩
 have HC2a:Hid (Chg (fun _=>False) w2 w2a):=jh (by rw [hw2a];exact (Chg.refl _ _).alloc _)
 have hx2:w2a.cell? ⟨w2.heap.size,0,none⟩=some (.int .i64 (-1)):=by rw [hw2a];exact allocNew _ _ rfl
 have HRP:=jh (repeat_any (tk+1) (by omega) (by omega) w2.heap.size w2a hx2)
 have q1a:=allocOld (.cells #[.int .i64 (-1)] 3) q1
 go_wp2_with fail
 rw [← hw2a]
 clear hw2a hx2 q0 q1 q2 q3 q4 q1a
 refine HRP.out.mono ?_
 rintro e3 w3 ⟨h,rfl,hh,hr3,hc3⟩
 have HH:Hid (w2.heap.size≤h):=jh (Nat.le_trans HC2a.out.size hh)
 have HR3:=jh hr3
 have HC3:=jh (HC2a.out.trans hc3)
 clear hh hr3 hc3 HRP
 obtain⟨-,-,-,-,q4⟩:=HK.out w3 _ (HP2.out.trans (HP2.out.st.fresh HC3.out))
 go_upto_region 5 with (fail)
 clear q4
 go_loopw [26] (fun q wr=>∃ k:Nat,k≤es.length∧q=.int .i64 k∧I.Row wr h (lookRow tk (es.take k))∧Chg (·=h) w3 wr) (fun q _=>es.length-(intOf q).toNat)
 case atStart=>exact⟨0,by omega,rfl,HR3.out,Chg.refl _ _⟩
 case round =>
  clear HR3
  obtain⟨j,hj,rfl,hR,hc⟩:=hrel
  have HR:=jh hR
  have HC:=jh hc
  clear hR hc
  have HC2:Hid (Chg (fun _=>False) w2 wr):=jh (HC3.out.trans2 HC.out (fun g hg e=>by have:=HH.out;omega))
  by_cases hjl:j<es.length
  ·have b9:decide ((j:Int)<(es.length:Int))=true:=by simp;omega
   have h4:=(HES.out wr _ (HP2.out.trans (HP2.out.st.fresh HC2.out))).2
   obtain⟨⟨tok,tt⟩,d',g,o,hx,hrx,rfl,-,-,-,hcells⟩:=(ListR.of h4).get2 (f:=encPair) rfl hjl rfl
   obtain⟨c0,c1⟩:=hcells _ _ rfl
   obtain rfl:(tok,tt)=d':=hrx
   have HX:=jh hx
   obtain⟨t1,t2,t3⟩:=HO5.out _ (List.mem_of_getElem? hx)
   simp only at t1 t2 t3
   obtain⟨u,hu⟩:=Int.eq_ofNat_of_zero_le (show 0≤tok+1 by omega)
   have hu2:u<tk+1:=by omega
   have HLL:=jh (lookRow_len tk (es.take j))
   have wt2:wrap64 (tok+1)=(u:Int):=by unfold wrap64;omega
   have b5:(u:Int)<((tk+1:Nat):Int):=by omega
   have b6:(u:Int)<(tk:Int)+1:=by omega
   obtain⟨w6,hw6⟩:∃ W,W=wr.alloc (.cells #[.int .i64 tok,.int .i64 tt] 149):=⟨_,rfl⟩
   have HC6:Hid (Chg (fun _=>False) wr w6):=jh (by rw [hw6];exact (Chg.refl _ _).alloc _)
   have f0:w6.cell? ⟨wr.heap.size,0,none⟩=some (.int .i64 tok):=by rw [hw6,World.cell?_alloc_new];rfl
   have f1:w6.cell? ⟨wr.heap.size,1,none⟩=some (.int .i64 tt):=by rw [hw6,World.cell?_alloc_new];rfl
   have hR6:I.Row w6 h (lookRow tk (es.take j)):=HR.out.chg HC6.out (fun h=>h)
   have f2:w6.cell? ⟨h,u,none⟩=some (.int .i64 ((lookRow tk (es.take j)).getD u 0)):=by
    have:=hR6.c u ((lookRow tk (es.take j)).getD u 0) (by rw [List.getD_eq_getElem?_getD,List.getElem?_eq_getElem (by rw [HLL.out];exact hu2)];rfl)
    exact this
   have f3:=hR6.z u
   have HR7:Hid (I.Row (w6.setCell ⟨h,u,none⟩ (.int .i64 tt)) h (lookRow tk (es.take (j+1)))):=jh (by
    rw [lookRow_take tk HX.out]
    have:=rowSet hR6 (j:=u) (x:=tt) (by rw [HLL.out];exact hu2) t3
    simp only
    rw [show (tok+1).toNat=u by omega]
    exact this)
   have HC7:Hid (Chg (·=h) w3 (w6.setCell ⟨h,u,none⟩ (.int .i64 tt))):=jh ((HC.out.trans HC6.out.any).trans (setCellChg _ _ _ _))
   clear hx hcells h4 t1 t2 t3 hu hR6
   go_upto_region 7 with (fail)
   rw [← hw6]
   clear hw6 c0 c1
   go_wp2
   go_roundw
   case rel=>exact⟨j+1,by omega,by go_num,HR7.out,HC7.out⟩
   case measure=>simp [intOf];omega
  ·obtain rfl:j=es.length:=by omega
   have b9:decide ((es.length:Int)<(es.length:Int))=false:=by simp
   have HRF:Hid (I.Row wr h (lookRow tk es)):=jh (by
    have:=HR.out
    rwa [List.take_of_length_le (Nat.le_refl _)] at this)
   obtain⟨hk1,hk2⟩:=PSk.fresh HS2.out.1 HC2.out
   obtain⟨v,X,x1,x2,x3,x4,x5⟩:=hk1.ex
   have HKR:=jh hk1
   have HX2:=jh x2
   have HX1:=jh x1
   have HX3:=jh x3
   have HX4:=jh x4
   have HX5:=jh x5
   have hny:¬ Ck pg bl wr h:=hk2 h HH.out
   have HY:Hid (intE.InS wr (fun k=>¬ Ck pg bl wr k) (some ⟨h,0,none⟩,tk+1,tk+1) (lookRow tk es)):=jh ⟨(lookRow_len tk es).symm,Nat.le_refl _,h,0,(intRow.2 HRF.out).at' (List.prefix_refl _),fun _=>⟨rfl,hny⟩⟩
   obtain⟨va,vl,vc,hv⟩:=x2.shape3
   subst hv
   obtain⟨wa,hwa⟩:∃ W,W=wr.alloc (.cells #[.slice (some ⟨h,0,none⟩) (tk+1) (tk+1)] 25):=⟨_,rfl⟩
   have HCA:Hid (Chg (fun _=>False) wr wa):=jh (by rw [hwa];exact (Chg.refl _ _).alloc _)
   have HWA:=jh hwa
   have HBW:Hid (B≤wr.heap.size):=jh (by have:=hk1.b.g.lt;have:=hk1.b.g.le;omega)
   have HXL:Hid (X.length≤1000000000):=jh (by rw [x4];exact HAC.out)
   clear hk1 hk2 x2 x3 x4 x5 hny hwa
   go_wp2_with (at_builtin;go_loud (refine Elt.wpList_append2 listE rfl _ _ 26 26 rfl rfl B (.slice va vl vc) X [(some ⟨h,0,none⟩,tk+1,tk+1)] (.slice (some ⟨wr.heap.size,0,none⟩) 1 1) rfl rfl (HX2.out.chg ((Chg.refl (fun _=>False) _).alloc _) (fun _ _ _ h=>h)) (by have:=HBW.out;simp;omega) (Elt.srcLit listE (w:=wr) (Y:=[(some ⟨h,0,none⟩,tk+1,tk+1)]) (e:=25) 1 (fun _ _=>trivial)) (fun _ _=>trivial) (by have:=HXL.out;simp;omega) ?_;intro v' wb HO1 HC4 HB1;obtain⟨va',vl',vc',hv'⟩:=HO1.out.shape3;subst hv';obtain⟨⟨k1,k2⟩,hf1⟩:=PSk.push (d:=(yk,al,es)) HKR.out HX1.out HX3.out HX4.out HX5.out HY.out ((Chg.refl (fun _=>False) wr).alloc _) HO1.out HB1.out.1 HB1.out.2;have HFF:=jh hf1;clear hf1))
   go_wp2
   go_end0
   have HPR:=HPT.out.trans (HP2.out.st.fresh HC2.out)
   have h1:=WPost.puts (sideK pg B bx bt bl tk) HS.out HPR
   have h2:=h1.trans HFF.out
   rw [List.append_assoc] at h2
   exact h2
end Go.Proofs.YtgnpmceimpjheaaGreat
namespace Go.Proofs.YtgnpmceimpjheaaGreat
open Go.RowKit
theorem writes_look {pg B bx bt bl tk:Nat} (htk:tk≤900):Writes 71 #[] #[.pointer (some ⟨bx,0,none⟩),.pointer (some ⟨bt,0,none⟩),.pointer (some ⟨bl,0,none⟩)] ptL (OkL tk) lsE lsVal lsR B (Ck pg bl) (PSk pg B bx bt bl tk):=by
 intro w acc Z x d h ha hx hr hok hl
 show Calls Tryz.prog 71 #[lsVal x,.pointer (some ⟨bx,0,none⟩),.pointer (some ⟨bt,0,none⟩),.pointer (some ⟨bl,0,none⟩)] w _
 exact plook1_any x d w h hr hok htk ha hl
theorem ptLook_eq (tk:Nat) (A:List LsD):ptLook tk A=ptList ptL A++ptTable ((tk+1:Nat):Int) (A.map (fun s=>lookRow tk s.2.2)):=by
 unfold ptLook ptList
 rw [List.length_map,List.flatMap_map]
 rfl
theorem plook_any {pg B:Nat} {Z:List Int} (A:List LsD) (a:Option Addr) (c tk:Nat) (w:World) (h:PSt pg B w Z) (hA:ListR lsE lsR w (·<B) (a,A.length,c) A) (hok:∀ d∈A,OkL tk d) (htk:tk≤64) (han:A.length≤4096) (hmk:makeOk ((tk:Int)+1) (A.map (fun s=>lookRow tk s.2.2))=true) (hl:(Z++ptLook tk A).length≤1000000000) :
  Calls Tryz.prog 30 #[.pointer (some ⟨pg,0,none⟩),.agg #[.slice a A.length c],.int .i64 tk] w fun e' w'=>e'=.returned (.tuple #[])∧Puts pg B w w' (Z++ptLook tk A):=by
 rw [ptLook_eq] at hl ⊢
 obtain⟨LL,hLL⟩:∃ x,A.map (fun s=>lookRow tk s.2.2)=x:=⟨_,rfl⟩
 have HLL:=jh hLL
 have hLn:LL.length=A.length:=by rw [← hLL];simp
 have HLN:=jh hLn
 rw [hLL] at hl hmk ⊢
 clear hLL hLn
 have HL:Hid ((Z++ptList ptL A).length≤1000000000∧((Z++ptList ptL A)++ptTable ((tk+1:Nat):Int) LL).length≤1000000000):=jh (by
  simp only [List.length_append] at hl ⊢;omega)
 obtain⟨w0,hw0⟩:∃ W,W=(((w.alloc (.cells #[.pointer (some ⟨pg,0,none⟩)] 81)).alloc (.cells #[.slice a A.length c] 63)).alloc (.cells #[.int .i64 tk] 3)).alloc (.cells #[.slice none 0 0] 26):=⟨_,rfl⟩
 have hC0:Chg (fun _=>False) w w0:=by rw [hw0];exact ((((Chg.refl _ w).alloc _).alloc _).alloc _).alloc _
 have HP0:Hid (Puts pg B w w0 Z):=jh (h.fresh hC0)
 have c0:w0.cell? ⟨w.heap.size,0,none⟩=some (.pointer (some ⟨pg,0,none⟩)):=by rw [hw0];exact allocOld _ (allocOld _ (allocOld _ (allocNew _ _ rfl)))
 have c1:w0.cell? ⟨w.heap.size+1,0,none⟩=some (.slice a A.length c):=by rw [hw0];exact allocOld _ (allocOld _ (allocNew _ _ (by simp)))
 have c2:w0.cell? ⟨w.heap.size+1+1,0,none⟩=some (.int .i64 tk):=by rw [hw0];exact allocOld _ (allocNew _ _ (by simp))
 have c3:w0.cell? ⟨w.heap.size+1+1+1,0,none⟩=some (.slice none 0 0):=by rw [hw0];exact allocNew _ _ (by simp)
 have z3:w0.frozen? ⟨w.heap.size+1+1+1,0,none⟩=false:=by
  have e:w.heap.size+1+1+1=(((w.alloc (.cells #[.pointer (some ⟨pg,0,none⟩)] 81)).alloc (.cells #[.slice a A.length c] 63)).alloc (.cells #[.int .i64 tk] 3)).heap.size:=by simp
  rw [hw0,e]
  exact World.frozen?_alloc_new _ _ _ _
 obtain⟨bl,hbl⟩:∃ b,b=w.heap.size+1+1+1:=⟨_,rfl⟩
 rw [← hbl] at c3 z3
 obtain⟨bt,hbt⟩:∃ b,b=w.heap.size+1+1:=⟨_,rfl⟩
 rw [← hbt] at c2
 obtain⟨ba,hba⟩:∃ b,b=w.heap.size+1:=⟨_,rfl⟩
 rw [← hba] at c1
 obtain⟨bx,hbx⟩:∃ b,b=w.heap.size:=⟨_,rfl⟩
 rw [← hbx] at c0
 have hnp:∀ k,w.heap.size≤k→¬ Cp pg w0 k:=fun k hk=>h.newF hC0 hk
 have hnk:∀ k,w.heap.size≤k→k≠bl→¬ Ck pg bl w0 k:=fun k hk hkl e=>by
  rcases e with e|e|⟨u,hu,e⟩
  ·exact hnp k hk e
  ·exact hkl e
  ·rw [c3] at hu
   obtain rfl:=Option.some.inj hu
   cases e
 have HB:Hid (bx=w.heap.size∧ba=w.heap.size+1∧bt=w.heap.size+2∧bl=w.heap.size+3∧B≤w.heap.size):=jh ⟨hbx,hba,by omega,by omega,by have:=h.lt;have:=h.le;omega⟩
 have HS0:Hid (PSk pg B bx bt bl tk w0 [] Z):=jh ⟨⟨HP0.out.st,c0,hnp _ (by omega)⟩,c2,hnk _ (by omega) (by omega),hnk _ (by omega) (by omega),hnp _ (by omega),by have:=HB.out;omega,z3,.slice none 0 0,[],c3,.nil _ _,(fun k hk=>by cases hk),rfl,fun j x d hx=>by simp at hx⟩
 have HNA:Hid (¬ Ck pg bl w0 ba):=jh (hnk _ (by omega) (by omega))
 have HN3:Hid (∀ v,w0.cell? ⟨bl,0,none⟩=some v→v=.slice none 0 0):=jh (fun v hv=>by rw [c3] at hv;exact (Option.some.inj hv).symm)
 have HC0:=jh hC0
 have HPS:=jh h
 have HA0:=jh ((ListR.good lsR.good).chg hA hC0 (fun _ _ h=>h))
 have HOK:=jh hok
 have HMK:=jh hmk
 have hmf:∀ (fn:Fn) (first cap:Array Value) (w:World),(Instr.makeFunc fn first cap).run Tryz.prog w=.ok (.func fn first cap) w:=fun _ _ _ _=>rfl
 have eg:=enters_of Tryz.func71 (by kernel_rfl) rfl
 have wt1:wrap64 ((tk:Int)+1)=((tk+1:Nat):Int):=by unfold wrap64;omega
 have HPUT:=jh (putLs lsR.good (sideK pg B bx bt bl tk) 71 #[] #[.pointer (some ⟨bx,0,none⟩),.pointer (some ⟨bt,0,none⟩),.pointer (some ⟨bl,0,none⟩)] ptL (OkL tk) eg (writes_look (by omega)) A a c w0 Z HS0.out HA0.out hok (by omega) HL.out.1)
 have d1:=HS0.out.b.c
 have d2:=c1
 clear h hA hok hmk hl hC0 c1 c3 z3 hnp hnk c0 c2
 go_enter Tryz.func30,Tryz.ntmps30
 go_upto_region 2 with (fail)
 rw [← hw0,← hbl,← hbt,← hba,← hbx]
 clear hw0 hbl hbt hba hbx
 go_wp2_with fail
 refine HPUT.out.mono ?_
 rintro e1 w1 ⟨rfl,hs1,hc1,hn1⟩
 have HS1:=jh hs1
 have HC1:=jh hc1
 have HN1:=jh hn1
 clear hc1 hn1 HPUT d1 d2
 obtain⟨v,X,x1,x2,-,x4,x5⟩:=hs1.ex
 obtain⟨va,vc,rfl⟩:=x2.shape
 have HLI:Hid (ListsIn w1 0 (va,LL.length,vc) LL):=jh (by
  obtain⟨a',g,c',e1,e2,e3,e4⟩:=x2.at'
  injection e1 with e1 e5 e6
  subst e1 e6
  have hn:=HLN.out
  refine⟨X,⟨by show LL.length=X.length;omega,by show LL.length≤vc;omega,g,0,e3,fun hp=>⟨(e4 hp).1,Nat.zero_le _⟩⟩,by omega,fun j x l hx hl=>?_⟩
  rw [← HLL.out,List.getElem?_map] at hl
  obtain⟨d,hd,rfl⟩:=Option.map_eq_some_iff.1 hl
  exact Elt.InS.in' (x5 j x d hx hd) (fun _ _=>Nat.zero_le _))
 have HPT:Hid (Puts pg B w w1 (Z++ptList ptL A)):=jh (by
  have hw0l:=HC0.out.size
  have hcp:=HPS.out.chg HC0.out (fun _ h=>h.elim)
  have hcell:=HN3.out
  have hck:∀ k,Ck pg bl w0 k→Cp pg w0 k∨k=bl:=fun k hk=>by
   rcases hk with hk|hk|⟨u,hu,hk⟩
   ·exact .inl hk
   ·exact .inr hk
   ·rw [hcell u hu] at hk;cases hk
  refine⟨hs1.b.g,(HC0.out.any (S:=Cp pg w)).trans2 HC1.out (fun k hk e=>?_),fun k hk=>?_⟩
  ·rcases hck k e with e|e
   ·exact hcp.2 k e
   ·have:=HB.out;omega
  ·rcases HN1.out k (.inl hk) with e|e
   ·rcases hck k e with e|e
    ·exact .inl (hcp.2 k e)
    ·exact .inr (by have:=HB.out;omega)
   ·exact .inr (by omega))
 have d1:=hs1.b.c
 have d2:=hs1.t
 have hXL:X.length=LL.length:=by rw [HLN.out];exact x4
 have HTB:=jh (ptable_any (tk+1) LL va vc w1 HPT.out.st HLI.out (by omega) (by have:=HLN.out;omega) (by rw [show ((tk+1:Nat):Int)=(tk:Int)+1 by omega];exact HMK.out) (by
  rw [HLN.out]
  have:=Nat.mul_le_mul han (show tk+1≤65 by omega)
  omega) HL.out.2)
 have d3:=x1
 rw [hXL] at d3
 clear hXL x1 x2 x4 x5 hs1 HLI
 go_wp2_with fail
 refine HTB.out.mono ?_
 rintro e2 w2 ⟨rfl,hp2⟩
 have HF:=jh (HPT.out.trans hp2)
 clear hp2 d1 d2 d3 HTB
 go_wp2
 go_end0
 refine⟨rfl,?_⟩
 have:=HF.out
 rw [List.append_assoc] at this
 exact this
end Go.Proofs.YtgnpmceimpjheaaGreat
namespace Go.Proofs.YtgnpmceimpjheaaGreat
open Go.RowKit
theorem idxV_has {r:RowD} {R:List RowD} (h:r∈R):∃ j:Nat,idxV (rowEq r) R=j∧R[j]?=some r:=by
 have h1:R.findIdx (rowEq r)<R.length:=by
  rw [List.findIdx_lt_length]
  exact⟨r,h,by simp [rowEq]⟩
 refine⟨R.findIdx (rowEq r),by unfold idxV;rw [if_pos h1],?_⟩
 have h2:=List.findIdx_getElem (w:=h1)
 rw [List.getElem?_eq_getElem h1]
 simp only [rowEq,decide_eq_true_eq] at h2
 rw [← h2]
theorem makeL_tells (LL:List (List Int)):∀ (i:Nat) (L:List Int),LL[i]?=some L→∃ j:Nat,(makeL LL).2[i]?=some (j:Int)∧(makeL LL).1[j]?=some (rowL L):=by
 have key:∀ (n:Nat),n≤LL.length→∀ (i:Nat) (L:List Int),i<n→LL[i]?=some L→∃ j:Nat,(makeL (LL.take n)).2[i]?=some (j:Int)∧(makeL (LL.take n)).1[j]?=some (rowL L):=by
  intro n
  induction n with
  | zero=>intro _ i L h;omega
  | succ n ih =>
   intro hn i L hi hL
   have hl:LL[n]?=some LL[n]:=List.getElem?_eq_getElem (by omega)
   have e:LL.take (n+1)=LL.take n++[LL[n]]:=by rw [List.take_add_one,hl];rfl
   have hlen:=(makeL_len (LL.take n)).2
   rw [List.length_take] at hlen
   rw [e,makeL_snoc]
   generalize makeL (LL.take n)=t at *
   obtain⟨R,O⟩:=t
   simp only at hlen ih
   unfold addL
   by_cases hin:i<n
   ·obtain⟨j,h1,h2⟩:=ih (by omega) i L hin hL
    have h3:=(List.getElem?_eq_some_iff.1 h1).1
    have h4:=(List.getElem?_eq_some_iff.1 h2).1
    refine⟨j,?_⟩
    split
    ·exact⟨by rw [List.getElem?_append_left h3];exact h1,h2⟩
    ·exact⟨by rw [List.getElem?_append_left h3];exact h1,by rw [List.getElem?_append_left h4];exact h2⟩
   ·obtain rfl:i=n:=by omega
    rw [hl] at hL
    obtain rfl:=Option.some.inj hL
    split
    ·rename_i hh
     obtain⟨j,h1,h2⟩:=idxV_has (hasRow_iff.1 hh)
     refine⟨j,?_,h2⟩
     show (O++[idxV (rowEq (rowL LL[i])) R])[i]?=_
     rw [h1,List.getElem?_append_right (by omega),show i-O.length=0 by omega]
     rfl
    ·refine⟨R.length,?_,?_⟩
     ·show (O++[(R.length:Int)])[i]?=_
      rw [List.getElem?_append_right (by omega),show i-O.length=0 by omega]
      rfl
     ·show (R++[rowL LL[i]])[R.length]?=_
      simp
 intro i L hL
 have:=key LL.length (Nat.le_refl _) i L (List.getElem?_eq_some_iff.1 hL).1 hL
 rwa [List.take_length] at this
theorem makeL_at {W:Int} {LL:List (List Int)} {i k:Nat} {L:List Int} {n:Int} (hL:LL[i]?=some L) (hn:L[k]?=some n) (hk:(k:Int)<W):atTab (W,(makeL LL).1,(makeL LL).2) i k=n:=by
 obtain⟨j,h1,h2⟩:=makeL_tells LL i L hL
 have h3:=(List.getElem?_eq_some_iff.1 h1).1
 have h4:=(List.getElem?_eq_some_iff.1 h2).1
 unfold atTab
 simp only
 rw [if_neg (by omega),Int.toNat_natCast,h1]
 simp only
 rw [if_neg (by omega),Int.toNat_natCast,h2]
 exact atRow_rowL L k n hn
end Go.Proofs.YtgnpmceimpjheaaGreat
namespace Go.Proofs.YtgnpmceimpjheaaGreat
open Go.RowKit
theorem takeL_got:∀ {Z:List Int} {i acc n s:Nat},(∀ a∈Z,Byte a)→takeL i acc Z=some (n,s)→∃ m:Nat,n=acc+m * 128 ^ i∧Z=putL m++Z.drop (s-i)∧(m≠0∨i=0)
 | [],i,acc,n,s,_,h=>by simp [takeL] at h
 | c :: l,i,acc,n,s,hb,h=>by
  obtain⟨hc0,hc1⟩:=hb c (List.mem_cons_self)
  unfold takeL at h
  split at h
  ·cases h
  split at h
  ·rename_i h5 h6
   obtain⟨m,h1,h2,h3⟩:=takeL_got (fun a ha=>hb a (List.mem_cons_of_mem _ ha)) h
   have hs:=(takeL_some h).1
   have hm0:m≠0:=h3.resolve_right (by omega)
   refine⟨c.toNat % 128+128 * m,?_,?_,.inl (by omega)⟩
   ·rw [h1,Nat.add_mul,Nat.add_assoc]
    congr 2
    rw [Nat.pow_succ,Nat.mul_comm (128 ^ i) 128,← Nat.mul_assoc,Nat.mul_comm m 128]
   ·rw [putL_big (by omega),show s-i=(s-(i+1))+1 by omega,List.drop_succ_cons,List.cons_append,show (c.toNat % 128+128 * m) / 128=m by omega,← h2]
    congr 1
    omega
  ·rename_i h5 h6
   split at h
   ·cases h
   ·rename_i h7
    injection h with h
    injection h with h8 h9
    refine⟨c.toNat,?_,?_,?_⟩
    ·rw [← h8]
     congr 2
     omega
    ·rw [putL_small (by omega),show s-i=1 by omega]
     simp only [List.drop_succ_cons,List.drop_zero,List.singleton_append]
     congr 1
     omega
    ·by_cases hi:i=0
     ·exact .inr hi
     ·left
      intro e
      exact h7 (.inl ⟨by omega,by omega⟩)
theorem takeL_bytes {Z:List Int} {n k:Nat} (hb:∀ a∈Z,Byte a) (h:takeL 0 0 Z=some (n,k)):Z=putL n++Z.drop k:=by
 obtain⟨m,h1,h2,-⟩:=takeL_got hb h
 simp only [Nat.pow_zero,Nat.mul_one,Nat.zero_add,Nat.sub_zero] at h1 h2
 rw [h1]
 exact h2
theorem numP_got {Z:List Int} {m:Nat} {s:Rd} (hb:∀ a∈Z,Byte a) (h:(numP Z m s).2.2=false):Z.drop s.1=putL (numP Z m s).1++Z.drop (numP Z m s).2.1:=by
 rcases numP_spec Z m s with ⟨n,k,h0,h1,h2,h3,h4,e⟩|e
 ·rw [e]
  have:=takeL_bytes (fun a ha=>hb a (List.mem_of_mem_drop ha)) h0
  rw [List.drop_drop] at this
  exact this
 ·rw [e] at h;cases h
theorem cellsP_got {Z:List Int} {ms mv:Nat} (hb:∀ a∈Z,Byte a):∀ (k:Nat) (s:Rd) (x:Int) (acc:List (Int × Int)),(cellsP Z ms mv k s x acc).2.2=false →
  ∃ cs:List (Int × Int),(cellsP Z ms mv k s x acc).1=acc++cs∧cs.length=k∧Z.drop s.1=bytesOf (cellsPut x cs)++Z.drop (cellsP Z ms mv k s x acc).2.1
 | 0,s,x,acc,h=>⟨[],by simp [cellsP],rfl,by simp [cellsP,cellsPut,bytesOf]⟩
 | k+1,s,x,acc,h=>by
  have hs:=cellsP_mono h
  rw [cellsP_step hs] at h ⊢
  have h3:=cellsP_mono h
  have g1:=numP_got hb (numP_mono h3)
  have g2:=numP_got hb h3
  obtain⟨cs,e1,e2,e3⟩:=cellsP_got hb k _ _ _ h
  refine⟨(x+(numP Z ms s).1,((numP Z mv (numP Z ms s).2).1:Int)-1) :: cs,by rw [e1];simp,by simp [e2],?_⟩
  rw [g1,g2,e3]
  have ea:(x+((numP Z ms s).1:Int)-x).toNat=(numP Z ms s).1:=by omega
  have eb:(((numP Z mv (numP Z ms s).2).1:Int)-1+1).toNat=(numP Z mv (numP Z ms s).2).1:=by omega
  simp only [cellsPut,bytesOf,List.flatMap_cons,ea,eb,List.append_assoc]
theorem rowP_got {Z:List Int} {mw mv:Nat} {s:Rd} (hb:∀ a∈Z,Byte a) (h:(rowP Z mw mv s).2.2=false):Z.drop s.1=bytesOf (rowPut (rowP Z mw mv s).1)++Z.drop (rowP Z mw mv s).2.1:=by
 have hc:(cellsP Z mw mv (numP Z mw (numP Z mv s).2).1 (numP Z mw (numP Z mv s).2).2 0 []).2.2=false:=h
 have h3:=cellsP_mono hc
 have g1:=numP_got hb (numP_mono h3)
 have g2:=numP_got hb h3
 obtain⟨cs,e1,e2,e3⟩:=cellsP_got hb _ _ _ _ hc
 show Z.drop s.1=bytesOf (rowPut (((numP Z mv s).1:Int)-1,(cellsP Z mw mv (numP Z mw (numP Z mv s).2).1 (numP Z mw (numP Z mv s).2).2 0 []).1))++Z.drop (cellsP Z mw mv (numP Z mw (numP Z mv s).2).1 (numP Z mw (numP Z mv s).2).2 0 []).2.1
 rw [List.nil_append] at e1
 have ea:(((numP Z mv s).1:Int)-1+1).toNat=(numP Z mv s).1:=by omega
 rw [g1,g2,e3,e1]
 simp only [rowPut,bytesOf,List.flatMap_cons,ea,e2,Int.toNat_natCast,List.append_assoc]
theorem rowsP_got {Z:List Int} {mw mv:Nat} (hb:∀ a∈Z,Byte a):∀ (k:Nat) (s:Rd) (acc:List RowD),(rowsP Z mw mv k s acc).2.2=false →
  ∃ rs:List RowD,(rowsP Z mw mv k s acc).1=acc++rs∧rs.length=k∧Z.drop s.1=bytesOf (rs.flatMap rowPut)++Z.drop (rowsP Z mw mv k s acc).2.1
 | 0,s,acc,h=>⟨[],by simp [rowsP],rfl,by simp [rowsP,bytesOf]⟩
 | k+1,s,acc,h=>by
  have hs:=rowsP_mono h
  rw [rowsP_step hs] at h ⊢
  have g1:=rowP_got hb (rowsP_mono h)
  obtain⟨rs,e1,e2,e3⟩:=rowsP_got hb k _ _ h
  refine⟨(rowP Z mw mv s).1 :: rs,by rw [e1];simp,by simp [e2],?_⟩
  rw [g1,e3,List.flatMap_cons,bytesOf_append,List.append_assoc]
theorem ofP_got {Z:List Int} {mm:Nat} (hb:∀ a∈Z,Byte a):∀ (k:Nat) (s:Rd) (acc:List Int),(ofP Z mm k s acc).2.2=false →
  ∃ os:List Int,(ofP Z mm k s acc).1=acc++os∧os.length=k∧Z.drop s.1=bytesOf os++Z.drop (ofP Z mm k s acc).2.1
 | 0,s,acc,h=>⟨[],by simp [ofP],rfl,by simp [ofP,bytesOf]⟩
 | k+1,s,acc,h=>by
  have hs:=ofP_mono h
  rw [ofP_step hs] at h ⊢
  have g1:=numP_got hb (ofP_mono h)
  obtain⟨os,e1,e2,e3⟩:=ofP_got hb k _ _ h
  refine⟨((numP Z mm s).1:Int) :: os,by rw [e1];simp,by simp [e2],?_⟩
  rw [g1,e3]
  simp only [bytesOf,List.flatMap_cons,Int.toNat_natCast,List.append_assoc]
theorem takeP_got {Z:List Int} {B:Most} (hb:∀ a∈Z,Byte a) (h:(takeP Z B).2.2=false):Z=putTab (takeP Z B).1++Z.drop (takeP Z B).2.1:=by
 have h5:(ofP Z B.mm (numP Z B.mm (rowsP Z (B.mw (numP Z B.mm (0,false)).1) B.mv (numP Z B.mm (numP Z B.mm (0,false)).2).1 (numP Z B.mm (numP Z B.mm (0,false)).2).2 []).2).1 (numP Z B.mm (rowsP Z (B.mw (numP Z B.mm (0,false)).1) B.mv (numP Z B.mm (numP Z B.mm (0,false)).2).1 (numP Z B.mm (numP Z B.mm (0,false)).2).2 []).2).2 []).2.2=false:=h
 have h4:=ofP_mono h5
 have h3:=numP_mono h4
 have h2:=rowsP_mono h3
 have h1:=numP_mono h2
 have g1:=numP_got hb h1
 have g2:=numP_got hb h2
 obtain⟨rs,r1,r2,r3⟩:=rowsP_got hb _ _ _ h3
 have g4:=numP_got hb h4
 obtain⟨os,o1,o2,o3⟩:=ofP_got hb _ _ _ h5
 rw [List.nil_append] at r1 o1
 rw [List.drop_zero] at g1
 unfold takeP
 simp only [putTab,tabNums]
 rw [r1,o1,r2,o2]
 simp only [bytesOf,List.flatMap_cons,List.flatMap_append,Int.toNat_natCast,List.append_assoc]
 simp only [bytesOf] at r3 o3
 rw [← o3,← g4,← r3,← g2]
 exact g1
theorem listsT_at {W:Int} {R:List RowD} {O:List Int} (h:mayL (W,R,O)=true) {n:Nat} {i:Int} (hi:O[n]?=some i):0≤i∧∃ r,R[i.toNat]?=some r∧(listsT (W,R,O))[n]?=some (fillL W.toNat r)∧rowL (fillL W.toNat r)=r:=by
 obtain⟨⟨w0,w1,w2⟩,h2,h3,-⟩:=mayL_spec h
 have hm:=nextL_mem O 0 R.length _ h2 i (List.mem_of_getElem? hi)
 have hl:=(List.getElem?_eq_some_iff.1 hi).1
 have hk:i.toNat<R.length:=by omega
 have hr:R[i.toNat]?=some R[i.toNat]:=List.getElem?_eq_getElem hk
 obtain⟨-,-,f3,f4⟩:=fill_fine (h3 _ (List.getElem_mem hk))
 refine⟨hm.1,R[i.toNat],hr,?_,f4⟩
 have e1:(listsT (W,R,O))[n]?=some ((List.range W.toNat).map (fun (k:Nat)=>atTab (W,R,O) n k)):=by
  simp [listsT,hl]
 rw [e1]
 congr 1
 refine List.ext_getElem (by simp [f3]) (fun k hk1 hk2=>?_)
 simp only [List.getElem_map,List.getElem_range]
 have hkW:k<W.toNat:=by simpa using hk1
 unfold atTab
 simp only
 rw [if_neg (by omega),Int.toNat_natCast,hi]
 simp only
 rw [if_neg (by omega),hr]
 simp only
 have:=atRow_rowL (fillL W.toNat R[i.toNat]) k _ (List.getElem?_eq_getElem hk2)
 rw [f4] at this
 exact this
theorem nextL_peel {q m i r:Int} {l:List Int} (h:nextL q m (i :: l)=some r):0≤i∧i≤q∧i<m∧nextL (if i=q then q+1 else q) m l=some r:=by
 simp only [nextL] at h
 split at h
 ·cases h
 ·exact⟨by omega,by omega,by omega,h⟩
theorem makeL_lists {W:Int} {R:List RowD} {O:List Int} (h:mayL (W,R,O)=true):makeL (listsT (W,R,O))=(R,O):=by
 obtain⟨-,h2,-,h4⟩:=mayL_spec h
 have hlen:(listsT (W,R,O)).length=O.length:=by simp [listsT]
 have key:∀ n,n≤O.length→∃ q:Nat,q≤R.length∧nextL q R.length (O.drop n)=some (R.length:Int)∧makeL ((listsT (W,R,O)).take n)=(R.take q,O.take n):=by
  intro n
  induction n with
  | zero=>intro _;exact⟨0,Nat.zero_le _,by simpa using h2,by simp [makeL]⟩
  | succ n ih =>
   intro hn
   obtain⟨q,hq,hnx,hmk⟩:=ih (by omega)
   have hi:O[n]?=some O[n]:=List.getElem?_eq_getElem (by omega)
   obtain⟨i0,r,hr,hl,hrow⟩:=listsT_at h hi
   rw [List.drop_eq_getElem_cons (by omega)] at hnx
   obtain⟨s1,s2,s3,s4⟩:=nextL_peel hnx
   obtain⟨i,hie⟩:=Int.eq_ofNat_of_zero_le i0
   rw [hie] at hr hi s1 s2 s3 s4
   simp only [Int.toNat_natCast] at hr hi s1 s2 s3 s4
   have e1:(listsT (W,R,O)).take (n+1)=(listsT (W,R,O)).take n++[fillL W.toNat r]:=by rw [List.take_add_one,hl];rfl
   have e2:O.take (n+1)=O.take n++[(i:Int)]:=by rw [List.take_add_one,hi];rfl
   rw [e1,makeL_snoc,hmk,hrow,e2]
   by_cases hiq:i=q
   ·subst hiq
    rw [if_pos rfl] at s4
    refine⟨i+1,by omega,by exact_mod_cast s4,?_⟩
    have hno:hasRow r (R.take i)=false:=by
     cases hh:hasRow r (R.take i) with
     | false=>rfl
     | true =>
      exfalso
      obtain⟨j,hj,e⟩:=List.mem_iff_getElem.1 (hasRow_iff.1 hh)
      rw [List.length_take] at hj
      rw [List.getElem_take] at e
      have hri:=(List.getElem?_eq_some_iff.1 hr)
      obtain⟨hri1,hri2⟩:=hri
      have:=(List.getElem_inj (i:=j) (j:=i) (h₀:=by omega) (h₁:=hri1) h4).1 (by rw [e,hri2])
      omega
    unfold addL
    rw [if_neg (by rw [hno];decide)]
    simp only
    rw [List.take_add_one,hr,List.length_take,Nat.min_eq_left hq]
    rfl
   ·have hlt:i<q:=by omega
    rw [if_neg (by omega)] at s4
    refine⟨q,hq,s4,?_⟩
    have hmem:r∈R.take q:=List.mem_of_getElem? (i:=i) (by rw [List.getElem?_take_of_lt hlt];exact hr)
    obtain⟨j,j1,j2⟩:=idxV_has hmem
    have hji:j=i:=by
     have hjl:=(List.getElem?_eq_some_iff.1 j2).1
     rw [List.length_take] at hjl
     rw [List.getElem?_take_of_lt (by omega)] at j2
     obtain⟨a1,a2⟩:=List.getElem?_eq_some_iff.1 j2
     obtain⟨b1,b2⟩:=List.getElem?_eq_some_iff.1 hr
     exact (List.getElem_inj (h₀:=a1) (h₁:=b1) h4).1 (by rw [a2,b2])
    unfold addL
    rw [if_pos (hasRow_iff.2 hmem)]
    simp only
    rw [j1,hji]
 obtain⟨q,hq,hnx,hmk⟩:=key O.length (Nat.le_refl _)
 rw [List.drop_length] at hnx
 simp only [nextL,Option.some.injEq] at hnx
 rw [List.take_of_length_le (by omega:(listsT (W,R,O)).length≤O.length),List.take_of_length_le (Nat.le_refl _),List.take_of_length_le (by omega)] at hmk
 exact hmk
theorem listsT_make {W:Nat} {LL:List (List Int)} (h:∀ l∈LL,l.length=W):listsT ((W:Int),(makeL LL).1,(makeL LL).2)=LL:=by
 refine List.ext_getElem (by simp [listsT,(makeL_len LL).2]) (fun i h1 h2=>?_)
 simp only [listsT,List.getElem_map,List.getElem_range,Int.toNat_natCast]
 have hl:=h _ (List.getElem_mem h2)
 refine List.ext_getElem (by simp [hl]) (fun k k1 k2=>?_)
 simp only [List.getElem_map,List.getElem_range]
 exact makeL_at (List.getElem?_eq_getElem h2) (List.getElem?_eq_getElem k2) (by rw [hl] at k2;omega)
end Go.Proofs.YtgnpmceimpjheaaGreat
namespace Go.Proofs.YtgnpmceimpjheaaGreat
open Go.RowKit
theorem textG_some {b r:List Int} {s:Str} (h:textG b=some (s,r)):∃ n b1,numG 64 b=some (n,b1)∧n≤b1.length∧s=strOfNums (b1.take n.toNat)∧r=b1.drop n.toNat:=by
 unfold textG at h
 split at h
 ·cases h
 ·rename_i n b1 h1
  split at h
  ·rename_i h2
   injection h with h
   injection h with e1 e2
   exact⟨n,b1,h1,h2,e1.symm,e2.symm⟩
  ·cases h
theorem numG_le {m:Nat} {b r:List Int} {x:Int} (h:numG m b=some (x,r)):∃ n:Nat,x=n∧n≤m:=by
 obtain⟨n,k,_,h1,h2,_⟩:=numG_some h
 exact⟨n,h1,h2⟩
theorem textG_size {b r:List Int} {s:Str} (h:textG b=some (s,r)):s.size≤64:=by
 obtain⟨n,b1,h1,h2,rfl,_⟩:=textG_some h
 obtain⟨k,rfl,hk⟩:=numG_le h1
 show (strOfNums _).data.size≤64
 simp only [strOfNums,List.size_toArray,List.length_map,List.length_take]
 omega
theorem repG_all {α:Type} {one:Rdr α} {P:α→Prop} (hP:∀ b x r,one b=some (x,r)→P x):∀ (k:Nat) (acc L:List α) (b r:List Int),repG one k acc b=some (L,r)→(∀ x∈acc,P x)→∀ x∈L,P x
 | 0,acc,L,b,r,h,ha=>by
  simp only [repG] at h
  injection h with h
  injection h with h1 _
  rw [← h1];exact ha
 | k+1,acc,L,b,r,h,ha=>by
  unfold repG at h
  split at h
  ·cases h
  ·rename_i x r1 h1
   exact repG_all hP k _ L r1 r h (fun y hy=>by
    rcases List.mem_append.1 hy with hy|hy
    ·exact ha y hy
    ·rw [List.mem_singleton.1 hy];exact hP _ _ _ h1)
theorem listG_some {α:Type} {one:Rdr α} {b r:List Int} {L:List α} (h:listG one b=some (L,r)):∃ (n:Nat) (b1:List Int),anyG b=some ((n:Int),b1)∧n≤16777215∧repG one n [] b1=some (L,r)∧L.length=n:=by
 unfold listG at h
 split at h
 ·cases h
 ·rename_i x b1 h1
  obtain⟨n,rfl,hn⟩:=numG_le h1
  have h2:=repG_length h
  exact⟨n,b1,h1,hn,h,by rw [h2];simp⟩
theorem listG_len {α:Type} {one:Rdr α} {b r:List Int} {L:List α} (h:listG one b=some (L,r)):L.length≤16777215:=by
 obtain⟨n,_,_,h2,_,h3⟩:=listG_some h
 omega
theorem listG_all {α:Type} {one:Rdr α} {P:α→Prop} (hP:∀ b x r,one b=some (x,r)→P x) {b r:List Int} {L:List α} (h:listG one b=some (L,r)):∀ x∈L,P x:=by
 obtain⟨n,b1,_,_,h2,_⟩:=listG_some h
 exact repG_all hP n [] L b1 r h2 (fun x hx=>by cases hx)
theorem tableG_some {b r:List Int} {ls:List (List Int)} {w:Int} (h:tableG b=some ((ls,w),r)):∃ (m sz:Nat) (R:List RowD) (O:List Int),takeOk b mostP=true∧takeP b mostP=(((m:Int),R,O),sz,false)∧mayL ((m:Int),R,O)=true∧m≤65536∧O.length≤65536∧sz≤b.length∧(O.length:Int) * (m:Int)≤4194304∧ls=listsT ((m:Int),R,O)∧w=m∧r=b.drop sz:=by
 unfold tableG at h
 split at h
 ·rename_i hk
  obtain⟨m,sz,R,O,h1,h2,h3,h4,h5⟩:=takeOk_spec hk
  rw [h1] at h
  simp only at h
  split at h
  ·rename_i h6
   injection h with h
   injection h with e1 e2
   injection e1 with e1 e3
   exact⟨m,sz,R,O,hk,h1,h2,h3,h4,h5,h6,e1.symm,e3.symm,e2.symm⟩
  ·cases h
 ·cases h
theorem tableG_len {b r:List Int} {ls:List (List Int)} {w:Int} (h:tableG b=some ((ls,w),r)):ls.length≤65536∧∀ l∈ls,l.length≤65536:=by
 obtain⟨m,sz,R,O,_,_,_,h1,h2,_,_,rfl,_,_⟩:=tableG_some h
 unfold listsT
 refine⟨by simpa using h2,fun l hl=>?_⟩
 rw [List.mem_map] at hl
 obtain⟨i,_,rfl⟩:=hl
 simpa using h1
theorem stateG_some {b r:List Int} {s:StD} (h:stateG b=some (s,r)):∃ b1 b2,anyG b=some (s.1,b1)∧listG edgeG b1=some (s.2.1,b2)∧listG anyG b2=some (s.2.2,r):=by
 unfold stateG at h
 split at h
 ·cases h
 split at h
 ·cases h
 split at h
 ·cases h
 rename_i h1 _ _ _ h2 _ _ _ h3
 injection h with h
 injection h with e1 e2
 subst e1 e2
 exact⟨_,_,h1,h2,h3⟩
theorem lexG_some {b r:List Int} {t:LexD} (h:lexG b=some (t,r)):∃ rc b1 w b2,listG rcG b=some (rc,b1)∧tableG b1=some ((t.n,w),b2)∧w=colsL (rc.map (·.2))∧repG endG t.n.length [] b2=some (t.e,r)∧t.r=rc.map (·.1)∧t.c=rc.map (·.2):=by
 unfold lexG at h
 split at h
 ·cases h
 split at h
 ·cases h
 split at h
 ·split at h
  ·cases h
  ·rename_i h1 _ _ _ _ h2 h3 _ _ _ h4
   injection h with h
   injection h with e1 e2
   subst e1 e2
   exact⟨_,_,_,_,h1,h2,h3,h4,rfl,rfl⟩
 ·cases h
theorem netG_some {b r:List Int} {n:NetD} (h:netG b=some (n,r)):∃ b1 b2 b3,listG stateG b=some (n.st,b1)∧listG anyG b1=some (n.s,b2)∧listG anyG b2=some (n.p,b3)∧listG anyG b3=some (n.q,r)∧n.d=decsOf n.st:=by
 unfold netG at h
 split at h
 ·cases h
 split at h
 ·cases h
 split at h
 ·cases h
 split at h
 ·cases h
 rename_i h1 _ _ _ h2 _ _ _ h3 _ _ _ h4
 injection h with h
 injection h with e1 e2
 subst e1 e2
 exact⟨_,_,_,h1,h2,h3,h4,rfl⟩
theorem lookG_some {tk:Nat} {b r:List Int} {A:List LsD} (h:lookG tk b=some (A,r)):∃ ss b1 ls,listG lsG b=some (ss,b1)∧tableG b1=some ((ls,(tk:Int)+1),r)∧ls.length=ss.length∧A=List.zipWith (fun s l=>(s.1,s.2,edgesOf l)) ss ls:=by
 unfold lookG at h
 split at h
 ·cases h
 split at h
 ·cases h
 split at h
 ·rename_i h1 _ _ _ _ h2 h3
  injection h with h
  injection h with e1 e2
  subst e1 e2
  obtain⟨rfl,h3⟩:=h3
  exact⟨_,_,_,h1,h2,h3,rfl⟩
 ·cases h
theorem bodyG_some {b r:List Int} {t:TabsD} (h:bodyG b=some (t,r)):∃ b1 tk b2 b3 b4,listG textG b=some (t.rl,b1)∧listG tokG b1=some (tk,b2)∧lexG b2=some (t.lx,b3)∧netG b3=some (t.nt,b4)∧repG (lookG tk.length) t.nt.d.length [] b4=some (t.lk,r)∧t.tk=tk.map (·.1)∧t.dr=tk.map (·.2):=by
 unfold bodyG at h
 split at h
 ·cases h
 split at h
 ·cases h
 split at h
 ·cases h
 split at h
 ·cases h
 split at h
 ·cases h
 rename_i h1 _ _ _ h2 _ _ _ h3 _ _ _ h4 _ _ _ h5
 injection h with h
 injection h with e1 e2
 subst e1 e2
 exact⟨_,_,_,_,_,h1,h2,h3,h4,h5,rfl,rfl⟩
theorem tokG_some {b r:List Int} {x:Str × Bool} (h:tokG b=some (x,r)):∃ b1 n,textG b=some (x.1,b1)∧numG 1 b1=some (n,r)∧x.2=decide (n=1):=by
 unfold tokG at h
 split at h
 ·cases h
 split at h
 ·cases h
 rename_i h1 _ _ _ h2
 injection h with h
 injection h with e1 e2
 subst e1 e2
 exact⟨_,_,h1,h2,rfl⟩
theorem lsG_some {b r:List Int} {x:Int × List Int} (h:lsG b=some (x,r)):∃ b1,numG 3 b=some (x.1,b1)∧listG anyG b1=some (x.2,r):=by
 unfold lsG at h
 split at h
 ·cases h
 split at h
 ·cases h
 rename_i h1 _ _ _ h2
 injection h with h
 injection h with e1 e2
 subst e1 e2
 exact⟨_,h1,h2⟩
theorem decsFrom_len:∀ (L:List StD) (k:Nat),(decsFrom k L).length≤L.length
 | [],_=>Nat.le_refl _
 | s :: L,k=>by
  have:=decsFrom_len L (k+1)
  simp only [decsFrom]
  split <;> simp <;> omega
theorem edgesFrom_len:∀ (L:List Int) (k:Int),(edgesFrom k L).length≤L.length
 | [],_=>Nat.le_refl _
 | s :: L,k=>by
  have:=edgesFrom_len L (k+1)
  simp only [edgesFrom]
  split <;> simp <;> omega
theorem fair_body {b r:List Int} {t:TabsD} (h:bodyG b=some (t,r)):FairTabs t:=by
 obtain⟨b1,tk,b2,b3,b4,h1,h2,h3,h4,h5,e1,e2⟩:=bodyG_some h
 obtain⟨rc,c1,w,c2,h6,h7,-,h8,e3,e4⟩:=lexG_some h3
 obtain⟨d1,d2,d3,g1,g2,g3,g4,e5⟩:=netG_some h4
 have l1:=listG_len h1
 have l2:=listG_len h2
 have l3:=listG_len h6
 obtain⟨l4,l5⟩:=tableG_len h7
 have l6:=repG_length h8
 have l7:=listG_len g1
 have l8:=listG_len g2
 have l9:=listG_len g3
 have l10:=listG_len g4
 have l11:=repG_length h5
 have l12:=decsFrom_len t.nt.st 0
 have l13:t.nt.d.length≤16777215:=by rw [e5];exact Nat.le_trans l12 l7
 simp only [List.length_nil,Nat.zero_add] at l6 l11
 refine⟨by omega,by rw [e1,List.length_map];omega,by rw [e2,List.length_map];omega,fun s hs=>?_,fun s hs=>?_,⟨by rw [e3,List.length_map];omega,by rw [e4,List.length_map];omega,by omega,by omega,fun l hl=>Nat.le_trans (l5 l hl) (by decide)⟩,⟨by omega,by omega,by omega,by omega,by omega,fun s hs=>?_⟩,by omega,fun A hA=>?_⟩
 ·exact Nat.le_trans (listG_all (P:=fun s=>s.size≤64) (fun _ _ _ h=>textG_size h) h1 s hs) (by decide)
 ·rw [e1] at hs
  obtain⟨x,hx,rfl⟩:=List.mem_map.1 hs
  exact Nat.le_trans (listG_all (P:=fun x=>x.1.size≤64) (fun _ _ _ h=>by obtain⟨_,_,h,_⟩:=tokG_some h;exact textG_size h) h2 x hx) (by decide)
 ·refine listG_all (P:=stB) (fun b x r h=>?_) g1 s hs
  obtain⟨_,_,_,k1,k2⟩:=stateG_some h
  exact⟨Nat.le_trans (listG_len k1) (by decide),Nat.le_trans (listG_len k2) (by decide)⟩
 ·refine repG_all (P:=fun A=>A.length≤1000000000∧∀ d∈A,lsB d) (fun b x r h=>?_) _ [] _ _ _ h5 (fun x hx=>by cases hx) A hA
  obtain⟨ss,_,ls,k1,k2,k3,rfl⟩:=lookG_some h
  have k4:=listG_len k1
  obtain⟨k5,k6⟩:=tableG_len k2
  refine⟨by rw [List.length_zipWith];omega,fun d hd=>?_⟩
  obtain⟨j,hj,rfl⟩:=List.mem_iff_getElem.1 hd
  rw [List.length_zipWith] at hj
  simp only [List.getElem_zipWith]
  refine⟨Nat.le_trans (listG_all (P:=fun x=>x.2.length≤16777215) (fun _ _ _ h=>by obtain⟨_,_,h⟩:=lsG_some h;exact listG_len h) k1 ss[j] (List.getElem_mem _)) (by decide),?_⟩
  exact Nat.le_trans (Nat.le_trans (edgesFrom_len _ _) (k6 ls[j] (List.getElem_mem _))) (by decide)
end Go.Proofs.YtgnpmceimpjheaaGreat
namespace Go.Proofs.YtgnpmceimpjheaaGreat
open Go.RowKit
section
variable {α:Type}
def Back (one:Rdr α) (enc:α→List Int) (ok:α→Prop):Prop:=∀ x r,ok x→one (enc x++r)=some (x,r)
def Only (one:Rdr α) (enc:α→List Int):Prop:=∀ b x r,(∀ a∈b,Byte a)→one b=some (x,r)→b=enc x++r
theorem Only.byte {one:Rdr α} {enc:α→List Int} (h:Only one enc) {b:List Int} {x:α} {r:List Int} (hb:∀ a∈b,Byte a) (ho:one b=some (x,r)):∀ a∈r,Byte a:=by
 have:=h b x r hb ho
 intro a ha
 exact hb a (by rw [this];exact List.mem_append_right _ ha)
def okN (m:Nat) (x:Int):Prop:=0≤x∧x≤m
theorem back_num {m:Nat} (hm:m<4294967296):Back (numG m) ptInt (okN m):=by
 rintro x r ⟨h1,h2⟩
 obtain⟨n,rfl⟩:=Int.eq_ofNat_of_zero_le h1
 unfold numG ptInt
 simp only [Int.toNat_natCast]
 rw [takeL_whole (by omega) r]
 simp only
 rw [if_pos (by omega),List.drop_append_of_le_length (Nat.le_refl _),List.drop_length,List.nil_append]
theorem only_num {m:Nat}:Only (numG m) ptInt:=by
 intro b x r hb h
 obtain⟨n,k,h1,rfl,-,-,rfl,-,-⟩:=numG_some h
 unfold ptInt
 rw [Int.toNat_natCast]
 exact takeL_bytes hb h1
theorem back_rep {one:Rdr α} {enc:α→List Int} {ok:α→Prop} (h:Back one enc ok):∀ (L acc:List α) (r:List Int),(∀ x∈L,ok x)→repG one L.length acc (L.flatMap enc++r)=some (acc++L,r)
 | [],acc,r,_=>by simp [repG]
 | x :: L,acc,r,hL=>by
  simp only [List.length_cons,repG,List.flatMap_cons,List.append_assoc]
  rw [h x _ (hL x (by simp))]
  simp only
  rw [back_rep h L _ r (fun y hy=>hL y (by simp [hy]))]
  simp
theorem only_rep {one:Rdr α} {enc:α→List Int} (h:Only one enc):∀ (k:Nat) (acc L:List α) (b r:List Int),(∀ a∈b,Byte a)→repG one k acc b=some (L,r)→∃ M,L=acc++M∧M.length=k∧b=M.flatMap enc++r
 | 0,acc,L,b,r,_,hr=>by
  simp only [repG,Option.some.injEq,Prod.mk.injEq] at hr
  obtain⟨rfl,rfl⟩:=hr
  exact⟨[],by simp,rfl,by simp⟩
 | k+1,acc,L,b,r,hb,hr=>by
  unfold repG at hr
  split at hr
  ·cases hr
  ·rename_i x b1 h1
   have e1:=h _ _ _ hb h1
   obtain⟨M,rfl,h3,h4⟩:=only_rep h k _ _ _ _ (h.byte hb h1) hr
   refine⟨x :: M,by simp,by simp [h3],?_⟩
   rw [e1,h4,List.flatMap_cons,List.append_assoc]
def okL (ok:α→Prop) (L:List α):Prop:=L.length≤16777215∧∀ x∈L,ok x
theorem back_list {one:Rdr α} {enc:α→List Int} {ok:α→Prop} (h:Back one enc ok):Back (listG one) (ptList enc) (okL ok):=by
 rintro L r ⟨h1,h2⟩
 unfold listG ptList
 have:=back_num (m:=16777215) (by decide) (L.length:Int) (L.flatMap enc++r) ⟨by omega,by omega⟩
 simp only [ptInt,Int.toNat_natCast] at this
 rw [List.append_assoc]
 unfold anyG
 rw [this]
 simp only [Int.toNat_natCast]
 rw [back_rep h L [] r h2,List.nil_append]
theorem only_list {one:Rdr α} {enc:α→List Int} (h:Only one enc):Only (listG one) (ptList enc):=by
 intro b L r hb hr
 obtain⟨n,b1,h1,h2,h3,h4⟩:=listG_some hr
 have e1:=only_num b _ _ hb h1
 obtain⟨M,rfl,h5,h6⟩:=only_rep h n [] L b1 r (only_num.byte hb h1) h3
 rw [e1,h6]
 simp only [ptList,ptInt,Int.toNat_natCast,List.append_assoc]
 rw [h5]
end
theorem back_any:Back anyG ptInt (okN 16777215):=back_num (by decide)
theorem only_any:Only anyG ptInt:=only_num
def okText (s:Str):Prop:=s.size≤64
theorem back_text:Back textG ptText okText:=by
 intro s r hs
 unfold textG ptText
 have:=back_num (m:=64) (by decide) (s.size:Int) (strB s++r) ⟨by omega,by have h:s.size≤64:=hs;omega⟩
 simp only [ptInt,Int.toNat_natCast] at this
 rw [List.append_assoc,this]
 simp only [Int.toNat_natCast]
 have hl:=strB_length s
 rw [if_pos (by rw [List.length_append,hl];omega),List.take_append_of_le_length (by omega),List.take_of_length_le (by omega),strOf_strB,List.drop_append_of_le_length (by omega),List.drop_of_length_le (by omega),List.nil_append]
theorem only_text:Only textG ptText:=by
 intro b s r hb h
 obtain⟨n,b1,h1,h2,rfl,rfl⟩:=textG_some h
 obtain⟨m,rfl,-⟩:=numG_le h1
 have e1:=only_num b _ _ hb h1
 have hb1:=only_num.byte hb h1
 rw [e1]
 unfold ptText ptInt
 simp only [Int.toNat_natCast] at h2 ⊢
 have hs:=strB_of (Z:=b1.take m) (fun a ha=>hb1 a (List.mem_of_mem_take ha))
 have hl:=strB_length (strOfNums (b1.take m))
 rw [hs,List.length_take] at hl
 rw [hs,← hl,Nat.min_eq_left (by omega),List.append_assoc,List.take_append_drop]
def okEdge (e:EdgeD):Prop:=okN 3 e.1∧okN 16777215 e.2.1∧okN 16777215 e.2.2
theorem back_edge:Back edgeG ptEdge okEdge:=by
 rintro ⟨k,x,t⟩ r ⟨h1,h2,h3⟩
 unfold edgeG ptEdge
 simp only [List.append_assoc]
 rw [back_num (by decide) k _ h1]
 simp only
 rw [back_any x _ h2]
 simp only
 rw [back_any t _ h3]
theorem edgeG_some {b r:List Int} {e:EdgeD} (h:edgeG b=some (e,r)):∃ b1 b2,numG 3 b=some (e.1,b1)∧anyG b1=some (e.2.1,b2)∧anyG b2=some (e.2.2,r):=by
 unfold edgeG at h
 split at h
 ·cases h
 split at h
 ·cases h
 split at h
 ·cases h
 rename_i h1 _ _ _ h2 _ _ _ h3
 injection h with h
 injection h with e1 e2
 subst e1 e2
 exact⟨_,_,h1,h2,h3⟩
theorem only_edge:Only edgeG ptEdge:=by
 intro b e r hb h
 obtain⟨b1,b2,h1,h2,h3⟩:=edgeG_some h
 have q1:=only_num.byte hb h1
 have q2:=only_any.byte q1 h2
 rw [only_num _ _ _ hb h1,only_any _ _ _ q1 h2,only_any _ _ _ q2 h3]
 simp only [ptEdge,List.append_assoc]
def okState (s:StD):Prop:=okN 16777215 s.1∧okL okEdge s.2.1∧okL (okN 16777215) s.2.2
theorem back_state:Back stateG ptState okState:=by
 rintro ⟨k,x,t⟩ r ⟨h1,h2,h3⟩
 unfold stateG ptState
 simp only [List.append_assoc]
 rw [back_any k _ h1]
 simp only
 rw [back_list back_edge x _ h2]
 simp only
 rw [back_list back_any t _ h3]
theorem only_state:Only stateG ptState:=by
 intro b e r hb h
 obtain⟨b1,b2,h1,h2,h3⟩:=stateG_some h
 have q1:=only_any.byte hb h1
 have q2:=(only_list only_edge).byte q1 h2
 rw [only_any _ _ _ hb h1,only_list only_edge _ _ _ q1 h2,only_list only_any _ _ _ q2 h3]
 simp only [ptState,List.append_assoc]
def okRc (x:(Int × Int) × Int):Prop:=okN 16777215 x.1.1∧okN 16777215 x.1.2∧okN 16777215 x.2
theorem back_rc:Back rcG ptRc okRc:=by
 rintro ⟨⟨k,x⟩,t⟩ r ⟨h1,h2,h3⟩
 unfold rcG ptRc
 simp only [List.append_assoc]
 rw [back_any k _ h1]
 simp only
 rw [back_any x _ h2]
 simp only
 rw [back_any t _ h3]
theorem only_rc:Only rcG ptRc:=by
 intro b e r hb h
 unfold rcG at h
 split at h
 ·cases h
 split at h
 ·cases h
 split at h
 ·cases h
 rename_i h1 _ _ _ h2 _ _ _ h3
 injection h with h
 injection h with e1 e2
 subst e1 e2
 have q1:=only_any.byte hb h1
 have q2:=only_any.byte q1 h2
 rw [only_any _ _ _ hb h1,only_any _ _ _ q1 h2,only_any _ _ _ q2 h3]
 simp only [ptRc,List.append_assoc]
def okEnd (e:Int):Prop:=-1≤e∧e≤16777214
theorem back_end:Back endG ptEnd okEnd:=by
 rintro x r ⟨h1,h2⟩
 unfold endG ptEnd
 rw [back_any (x+1) _ ⟨by omega,by omega⟩]
 simp only
 rw [show x+1-1=x by omega]
theorem only_end:Only endG ptEnd:=by
 intro b e r hb h
 unfold endG at h
 split at h
 ·cases h
 rename_i n r h1
 injection h with h
 injection h with e1 e2
 subst e1 e2
 rw [only_any _ _ _ hb h1]
 unfold ptEnd
 rw [show n-1+1=n by omega]
theorem back_table {W:Nat} {LL:List (List Int)} (r:List Int) (h1:W≤65536) (hn:LL.length≤65536) (hm:makeOk W LL=true) (hc:(LL.length:Int) * W≤4194304):tableG (ptTable W LL++r)=some ((LL,(W:Int)),r):=by
 have hmay:=makeL_may (by omega) (by omega) hn hm
 have hw:∀ l∈LL,l.length=W:=fun l hl=>by
  have:=List.all_eq_true.1 hm l hl
  simp only [listOk,Bool.and_eq_true,decide_eq_true_eq] at this
  omega
 unfold tableG ptTable
 rw [if_pos (takeOk_put hmay r),take_put hmay r]
 simp only
 rw [if_pos (by rw [(makeL_len LL).2];exact hc),listsT_make hw,List.drop_append_of_le_length (Nat.le_refl _),List.drop_length,List.nil_append]
theorem only_table {b r:List Int} {ls:List (List Int)} {w:Int} (hb:∀ a∈b,Byte a) (h:tableG b=some ((ls,w),r)):b=ptTable w ls++r∧(∀ a∈r,Byte a)∧0≤w∧w≤65536∧ls.length≤65536∧(∀ l∈ls,(l.length:Int)=w∧∀ x∈l,isVal x):=by
 obtain⟨m,sz,R,O,h1,h2,h3,h4,h5,h6,h7,rfl,rfl,rfl⟩:=tableG_some h
 have hg:=takeP_got (B:=mostP) hb (by rw [h2])
 rw [h2] at hg
 simp only at hg
 refine⟨?_,fun a ha=>hb a (List.mem_of_mem_drop ha),by omega,by omega,by simpa [listsT] using h5,fun l hl=>?_⟩
 ·unfold ptTable
  rw [makeL_lists h3]
  exact hg
 ·obtain⟨n,hn,rfl⟩:=List.mem_iff_getElem.1 hl
  have hn':n<O.length:=by simpa [listsT] using hn
  obtain⟨-,rr,hr,e1,-⟩:=listsT_at h3 (List.getElem?_eq_getElem hn')
  rw [List.getElem?_eq_getElem hn] at e1
  obtain⟨-,-,f3,-⟩:=mayL_spec h3
  obtain⟨-,g2,g3,-⟩:=fill_fine (f3 rr (List.mem_of_getElem? hr))
  rw [Option.some.inj e1]
  exact⟨by rw [g3];simp,g2⟩
end Go.Proofs.YtgnpmceimpjheaaGreat
namespace Go.Proofs.YtgnpmceimpjheaaGreat
open Go.RowKit
def tabsG (Z:List Int):Option TabsD:=if Z.take 4=headL then match bodyG (Z.drop 4) with
 | none=>none
 | some (t,r)=>if r=[]∧mayTabs t=true then some t else none
 else none
section
variable {β δ:Type} {E:Elt β} {R:Rp β δ}
theorem LSt.store (hR:Good R) {C T:World→Nat→Prop} {St:World→List δ→List Int→Prop} {S:Nat→Prop} {w wr w':World} {v:Value} {acc:List δ} {Z:List Int} {X:List β} (h:LSt E R C T St w wr v acc Z X) (hc:Chg S wr w') (hS:∀ k,S k→C wr k) (hst:St w' acc Z)
  (hT:∀ k,T w' k→T wr k) (hC:∀ k,C w' k→C wr k) (hsub:∀ k,C wr k→T wr k):LSt E R C T St w w' v acc Z X :=
 ⟨h.own.chgB hc (fun g hg e=>h.ob g hg (hsub g (hS g e))),h.len,fun j x d hx hd=>hR.mono (hR.chg (h.rel j x d hx hd) hc (fun g hg e=>hg.2.1 (hsub g (hS g e)))) (fun g _ hg=>⟨hg.1,fun ht=>hg.2.1 (hT g ht),hg.2.2⟩),hst,
  h.chg.trans2 hc (fun g hg e=>(h.cg g (hS g e)).resolve_right (by omega)),fun k hk=>h.tg k (hT k hk),fun k hk=>h.cg k (hC k hk),fun k hk ht=>h.ob k hk (hT k ht)⟩
end
structure QSt (pg gb bx tb:Nat) (w8:World) (w:World) (Z:List Int):Prop where
 g:GetSb pg gb bx w Z
 lt:pg<tb∧gb<tb∧bx<tb∧tb<w.heap.size
 o:∀ j u,j<12→w8.cell? ⟨tb,j,none⟩=some u→w.cell? ⟨tb,j,none⟩=some u
 z:∀ j,w.frozen? ⟨tb,j,none⟩=false
def Tq (pg gb bx tb:Nat):World→Nat→Prop:=fun _ k=>k=pg∨k=gb∨k=bx∨k=tb
def Cq (pg tb:Nat):World→Nat→Prop:=fun _ k=>k=pg∨k=tb
theorem QSt.chg {pg gb bx tb:Nat} {w8 w w':World} {Z:List Int} {S:Nat→Prop} (h:QSt pg gb bx tb w8 w Z) (hc:Chg S w w') (h1:¬ S pg) (h2:¬ S gb) (h3:¬ S bx) (h4:¬ S tb):QSt pg gb bx tb w8 w' Z :=
 ⟨h.g.chg hc h1 h2 h3,⟨h.lt.1,h.lt.2.1,h.lt.2.2.1,Nat.lt_of_lt_of_le h.lt.2.2.2 hc.size⟩,fun j u hj hu=>hc.cellS (h.o j u hj hu) h4,fun j=>(hc.frozen (p:=⟨tb,j,none⟩) h.lt.2.2.2 h4).trans (h.z j)⟩
theorem QSt.go {pg gb bx tb:Nat} {w8 w w':World} {Z r:List Int} (h:QSt pg gb bx tb w8 w Z) (hg:GetSt pg gb w' r) (hc:Chg (·=pg) w w'):QSt pg gb bx tb w8 w' r:=by
 have h4:¬ tb=pg:=by have:=h.lt;omega
 exact⟨h.g.go hg hc,⟨h.lt.1,h.lt.2.1,h.lt.2.2.1,Nat.lt_of_lt_of_le h.lt.2.2.2 hc.size⟩,fun j u hj hu=>hc.cellS (h.o j u hj hu) h4,fun j=>(hc.frozen (p:=⟨tb,j,none⟩) h.lt.2.2.2 h4).trans (h.z j)⟩
theorem QSt.set {pg gb bx tb:Nat} {w8 w:World} {Z:List Int} (h:QSt pg gb bx tb w8 w Z) (v:Value):QSt pg gb bx tb w8 (w.setCell ⟨tb,12,none⟩ v) Z:=by
 have hc:=setCellChg w tb 12 v
 have hl:=h.lt
 exact⟨h.g.chg hc (by omega) (by omega) (by omega),⟨hl.1,hl.2.1,hl.2.2.1,Nat.lt_of_lt_of_le hl.2.2.2 hc.size⟩,fun j u hj hu=>by
  rw [World.cell?_setCell_other _ _ _ _ (by intro e;injection e with _ e;omega)]
  exact h.o j u hj hu,fun j=>(World.frozen?_setCell _ _ _ _).trans (h.z j)⟩
theorem sideQ {δ:Type} (pg gb bx tb:Nat) (w8:World):Side pg gb (Cq pg tb) (Tq pg gb bx tb) (fun w (_:List δ) Z=>QSt pg gb bx tb w8 w Z) where
 get:=fun h=>h.g.g
 pgC:=fun _=>.inl rfl
 sub:=fun h=>by
  rcases h with h|h
  ·exact .inl h
  ·exact .inr (.inr (.inr h))
 lt:=fun {w acc Z k} h ht=>by
  rcases ht with rfl|rfl|rfl|rfl
  ·exact h.g.g.lt
  ·exact h.g.g.lb
  ·exact h.g.lt
  ·exact h.lt.2.2.2
 keep:=fun {S w w' acc Z} h hc hs=>⟨QSt.chg h hc (fun e=>hs _ e (.inl rfl)) (fun e=>hs _ e (.inr (.inl rfl))) (fun e=>hs _ e (.inr (.inr (.inl rfl)))) (fun e=>hs _ e (.inr (.inr (.inr rfl)))),fun _ h=>h,fun _ h=>h⟩
 move:=fun h hg hc=>⟨QSt.go h hg hc,fun _ h=>h,fun _ h=>h⟩
theorem strHead:strOfNums headL=⟨#[72,66,84,49]⟩:=by decide
theorem tables_short {pg n c:Nat} {a:Option Addr} (w:World) (h:w.cell? ⟨pg,0,none⟩=some (.slice a n c)) (hn:n<4):Calls Tryz.prog 55 #[.pointer (some ⟨pg,0,none⟩)] w fun e w'=>e=strangeP∧Chg (fun _=>False) w w':=by
 have hlt:=World.block_lt_of_cell? _ _ h
 have b1:decide (4≤n)=false:=decide_eq_false (by omega)
 have b1':decide ((4:Int)≤(n:Int))=false:=decide_eq_false (by omega)
 obtain⟨w0,hw0⟩:∃ W,W=(w.alloc (.cells #[.pointer (some ⟨pg,0,none⟩)] 132)).alloc (.cells #[.slice none 0 0,.slice none 0 0,.slice none 0 0,.slice none 0 0,.slice none 0 0,.slice none 0 0,.slice none 0 0,.slice none 0 0,.slice none 0 0,.slice none 0 0,.slice none 0 0,.slice none 0 0,.slice none 0 0] 34):=⟨_,rfl⟩
 have HC0:Hid (Chg (fun _=>False) w w0):=jh (by rw [hw0];exact ((Chg.refl _ w).alloc _).alloc _)
 have q0:w0.cell? ⟨w.heap.size,0,none⟩=some (.pointer (some ⟨pg,0,none⟩)):=by rw [hw0];exact allocOld _ (allocNew _ _ rfl)
 have q1:=HC0.out.cellS h (fun h=>h)
 clear h
 go_enter Tryz.func55,Tryz.ntmps55
 go_upto_region 1 with (fail)
 rw [← hw0]
 clear hw0
 go_wp2_with fail
 refine (must_no _).mono ?_
 rintro e w3 ⟨rfl,rfl⟩
 exact⟨rfl,rfl,HC0.out⟩
end Go.Proofs.YtgnpmceimpjheaaGreat
namespace Go.Proofs.YtgnpmceimpjheaaGreat
open Go.RowKit
theorem zip_parts {α β:Type}:∀ (l:List (α × β)),(l.map (·.1)).zip (l.map (·.2))=l
 | []=>rfl
 | x :: l=>by simp [zip_parts l]
theorem map_zip1 {α β:Type}:∀ (a:List α) (b:List β),a.length=b.length→(a.zip b).map (·.1)=a
 | [],[],_=>rfl
 | [],_ :: _,h=>by simp at h
 | _ :: _,[],h=>by simp at h
 | x :: a,y :: b,h=>by simp only [List.zip_cons_cons,List.map_cons];rw [map_zip1 a b (by simpa using h)]
theorem map_zip2 {α β:Type}:∀ (a:List α) (b:List β),a.length=b.length→(a.zip b).map (·.2)=b
 | [],[],_=>rfl
 | [],_ :: _,h=>by simp at h
 | _ :: _,[],h=>by simp at h
 | x :: a,y :: b,h=>by simp only [List.zip_cons_cons,List.map_cons];rw [map_zip2 a b (by simpa using h)]
structure OkLex (t:LexD):Prop where
 cl:t.c.length=t.r.length
 el:t.e.length=t.n.length
 rl:t.r.length≤16777215
 rc:∀ x∈t.r.zip t.c,okRc x
 cw:colsL t.c≤65536
 nl:t.n.length≤65536
 mo:makeOk (colsL t.c) t.n=true
 pr:(t.n.length:Int) * colsL t.c≤4194304
 eb:∀ e∈t.e,okEnd e
theorem back_lex:Back lexG ptLex OkLex:=by
 rintro t r ⟨h1,h2,h3,h4,h5,h6,h7,h8,h9⟩
 obtain⟨W,hW⟩:=Int.eq_ofNat_of_zero_le (colsL_nonneg t.c)
 unfold lexG ptLex
 simp only [List.append_assoc]
 rw [back_list back_rc (t.r.zip t.c) _ ⟨by rw [List.length_zip];omega,h4⟩]
 simp only
 rw [hW] at h5 h7 h8 ⊢
 rw [back_table _ (by omega) h6 h7 h8]
 simp only
 rw [map_zip2 _ _ h1.symm,map_zip1 _ _ h1.symm,if_pos hW.symm]
 have:=back_rep back_end t.e [] r h9
 rw [h2,List.nil_append] at this
 rw [this]
theorem only_lex {b r:List Int} {t:LexD} (hb:∀ a∈b,Byte a) (h:lexG b=some (t,r)):b=ptLex t++r∧colsL t.c≤65536:=by
 obtain⟨rc,b1,w,b2,h1,h2,h3,h4,h5,h6⟩:=lexG_some h
 have q1:=(only_list only_rc).byte hb h1
 obtain⟨e2,q2,w0,w1,-,-⟩:=only_table q1 h2
 obtain⟨M,e3,e4,e5⟩:=only_rep only_end _ _ _ _ _ q2 h4
 rw [List.nil_append] at e3
 rw [h6,← h3]
 refine⟨?_,w1⟩
 rw [only_list only_rc _ _ _ hb h1,e2,e5]
 unfold ptLex
 rw [h5,h6,zip_parts,← h3,e3]
 simp only [List.append_assoc]
structure OkNet (n:NetD):Prop where
 st:okL okState n.st
 s:okL (okN 16777215) n.s
 p:okL (okN 16777215) n.p
 q:okL (okN 16777215) n.q
 d:decsOf n.st=n.d
theorem back_net:Back netG ptNet OkNet:=by
 rintro t r ⟨h1,h2,h3,h4,h5⟩
 unfold netG ptNet
 simp only [List.append_assoc]
 rw [back_list back_state _ _ h1]
 simp only
 rw [back_list back_any _ _ h2]
 simp only
 rw [back_list back_any _ _ h3]
 simp only
 rw [back_list back_any _ _ h4]
 simp only
 rw [h5]
theorem only_net:Only netG ptNet:=by
 intro b n r hb h
 obtain⟨b1,b2,b3,h1,h2,h3,h4,-⟩:=netG_some h
 have q1:=(only_list only_state).byte hb h1
 have q2:=(only_list only_any).byte q1 h2
 have q3:=(only_list only_any).byte q2 h3
 rw [only_list only_state _ _ _ hb h1,only_list only_any _ _ _ q1 h2,only_list only_any _ _ _ q2 h3,only_list only_any _ _ _ q3 h4]
 simp only [ptNet,List.append_assoc]
theorem spread_cells (d:Int):∀ (L:List Int) (k:Nat),spread d L.length (cellsFrom d k L) k=L
 | [],_=>rfl
 | x :: L,k=>by
  have ih:=spread_cells d L (k+1)
  simp only [cellsFrom,List.length_cons]
  by_cases h:x=d
  ·rw [if_pos h]
   cases hc:cellsFrom d (k+1) L with
   | nil=>rw [hc] at ih;simp only [spread,ih,h]
   | cons c l =>
    rw [hc] at ih
    have hge:∀ (L:List Int) (k:Nat),∀ c∈cellsFrom d k L,(k:Int)≤c.1:=by
     intro L
     induction L with
     | nil=>intro k c hc;simp [cellsFrom] at hc
     | cons y L ihl =>
      intro k c hc
      simp only [cellsFrom] at hc
      split at hc
      ·have:=ihl (k+1) c hc;omega
      ·rcases List.mem_cons.1 hc with rfl|hc
       ·exact Int.le_refl _
       ·have:=ihl (k+1) c hc;omega
    have h1:=hge L (k+1) c (by rw [hc];simp)
    simp only [spread]
    rw [if_neg (by omega),ih,h]
  ·rw [if_neg h]
   simp only [spread,if_true]
   rw [ih]
def shiftE (es:List (Int × Int)):List (Int × Int):=es.map (fun e=>(e.1+1,e.2))
theorem lookRow_fill (tk:Nat) (es:List (Int × Int)):lookRow tk es=fillL (tk+1) (-1,shiftE es):=by
 unfold lookRow fillL shiftE
 simp only
 rw [List.foldl_map]
theorem edges_cells:∀ (L:List Int) (k:Nat),(∀ x∈L,-1≤x)→edgesFrom ((k:Int)-1) L=(cellsFrom (-1) k L).map (fun c=>(c.1-1,c.2))
 | [],_,_=>rfl
 | x :: L,k,h=>by
  have ih:=edges_cells L (k+1) (fun y hy=>h y (by simp [hy]))
  have hx:=h x (by simp)
  simp only [edgesFrom,cellsFrom]
  rw [show ((k:Int)-1)+1=((k+1:Nat):Int)-1 by omega,ih]
  by_cases hh:x=-1
  ·rw [if_neg (by omega),if_pos hh]
  ·rw [if_pos (by omega),if_neg hh];rfl
theorem edgesOf_cells {L:List Int} (h:∀ x∈L,-1≤x):edgesOf L=(cellsFrom (-1) 0 L).map (fun c=>(c.1-1,c.2)):=edges_cells L 0 h
theorem shift_back (cs:List (Int × Int)):shiftE (cs.map (fun c=>(c.1-1,c.2)))=cs:=by
 unfold shiftE
 rw [List.map_map]
 conv=>rhs;rw [← List.map_id cs]
 refine List.map_congr_left (fun c _=>?_)
 simp only [Function.comp,id]
 rw [show c.1-1+1=c.1 by omega]
theorem back_shift (cs:List (Int × Int)):(shiftE cs).map (fun c=>(c.1-1,c.2))=cs:=by
 unfold shiftE
 rw [List.map_map]
 conv=>rhs;rw [← List.map_id cs]
 refine List.map_congr_left (fun c _=>?_)
 simp only [Function.comp,id]
 rw [show c.1+1-1=c.1 by omega]
theorem lookRow_edges {tk:Nat} {L:List Int} (hl:L.length=tk+1) (hv:∀ x∈L,isVal x):lookRow tk (edgesOf L)=L:=by
 rw [lookRow_fill,edgesOf_cells (fun x hx=>(hv x hx).1),shift_back,← hl]
 have hf:=fineCells_from (-1) L 0 (-1) (by omega) hv
 rw [Nat.zero_add] at hf
 have:=fold_spread (-1) L.length L.length (cellsFrom (-1) 0 L) 0 [] rfl (by omega) hf
 rw [List.nil_append,List.nil_append,spread_cells] at this
 exact this
theorem fine_shift {tk:Int}:∀ (es:List (Int × Int)) (last:Int),risingB (es.map (·.1)) last tk=true→(∀ e∈es,0≤e.2∧e.2≤16777215)→fineCells (tk+1) (-1) last (shiftE es)=true
 | [],_,_,_=>rfl
 | e :: es,last,h,hv=>by
  simp only [List.map_cons,risingB] at h
  split at h
  ·cases h
  ·rename_i hn
   have hx:=hv e (by simp)
   have ih:=fine_shift es (e.1+1) h (fun y hy=>hv y (by simp [hy]))
   simp only [shiftE,List.map_cons,fineCells,Bool.and_eq_true,decide_eq_true_eq,Bool.not_eq_true',decide_eq_false_iff_not]
   exact⟨⟨⟨⟨by omega,by omega⟩,by omega,by omega⟩,by omega⟩,ih⟩
theorem lookRow_spec {tk:Nat} {es:List (Int × Int)} (h:risingB (es.map (·.1)) (-1) tk=true) (hv:∀ e∈es,0≤e.2∧e.2≤16777215):(lookRow tk es).length=tk+1∧(∀ x∈lookRow tk es,isVal x)∧edgesOf (lookRow tk es)=es:=by
 have hf:=fine_shift es (-1) h hv
 have hf0:fineCells ((0+(tk+1):Nat):Int) (-1) (((0:Nat):Int)-1) (shiftE es)=true:=by
  rw [show ((0+(tk+1):Nat):Int)=(tk:Int)+1 by omega];exact hf
 have h1:=fold_spread (-1) _ (tk+1) (shiftE es) 0 [] rfl rfl hf0
 rw [List.nil_append,List.nil_append] at h1
 have e1:lookRow tk es=spread (-1) (tk+1) (shiftE es) 0:=by rw [lookRow_fill];exact h1
 have hvals:=spread_vals (-1) _ ⟨by omega,by omega⟩ (tk+1) (shiftE es) 0 _ hf0
 rw [e1]
 refine⟨spread_length _ _ _ _,hvals,?_⟩
 rw [edgesOf_cells (fun x hx=>(hvals x hx).1),cells_spread (-1) _ (tk+1) (shiftE es) 0 rfl hf0,back_shift]
structure OkLs (tk:Nat) (s:LsD):Prop where
 k:okN 3 s.1
 a:okL (okN 16777215) s.2.1
 r:risingB (s.2.2.map (·.1)) (-1) tk=true
 t:∀ e∈s.2.2,0≤e.2∧e.2≤16777215
theorem makeOk_look {tk:Nat} {A:List LsD} (h:∀ s∈A,OkLs tk s):makeOk ((tk:Int)+1) (A.map (fun s=>lookRow tk s.2.2))=true:=by
 unfold makeOk
 rw [List.all_eq_true]
 intro l hl
 obtain⟨s,hs,rfl⟩:=List.mem_map.1 hl
 obtain⟨h1,h2,-⟩:=lookRow_spec (h s hs).r (h s hs).t
 simp only [listOk,Bool.and_eq_true,decide_eq_true_eq,Bool.not_eq_true']
 refine⟨?_,by rw [h1];rfl⟩
 unfold noValB
 rw [List.any_eq_false]
 intro x hx
 have:=h2 x hx
 simp only [valB,Bool.not_eq_true',decide_eq_false_iff_not,Classical.not_not]
 exact this
theorem back_look (tk:Nat) (htk:tk≤64):Back (lookG tk) (ptLook tk) (fun A=>A.length≤4096∧∀ s∈A,OkLs tk s):=by
 rintro A r ⟨h1,h2⟩
 unfold lookG ptLook
 simp only [List.append_assoc]
 have back_ls:Back lsG ptLs (fun s=>okN 3 s.1∧okL (okN 16777215) s.2):=by
  rintro ⟨k,l⟩ r ⟨h1,h2⟩
  unfold lsG ptLs
  simp only [List.append_assoc]
  rw [back_num (by decide) k _ h1]
  simp only
  rw [back_list back_any _ _ h2]
 rw [back_list back_ls _ _ ⟨by rw [List.length_map];omega,fun x hx=>by
  obtain⟨s,hs,rfl⟩:=List.mem_map.1 hx
  exact⟨(h2 s hs).k,(h2 s hs).a⟩⟩]
 simp only
 have hbt:=back_table (W:=tk+1) (LL:=A.map (fun (s:LsD)=>lookRow tk s.2.2)) r (by omega) (by rw [List.length_map];omega) (by have:=makeOk_look h2;rw [show ((tk+1:Nat):Int)=(tk:Int)+1 by omega];exact this) (by
  rw [List.length_map]
  have:(A.length:Int) * ((tk+1:Nat):Int)=((A.length * (tk+1):Nat):Int):=by simp
  rw [this]
  have:=Nat.mul_le_mul h1 (show tk+1≤65 by omega)
  omega)
 rw [show ((tk+1:Nat):Int)=(tk:Int)+1 by omega] at hbt
 rw [hbt]
 simp only
 rw [if_pos ⟨trivial,by simp⟩]
 have hz:∀ (A:List LsD),(∀ s∈A,OkLs tk s)→List.zipWith (fun (s:Int × List Int) l=>(s.1,s.2,edgesOf l)) (A.map (fun s=>(s.1,s.2.1))) (A.map (fun s=>lookRow tk s.2.2))=A:=by
  intro A
  induction A with
  | nil=>intro _;rfl
  | cons s A ih =>
   intro h
   simp only [List.map_cons,List.zipWith_cons_cons]
   rw [ih (fun x hx=>h x (by simp [hx])),(lookRow_spec (h s (by simp)).r (h s (by simp)).t).2.2]
 rw [hz A h2]
theorem only_ls:Only lsG ptLs:=by
 intro b s r hb h
 obtain⟨b1,h1,h2⟩:=lsG_some h
 rw [only_num _ _ _ hb h1,only_list only_any _ _ _ (only_num.byte hb h1) h2]
 simp only [ptLs,List.append_assoc]
theorem only_look (tk:Nat):Only (lookG tk) (ptLook tk):=by
 intro b A r hb h
 obtain⟨ss,b1,ls,h1,h2,h3,rfl⟩:=lookG_some h
 have q1:=(only_list only_ls).byte hb h1
 obtain⟨e2,-,-,-,-,hv⟩:=only_table q1 h2
 have z1:∀ (ss:List (Int × List Int)) (ls:List (List Int)),ls.length=ss.length→(List.zipWith (fun s l=>((s.1,s.2,edgesOf l):LsD)) ss ls).map (fun s=>(s.1,s.2.1))=ss:=by
  intro ss
  induction ss with
  | nil=>intro ls _;rfl
  | cons s ss ih =>
   intro ls hl
   cases ls with
   | nil=>simp at hl
   | cons l ls=>simp only [List.zipWith_cons_cons,List.map_cons];rw [ih ls (by simpa using hl)]
 have z2:∀ (ss:List (Int × List Int)) (ls:List (List Int)),ls.length=ss.length→(∀ l∈ls,(l.length:Int)=(tk:Int)+1∧∀ x∈l,isVal x)→(List.zipWith (fun s l=>((s.1,s.2,edgesOf l):LsD)) ss ls).map (fun s=>lookRow tk s.2.2)=ls:=by
  intro ss
  induction ss with
  | nil=>intro ls hl _;cases ls with
   | nil=>rfl
   | cons l ls=>simp at hl
  | cons s ss ih =>
   intro ls hl hv
   cases ls with
   | nil=>simp at hl
   | cons l ls =>
    simp only [List.zipWith_cons_cons,List.map_cons]
    obtain⟨a1,a2⟩:=hv l (by simp)
    rw [ih ls (by simpa using hl) (fun x hx=>hv x (by simp [hx])),lookRow_edges (by omega) a2]
 rw [only_list only_ls _ _ _ hb h1,e2]
 unfold ptLook
 rw [z1 _ _ h3,z2 _ _ h3 hv,List.append_assoc]
def okTok (x:Str × Bool):Prop:=okText x.1
theorem back_tok:Back tokG ptTok okTok:=by
 rintro ⟨s,b⟩ r h
 unfold tokG ptTok
 simp only [List.append_assoc]
 rw [back_text s _ h]
 simp only
 cases b
 ·have:=back_num (m:=1) (by decide) 0 r ⟨by omega,by omega⟩
  simp only [Bool.false_eq_true,if_false]
  rw [this]
  rfl
 ·have:=back_num (m:=1) (by decide) 1 r ⟨by omega,by omega⟩
  simp only [if_true]
  rw [this]
  rfl
theorem only_tok:Only tokG ptTok:=by
 intro b x r hb h
 obtain⟨b1,n,h1,h2,h3⟩:=tokG_some h
 rw [only_text _ _ _ hb h1,only_num _ _ _ (only_text.byte hb h1) h2]
 unfold ptTok
 obtain⟨m,rfl,hm⟩:=numG_le h2
 have:(if x.2 then (1:Int) else 0)=(m:Int):=by
  rw [h3]
  by_cases h1:m=1
  ·subst h1;rfl
  ·have h0:m=0:=by omega
   subst h0;rfl
 rw [this,List.append_assoc]
structure OkTabs (t:TabsD):Prop where
 rl:okL okText t.rl
 dl:t.tk.length=t.dr.length
 tk:t.tk.length≤64∧∀ s∈t.tk,okText s
 lx:OkLex t.lx
 nt:OkNet t.nt
 ll:t.lk.length=t.nt.d.length
 lk:∀ A∈t.lk,A.length≤4096∧∀ s∈A,OkLs t.tk.length s
theorem back_body:Back bodyG ptBody OkTabs:=by
 rintro t r ⟨h1,h2,h3,h4,h5,h6,h7⟩
 unfold bodyG ptBody
 simp only [List.append_assoc]
 rw [back_list back_text _ _ h1]
 simp only
 rw [back_list back_tok (t.tk.zip t.dr) _ ⟨by rw [List.length_zip];omega,fun x hx=>h3.2 _ (List.of_mem_zip hx).1⟩]
 simp only
 rw [back_lex _ _ h4]
 simp only
 rw [back_net _ _ h5]
 simp only
 have hz:(t.tk.zip t.dr).length=t.tk.length:=by rw [List.length_zip];omega
 rw [hz,← h6,back_rep (back_look t.tk.length h3.1) t.lk [] r h7,map_zip1 _ _ h2,map_zip2 _ _ h2]
 rfl
theorem only_body {b r:List Int} {t:TabsD} (hb:∀ a∈b,Byte a) (h:bodyG b=some (t,r)):b=ptBody t++r∧colsL t.lx.c≤65536:=by
 obtain⟨b1,tk,b2,b3,b4,h1,h2,h3,h4,h5,h6,h7⟩:=bodyG_some h
 have q1:=(only_list only_text).byte hb h1
 have q2:=(only_list only_tok).byte q1 h2
 obtain⟨e3,w⟩:=only_lex q2 h3
 have q3:∀ a∈b3,Byte a:=fun a ha=>q2 a (by rw [e3];exact List.mem_append_right _ ha)
 have q4:=only_net.byte q3 h4
 obtain⟨M,m1,m2,m3⟩:=only_rep (only_look tk.length) _ _ _ _ _ q4 h5
 rw [List.nil_append] at m1
 refine⟨?_,w⟩
 rw [only_list only_text _ _ _ hb h1,only_list only_tok _ _ _ q1 h2,e3,only_net _ _ _ q3 h4,m3]
 unfold ptBody
 rw [h6,h7,zip_parts,m1,List.length_map]
 simp only [List.append_assoc]
theorem tabs_back {t:TabsD} (h:OkTabs t) (hm:mayTabs t=true):tabsG (ptTabs t)=some t:=by
 unfold tabsG ptTabs
 have:=back_body t [] h
 rw [List.append_nil] at this
 rw [show (headL++ptBody t).take 4=headL from rfl,if_pos rfl,show (headL++ptBody t).drop 4=ptBody t from rfl,this]
 simp only
 rw [if_pos ⟨trivial,hm⟩]
theorem tabs_only {Z:List Int} {t:TabsD} (hb:∀ a∈Z,Byte a) (h:tabsG Z=some t):Z=ptTabs t∧mayTabs t=true∧colsL t.lx.c≤65536:=by
 unfold tabsG at h
 split at h
 ·rename_i hh
  split at h
  ·cases h
  ·rename_i t' r hbd
   split at h
   ·rename_i hr
    injection h with h
    subst h
    obtain⟨rfl,hm⟩:=hr
    obtain⟨e,w⟩:=only_body (fun a ha=>hb a (List.mem_of_mem_drop ha)) hbd
    refine⟨?_,hm,w⟩
    rw [List.append_nil] at e
    rw [← List.take_append_drop 4 Z,hh,e]
    rfl
   ·cases h
 ·cases h
theorem tabs_fair {Z:List Int} {t:TabsD} (h:tabsG Z=some t):FairTabs t:=by
 unfold tabsG at h
 split at h
 ·split at h
  ·cases h
  ·rename_i t' r hbd
   split at h
   ·injection h with h
    subst h
    exact fair_body hbd
   ·cases h
 ·cases h
end Go.Proofs.YtgnpmceimpjheaaGreat
namespace Go.Proofs.YtgnpmceimpjheaaGreat
open Go.RowKit
structure SmallT (t:TabsD):Prop where
 r:t.lx.r.length≤65536
 st:∀ s∈t.nt.st,s.2.1.length≤65536∧s.2.2.length≤65536∧∀ e∈s.2.1,0≤e.1
 q:t.nt.q.length≤65536
 al:∀ A∈t.lk,∀ s∈A,s.2.1.length≤65536
theorem any_not {α:Type} {p:α→Bool} {L:List α} (h:L.any (fun x=>!p x)=false):∀ x∈L,p x=true:=by
 intro x hx
 have:=List.any_eq_false.1 h x hx
 simpa using this
theorem rising_spec:∀ (l:List Int) (least most:Int),risingB l least most=true→∀ x∈l,least≤x∧x<most
 | [],_,_,_,x,hx=>by cases hx
 | n :: l,least,most,h,x,hx=>by
  simp only [risingB] at h
  split at h
  ·cases h
  ·rename_i hn
   rcases List.mem_cons.1 hx with rfl|hx
   ·omega
   ·have:=rising_spec l _ _ h x hx
    omega
structure MayP (t:TabsD):Prop where
 rl1:1≤t.rl.length
 rl:t.rl.length≤64
 tk:t.tk.length≤64
 dr:t.dr.length=t.tk.length
 rn:∀ s∈t.rl,namedB s=true
 tn:∀ s∈t.tk,namedB s=true
 lx:lexerB t.lx t.tk.length=true
 nt:mayNet t.nt=true
 sl:t.nt.s.length=t.rl.length
 st:t.nt.st.length≤65536
 ll:t.lk.length=t.nt.d.length
 lk:looksOk t=true
 tb:∀ s∈t.nt.st,s.2.1.any (tokBad t.tk.length)=false
theorem mayTabs_spec {t:TabsD} (h:mayTabs t=true):MayP t:=by
 unfold mayTabs at h
 simp only [Bool.and_eq_true,decide_eq_true_eq,Bool.not_eq_true'] at h
 obtain⟨⟨⟨⟨⟨⟨⟨⟨⟨⟨⟨⟨h1,h2⟩,h3⟩,h4⟩,h5⟩,h6⟩,h7⟩,h8⟩,h9⟩,h10⟩,h11⟩,h12⟩,h13⟩:=h
 refine⟨h1,h2,h3,h4,any_not h5,any_not h6,h7,h8,h9,h10,h11,h12,fun s hs=>?_⟩
 have:=List.any_eq_false.1 h13 s hs
 simpa using this
structure LexP (t:LexD) (tk:Nat):Prop where
 m:MayS t
 nl:t.n.length≤65536
 pr:(t.n.length:Int) * colsL t.c≤4194304
 rs:∀ r∈t.r,0≤r.1∧r.2≤1114111∧r.1≤r.2
 eb:∀ e∈t.e,-1≤e∧e<tk
theorem lexerB_spec {t:LexD} {tk:Nat} (h:lexerB t tk=true):LexP t tk:=by
 unfold lexerB at h
 simp only [Bool.and_eq_true,decide_eq_true_eq,Bool.not_eq_true'] at h
 obtain⟨⟨⟨⟨h1,h2⟩,h3⟩,h4⟩,h5⟩:=h
 have hm:=mayT_iff.1 h1
 refine⟨hm,h2,h3,fun r hr=>?_,fun e he=>⟨hm.eb e he,?_⟩⟩
 ·have:=List.any_eq_false.1 h4 r hr
  simp only [strangeR,Bool.or_eq_true,decide_eq_true_eq,not_or] at this
  obtain⟨j,hj,rfl⟩:=List.mem_iff_getElem.1 hr
  have ha:=hm.ap
  unfold apartB at ha
  have hb:=List.all_eq_true.1 ha j (List.mem_range.2 hj)
  simp only [apOk,Bool.and_eq_true,decide_eq_true_eq] at hb
  have hc:=hb.1
  rw [List.getD_eq_getElem?_getD,List.getElem?_eq_getElem hj,Option.getD_some] at hc
  exact⟨by omega,by omega,hc⟩
 ·have hne:t.e≠[]:=by intro e;rw [e] at he;cases he
  have:=(maxI_spec hne).2 e he
  omega
theorem ok_mo {t:LexD} {tk:Nat} (h:lexerB t tk=true):makeOk (colsL t.c) t.n=true:=by
 obtain⟨hm,h2,h3,h4,h5⟩:=lexerB_spec h
 unfold makeOk
 rw [List.all_eq_true]
 intro l hl
 obtain⟨c1,c2⟩:=hm.row l hl
 simp only [listOk,Bool.and_eq_true,decide_eq_true_eq,Bool.not_eq_true']
 refine⟨?_,c1⟩
 unfold noValB
 rw [List.any_eq_false]
 intro x hx
 have:=c2 x hx
 simp only [valB,Bool.not_eq_true',decide_eq_false_iff_not,Classical.not_not]
 exact⟨this.1,by omega⟩
theorem ok_lex {t:LexD} {tk:Nat} (h:lexerB t tk=true) (htk:tk≤64) (hr:t.r.length≤16777215) (hw:colsL t.c≤65536):OkLex t:=by
 obtain⟨hm,h2,h3,h4,h5⟩:=lexerB_spec h
 refine⟨hm.cl,hm.el,hr,fun x hx=>?_,hw,h2,?_,h3,fun e he=>?_⟩
 ·obtain⟨a1,a2,a3⟩:=h4 _ (List.of_mem_zip hx).1
  obtain⟨b1,b2⟩:=hm.cb _ (List.of_mem_zip hx).2
  have:=hm.cl
  exact⟨⟨by omega,by omega⟩,⟨by omega,by omega⟩,⟨by omega,by omega⟩⟩
 ·exact ok_mo h
 ·have:=h5 e he
  exact⟨this.1,by omega⟩
structure NetP (n:NetD):Prop where
 sp:n.s.length=n.p.length
 sb:∀ i∈n.s,0≤i∧i<n.st.length
 pb:∀ i∈n.p,0≤i∧i<n.st.length
 qb:∀ i∈n.q,0≤i∧i<n.st.length
 st:∀ s∈n.st,stMay n.st.length n.s.length n.q.length s=true∧0≤s.1∧s.1<n.s.length
 d:decsOf n.st=n.d
theorem mayNet_spec {n:NetD} (h:mayNet n=true):NetP n:=by
 unfold mayNet at h
 simp only [Bool.and_eq_true,decide_eq_true_eq,Bool.not_eq_true'] at h
 obtain⟨⟨⟨⟨h1,h2⟩,h3⟩,h4⟩,h5⟩:=h
 have hb:=any_not h2
 have hs:∀ i,stateB n.st.length i=true→0≤i∧i<n.st.length:=fun i hi=>by
  simpa [stateB] using hi
 refine⟨h1,fun i hi=>hs i (hb i (by simp [hi])),fun i hi=>hs i (hb i (by simp [hi])),fun i hi=>?_,fun s hs=>?_,h5⟩
 ·have:=List.any_eq_false.1 h3 i hi
  simp only [predBad,Bool.or_eq_true,decide_eq_true_eq,not_or] at this
  exact⟨by omega,by omega⟩
 ·have:=List.all_eq_true.1 h4 s hs
  simp only [stOk,Bool.and_eq_true,decide_eq_true_eq] at this
  exact⟨this.1.1,this.1.2,this.2⟩
structure StP (ns nst np:Nat) (s:StD):Prop where
 e:∀ e∈s.2.1,e.1≤3∧0≤e.2.1∧(e.1=1∨e.2.1<mostE nst np e.1)∧0≤e.2.2∧e.2.2<ns
 d:s.2.2.length=0∨(s.2.2.length=s.2.1.length∧∀ i∈s.2.2,0≤i∧i<ns)
theorem stMay_spec {ns nst np:Nat} {s:StD} (h:stMay ns nst np s=true):StP ns nst np s:=by
 unfold stMay at h
 simp only [Bool.and_eq_true,Bool.or_eq_true,decide_eq_true_eq,Bool.not_eq_true'] at h
 obtain⟨h1,h2⟩:=h
 refine⟨fun e he=>?_,?_⟩
 ·have:=List.any_eq_false.1 h1 e he
  simp only [edgeBad,stateB,Bool.or_eq_true,Bool.and_eq_true,decide_eq_true_eq,Bool.not_eq_true',Bool.and_eq_false_iff,decide_eq_false_iff_not,not_or,not_and] at this
  obtain⟨⟨⟨a1,a2⟩,a3⟩,a4⟩:=this
  refine⟨by omega,by omega,?_,by omega,by omega⟩
  by_cases hk:e.1=1
  ·exact .inl hk
  ·have:=a3 hk
   exact .inr (by omega)
 ·rcases h2 with h2|⟨⟨⟨h2,-⟩,-⟩,h3⟩
  ·exact .inl h2
  ·exact .inr ⟨h2,fun i hi=>by
    have:=any_not h3 i hi
    simpa [stateB] using this⟩
theorem ok_net {t:TabsD} (h:MayP t) (hst:∀ s∈t.nt.st,s.2.1.length≤16777215∧s.2.2.length≤16777215∧∀ e∈s.2.1,0≤e.1) (hq:t.nt.q.length≤16777215):OkNet t.nt:=by
 obtain⟨h1,h2,h3,h4,h5,h6⟩:=mayNet_spec h.nt
 have b1:=h.st
 have b2:=h.sl
 have b3:=h.rl
 have b4:=h.tk
 refine⟨⟨by omega,fun s hs=>?_⟩,⟨by omega,fun i hi=>?_⟩,⟨by omega,fun i hi=>?_⟩,⟨hq,fun i hi=>?_⟩,h6⟩
 ·obtain⟨c1,c2,c3⟩:=h5 s hs
  obtain⟨d1,d2⟩:=stMay_spec c1
  obtain⟨e1,e2,e3⟩:=hst s hs
  refine⟨⟨c2,by omega⟩,⟨e1,fun e he=>?_⟩,⟨e2,fun i hi=>?_⟩⟩
  ·obtain⟨g1,g2,g3,g4,g5⟩:=d1 e he
   have g6:=e3 e he
   refine⟨⟨g6,by omega⟩,⟨g2,?_⟩,⟨g4,by omega⟩⟩
   rcases g3 with g3|g3
   ·have:=List.any_eq_false.1 (h.tb s hs) e he
    simp only [tokBad,g3,decide_true,Bool.true_and,decide_eq_true_eq] at this
    omega
   ·unfold mostE at g3
    split at g3
    ·omega
    ·split at g3 <;> omega
  ·rcases d2 with d2|⟨-,d2⟩
   ·rw [List.length_eq_zero_iff.1 d2] at hi;cases hi
   ·have:=d2 i hi
    exact⟨this.1,by omega⟩
 ·have:=h2 i hi
  exact⟨this.1,by omega⟩
 ·have:=h3 i hi
  exact⟨this.1,by omega⟩
 ·have:=h4 i hi
  exact⟨this.1,by omega⟩
theorem mayAuto_spec {A:List LsD} {alts tk:Int} (h:mayAuto A alts tk=true):1≤A.length∧A.length≤4096∧∀ s∈A,fineB A.length alts tk s=true:=by
 unfold mayAuto at h
 simp only [Bool.and_eq_true,decide_eq_true_eq,Bool.not_eq_true'] at h
 exact⟨h.1.1,h.1.2,any_not h.2⟩
theorem kindB_spec {k:Int} {na ne:Nat} (h:kindB k na ne=true):0≤k∧k≤3:=by
 unfold kindB at h
 split at h
 ·omega
 split at h
 ·omega
 split at h
 ·omega
 simp only [Bool.and_eq_true,decide_eq_true_eq] at h
 omega
theorem look_may {t:TabsD} (h:MayP t) {A:List LsD} (hA:A∈t.lk):∃ s∈t.nt.st,mayAuto A (s.2.2.length:Nat) t.tk.length=true:=by
 obtain⟨i,hi,rfl⟩:=List.mem_iff_getElem.1 hA
 have hl:=h.lk
 unfold looksOk at hl
 have hid:i<t.nt.d.length:=by rw [← h.ll];exact hi
 have:=List.all_eq_true.1 hl i (List.mem_range.2 hid)
 rw [List.getD_eq_getElem?_getD,List.getElem?_eq_getElem hi,Option.getD_some] at this
 have hd:=(mayNet_spec h.nt).d
 have hm:t.nt.d.getD i 0∈decsFrom 0 t.nt.st:=by
  rw [show decsFrom 0 t.nt.st=t.nt.d from hd]
  exact getD_mem hid
 obtain⟨j,hj,hjl⟩:=decsFrom_spec _ _ _ hm
 rw [hj] at this
 simp only [Nat.zero_add,Int.toNat_natCast] at this
 rw [List.getD_eq_getElem?_getD (l:=t.nt.st),List.getElem?_eq_getElem hjl,Option.getD_some] at this
 exact⟨t.nt.st[j],List.getElem_mem _,this⟩
theorem ok_look {t:TabsD} (h:MayP t) (hst:∀ s∈t.nt.st,s.2.2.length≤16777215) {A:List LsD} (hA:A∈t.lk) (hal:∀ s∈A,s.2.1.length≤16777215):A.length≤4096∧∀ s∈A,OkLs t.tk.length s:=by
 obtain⟨u,hu,hm⟩:=look_may h hA
 have hul:=hst u hu
 obtain⟨-,h2,h3⟩:=mayAuto_spec hm
 refine⟨h2,fun s hs=>?_⟩
 have hf:=h3 s hs
 unfold fineB at hf
 simp only [Bool.and_eq_true,Bool.not_eq_true'] at hf
 obtain⟨⟨⟨f1,f2⟩,f3⟩,f4⟩:=hf
 refine⟨kindB_spec f4,⟨hal s hs,fun x hx=>?_⟩,f3,fun e he=>?_⟩
 ·have:=rising_spec _ _ _ f2 x hx
  exact⟨this.1,by omega⟩
 ·have:=List.any_eq_false.1 f1 e he
  simp only [badLe,Bool.or_eq_true,decide_eq_true_eq,not_or] at this
  exact⟨by omega,by omega⟩
theorem ok_tabs {t:TabsD} (hm:mayTabs t=true) (hs:SmallT t):OkTabs t:=by
 have h:=mayTabs_spec hm
 have hx:=lexerB_spec h.lx
 have hr:=hs.r
 have hcl:=hx.m.cl
 have hw:colsL t.lx.c≤65536:=by
  have:=colsL_le (C:=t.lx.c) (m:=t.lx.c.length) (by omega) (fun c hc=>(hx.m.cb c hc).2)
  omega
 have hn:∀ s,namedB s=true→okText s:=fun s hs=>by
  unfold namedB at hs
  simp only [Bool.and_eq_true,decide_eq_true_eq] at hs
  exact hs.2
 have b1:=h.rl
 refine⟨⟨by omega,fun s hs=>hn s (h.rn s hs)⟩,h.dr.symm,⟨h.tk,fun s hs=>hn s (h.tn s hs)⟩,ok_lex h.lx h.tk (by omega) hw,ok_net h (fun s hs'=>?_) (by have:=hs.q;omega),h.ll,fun A hA=>ok_look h (fun s hs'=>?_) hA (fun s hs'=>?_)⟩
 ·have:=hs.st s hs'
  exact⟨by omega,by omega,this.2.2⟩
 ·have:=(hs.st s hs').2.1;omega
 ·have:=hs.al A hA s hs';omega
end Go.Proofs.YtgnpmceimpjheaaGreat
namespace Go.Proofs.YtgnpmceimpjheaaGreat
open Go.RowKit
theorem Elt.InS.oks {α:Type} {E:Elt α} {w:World} {S:Nat→Prop} {s:Sl} {L:List α} (h:E.InS w S s L):∀ x∈L,E.ok x:=by
 obtain⟨-,-,g,o,h3,-⟩:=h
 exact h3.ok
theorem NetIn.kinds {w:World} {S:Nat→Prop} {m:NetS} {n:NetD} (h:NetIn w S m n):∀ s∈n.st,∀ e∈s.2.1,0≤e.1∧e.1≤255:=by
 intro s hs e he
 obtain⟨X,-,h2,h3⟩:=h.st
 obtain⟨j,hj,rfl⟩:=List.mem_iff_getElem.1 hs
 have hx:X[j]?=some X[j]:=List.getElem?_eq_getElem (by omega)
 have hr:=h3 j _ _ hx (List.getElem?_eq_getElem hj)
 exact (hr.2.2.1.oks e he).1
theorem ok_nt {t:TabsD} (h:MayP t) (hf:FairN t.nt) (hk:∀ s∈t.nt.st,∀ e∈s.2.1,0≤e.1∧e.1≤255):OkNt t.nt:=by
 obtain⟨h1,h2,h3,h4,h5,h6⟩:=mayNet_spec h.nt
 have b1:=h.st
 have b2:=h.sl
 have b3:=h.rl
 have b4:=h.tk
 have b5:=hf.q
 refine⟨⟨by omega,fun s hs=>?_⟩,⟨by omega,fun i hi=>?_⟩,⟨by omega,fun i hi=>?_⟩,⟨by omega,fun i hi=>?_⟩⟩
 ·obtain⟨c1,c2,c3⟩:=h5 s hs
  obtain⟨d1,d2⟩:=stMay_spec c1
  obtain⟨e1,e2⟩:=hf.e s hs
  refine⟨⟨c2,by omega⟩,⟨e1,fun e he=>?_⟩,e2,fun i hi=>?_⟩
  ·obtain⟨g1,g2,g3,g4,g5⟩:=d1 e he
   refine⟨hk s hs e he,⟨g2,?_⟩,⟨g4,by omega⟩⟩
   rcases g3 with g3|g3
   ·have:=List.any_eq_false.1 (h.tb s hs) e he
    simp only [tokBad,g3,decide_true,Bool.true_and,decide_eq_true_eq] at this
    omega
   ·unfold mostE at g3
    split at g3
    ·omega
    ·split at g3 <;> omega
  ·rcases d2 with d2|⟨-,d2⟩
   ·rw [List.length_eq_zero_iff.1 d2] at hi;cases hi
   ·have:=d2 i hi
    exact⟨this.1,by omega⟩
 ·have:=h2 i hi
  exact⟨this.1,by omega⟩
 ·have:=h3 i hi
  exact⟨this.1,by omega⟩
 ·have:=h4 i hi
  exact⟨this.1,by omega⟩
theorem ok_lx {t:LexD} {tk:Nat} (h:lexerB t tk=true) (htk:tk≤64) (hf:Fair t) (hw:colsL t.c≤65536):OkLx t:=by
 obtain⟨hm,h2,h3,h4,h5⟩:=lexerB_spec h
 have f1:=hf.r
 refine⟨hm.cl,f1,by rw [hm.el];omega,fun r hr=>?_,fun c hc=>?_,hw,h2,ok_mo h,h3,fun e he=>?_⟩
 ·obtain⟨a1,a2,a3⟩:=h4 r hr
  exact⟨⟨by omega,by omega⟩,⟨by omega,by omega⟩⟩
 ·have:=hm.cb c hc
  have:=hm.cl
  omega
 ·have:=h5 e he
  omega
theorem makeOk_rows {tk:Nat} {A:List LsD} (h:∀ s∈A,risingB (s.2.2.map (·.1)) (-1) tk=true∧∀ e∈s.2.2,0≤e.2∧e.2≤16777215):makeOk ((tk:Int)+1) (A.map (fun s=>lookRow tk s.2.2))=true:=by
 unfold makeOk
 rw [List.all_eq_true]
 intro l hl
 obtain⟨s,hs,rfl⟩:=List.mem_map.1 hl
 obtain⟨h1,h2,-⟩:=lookRow_spec (h s hs).1 (h s hs).2
 simp only [listOk,Bool.and_eq_true,decide_eq_true_eq,Bool.not_eq_true']
 refine⟨?_,by rw [h1];rfl⟩
 unfold noValB
 rw [List.any_eq_false]
 intro x hx
 have:=h2 x hx
 simp only [valB,Bool.not_eq_true',decide_eq_false_iff_not,Classical.not_not]
 exact this
theorem ok_lk {t:TabsD} (h:MayP t) (hf:FairTabs t) {A:List LsD} (hA:A∈t.lk):(∀ d∈A,OkL t.tk.length d)∧A.length≤4096∧makeOk ((t.tk.length:Int)+1) (A.map (fun s=>lookRow t.tk.length s.2.2))=true:=by
 obtain⟨u,hu,hm⟩:=look_may h hA
 have hul:=(hf.nt.e u hu).2
 obtain⟨-,h2,h3⟩:=mayAuto_spec hm
 have key:∀ s∈A,OkL t.tk.length s∧risingB (s.2.2.map (·.1)) (-1) t.tk.length=true∧∀ e∈s.2.2,0≤e.2∧e.2≤16777215:=fun s hs=>by
  have hfn:=h3 s hs
  unfold fineB at hfn
  simp only [Bool.and_eq_true,Bool.not_eq_true'] at hfn
  obtain⟨⟨⟨f1,f2⟩,f3⟩,f4⟩:=hfn
  have hb:=(hf.la A hA).2 s hs
  have h4:=kindB_spec f4
  have he:∀ e∈s.2.2,0≤e.2∧e.2≤16777215:=fun e he=>by
   have:=List.any_eq_false.1 f1 e he
   simp only [badLe,Bool.or_eq_true,decide_eq_true_eq,not_or] at this
   exact⟨by omega,by omega⟩
  refine⟨⟨⟨h4.1,by omega⟩,⟨hb.1,fun x hx=>?_⟩,hb.2,fun e hh=>?_⟩,f3,he⟩
  ·have:=rising_spec _ _ _ f2 x hx
   exact⟨this.1,by omega⟩
  ·have h5:=rising_spec _ _ _ f3 e.1 (List.mem_map.2 ⟨e,hh,rfl⟩)
   have h6:=he e hh
   exact⟨h5.1,h5.2,⟨by omega,by omega⟩⟩
 exact⟨fun d hd=>(key d hd).1,h2,makeOk_rows (fun s hs=>(key s hs).2)⟩
end Go.Proofs.YtgnpmceimpjheaaGreat
