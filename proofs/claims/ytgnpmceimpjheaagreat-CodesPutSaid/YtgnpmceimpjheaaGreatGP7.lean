/- A part of the proof: CodY CodK CodH Class Step Apt MayT MayU. -/
import Derived.Test.YtgnpmceimpjheaaGreatGP6
import Derived.Test.YtgnpmceimpjheaaGreatGP3
import Derived.Handy
import Derived.Shelf.Abstract
set_option maxRecDepth 100000
set_option maxHeartbeats 16000000
namespace Go.Proofs.YtgnpmceimpjheaaGreat
open Go.RowKit
structure XSt (pg gb b:Nat) (w wr:World) (vr vc:Value) (Rs:List (Int×Int)) (Cs:List Int) (Z:List Int):Prop where
 g:GetSt pg gb wr Z
 lt:pg<w.heap.size/\gb<w.heap.size/\w.heap.size<=b
 r:Fld rngE b 0 wr vr Rs
 c:Fld intE b 1 wr vc Cs
 n:wr.cell? ⟨b,2,none⟩=some (.slice none 0 0)
 e:wr.cell? ⟨b,3,none⟩=some (.slice none 0 0)
 z:∀j,wr.frozen? ⟨b,j,none⟩=false
 ne:∀g,vr.ownBlock=some g->vc.ownBlock=some g->False
 chg:Chg (·=pg) w wr
theorem XSt.call {pg gb b:Nat}{w wr w1:World}{vr vc:Value}{Rs:List (Int×Int)}{Cs Z r:List Int}(h:XSt pg gb b w wr vr vc Rs Cs Z) (hg:GetSt pg gb w1 r) (hc:Chg (·=pg) wr w1):XSt pg gb b w w1 vr vc Rs Cs r:=by
 have hlt:=h.lt;have hb:¬b=pg:=oM
 exact⟨hg,h.lt,h.r.chg hc (λg hg _ e=>oM),h.c.chg hc (λg hg _ e=>oM),hc.cellS h.n hb,hc.cellS h.e hb,λj=>(hc.frozen (p:=⟨b,j,none⟩) h.r.lt hb).trans (h.z j),h.ne,h.chg.trans hc⟩
theorem XSt.fresh {pg gb b:Nat}{w wr w1:World}{vr vc:Value}{Rs:List (Int×Int)}{Cs Z:List Int}(h:XSt pg gb b w wr vr vc Rs Cs Z) (hc:Cf wr w1):XSt pg gb b w w1 vr vc Rs Cs Z:=h.call (h.g.fresh hc) hc.any
theorem XSt.setR {pg gb b:Nat}{w wr w4:World}{vr vr' vc:Value}{Rs Rs':List (Int×Int)}{Cs Z:List Int}(h:XSt pg gb b w wr vr vc Rs Cs Z) (ho:rngE.Own w4 (b+1) vr' Rs') (hb:Chg (λk=>vr.ownBlock=some k) wr w4) (hb2:vr'.ownBlock=vr.ownBlock\/vr'.ownBlock=some wr.heap.size) :
  (w4.cell? ⟨b,0,none⟩=some vr/\w4.frozen? ⟨b,0,none⟩=false)/\XSt pg gb b w (w4.setCell ⟨b,0,none⟩ vr') vr' vc Rs' Cs Z:=by
 have hlt:=h.lt;have hob:∀k,vr.ownBlock=some k->b+1<=k:=λk hk=>(h.r.own.blk hk).1
 have hbb:¬vr.ownBlock=some b:=λe=>by have:=hob b e;omega
 have c0:=hb.cellS h.r.c hbb;have z4:∀j,w4.frozen? ⟨b,j,none⟩=false:=λj=>(hb.frozen (p:=⟨b,j,none⟩) h.r.lt hbb).trans (h.z j)
 have hs:=zA w4 b 0 vr';have hoth:∀j u,j≠0->wr.cell? ⟨b,j,none⟩=some u->(w4.setCell ⟨b,0,none⟩ vr').cell? ⟨b,j,none⟩=some u:=λj u hj hu=>by
  rw[Ay0 _ _ _ _ (by intro e;injection e with _ e;exact hj e.symm)];exact hb.cellS hu hbb
 refine⟨⟨c0,z4 0⟩,⟨(h.g.chg hb (λe=>by have:=hob _ e;omega) (λe=>by have:=hob _ e;omega)).chg hs oM oM,h.lt,⟨Az9 _ _ _ c0,(Az4 _ _ _ _).trans (z4 0),ho.chg hs (λg hg _ e=>oM)⟩,⟨hoth 1 _ dE h.c.c,(Az4 _ _ _ _).trans (z4 1),((h.c.own.chgB hb (λg hg e=>h.ne g e hg)).chg hs (λg hg _ e=>oM))⟩,hoth 2 _ dE h.n,hoth 3 _ dE h.e,λj=>(Az4 _ _ _ _).trans (z4 j),λg hg hg2=>?_,(h.chg.trans2 hb (λk hk e=>absurd (hob k e) oM)).trans2 hs (λk hk e=>oM)⟩⟩;rcases hb2 with e|e
 .rw[e]at hg;exact h.ne g hg hg2
 .rw[e]at hg;injection hg with hg
  have:=(h.c.own.blk hg2).2;omega
theorem XSt.setC {pg gb b:Nat}{w wr w4:World}{vr vc vc':Value}{Rs:List (Int×Int)}{Cs Cs' Z:List Int}(h:XSt pg gb b w wr vr vc Rs Cs Z) (ho:intE.Own w4 (b+1) vc' Cs') (hb:Chg (λk=>vc.ownBlock=some k) wr w4) (hb2:vc'.ownBlock=vc.ownBlock\/vc'.ownBlock=some wr.heap.size) :
  (w4.cell? ⟨b,1,none⟩=some vc/\w4.frozen? ⟨b,1,none⟩=false)/\XSt pg gb b w (w4.setCell ⟨b,1,none⟩ vc') vr vc' Rs Cs' Z:=by
 have hlt:=h.lt;have hob:∀k,vc.ownBlock=some k->b+1<=k:=λk hk=>(h.c.own.blk hk).1
 have hbb:¬vc.ownBlock=some b:=λe=>by have:=hob b e;omega
 have c0:=hb.cellS h.c.c hbb;have z4:∀j,w4.frozen? ⟨b,j,none⟩=false:=λj=>(hb.frozen (p:=⟨b,j,none⟩) h.r.lt hbb).trans (h.z j)
 have hs:=zA w4 b 1 vc';have hoth:∀j u,j≠1->wr.cell? ⟨b,j,none⟩=some u->(w4.setCell ⟨b,1,none⟩ vc').cell? ⟨b,j,none⟩=some u:=λj u hj hu=>by
  rw[Ay0 _ _ _ _ (by intro e;injection e with _ e;exact hj e.symm)];exact hb.cellS hu hbb
 refine⟨⟨c0,z4 1⟩,⟨(h.g.chg hb (λe=>by have:=hob _ e;omega) (λe=>by have:=hob _ e;omega)).chg hs oM oM,h.lt,⟨hoth 0 _ dE h.r.c,(Az4 _ _ _ _).trans (z4 0),((h.r.own.chgB hb (λg hg e=>h.ne g hg e)).chg hs (λg hg _ e=>oM))⟩,⟨Az9 _ _ _ c0,(Az4 _ _ _ _).trans (z4 1),ho.chg hs (λg hg _ e=>oM)⟩,hoth 2 _ dE h.n,hoth 3 _ dE h.e,λj=>(Az4 _ _ _ _).trans (z4 j),λg hg hg2=>?_,(h.chg.trans2 hb (λk hk e=>absurd (hob k e) oM)).trans2 hs (λk hk e=>oM)⟩⟩;rcases hb2 with e|e
 .rw[e]at hg2;exact h.ne g hg hg2
 .rw[e]at hg2;injection hg2 with hg2
  have:=(h.r.own.blk hg).2;omega
structure YSt (pg gb b:Nat) (w7 wr:World) (vr vc vn ve:Value) (Es:List Int) (Z:List Int):Prop where
 g:GetSt pg gb wr Z
 lt:pg<b/\gb<b/\b<w7.heap.size
 c0:wr.cell? ⟨b,0,none⟩=some vr
 c1:wr.cell? ⟨b,1,none⟩=some vc
 c2:wr.cell? ⟨b,2,none⟩=some vn
 c3:wr.cell? ⟨b,3,none⟩=some ve
 own:intE.Own wr w7.heap.size ve Es
 z:∀j,wr.frozen? ⟨b,j,none⟩=false
 chg:Chg (λk=>k=pg\/k=b) w7 wr
theorem YSt.call {pg gb b:Nat}{w7 wr w1:World}{vr vc vn ve:Value}{Es Z r:List Int}(h:YSt pg gb b w7 wr vr vc vn ve Es Z) (hg:GetSt pg gb w1 r) (hc:Chg (·=pg) wr w1):YSt pg gb b w7 w1 vr vc vn ve Es r:=by
 have hlt:=h.lt;have hb:¬b=pg:=oM
 have hbl:=Az6 _ _ h.c0;exact⟨hg,h.lt,hc.cellS h.c0 hb,hc.cellS h.c1 hb,hc.cellS h.c2 hb,hc.cellS h.c3 hb,h.own.chg hc (λg hg _ e=>oM),λj=>(hc.frozen (p:=⟨b,j,none⟩) hbl hb).trans (h.z j),h.chg.trans (hc.mono (λk _ e=>.inl e))⟩
theorem YSt.fresh {pg gb b:Nat}{w7 wr w1:World}{vr vc vn ve:Value}{Es Z:List Int}(h:YSt pg gb b w7 wr vr vc vn ve Es Z) (hc:Cf wr w1):YSt pg gb b w7 w1 vr vc vn ve Es Z:=h.call (h.g.fresh hc) hc.any
theorem YSt.setE {pg gb b:Nat}{w7 wr w4:World}{vr vc vn ve ve':Value}{Es Es' Z:List Int}(h:YSt pg gb b w7 wr vr vc vn ve Es Z) (ho:intE.Own w4 w7.heap.size ve' Es') (hb:Chg (λk=>w7.heap.size<=k) wr w4) :
  (w4.cell? ⟨b,3,none⟩=some ve/\w4.frozen? ⟨b,3,none⟩=false)/\YSt pg gb b w7 (w4.setCell ⟨b,3,none⟩ ve') vr vc vn ve' Es' Z:=by
 have hlt:=h.lt;have hbb:¬w7.heap.size<=b:=oM
 have c3:=hb.cellS h.c3 hbb;have hbl:=Az6 _ _ h.c0;have z4:∀j,w4.frozen? ⟨b,j,none⟩=false:=λj=>(hb.frozen (p:=⟨b,j,none⟩) hbl hbb).trans (h.z j)
 have hs:=zA w4 b 3 ve';have hoth:∀j u,j≠3->wr.cell? ⟨b,j,none⟩=some u->(w4.setCell ⟨b,3,none⟩ ve').cell? ⟨b,j,none⟩=some u:=λj u hj hu=>by
  rw[Ay0 _ _ _ _ (by intro e;injection e with _ e;exact hj e.symm)];exact hb.cellS hu hbb
 exact⟨⟨c3,z4 3⟩,⟨(h.g.chg hb oM oM).chg hs oM oM,h.lt,hoth 0 _ dE h.c0,hoth 1 _ dE h.c1,hoth 2 _ dE h.c2,Az9 _ _ _ c3,ho.chg hs (λg hg _ e=>oM),λj=>(Az4 _ _ _ _).trans (z4 j),(h.chg.trans2 hb (λk hk e=>absurd e oM)).trans (hs.mono (λk _ e=>.inr e))⟩⟩
def zPf (pg gb:Nat) (w:World) (Z:List Int) (e:Ending) (w':World):Prop :=
 Chg (·=pg) w w'/\((lexG Z=none/\e=tL)\/∃t r m,lexG Z=some (t,r)/\e=.returned (zHw m)/\LexIn w' (λk=>w.heap.size<=k) m t/\GetSt pg gb w' r/\t.r.length<=16777215/\t.n.length<=65536/\∀l∈t.n,l.length<=65536)
theorem zNa {pg gb:Nat}(w:World) (Z:List Int) (h:GetSt pg gb w Z):Calls Tryz.prog 107 #[.pointer (some ⟨pg,0,none⟩)] w (zPf pg gb w Z):=by
 have HG:=jh h;clear h;go_enter Tryz.func107,Tryz.ntmps107
 go_upto_region 1 with (fail)
 obtain⟨w0,hw0⟩:∃W,W=w.alloc (.cells #[.slice none 0 0,.slice none 0 0,.slice none 0 0,.slice none 0 0] 28):=⟨_,rfl⟩;rw[<-hw0];have HX0:Hd (XSt pg gb w.heap.size w w0 (.slice none 0 0) (.slice none 0 0) [] [] Z):=jh (by
  have hc:Cf w w0:=by rw[hw0];exact (Chg.refl _ w).alloc _
  have hz:∀j,w0.frozen? ⟨w.heap.size,j,none⟩=false:=λj=>by rw[hw0];exact Az8 _ _ _ _
  refine⟨HG.o.fresh hc,⟨HG.o.lt,HG.o.lb,Ay _⟩,⟨?_,hz 0,.nil _ _⟩,⟨?_,hz 1,.nil _ _⟩,?_,?_,hz,(λg hg=>by cases hg),hc.any⟩ <;> · rw[hw0,Az7];rfl)
 clear hw0;go_wp2_with fail
 refine (eG w0 HX0.o.g).mono ?_;rintro e w1 ⟨hc1,⟨h1,rfl⟩|⟨n,r1,h1,rfl,hn,hg1⟩⟩
 .exact⟨rfl,HX0.o.chg.trans hc1,.inl ⟨by simp only[lexG,vA,h1],rfl⟩⟩
 have HLG:Hd (vA rcG Z=repG rcG n [] r1):=jh (by simp only[vA,h1,Ay6]);have HX1:=jh (HX0.o.call hg1 hc1);clear h1 hc1 hg1 HX0;go_wp2
 go_loopw [6] (λq wr=>∃(k:Nat) (vr vc:Value) (acc:List ((Int×Int)×Int)) (Zk:List Int),k<=n/\q=.int .i64 k/\acc.length=k/\repG rcG (n-k) acc Zk=repG rcG n [] r1/\XSt pg gb w.heap.size w wr vr vc (acc.map (·.1)) (acc.map (·.2)) Zk/\∀x∈acc,0<=x.2/\x.2<=1000000000) (λq _=>n-(intOf q).toNat)
 case atStart=>exact⟨0,_,_,[],r1,oM,rfl,rfl,rfl,HX1.o,λx hx=>by cases hx⟩
 case round =>
  clear HX1;obtain⟨k,vr,vc,acc,Zk,hk,rfl,ha,hrep,hx,hpos⟩:=hrel;obtain⟨ra,rn,rc,rfl⟩:=hx.r.own.shape3;obtain⟨ca,cn,cc,rfl⟩:=hx.c.own.shape3;have HX:=jh hx;have HRP:=jh hrep;have HA:=jh ha;have HPO:=jh hpos;clear hx hrep ha hpos;by_cases hkn:k<n
  .have b9:decide ((k:Int)<(n:Int))=true:=by simp;omega
   obtain⟨m,hm⟩:∃m,n-k=m+1:=⟨n-k-1,oM⟩;have HM:Hd (n-k=m+1/\n-(k+1)=m):=jh ⟨hm,oM⟩;have HNO:Hd (∀(h:rcG Zk=none),lexG Z=none):=jh (λh=>by simp only[lexG,HLG.o,<-HRP.o,HM.o.1,repG,h]);have HAL:Hd ((acc.map (·.1)).length<=16777215/\(acc.map (·.2)).length<=16777215):=jh (by simp only[Aw3,HA.o];omega);have HPG:=jh HX.o.lt;have HCW:=jh HX.o.chg;clear hm;go_upto_region 3 with (fail)
   obtain⟨wd,hwd⟩:∃W,wr.drew=W:=⟨_,rfl⟩;have HXD:Hd (XSt pg gb w.heap.size w wd (.slice ra rn rc) (.slice ca cn cc) (acc.map (·.1)) (acc.map (·.2)) Zk):=jh (HX.o.fresh (by rw[<-hwd];exact (Chg.refl _ _).drew));refine zC (λx=>Chg (·=pg) wd x) (λi=>decide (10<=i)) kR ?_;show yN _ _ _ _ _ _ 13 (Array.replicate 13 false) _ wr.drew;rw[hwd];clear hwd;have HSS:Hd (Chg (·=pg) wd wd):=jh cR;(refine lq 0 HSS.o ?_);(refine lq 1 HSS.o ?_ (hr:=by intro w' hC;have q:=hC.cellS HXD.o.r.c (by have:=HPG.o;show ¬w.heap.size=pg;omega);go_simp;try with_reducible rfl));(refine lq 2 HSS.o ?_);(refine lq 5 HSS.o ?_);refine tJ (i:=3) kR rfl rfl 139 #[.pointer (some ⟨pg,0,none⟩)] (λv w''=>∃(x:Nat) (r2:List Int),anyG Zk=some ((x:Int),r2)/\v=.int .i64 x/\x<=16777215/\GetSt pg gb w'' r2/\Chg (·=pg) wd w'') (by go_simp) ?_ ?_
   .refine (eG wd HXD.o.g).mono ?_
    rintro e w2 ⟨hc,⟨h2,rfl⟩|⟨x,r2,h2,rfl,hx,hg⟩⟩
    .refine .inr ⟨_,rfl,rfl,HXD.o.chg.trans hc,.inl ⟨HNO.o (by simp only[rcG,h2]),rfl⟩⟩
    .exact .inl ⟨_,rfl,λ_=>hc,x,r2,h2,rfl,hx,hg,hc⟩
   rintro v w2-⟨x,r2,h2,rfl,hx,hg2,hc2⟩ K hK;(try go_simp)
   refine hK _ ?_;clear hK K HSS;have HG2:=jh hg2;have HC2:=jh hc2;have H2:=jh h2;have HSS:Hd (Chg (·=pg) wd w2):=HC2;have hwr:IntKind.i32.wrap (x:Int)=(x:Int):=(by rw[IntKind.wrap_i32];omega);clear hg2 hc2 h2;(refine lq 4 HSS.o ?_);clear hwr;refine tJ (i:=6) kR rfl rfl 139 #[.pointer (some ⟨pg,0,none⟩)] (λv w''=>∃(y:Nat) (r3:List Int),anyG r2=some ((y:Int),r3)/\v=.int .i64 y/\y<=16777215/\GetSt pg gb w'' r3/\Chg (·=pg) wd w'') (by go_simp) ?_ ?_
   .refine (eG w2 HG2.o).mono ?_
    rintro e w3 ⟨hc,⟨h3,rfl⟩|⟨y,r3,h3,rfl,hy,hg⟩⟩
    .refine .inr ⟨_,rfl,rfl,HXD.o.chg.trans (HC2.o.trans hc),.inl ⟨HNO.o (by simp only[rcG,H2.o,h3]),rfl⟩⟩
    .exact .inl ⟨_,rfl,λ_=>HC2.o.trans hc,y,r3,h3,rfl,hy,hg,HC2.o.trans hc⟩
   rintro v w3-⟨y,r3,h3,rfl,hy,hg3,hc3⟩ K hK;(try go_simp)
   refine hK _ ?_;clear hK K HSS HG2;have HG3:=jh hg3;have HC3:=jh hc3;have H3:=jh h3;have HSS:Hd (Chg (·=pg) wd w3):=HC3;have hwr:IntKind.i32.wrap (y:Int)=(y:Int):=(by rw[IntKind.wrap_i32];omega);clear hg3 hc3 h3;(refine lq 7 HSS.o ?_);clear hwr;(refine lq 8 HSS.o ?_);have HYB:Hd (∀z∈[((x:Int),(y:Int))],rngE.ok z):=jh (λz hz=>by
    rw[Ay3]at hz;rw[hz];exact⟨⟨by show (-2147483648:Int)<=(x:Int);omega,by show (x:Int)<=2147483647;omega⟩,⟨by show (-2147483648:Int)<=(y:Int);omega,by show (y:Int)<=2147483647;omega⟩⟩)
   (refine lt 9 (λ_=>HC3.o.alloc _) ?_);obtain⟨w4,hw4⟩:∃W,W=w3.alloc (.cells #[.int .i32 x,.int .i32 y] 117):=⟨_,rfl⟩;have HSRC:Hd (Src Tryz.prog rngE.sz rngE.sl (.slice (some ⟨w3.heap.size,0,none⟩) 1 1) 1 (rngE.encs [((x:Int),(y:Int))]) w4):=jh (by rw[hw4];exact rngE.srcLit (Y:=[((x:Int),(y:Int))]) 1 HYB.o);have HX4:Hd (XSt pg gb w.heap.size w w4 (.slice ra rn rc) (.slice ca cn cc) (acc.map (·.1)) (acc.map (·.2)) r3):=jh ((HXD.o.call HG3.o HC3.o).fresh (by rw[hw4];exact (Chg.refl _ _).alloc _));rw[<-hw4];clear hw4 HX HXD HG3 HC3 HSS HC2;have HB4:Hd (w.heap.size+1<=w4.heap.size):=jh HX4.o.r.lt;refine xE (i:=10) kR rfl rfl (.tmp 9) (.tmp 17) 24 24 rfl (.slice ra rn rc) (.slice (some ⟨w3.heap.size,0,none⟩) 1 1) rfl rfl (λv' w5=>rngE.Own w5 (w.heap.size+1) v' (acc.map (·.1)++[((x:Int),(y:Int))])/\Chg (λk=>(Value.slice ra rn rc).ownBlock=some k) w4 w5/\(v'.ownBlock=(Value.slice ra rn rc).ownBlock\/v'.ownBlock=some w4.heap.size)/\∃a n c,v'=.slice a n c) ?_ ?_
   .obtain⟨v',w5,hrun,h1,h2,⟨h3,h4⟩,-⟩:=HX4.o.r.own.append HB4.o 24 (.slice (some ⟨w3.heap.size,0,none⟩) 1 1) [((x:Int),(y:Int))] HSRC.o HYB.o (by have:=HAL.o.1;simp at this ⊢;omega) 24
    exact⟨v',w5,hrun,(λh=>absurd h dE),h1,h3,h4,h1.shape3⟩
   rintro v' w5-⟨o1,o2,o3,na,nn,nc,rfl⟩ K hK;obtain⟨⟨k1,k2⟩,hx5⟩:=HX4.o.setR o1 o2 o3;have HX5:=jh hx5;clear hx5 o1 o2 o3;(try go_simp)
   refine hK _ ?_;clear hK K;(refine lt 11 (λh=>absurd h dE) ?_);(refine ld 12 ?_);refine yA kR ?_ _;obtain⟨w6,hw6⟩:∃W,W=w5.setCell ⟨w.heap.size,0,none⟩ (.slice na nn nc):=⟨_,rfl⟩;rw[<-hw6]at HX5 ⊢;clear hw6 k1 k2 HX4 HB4 HSRC HYB;go_upto_region 4 with (fail)
   obtain⟨wd,hwd⟩:∃W,w6.drew=W:=⟨_,rfl⟩;have HXD:Hd (XSt pg gb w.heap.size w wd (.slice na nn nc) (.slice ca cn cc) (acc.map (·.1)++[((x:Int),(y:Int))]) (acc.map (·.2)) r3):=jh (HX5.o.fresh (by rw[<-hwd];exact (Chg.refl _ _).drew));refine zC (λx=>Chg (·=pg) wd x) (λi=>decide (5<=i)) kR ?_;show yN _ _ _ _ _ _ 8 (Array.replicate 8 false) _ w6.drew;rw[hwd];clear hwd;have HSS:Hd (Chg (·=pg) wd wd):=jh cR;(refine lq 0 HSS.o ?_);(refine lq 1 HSS.o ?_ (hr:=by intro w' hC;have q:=hC.cellS HXD.o.c.c (by have:=HPG.o;show ¬w.heap.size=pg;omega);go_simp;try with_reducible rfl));(refine lq 2 HSS.o ?_);refine tJ (i:=3) kR rfl rfl 139 #[.pointer (some ⟨pg,0,none⟩)] (λv w''=>∃(t:Nat) (r4:List Int),anyG r3=some ((t:Int),r4)/\v=.int .i64 t/\t<=16777215/\GetSt pg gb w'' r4/\Chg (·=pg) wd w'') (by go_simp) ?_ ?_
   .refine (eG wd HXD.o.g).mono ?_
    rintro e w2 ⟨hc,⟨h4,rfl⟩|⟨t,r4,h4,rfl,ht,hg⟩⟩
    .refine .inr ⟨_,rfl,rfl,HXD.o.chg.trans hc,.inl ⟨HNO.o (by simp only[rcG,H2.o,H3.o,h4]),rfl⟩⟩
    .exact .inl ⟨_,rfl,λ_=>hc,t,r4,h4,rfl,ht,hg,hc⟩
   rintro v w7-⟨t,r4,h4,rfl,ht,hg4,hc4⟩ K hK;(try go_simp)
   refine hK _ ?_;clear hK K HSS;have HC4:=jh hc4;have HX7:=jh (HXD.o.call hg4 hc4);have HRN:Hd (repG rcG (n-(k+1)) (acc++[(((x:Int),(y:Int)),(t:Int))]) r4=repG rcG n [] r1):=jh (by
    rw[<-HRP.o,HM.o.1,HM.o.2]
    conv=>rhs;unfold repG
    simp only[rcG,H2.o,H3.o,h4])
   have HSS:Hd (Chg (·=pg) wd w7):=HC4;have HYB:Hd (∀z∈[(t:Int)],intE.ok z):=jh (λz hz=>by rw[Ay3]at hz;rw[hz];exact⟨oM,oM⟩);have HPO2:Hd (∀z∈acc++[(((x:Int),(y:Int)),(t:Int))],0<=z.2/\z.2<=1000000000):=jh (λz hz=>by
    rcases Av2.1 hz with hz|hz
    .exact HPO.o z hz
    .rw[Ay3]at hz
     rw[hz];exact⟨by show (0:Int)<=(t:Int);omega,by show (t:Int)<=1000000000;omega⟩)
   clear hg4 hc4 h4;(refine lt 4 (λ_=>HC4.o.alloc _) ?_);obtain⟨w8,hw8⟩:∃W,W=w7.alloc (.cells #[.int .i64 t] 3):=⟨_,rfl⟩;have HSRC:Hd (Src Tryz.prog intE.sz intE.sl (.slice (some ⟨w7.heap.size,0,none⟩) 1 1) 1 (intE.encs [(t:Int)]) w8):=jh (by rw[hw8];exact intE.srcLit (Y:=[(t:Int)]) 1 HYB.o);have HX8:Hd (XSt pg gb w.heap.size w w8 (.slice na nn nc) (.slice ca cn cc) (acc.map (·.1)++[((x:Int),(y:Int))]) (acc.map (·.2)) r4):=jh (HX7.o.fresh (by rw[hw8];exact (Chg.refl _ _).alloc _));rw[<-hw8];clear hw8 HX5 HXD HX7 HC4 HSS;have HB8:Hd (w.heap.size+1<=w8.heap.size):=jh HX8.o.r.lt;refine xE (i:=5) kR rfl rfl (.tmp 21) (.tmp 24) 25 25 rfl (.slice ca cn cc) (.slice (some ⟨w7.heap.size,0,none⟩) 1 1) rfl rfl (λv' w5=>intE.Own w5 (w.heap.size+1) v' (acc.map (·.2)++[(t:Int)])/\Chg (λk=>(Value.slice ca cn cc).ownBlock=some k) w8 w5/\(v'.ownBlock=(Value.slice ca cn cc).ownBlock\/v'.ownBlock=some w8.heap.size)/\∃a n c,v'=.slice a n c) ?_ ?_
   .obtain⟨v',w5,hrun,h1,h2,⟨h3,h4⟩,-⟩:=HX8.o.c.own.append HB8.o 25 (.slice (some ⟨w7.heap.size,0,none⟩) 1 1) [(t:Int)] HSRC.o HYB.o (by have:=HAL.o.2;simp at this ⊢;omega) 25
    exact⟨v',w5,hrun,(λh=>absurd h dE),h1,h3,h4,h1.shape3⟩
   rintro v' w9-⟨o1,o2,o3,da,dn,dc,rfl⟩ K hK;obtain⟨⟨k1,k2⟩,hx9⟩:=HX8.o.setC o1 o2 o3;have HX9:Hd (XSt pg gb w.heap.size w (w9.setCell ⟨w.heap.size,1,none⟩ (.slice da dn dc)) (.slice na nn nc) (.slice da dn dc) ((acc++[(((x:Int),(y:Int)),(t:Int))]).map (·.1)) ((acc++[(((x:Int),(y:Int)),(t:Int))]).map (·.2)) r4):=jh (by
    rw[List.map_append,List.map_append];exact hx9)
   clear hx9 o1 o2 o3;(try go_simp)
   refine hK _ ?_;clear hK K;(refine lt 6 (λh=>absurd h dE) ?_);(refine ld 7 ?_);refine yA kR ?_ _;clear k1 k2;go_wp2;go_roundw
   case rel=>exact⟨k+1,_,_,_,_,oM,by go_num,by simp[HA.o],HRN.o,HX9.o,HPO2.o⟩
   case measure=>simp[intOf];omega
  .obtain rfl:k=n:=oM
   have b9:decide ((k:Int)<(k:Int))=false:=sI;have HRC:Hd (vA rcG Z=some (acc,Zk)):=jh (by rw[HLG.o,<-HRP.o,Au0];rfl);obtain⟨wo,rfl⟩:∃wo,wo=wr:=⟨_,rfl⟩;obtain⟨_,_,hv,hrc,hr⟩:=HX.o.r.own.clip;rw[Aw3,HA.o]at hv hrc hr;injection hv with e1 e2 e3;have e2:=e2.symm;subst e1 e2 e3;obtain⟨_,_,hv,hcc,hcl⟩:=HX.o.c.own.clip;rw[Aw3,HA.o]at hv hcc hcl;injection hv with e1 e2 e3;have e2:=e2.symm;subst e1 e2 e3;have HR:=jh hr;have HCL:=jh hcl;have HPG:=jh HX.o.lt;clear hr hcl;go_wp2_with fail
   refine (zF7 wo Zk HX.o.g).mono ?_;rintro e w5 ⟨hc5,⟨h5,rfl⟩|⟨LL,m,r5,a5,h5,rfl,hLL,hg5,hn5,hm5,hw5⟩⟩
   .exact⟨rfl,HX.o.chg.trans hc5,.inl ⟨by simp only[lexG,HRC.o,h5],rfl⟩⟩
   have HX5:=jh (HX.o.call hg5 hc5);have H5:=jh h5;have HM5:Hd (LL.length<=65536/\m<=65536/\∀l∈LL,l.length=m):=jh ⟨hn5,hm5,hw5⟩;have q2:=HX5.o.n;have z2:=HX5.o.z 2;have hs5:=zA w5 w.heap.size 2 (.slice a5 LL.length LL.length);obtain⟨w7,hw7⟩:∃W,W=w5.setCell ⟨w.heap.size,2,none⟩ (.slice a5 LL.length LL.length):=⟨_,rfl⟩;rw[<-hw7]at hs5;have hoth:∀j u,j≠2->w5.cell? ⟨w.heap.size,j,none⟩=some u->w7.cell? ⟨w.heap.size,j,none⟩=some u:=λj u hj hu=>by
    rw[hw7,Ay0 _ _ _ _ (by intro e;injection e with _ e;exact hj e.symm)];exact hu
   have HY0:Hd (YSt pg gb w.heap.size w7 w7 (.slice ra k rc) (.slice ca k cc) (.slice a5 LL.length LL.length) (.slice none 0 0) [] r5):=jh (by
    have h0:=HPG.o;have hbl:=HX5.o.r.lt;refine⟨HX5.o.g.chg hs5 oM oM,⟨oM,oM,by have:=hs5.size;omega⟩,hoth 0 _ dE HX5.o.r.c,hoth 1 _ dE HX5.o.c.c,?_,hoth 3 _ dE HX5.o.e,.nil _ _,λj=>?_,Chg.refl _ _⟩
    .rw[hw7];exact Az9 _ _ _ q2
    .rw[hw7];exact (Az4 _ _ _ _).trans (HX5.o.z j))
   have HIN:Hd (LexIn w7 (λg=>w.heap.size+1<=g/\g<w7.heap.size) ⟨(ra,k,k),(ca,k,k),(a5,LL.length,LL.length),(none,0,0)⟩ ⟨acc.map (·.1),acc.map (·.2),LL,[]⟩):=jh (by
    have h0:=HPG.o;have h1:=HX.o.r.lt;refine⟨(Elt.In.inS (((HR.o.chg hc5 (λg hg _ e=>oM)).chg hs5 (λg hg _ e=>oM)).in' (Ay _))).mono (λg hg hh=>⟨hh,hg⟩),(Elt.In.inS (((HCL.o.chg hc5 (λg hg _ e=>oM)).chg hs5 (λg hg _ e=>oM)).in' (Ay _))).mono (λg hg hh=>⟨hh,hg⟩),(zJ.good inR.good).mono ((zJ.good inR.good).chg hLL hs5 (λg hg e=>oM)) (λg hg hh=>⟨oM,hg⟩),.nil _ _ _⟩)
   have HC7:Hd (Chg (·=pg) w w7):=jh (HX5.o.chg.trans2 hs5 (λj hj e=>absurd e (Nat.ne_of_lt hj)));have HCI:Hd (intE.In w7 (w.heap.size+1) (ca,k,cc) (acc.map (·.2))):=jh (by
    have h0:=HPG.o;have h1:=((HX.o.c.own.chg hc5 (λg hg _ e=>oM)).chg hs5 (λg hg _ e=>oM)).in' (c':=cc) hcc;exact h1)
   clear hc5 h5 hLL hg5 hn5 hm5 hw5 hs5 hoth HX HX5 HR HCL;go_upto_region 8 with (fail)
   rw[<-hw7];clear hw7 q2 z2;have q0:=HY0.o.c0;have q1:=HY0.o.c1;have q2:=HY0.o.c2;have q3:=HY0.o.c3;have hcols:=zAa (acc.map (·.2)) ra a5 none ca k rc LL.length LL.length 0 0 cc (w.heap.size+1) w7 (by rw[Aw3,HA.o];exact HCI.o) (by rw[Aw3,HA.o];omega) (λc hc=>by
    obtain⟨x,hx,rfl⟩:=At0.1 hc;exact HPO.o x hx)
   rw[Aw3,HA.o]at hcols;have HCOLS:=jh hcols;clear hcols;go_wp2_with fail
   refine HCOLS.o.mono ?_;rintro e w8 ⟨rfl,hc8⟩;have HY8:Hd (YSt pg gb w.heap.size w7 w8 (.slice ra k rc) (.slice ca k cc) (.slice a5 LL.length LL.length) (.slice none 0 0) [] r5):=jh (HY0.o.fresh hc8);clear hc8 q0 q1 q2 q3 HCOLS HY0;obtain⟨C,hC⟩:∃C,xS (acc.map (·.2))=C:=⟨_,rfl⟩;have HCC:=jh hC;rw[hC];clear hC;by_cases hmc:(m:Int)=C
   .subst hmc
    have HLX:Hd (∀(es:List Int) (r:List Int),repG endG LL.length [] r5=some (es,r)->lexG Z=some (⟨acc.map (·.1),acc.map (·.2),LL,es⟩,r)):=jh (λes r h=>by simp only[lexG,HRC.o,H5.o,HCC.o,if_true,h]);have HLN:Hd (repG endG LL.length [] r5=none->lexG Z=none):=jh (λh=>by simp only[lexG,HRC.o,H5.o,HCC.o,if_true,h]);go_wp2_with fail
    refine (cC _).mono ?_;rintro e w9 ⟨rfl,rfl⟩;have q2:=HY8.o.c2;go_wp2;clear q2
    go_loopw [42] (λq wr=>∃(j:Nat) (ve:Value) (Es Zj:List Int),j<=LL.length/\q=.int .i64 j/\Es.length=j/\repG endG (LL.length-j) Es Zj=repG endG LL.length [] r5/\YSt pg gb w.heap.size w7 wr (.slice ra k rc) (.slice ca k cc) (.slice a5 LL.length LL.length) ve Es Zj) (λq _=>LL.length-(intOf q).toNat)
    case atStart=>exact⟨0,_,[],r5,oM,rfl,rfl,rfl,HY8.o⟩
    case round =>
     clear HY8;obtain⟨j,ve,Es,Zj,hj,rfl,hel,hrep,hy⟩:=hrel;obtain⟨ea,en,ec,rfl⟩:=hy.own.shape3;have HY:=jh hy;have HRJ:=jh hrep;have HEL:=jh hel;clear hy hrep hel;by_cases hjl:j<LL.length
     .have b8:decide ((j:Int)<(LL.length:Int))=true:=by simp;omega
      have hjb:j<65536:=(by have:=HM5.o.1;omega);obtain⟨i,hi⟩:∃i,LL.length-j=i+1:=⟨LL.length-j-1,oM⟩;have HI:Hd (LL.length-j=i+1/\LL.length-(j+1)=i):=jh ⟨hi,oM⟩;clear hi;go_upto_region 11 with (fail)
      obtain⟨wd,hwd⟩:∃W,wr.drew=W:=⟨_,rfl⟩;have HYD:Hd (YSt pg gb w.heap.size w7 wd (.slice ra k rc) (.slice ca k cc) (.slice a5 LL.length LL.length) (.slice ea en ec) Es Zj):=jh (HY.o.fresh (by rw[<-hwd];exact (Chg.refl _ _).drew));have HCD:Hd (Chg (·=pg) w wd):=jh (HC7.o.trans2 HYD.o.chg (λg hg e=>by rcases e with e|e;exact e;omega));refine zC (λx=>Chg (·=pg) wd x) (λi=>decide (6<=i)) kR ?_;show yN _ _ _ _ _ _ 9 (Array.replicate 9 false) _ wr.drew;rw[hwd];clear hwd;have HSS:Hd (Chg (·=pg) wd wd):=jh cR;(refine lq 0 HSS.o ?_);(refine lq 1 HSS.o ?_ (hr:=by intro w' hC;have q:=hC.cellS HYD.o.c3 (by have:=HPG.o;show ¬w.heap.size=pg;omega);go_simp;try with_reducible rfl));(refine lq 2 HSS.o ?_);refine tJ (i:=3) kR rfl rfl 139 #[.pointer (some ⟨pg,0,none⟩)] (λv w''=>∃(t:Nat) (r6:List Int),anyG Zj=some ((t:Int),r6)/\v=.int .i64 t/\t<=16777215/\GetSt pg gb w'' r6/\Chg (·=pg) wd w'') (by go_simp) ?_ ?_
      .refine (eG wd HYD.o.g).mono ?_
       rintro e w2 ⟨hc,⟨h4,rfl⟩|⟨t,r6,h4,rfl,ht,hg⟩⟩
       .refine .inr ⟨_,rfl,rfl,HCD.o.trans hc,.inl ⟨HLN.o (by rw[<-HRJ.o,HI.o.1];simp only[repG,endG,h4]),rfl⟩⟩
       .exact .inl ⟨_,rfl,λ_=>hc,t,r6,h4,rfl,ht,hg,hc⟩
      rintro v w9-⟨t,r6,h4,rfl,ht,hg4,hc4⟩ K hK;(try go_simp)
      refine hK _ ?_;clear hK K HSS;have HC4:=jh hc4;have HY9:=jh (HYD.o.call hg4 hc4);have HRN:Hd (repG endG (LL.length-(j+1)) (Es++[(t:Int)-1]) r6=repG endG LL.length [] r5):=jh (by
       rw[<-HRJ.o,HI.o.1,HI.o.2]
       conv=>rhs;unfold repG
       simp only[endG,h4])
      have HSS:Hd (Chg (·=pg) wd w9):=HC4;have HYB:Hd (∀z∈[(t:Int)-1],intE.ok z):=jh (λz hz=>by rw[Ay3]at hz;rw[hz];exact⟨oM,oM⟩);have hwr:IntKind.i64.wrap ((t:Int)-1)=(t:Int)-1:=(by rw[IntKind.wrap_i64];omega);clear hg4 hc4 h4;(refine lq 4 HSS.o ?_);clear hwr;(refine lt 5 (λ_=>HC4.o.alloc _) ?_);obtain⟨wa,hwa⟩:∃W,W=w9.alloc (.cells #[.int .i64 ((t:Int)-1)] 3):=⟨_,rfl⟩;have HSRC:Hd (Src Tryz.prog intE.sz intE.sl (.slice (some ⟨w9.heap.size,0,none⟩) 1 1) 1 (intE.encs [(t:Int)-1]) wa):=jh (by rw[hwa];exact intE.srcLit (Y:=[(t:Int)-1]) 1 HYB.o);have HYA:Hd (YSt pg gb w.heap.size w7 wa (.slice ra k rc) (.slice ca k cc) (.slice a5 LL.length LL.length) (.slice ea en ec) Es r6):=jh (HY9.o.fresh (by rw[hwa];exact (Chg.refl _ _).alloc _));rw[<-hwa];clear hwa HY HYD HY9 HC4 HSS;have HBA:Hd (w7.heap.size<=wa.heap.size):=jh HYA.o.chg.size;refine xE (i:=6) kR rfl rfl (.tmp 45) (.tmp 49) 25 25 rfl (.slice ea en ec) (.slice (some ⟨w9.heap.size,0,none⟩) 1 1) rfl rfl (λv' w5=>intE.Own w5 w7.heap.size v' (Es++[(t:Int)-1])/\Chg (λk=>w7.heap.size<=k) wa w5/\∃a n c,v'=.slice a n c) ?_ ?_
      .obtain⟨v',w5,hrun,h1,h2,-,-⟩:=HYA.o.own.append HBA.o 25 (.slice (some ⟨w9.heap.size,0,none⟩) 1 1) [(t:Int)-1] HSRC.o HYB.o (by rw[HEL.o];simp;omega) 25
       exact⟨v',w5,hrun,(λh=>absurd h dE),h1,h2,h1.shape3⟩
      rintro v' wb-⟨o1,o2,da,dn,dc,rfl⟩ K hK;obtain⟨⟨k1,k2⟩,hyb⟩:=HYA.o.setE o1 o2;have HYB2:=jh hyb;clear hyb o1 o2;(try go_simp)
      refine hK _ ?_;clear hK K;(refine lt 7 (λh=>absurd h dE) ?_);(refine ld 8 ?_);refine yA kR ?_ _;clear k1 k2;go_wp2;go_roundw
      case rel=>exact⟨j+1,_,_,_,oM,by go_num,by simp[HEL.o],HRN.o,HYB2.o⟩
      case measure=>simp[intOf];omega
     .obtain rfl:j=LL.length:=oM
      have b8:decide ((LL.length:Int)<(LL.length:Int))=false:=sI;rw[Au0]at HRJ;have HLX2:=jh (HLX.o Es Zj HRJ.o.symm);obtain⟨_,_,hv,hec,he⟩:=HY.o.own.clip;rw[HEL.o]at hv hec he;injection hv with e1 e2 e3;subst e1 e2 e3;have HE:=jh he;clear he;go_upto_region 13 with (fail)
      obtain⟨wd,hwd⟩:∃W,wr.drew=W:=⟨_,rfl⟩;have HDD:Hd (Cf wr wd):=jh (by rw[<-hwd];exact (Chg.refl _ _).drew);have HYD:=jh (HY.o.fresh HDD.o);refine zC (λx=>x=wd) (λi=>decide (10<=i)) kR ?_;show yN _ _ _ _ _ _ 15 (Array.replicate 15 false) _ wr.drew;rw[hwd];clear hwd;have HSS:Hd (wd=wd):=jh rfl;(refine lq 0 HSS.o ?_);(refine lq 1 HSS.o ?_ (hr:=by intro w' hC;subst hC;have q:=HYD.o.c0;go_simp;try with_reducible rfl));(refine lq 3 HSS.o ?_);(refine lq 4 HSS.o ?_ (hr:=by intro w' hC;subst hC;have q:=HYD.o.c1;go_simp;try with_reducible rfl));(refine lq 6 HSS.o ?_);(refine lq 7 HSS.o ?_ (hr:=by intro w' hC;subst hC;have q:=HYD.o.c3;go_simp;try with_reducible rfl));refine yE (i:=2) kR rfl rfl 143 #[.slice ra k rc] (λq w''=>q=.slice ra k k/\wd=w'') (by go_simp) ?_ ?_
      .refine (zSd wd ra k rc hrc).mono ?_
       rintro e w2 ⟨rfl,rfl⟩;exact⟨_,rfl,λ_=>rfl,rfl,rfl⟩
      rintro q w''-⟨rfl,rfl⟩ K hK;(try go_simp)
      refine hK _ ?_;clear hK K;(refine lq 9 HSS.o ?_);refine yE (i:=5) kR rfl rfl 144 #[.slice ca k cc] (λq w''=>q=.slice ca k k/\wd=w'') (by go_simp) ?_ ?_
      .refine (zBf wd ca k cc hcc).mono ?_
       rintro e w2 ⟨rfl,rfl⟩;exact⟨_,rfl,λ_=>rfl,rfl,rfl⟩
      rintro q w''-⟨rfl,rfl⟩ K hK;(try go_simp)
      refine hK _ ?_;clear hK K;refine yE (i:=8) kR rfl rfl 144 #[.slice ea LL.length ec] (λq w''=>q=.slice ea LL.length LL.length/\wd=w'') (by go_simp) ?_ ?_
      .refine (zBf wd ea LL.length ec hec).mono ?_
       rintro e w2 ⟨rfl,rfl⟩;exact⟨_,rfl,λ_=>rfl,rfl,rfl⟩
      rintro q w''-⟨rfl,rfl⟩ K hK;(try go_simp)
      refine hK _ ?_;clear hK K;have c0:=HYD.o.c0;have c1:=HYD.o.c1;have c2:=HYD.o.c2;have c3:=HYD.o.c3;have z0:=HYD.o.z 0;have z1:=HYD.o.z 1;have z2:=HYD.o.z 2;have z3:=HYD.o.z 3;(refine ld 10 ?_);(refine lt 11 (λh=>absurd h dE) ?_);(refine ld 12 ?_);(refine lt 13 (λh=>absurd h dE) ?_);(refine ld 14 ?_);refine yA kR ?_ _;clear c0 c1 c2 c3 z0 z1 z2 z3;obtain⟨we,hwe⟩:∃W,W=((wd.setCell ⟨w.heap.size,0,none⟩ (.slice ra k k)).setCell ⟨w.heap.size,1,none⟩ (.slice ca k k)).setCell ⟨w.heap.size,3,none⟩ (.slice ea LL.length LL.length):=⟨_,rfl⟩;go_upto_region 14 with (fail)
      rw[<-hwe];have HE4:Hd ((we.cell? ⟨w.heap.size,0,none⟩=some (.slice ra k k)/\we.cell? ⟨w.heap.size,1,none⟩=some (.slice ca k k)/\we.cell? ⟨w.heap.size,2,none⟩=some (.slice a5 LL.length LL.length)/\we.cell? ⟨w.heap.size,3,none⟩=some (.slice ea LL.length LL.length))/\(∀j,we.frozen? ⟨w.heap.size,j,none⟩=false)/\Chg (·=w.heap.size) wd we):=jh (by
       obtain⟨k0,k1,kc⟩:=zCc (.slice ra k k) (.slice ca k k) HYD.o.c0 HYD.o.c1;have hne:∀j u,j≠3->((wd.setCell ⟨w.heap.size,0,none⟩ (.slice ra k k)).setCell ⟨w.heap.size,1,none⟩ (.slice ca k k)).cell? ⟨w.heap.size,j,none⟩=some u->we.cell? ⟨w.heap.size,j,none⟩=some u:=λj u hj hu=>by
        rw[hwe,Ay0 _ _ _ _ (by intro e;injection e with _ e;exact hj e.symm)];exact hu
       refine⟨⟨hne 0 _ dE k0,hne 1 _ dE k1,hne 2 _ dE ?_,?_⟩,λj=>?_,?_⟩
       .rw[Ay0 _ _ _ _ (by intro e;injection e with _ e;cases e),Ay0 _ _ _ _ (by intro e;injection e with _ e;cases e)]
        exact HYD.o.c2
       .rw[hwe]
        refine Az9 _ _ _ (u:=.slice ea LL.length ec) ?_;rw[Ay0 _ _ _ _ (by intro e;injection e with _ e;cases e),Ay0 _ _ _ _ (by intro e;injection e with _ e;cases e)];exact HYD.o.c3
       .rw[hwe]
        exact (Az4 _ _ _ _).trans ((Az4 _ _ _ _).trans ((Az4 _ _ _ _).trans (HYD.o.z j)))
       .rw[hwe]
        exact kc.trans (zA _ _ _ _))
      clear hwe;obtain⟨⟨c0,c1,c2,c3⟩,hz,hce⟩:=HE4.o;have z0:=hz 0;have z1:=hz 1;have z2:=hz 2;have z3:=hz 3;obtain⟨y1,-,y3,-⟩:=uC w.heap.size [.slice ra k k,.slice ca k k,.slice a5 LL.length LL.length,.slice ea LL.length LL.length] 0 we (λj hj=>by
       simp only[Ax2,Aw5]at hj;rcases (by omega:j=0\/j=1\/j=2\/j=3) with rfl|rfl|rfl|rfl
       .rw[c0];rfl
       .rw[c1];rfl
       .rw[c2];rfl
       .rw[c3];rfl)
      have s0:=y1 0 _ rfl;have s1:=y1 1 _ rfl;have s2:=y1 2 _ rfl;have s3:=y1 3 _ rfl;have HFIN:Hd (zPf pg gb w Z (.returned (zHw ⟨(ra,k,k),(ca,k,k),(a5,LL.length,LL.length),(ea,LL.length,LL.length)⟩)) (xQ w.heap.size 0 [.slice ra k k,.slice ca k k,.slice a5 LL.length LL.length,.slice ea LL.length LL.length] we)):=jh (by
       have h0:=HPG.o;have h7:=HY.o.lt;have hcc:=HYD.o.chg;refine⟨((HC7.o.trans2 hcc (λg hg e=>by rcases e with e|e;exact e;omega)).trans2 hce (λg hg e=>oM)).trans2 y3 (λg hg e=>oM),.inr ⟨_,_,_,HLX2.o,rfl,?_,(HYD.o.g.chg hce oM oM).chg y3 oM oM,?_,?_,?_⟩⟩
       .have h1:=LexIn.good.mono (LexIn.good.chg (LexIn.good.chg (LexIn.good.chg HIN.o hcc (λg hg e=>oM)) hce (λg hg e=>oM)) y3 (λg hg e=>oM)) (S':=λk=>w.heap.size<=k) (λg _ hg=>by show w.heap.size<=g;omega)
        refine⟨h1.r,h1.c,h1.n,?_⟩;have h2:=(((HE.o.chg HDD.o (λ_ _ _ h=>h)).chg hce (λg hg _ e=>oM)).chg y3 (λg hg _ e=>oM)).in' (c':=LL.length) (Ay _);exact (Elt.In.inS h2).mono (λg _ hg=>by show w.heap.size<=g;omega)
       .show (acc.map (·.1)).length<=_
        rw[Aw3,HA.o];omega
       .exact HM5.o.1
       .exact λl hl=>by rw[HM5.o.2.2 l hl];exact HM5.o.2.1)
      simp only[xQ,Ax0]at s0 s1 s2 s3 HFIN;clear y1 y3 hce hz HE4;go_wp2;exact bodyPost_ret (v:=.agg #[.slice ra k k,.slice ca k k,.slice a5 LL.length LL.length,.slice ea LL.length LL.length]) (by simp[results,Tryz.results107,go_sem,s0,s1,s2,s3]) rfl HFIN.o
   .have HF:Hd (lexG Z=none):=jh (by simp only[lexG,HRC.o,H5.o,HCC.o,if_neg hmc])
    have b5:((m:Int) == C)=false:=(by simpa using hmc);go_wp2_with fail
    refine (nU _).mono ?_;rintro e w9 ⟨rfl,rfl⟩;exact⟨rfl,HC7.o.trans2 HY8.o.chg (λg hg e=>by rcases e with e|e;exact e;omega),.inl ⟨HF.o,rfl⟩⟩
theorem Elt.encs_of {α:Type}{E:Elt α}{L:List α}{j:Nat}{u:Value}(h:(E.encs L)[j]?=some u):∃x,L[j / E.sz]?=some x/\(E.enc x)[j % E.sz]?=some u:=by
 have h1:=(Az1.1 h).1;rw[E.encs_length]at h1;have h2:j / E.sz<L.length:=Nat.div_lt_of_lt_mul (by rw[Nat.mul_comm];exact h1);have h3:j % E.sz<(E.enc L[j / E.sz]).length:=by rw[E.len];exact Nat.mod_lt _ E.pos
 refine⟨L[j / E.sz],Az h2,?_⟩;have h4:=E.encs_at (Az h2) (Az h3);rw[Nat.div_add_mod' j E.sz,h]at h4;rw[Az h3];exact h4.symm
theorem zCr {w:World}{B:Nat}{a:Option Addr}{n c:Nat}{X:List (Int×Sl×Sl)}(h:lsE.Own w B (.slice a n c) X) {i:Nat}{x:Int×Sl×Sl}(hx:X[i]?=some x) :
  ∃g,a=some ⟨g,0,none⟩/\n=X.length/\w.cell? ⟨g,i * 3,none⟩=some (.int .u8 x.1)/\w.cell? ⟨g,i * 3+1,none⟩=some (slV x.2.1)/\w.cell? ⟨g,i * 3+2,none⟩=some (slV x.2.2)/\(∀j,w.frozen? ⟨g,j,none⟩=false)/\B<=g/\g<w.heap.size:=by
 have hi:=(Az1.1 hx).1;rcases h with ⟨h,rfl⟩|⟨g,C,h1,h2,h3,h4,h5⟩
 .simp at hi
 .injection h1 with e1 e2 e3
  subst e1 e2 e3;have hat:=h3.at' h4;have c0:=hat.get hx (i:=0) (u:=.int .u8 x.1) rfl;have c1:=hat.get hx (i:=1) (u:=slV x.2.1) rfl;have c2:=hat.get hx (i:=2) (u:=slV x.2.2) rfl;rw[Ax0]at c0 c1 c2;exact⟨g,rfl,rfl,c0,c1,c2,h3.z,h2,h3.lt⟩
theorem zGn {w:World}{B g:Nat}{n c:Nat}{X:List (Int×Sl×Sl)}(h:lsE.Own w B (.slice (some ⟨g,0,none⟩) n c) X) {i:Nat}{x:Int×Sl×Sl}(hx:X[i]?=some x) (e:Sl) :
  lsE.Own (w.setCell ⟨g,i * 3+2,none⟩ (slV e)) B (.slice (some ⟨g,0,none⟩) n c) (X.set i (x.1,x.2.1,e)):=by
 have hi:=(Az1.1 hx).1;rcases h with ⟨h,_⟩|⟨g',C,h1,h2,h3,h4,h5⟩
 .cases h
 .injection h1 with e1 e2 e3
  injection e1 with e1;injection e1 with e1;subst e1 e2 e3;obtain⟨Y,rfl⟩:=h4;have hxC:(X++Y)[i]?=some x:=by rw[Ay8 hi];exact hx
  refine .inr ⟨g,(X++Y).set i (x.1,x.2.1,e),by rw[Au4,Au4],h2,⟨λj u hj=>?_,λj=>(Az4 _ _ _ _).trans (h3.z j),Ay9 h3.lt (zA _ _ _ _).size,λy hy=>?_⟩,?_,by rw[Au4];exact h5⟩
  .obtain⟨y,hy,hu⟩:=Elt.encs_of hj
   rw[show lsE.sz=3 from rfl]at hy hu;by_cases hji:j / 3=i
   .subst hji
    rw[Av5 (by rw[Az0];omega)]at hy;obtain rfl:=Az3 hy;by_cases h2':j % 3=2
    .have hj2:j=j / 3 * 3+2:=oM
     rw[h2']at hu;obtain rfl:slV e=u:=(by simpa [lsE,zGy] using hu);rw[<-hj2];refine Az9 _ _ _ (u:=slV x.2.2) ?_;have:=h3.c (j / 3 * 3+2) (slV x.2.2) (Elt.encs_at (E:=lsE) hxC (i:=2) rfl);rw[<-hj2]at this;exact this
    .rw[Ay0 _ _ _ _ (by intro e;injection e with _ e;omega)]
     refine h3.c j u ?_;have h6:=Elt.encs_at (E:=lsE) hxC (i:=j % 3) (u:=u) (by
      rcases (by omega:j % 3=0\/j % 3=1) with h7|h7 <;> rw[h7]at hu ⊢ <;> exact hu)
     rw[show lsE.sz=3 from rfl,show j / 3 * 3+j % 3=j by omega]at h6;exact h6
   .rw[Au3 (Ne.symm hji)]at hy
    rw[Ay0 _ _ _ _ (by intro e;injection e with _ e;omega)];refine h3.c j u ?_;have h6:=Elt.encs_at (E:=lsE) hy (i:=j % 3) (u:=u) hu;rw[show lsE.sz=3 from rfl,show j / 3 * 3+j % 3=j by omega]at h6;exact h6
  .rcases List.mem_or_eq_of_mem_set hy with h6|rfl
   .exact h3.ok y h6
   .exact h3.ok x (Az2 hxC)
  .rw[List.set_append_left _ _ hi]
   exact List.prefix_append _ _
theorem eQ:∀(X:List Int) (x k:Int),vE k (X++[x])=vE k X++(if 0<=x then [(k+X.length,x)] else [])
 | [],x,k=>by simp only[Aw7,vE,Aw5];split <;> simp
 | y :: X,x,k=>by
  have h:=eQ X x (k+1);rw[Au9];simp only[vE,Ax2];rw[h,show k+1+(X.length:Int)=k+((X.length+1:Nat):Int) by omega]
  split <;> simp
theorem zLd {l:List Int}{k:Nat}{x:Int}(h:l[k]?=some x):vE (-1) (l.take (k+1))=vE (-1) (l.take k)++(if 0<=x then [((k:Int)-1,x)] else []):=by
 have hk:=(Az1.1 h).1;rw[Ay1,h,Option.toList_some,eQ,Ax1,Nat.min_eq_left oM,show (-1:Int)+(k:Int)=(k:Int)-1 by omega]
theorem eN:∀(X:List Int) (k:Int),(vE k X).length<=X.length
 | [],_=>Ay _
 | x :: X,k=>by
  have h:=eN X (k+1);simp only[vE]
  split <;> simp <;> omega
theorem zRw {pg gb bx:Nat}(w:World) (Z:List Int) (h:GetSb pg gb bx w Z):Calls Tryz.prog 148 #[.pointer (some ⟨pg,0,none⟩),.func (.func 149) #[] #[.pointer (some ⟨bx,0,none⟩)]] w (eJ lsG lsE ls2R (C0 pg) (Tb pg gb bx) (Sb (Int×List Int) pg gb bx) w Z):=by
 have eg:=enters_of Tryz.func149 kR rfl;refine zT5 ls2R.good (zTt pg gb bx) _ #[] #[.pointer (some ⟨bx,0,none⟩)] lsG eg ?_ w Z h;rw[Array.empty_append];exact zSu ls2R.good (λw Z h=>zRx w Z h)
structure KSt (B:Nat) (w7 wr:World) (a:Option Addr) (n:Nat) (X0 X:List (Int×Sl×Sl)) (LL:List (List Int)) (i:Nat):Prop where
 own:lsE.Own wr B (.slice a n n) X
 len:X.length=X0.length
 eq:∀(j:Nat) x0,X0[j]?=some x0->∃e,X[j]?=some (x0.1,x0.2.1,e)/\(j<i->∃l,LL[j]?=some l/\rY.InS wr (λg=>w7.heap.size<=g) e (nY l))/\(i<=j->e=(none,0,0))
 chg:Chg (λk=>(Value.slice a n n).ownBlock=some k) w7 wr
theorem zJ.get1 {β δ:Type}{E:Elt β}{R:Rp β δ}{w:World}{S:Nat->Prop}{a:Option Addr}{n c:Nat}{L:List δ}(h:zJ E R w S (a,n,c) L) (hz:E.sz=1) {k:Nat}(hk:k<L.length) {f:β->Value}(hf:∀x,E.enc x=[f x]) :
  ∃(x:β) (d:δ) (g o:Nat),L[k]?=some d/\R w S x d/\a=some ⟨g,o,none⟩/\S g/\g<w.heap.size/\w.cell? ⟨g,o+k,none⟩=some (f x):=by
 obtain⟨x,d,g,o,h1,h2,h3,h4,h5,h6,h7⟩:=h.get hk;refine⟨x,d,g,o,h1,h2,h3,h4,h5,?_⟩;have c0:=h7 0 (f x) (by rw[hf];rfl);rw[hz,Nat.mul_one,Nat.add_zero]at c0;exact c0
theorem Elt.InS.getI {w:World}{S:Nat->Prop}{a:Option Addr}{n c:Nat}{L:List Int}(h:intE.InS w S (a,n,c) L) {k:Nat}(hk:k<L.length) :
  ∃(x:Int) (g o:Nat),L[k]?=some x/\a=some ⟨g,o,none⟩/\w.cell? ⟨g,o+k,none⟩=some (.int .i64 x)/\-9223372036854775808<=x/\x<=9223372036854775807/\S g/\g<w.heap.size:=by
 obtain⟨h1,h2,g,o,h3,h4⟩:=h;have hx:L[k]?=some L[k]:=Az hk;have hc:=h3.get hx (i:=0) (u:=.int .i64 L[k]) rfl;rw[Nat.add_zero,show intE.sz=1 from rfl,Nat.mul_one]at hc;obtain⟨h5,h6⟩:=h4 oM;have hok:=h3.ok _ (List.getElem_mem hk);exact⟨L[k],g,o,hx,h5,hc,hok.1,hok.2,h6,h3.lt (by intro e;rw[e]at hk;simp at hk)⟩
def zJx (pg gb tk:Nat) (w:World) (Z:List Int) (e:Ending) (w':World):Prop :=
 Chg (·=pg) w w'/\((jU tk Z=none/\e=tL)\/∃A r a,jU tk Z=some (A,r)/\e=.returned (.agg #[.slice a A.length A.length])/\mA w' (λk=>w.heap.size<=k) (a,A.length,A.length) A/\GetSt pg gb w' r)
theorem zP8 {pg gb tk:Nat}(htk:tk<=16777215) (w:World) (Z:List Int) (h:GetSt pg gb w Z):Calls Tryz.prog 109 #[.pointer (some ⟨pg,0,none⟩),.int .i64 tk] w (zJx pg gb tk w Z):=by
 have HG:=jh h;clear h;have hmf:=mkfn;go_enter Tryz.func109,Tryz.ntmps109
 go_upto_region 1 with (fail)
 obtain⟨w0,hw0⟩:∃W,W=(w.alloc (.cells #[.pointer (some ⟨pg,0,none⟩)] 132)).alloc (.cells #[.slice none 0 0] 63):=⟨_,rfl⟩;rw[<-hw0];have HC0:Hd (Cf w w0):=jh (by rw[hw0];exact ((Chg.refl _ w).alloc _).alloc _);have HS0:Hd (w0.heap.size=w.heap.size+2):=jh (by rw[hw0];simp);have HSB:Hd (GetSb pg gb w.heap.size w0 Z):=jh ⟨HG.o.fresh HC0.o,by rw[hw0];exact (Chg.refl (λ_=>False) (w.alloc _)).alloc _ |>.cellS (by rw[Az7];rfl) iD,by have:=HG.o.lt;omega⟩;obtain⟨ba,hba⟩:∃b,b=w.heap.size+1:=⟨_,rfl⟩;have HA0:Hd (w0.cell? ⟨ba,0,none⟩=some (.slice none 0 0)/\∀j,w0.frozen? ⟨ba,j,none⟩=false):=jh (by
  have e:ba=(w.alloc (.cells #[.pointer (some ⟨pg,0,none⟩)] 132)).heap.size:=by rw[hba];simp
  rw[e,hw0];exact⟨by rw[Az7];rfl,λj=>Az8 _ _ _ _⟩)
 rw[<-hba];have HBA:Hd (ba=w.heap.size+1):=jh hba;have HPG:Hd (pg<w.heap.size/\gb<w.heap.size):=jh ⟨HG.o.lt,HG.o.lb⟩;clear hw0 hba;have q0:=HSB.o.c;go_wp2_with fail
 refine (zRw w0 Z HSB.o).mono ?_;rintro e w1 ⟨hc1,⟨h1,rfl⟩|⟨ss,r1,a,h1,rfl,hL,hst,hl,-,-,X0,hX,hXl,hXob,hXr⟩⟩
 .exact⟨rfl,HC0.o.any.trans hc1,.inl ⟨by simp only[jU,h1],rfl⟩⟩
 obtain⟨n,hn⟩:∃n,ss.length=n:=⟨_,rfl⟩;rw[hn]at hL hl hX hXl hXob hXr;simp only[hn];have H1:=jh h1;have HN:=jh hn;have HC1:=jh hc1;have hap:¬ba=pg:=by have:=HPG.o;have:=HBA.o;omega
 have qa:=hc1.cellS HA0.o.1 hap;have za:=(hc1.frozen (p:=⟨ba,0,none⟩) (Az6 _ _ HA0.o.1) hap).trans (HA0.o.2 0);have hs2:=zA w1 ba 0 (.slice a n n);obtain⟨w2,hw2⟩:∃W,W=w1.setCell ⟨ba,0,none⟩ (.slice a n n):=⟨_,rfl⟩;rw[<-hw2]at hs2;have HA2:Hd (w2.cell? ⟨ba,0,none⟩=some (.slice a n n)/\w2.frozen? ⟨ba,0,none⟩=false):=jh (by rw[hw2];exact⟨Az9 _ _ _ qa,(Az4 _ _ _ _).trans za⟩);have HB2:=jh (GetSb.chg hst hs2 oM (by have:=HPG.o;have:=HBA.o;omega) (by have:=HBA.o;omega));have hblk:∀g,(Value.slice a n n).ownBlock=some g->w0.heap.size<=g/\g<w1.heap.size:=λg hg=>hX.blk hg
 have HX2:Hd (lsE.Own w2 w0.heap.size (.slice a n n) X0/\X0.length=n/\∀(j:Nat) x d,X0[j]?=some x->ss[j]?=some d->ls2R w2 (λk=>w0.heap.size<=k/\(Value.slice a n n).ownBlock≠some k/\k<w2.heap.size) x d):=jh (by
  have h0:=HS0.o;have hb:=HBA.o;refine⟨hX.chg hs2 (λg hg _ e=>oM),hXl,λj x d hx hd=>?_⟩;exact ls2R.good.mono (ls2R.good.chg (hXr j x d hx hd) hs2 (λg hg e=>by have:=hg.1;omega)) (λg hgl hg=>⟨hg.1,hg.2.2,hgl⟩))
 have HBL:Hd (∀g,(Value.slice a n n).ownBlock=some g->w0.heap.size<=g/\g<w2.heap.size):=jh (λg hg=>⟨(hblk g hg).1,Ay9 (hblk g hg).2 hs2.size⟩);have HC2:Hd (Chg (·=pg) w w2):=jh ((HC0.o.any.trans hc1).trans2 hs2 (λg hg e=>by have:=HBA.o;omega));have HNB:Hd (n<=16777215):=jh hl;have HS02:Hd (w0.heap.size<=w2.heap.size):=jh (Ay4 hc1.size hs2.size);clear h1 hn hc1 hs2 hL hst hl hX hXl hXob hXr hblk HA0 q0;have q2:=HB2.o.c;go_upto_region 2 with (fail)
 rw[<-hw2];clear hw2 qa za;go_wp2_with fail
 refine (zF7 w2 r1 HB2.o.g).mono ?_;rintro e w3 ⟨hc3,⟨h3,rfl⟩|⟨LL,m,r3,la,h3,rfl,hLL,hg3,hnL,hm3,hw3⟩⟩
 .exact⟨rfl,HC2.o.trans hc3,.inl ⟨by simp only[jU,H1.o,h3],rfl⟩⟩
 have H3:=jh h3;have HLK:Hd (jU tk Z=if (m:Int)=tk+1/\LL.length=n then some (List.zipWith (λs l=>(s.1,s.2,nY l)) ss LL,r3) else none):=jh (by simp only[jU,H1.o,H3.o,HN.o]);have HC3:Hd (Chg (·=pg) w w3):=jh (HC2.o.trans hc3);have HA3:Hd (w3.cell? ⟨ba,0,none⟩=some (.slice a n n)/\w3.frozen? ⟨ba,0,none⟩=false):=jh ⟨hc3.cellS HA2.o.1 hap,(hc3.frozen (p:=⟨ba,0,none⟩) (Az6 _ _ HA2.o.1) hap).trans HA2.o.2⟩;have HX3:Hd (lsE.Own w3 w0.heap.size (.slice a n n) X0/\∀(j:Nat) x d,X0[j]?=some x->ss[j]?=some d->ls2R w3 (λk=>w0.heap.size<=k/\(Value.slice a n n).ownBlock≠some k/\k<w2.heap.size) x d):=jh (by
  have h0:=HS0.o;have hp:=HPG.o;exact⟨HX2.o.1.chg hc3 (λg hg _ e=>oM),λj x d hx hd=>ls2R.good.chg (HX2.o.2.2 j x d hx hd) hc3 (λg hg e=>by have:=hg.1;omega)⟩)
 have HG3:=jh hg3;have HL3:Hd (zJ nW (inR intE) w3 (λk=>w2.heap.size<=k/\k<w3.heap.size) (la,LL.length,LL.length) LL):=jh ((zJ.good inR.good).mono hLL (λg hg hh=>⟨hh,hg⟩));have HM3:Hd (LL.length<=65536/\m<=65536/\∀l∈LL,l.length=m):=jh ⟨hnL,hm3,hw3⟩;have HS23:Hd (w2.heap.size<=w3.heap.size):=jh hc3.size;clear hc3 h3 hLL hg3 hnL hm3 hw3 q2 hap;have q3:=HA3.o.1;by_cases hmt:(m:Int)=tk+1
 .by_cases hnl:LL.length=n
  .rw[if_pos ⟨hmt,hnl⟩]at HLK
   subst hnl;have b1:((m:Int) == (tk:Int)+1)=true:=(by simpa using hmt);have HMT:=jh hmt;have HK0:Hd (KSt w0.heap.size w3 w3 a LL.length X0 X0 LL 0):=jh ⟨HX3.o.1,rfl,λj x0 hx=>by
    have hjl:=(Az1.1 hx).1;have hjs:j<ss.length:=(by have:=HN.o;have:=HX2.o.2.1;omega);have hd:ss[j]?=some ss[j]:=Az hjs;obtain⟨-,-,-,h4⟩:=HX3.o.2 j x0 _ hx hd;exact⟨x0.2.2,hx,λh=>absurd h (Ax _),λ_=>h4⟩,Chg.refl _ _⟩
   clear hmt;go_wp2_with fail
   refine (cC _).mono ?_;rintro e w9 ⟨rfl,rfl⟩;clear b1 q3;go_wp2
   go_loopw [35] (λq wr=>∃(i:Nat) (X:List (Int×Sl×Sl)),i<=LL.length/\q=.int .i64 i/\KSt w0.heap.size w9 wr a LL.length X0 X LL i) (λq _=>LL.length-(intOf q).toNat)
   case atStart=>exact⟨0,X0,oM,rfl,HK0.o⟩
   case round =>
    clear HK0;obtain⟨wo,rfl⟩:∃wo,wo=wr:=⟨_,rfl⟩;obtain⟨i,X,hi,rfl,hks⟩:=hrel;have HK:=jh hks;have HAW:Hd (wo.cell? ⟨ba,0,none⟩=some (.slice a LL.length LL.length)):=jh (hks.chg.cellS HA3.o.1 (λe=>by have:=(HBL.o ba e).1;have:=HS0.o;have:=HBA.o;omega));clear hks;by_cases hil:i<LL.length
    .have b9:decide ((i:Int)<(LL.length:Int))=true:=by simp;omega
     have hib:i<65536:=(by have:=HM3.o.1;omega);have HLW:Hd (zJ nW (inR intE) wo (λk=>w2.heap.size<=k/\k<w9.heap.size) (la,LL.length,LL.length) LL):=jh ((zJ.good inR.good).chg HL3.o HK.o.chg (λg hg e=>by have:=(HBL.o g e).2;omega));obtain⟨⟨sa,sn,sc⟩,l,gl,ol,hl,hin,hla,-,-,cl⟩:=HLW.o.get1 (f:=slV) rfl hil (λ_=>rfl);subst hla;obtain⟨rfl,hsc⟩:=Elt.InS.len hin;unfold slV at cl;simp only at cl;have HIN:Hd (intE.InS wo (λk=>w2.heap.size<=k/\k<w9.heap.size) (sa,l.length,sc) l):=jh hin;have HLI:=jh hl;have hlm:l.length<=65536:=(by rw[HM3.o.2.2 l (Az2 hl)];exact HM3.o.2.1);obtain⟨x0,hx0⟩:∃x0,X0[i]?=some x0:=⟨_,Az (by rw[HX2.o.2.1];exact hil)⟩;obtain⟨e0,hxe,-,he0⟩:=HK.o.eq i x0 hx0;have he0:=he0 (Ay _);subst he0;obtain⟨g,rfl,-,-,-,-,-,hgB,hgl⟩:=zCr HK.o.own hxe;have HX0I:=jh hx0;have HXE:=jh hxe;have HGG:Hd (w0.heap.size<=g/\g<w2.heap.size):=jh (HBL.o g rfl);clear hl hin hx0 hxe;go_wp2;clear cl
     go_loopw [42] (λq wr=>∃(k:Nat) (e:Sl),k<=l.length/\q=.int .i64 k/\lsE.Own wr w0.heap.size (.slice (some ⟨g,0,none⟩) LL.length LL.length) (X.set i (x0.1,x0.2.1,e))/\rY.Own wr wo.heap.size (slV e) (vE (-1) (l.take k))/\Chg (·=g) wo wr) (λq _=>l.length-(intOf q).toNat)
     case atStart=>exact⟨0,(none,0,0),oM,rfl,by
      rw[show X.set i (x0.1,x0.2.1,(none,0,0))=X from List.ext_getElem? (λj=>by
       by_cases hj:j=i
       .subst hj
        rw[Av5 (Az1.1 HXE.o).1,HXE.o]
       .rw[Au3 (Ne.symm hj)])]
      exact HK.o.own,.nil _ _,Chg.refl _ _⟩
     case round =>
      obtain⟨k,⟨ea,en,ec⟩,hk,rfl,hox,hoe,hcw⟩:=hrel;have HOX:=jh hox;have HOE:Hd (rY.Own wr wo.heap.size (.slice ea en ec) (vE (-1) (l.take k))):=jh hoe;have HCW:=jh hcw;have hXL:X.length=LL.length:=(by rw[HK.o.len,HX2.o.2.1]);have hxs:(X.set i (x0.1,x0.2.1,(ea,en,ec)))[i]?=some (x0.1,x0.2.1,(ea,en,ec)):=Av5 (by rw[hXL];exact hil);have HXS:=jh hxs;have HINR:Hd (intE.InS wr (λk=>w2.heap.size<=k/\k<w9.heap.size) (sa,l.length,sc) l):=jh (HIN.o.chg hcw (λg' hg' e=>by have:=HGG.o.2;omega));have HAR:Hd (wr.cell? ⟨ba,0,none⟩=some (.slice (some ⟨g,0,none⟩) LL.length LL.length)):=jh (hcw.cellS HAW.o (by have:=HGG.o;have:=HS0.o;have:=HBA.o;show ¬ba=g;omega));clear hox hoe hcw hxs hXL;by_cases hkl:k<l.length
      .have b8:decide ((k:Int)<(l.length:Int))=true:=by simp;omega
       have hkb:k<65536:=oM;obtain⟨x,gx,ox,hx,rfl,cx,x1,x2,-,-⟩:=HINR.o.getI hkl;have HTK:=jh (zLd hx);clear hx;by_cases hxp:0<=x
       .have b7:decide (0<=x)=true:=by simpa using hxp
        rw[if_pos hxp]at HTK;go_upto_region 11 with (fail)
        obtain⟨wd,hwd⟩:∃W,wr.drew=W:=⟨_,rfl⟩;have HDD:Hd (Cf wr wd):=jh (by rw[<-hwd];exact (Chg.refl _ _).drew);have HOXD:=jh (HOX.o.chg HDD.o (λ_ _ _ h=>h));have HOED:=jh (HOE.o.chg HDD.o (λ_ _ _ h=>h));have HCWD:Hd (Chg (·=g) wo wd):=jh (HCW.o.trans HDD.o.any);have HAD:=jh (HDD.o.cellS HAR.o iD);have HEC:Hd (wd.cell? ⟨g,i * 3+2,none⟩=some (.slice ea en ec)/\wd.frozen? ⟨g,i * 3+2,none⟩=false):=jh (by
         obtain⟨g',hg',-,-,-,h5,h6,-⟩:=zCr HOXD.o HXS.o;injection hg' with hg';injection hg' with hg';subst hg';exact⟨h5,h6 _⟩)
        refine zC (λx=>Chg (λk=>wo.heap.size<=k) wd x) (λi=>decide (17<=i)) kR ?_;have HGO:Hd (¬wo.heap.size<=g/\¬wo.heap.size<=ba):=jh (by have:=HK.o.chg.size;have:=HBA.o;have:=HS0.o;have:=HGG.o;have:=HS23.o;omega);show yN _ _ _ _ _ _ 18 (Array.replicate 18 false) _ wr.drew;rw[hwd];clear hwd;have HSS:Hd (Chg (λk=>wo.heap.size<=k) wd wd):=jh cR;have hwk:IntKind.i64.wrap ((k:Int)-1)=(k:Int)-1:=(by rw[IntKind.wrap_i64];omega);(refine lq 0 HSS.o ?_);(refine lq 1 HSS.o ?_ (hr:=by intro w' hC;have q:=hC.cellS HAD.o HGO.o.2;go_simp;try with_reducible rfl));(refine lq 2 HSS.o ?_);(refine lq 3 HSS.o ?_);(refine lq 4 HSS.o ?_ (hr:=by intro w' hC;have q:=hC.cellS HAD.o HGO.o.2;go_simp;try with_reducible rfl));(refine lq 5 HSS.o ?_);(refine lq 6 HSS.o ?_);(refine lq 7 HSS.o ?_);(refine lq 8 HSS.o ?_ (hr:=by intro w' hC;have q:=hC.cellS HEC.o.1 HGO.o.1;go_simp;try with_reducible rfl));(refine lq 9 HSS.o ?_);(refine lq 10 HSS.o ?_);clear hwk;(refine lq 11 HSS.o ?_);(refine lq 12 HSS.o ?_);have HYB:Hd (∀z∈[((k:Int)-1,x)],rY.ok z):=jh (λz hz=>by rw[Ay3]at hz;rw[hz];exact⟨⟨by show (-9223372036854775808:Int)<=(k:Int)-1;omega,by show (k:Int)-1<=9223372036854775807;omega⟩,⟨x1,x2⟩⟩);(refine lt 13 (λ_=>(Chg.refl _ _).alloc _) ?_);obtain⟨w4,hw4⟩:∃W,W=wd.alloc (.cells #[.int .i64 ((k:Int)-1),.int .i64 x] 149):=⟨_,rfl⟩;have HC4:Hd (Cf wd w4):=jh (by rw[hw4];exact (Chg.refl _ _).alloc _);have HSRC:Hd (Src Tryz.prog rY.sz rY.sl (.slice (some ⟨wd.heap.size,0,none⟩) 1 1) 1 (rY.encs [((k:Int)-1,x)]) w4):=jh (by rw[hw4];exact rY.srcLit (Y:=[((k:Int)-1,x)]) 1 HYB.o);rw[<-hw4];clear hw4;have HB4:Hd (wo.heap.size<=w4.heap.size/\g<wo.heap.size):=jh ⟨Ay4 HCWD.o.size HC4.o.size,hgl⟩;have HO4:Hd (rY.Own w4 wo.heap.size (.slice ea en ec) (vE (-1) (l.take k))):=jh (HOED.o.chg HC4.o (λ_ _ _ h=>h));have HEL:Hd ((vE (-1) (l.take k)).length<=65536):=jh (by have:=eN (l.take k) (-1);rw[Ax1]at this;omega);refine xE (i:=14) kR rfl rfl (.tmp 57) (.tmp 62) 65 65 rfl (.slice ea en ec) (.slice (some ⟨wd.heap.size,0,none⟩) 1 1) rfl rfl (λv' w5=>rY.Own w5 wo.heap.size v' (vE (-1) (l.take k)++[((k:Int)-1,x)])/\Chg (λk=>wo.heap.size<=k) w4 w5/\∃a n c,v'=.slice a n c) ?_ ?_
        .obtain⟨v',w5,hrun,h1,h2,-,-⟩:=HO4.o.append HB4.o.1 65 (.slice (some ⟨wd.heap.size,0,none⟩) 1 1) [((k:Int)-1,x)] HSRC.o HYB.o (by have:=HEL.o;simp;omega) 65
         exact⟨v',w5,hrun,(λ_=>HC4.o.any.trans h2),h1,h2,h1.shape3⟩
        rintro v' w5-⟨o1,o2,na,nn,nc,rfl⟩ K hK;have hc5:Chg (λk=>wo.heap.size<=k) wd w5:=HC4.o.any.trans o2;have k1:=hc5.cellS HEC.o.1 (by have:=HB4.o.2;show ¬wo.heap.size<=g;omega);have k2:=(hc5.frozen (p:=⟨g,i * 3+2,none⟩) (Az6 _ _ HEC.o.1) (by have:=HB4.o.2;show ¬wo.heap.size<=g;omega)).trans HEC.o.2;have HOX5:Hd (lsE.Own (w5.setCell ⟨g,i * 3+2,none⟩ (.slice na nn nc)) w0.heap.size (.slice (some ⟨g,0,none⟩) LL.length LL.length) (X.set i (x0.1,x0.2.1,(na,nn,nc)))):=jh (by
         have h1:=zGn (HOXD.o.chgB hc5 (λg' hg' e=>by obtain rfl:g=g':=(by simpa [Value.ownBlock] using hg');have:=HB4.o.2;omega)) HXS.o (na,nn,nc);rw[List.set_set]at h1;exact h1)
        have hsc5:=zA w5 g (i * 3+2) (.slice na nn nc);have HOE5:Hd (rY.Own (w5.setCell ⟨g,i * 3+2,none⟩ (.slice na nn nc)) wo.heap.size (slV (na,nn,nc)) (vE (-1) (l.take (k+1)))):=jh (by
         rw[HTK.o];exact o1.chg hsc5 (λg' hg' _ e=>by have:=HB4.o.2;omega))
        have HCW5:Hd (Chg (·=g) wo (w5.setCell ⟨g,i * 3+2,none⟩ (.slice na nn nc))):=jh ((HCWD.o.trans2 hc5 (λg' hg' e=>absurd e (Nat.not_le.2 hg'))).trans hsc5);have HC45:=jh hc5;clear o1 o2 hc5 hsc5;(try go_simp)
        refine hK _ ?_;clear hK K;(refine lt 15 (λ_=>HC45.o) ?_);(refine lt 16 (λ_=>HC45.o) ?_);(refine ld 17 ?_);refine yA kR ?_ _;clear k1 k2;go_wp2;go_roundw
        case rel=>exact⟨k+1,_,oM,by go_num,HOX5.o,HOE5.o,HCW5.o⟩
        case measure=>simp[intOf];omega
       .have b7:decide (0<=x)=false:=by simpa using hxp
        rw[if_neg hxp,Av4]at HTK;rw[<-HTK.o]at HOE;go_wp2;go_roundw
        case rel=>exact⟨k+1,_,oM,by go_num,HOX.o,HOE.o,HCW.o⟩
        case measure=>simp[intOf];omega
      .obtain rfl:k=l.length:=oM
       have b8:decide ((l.length:Int)<(l.length:Int))=false:=sI;rw[Ay5]at HOE;obtain⟨_,_,hv,hec,he⟩:=HOE.o.clip;injection hv with e1 e2 e3;subst e1 e3;have HE:Hd (rY.Own wr wo.heap.size (.slice ea en en) (nY l)):=jh (by rw[e2];exact he);rw[<-e2]at hec;clear e2 he;go_upto_region 13 with (fail)
       obtain⟨wd,hwd⟩:∃W,wr.drew=W:=⟨_,rfl⟩;have HDD:Hd (Cf wr wd):=jh (by rw[<-hwd];exact (Chg.refl _ _).drew);have HOXD:=jh (HOX.o.chg HDD.o (λ_ _ _ h=>h));have HED:=jh (HE.o.chg HDD.o (λ_ _ _ h=>h));have HCWD:Hd (Chg (·=g) wo wd):=jh (HCW.o.trans HDD.o.any);have HAD:=jh (HDD.o.cellS HAR.o iD);have HEC:Hd (wd.cell? ⟨g,i * 3+2,none⟩=some (.slice ea en ec)/\wd.frozen? ⟨g,i * 3+2,none⟩=false):=jh (by
        obtain⟨g',hg',-,-,-,h5,h6,-⟩:=zCr HOXD.o HXS.o;injection hg' with hg';injection hg' with hg';subst hg';exact⟨h5,h6 _⟩)
       refine zC (λx=>x=wd) (λi=>decide (12<=i)) kR ?_;show yN _ _ _ _ _ _ 13 (Array.replicate 13 false) _ wr.drew;rw[hwd];clear hwd;have HSS:Hd (wd=wd):=jh rfl;(refine lq 0 HSS.o ?_);(refine lq 1 HSS.o ?_ (hr:=by intro w' hC;subst hC;have q:=HAD.o;go_simp;try with_reducible rfl));(refine lq 2 HSS.o ?_);(refine lq 3 HSS.o ?_);(refine lq 4 HSS.o ?_ (hr:=by intro w' hC;subst hC;have q:=HAD.o;go_simp;try with_reducible rfl));(refine lq 5 HSS.o ?_);(refine lq 6 HSS.o ?_);(refine lq 7 HSS.o ?_);(refine lq 8 HSS.o ?_ (hr:=by intro w' hC;subst hC;have q:=HEC.o.1;go_simp;try with_reducible rfl));refine yE (i:=9) kR rfl rfl 150 #[.slice ea en ec] (λq w''=>q=.slice ea en en/\wd=w'') (by go_simp) ?_ ?_
       .refine (zTg wd ea en ec hec).mono ?_
        rintro e w2 ⟨rfl,rfl⟩;exact⟨_,rfl,λ_=>rfl,rfl,rfl⟩
       rintro q w''-⟨rfl,rfl⟩ K hK;(try go_simp)
       refine hK _ ?_;clear hK K;(refine lt 10 (λ_=>rfl) ?_);(refine lt 11 (λ_=>rfl) ?_);have k1:=HEC.o.1;have k2:=HEC.o.2;(refine ld 12 ?_);refine yA kR ?_ _;clear k1 k2;have hsc5:=zA wd g (i * 3+2) (.slice ea en en);obtain⟨we,hwe⟩:∃W,W=wd.setCell ⟨g,i * 3+2,none⟩ (.slice ea en en):=⟨_,rfl⟩;have HOX5:Hd (lsE.Own we w0.heap.size (.slice (some ⟨g,0,none⟩) LL.length LL.length) (X.set i (x0.1,x0.2.1,(ea,en,en)))):=jh (by
        have h1:=zGn HOXD.o HXS.o (ea,en,en);rw[List.set_set]at h1;rw[hwe];exact h1)
       rw[<-hwe]at hsc5 ⊢;clear hwe;have HKN:Hd (KSt w0.heap.size w9 we (some ⟨g,0,none⟩) LL.length X0 (X.set i (x0.1,x0.2.1,(ea,en,en))) LL (i+1)):=jh (by
        have hce:Chg (·=g) wo we:=HCWD.o.trans hsc5;have hgg:=HGG.o;have h23:=HS23.o;have h9o:=HK.o.chg.size;refine⟨HOX5.o,by rw[Au4];exact HK.o.len,λj y0 hy0=>?_,HK.o.chg.trans (hce.mono (λk _ e=>by rw[e];rfl))⟩;by_cases hji:j=i
        .subst hji
         rw[HX0I.o]at hy0;obtain rfl:=Az3 hy0;refine⟨(ea,en,en),Av5 (Az1.1 HXE.o).1,λ_=>⟨l,HLI.o,?_⟩,λh=>absurd h oM⟩;have h1:=(HED.o.chg hsc5 (λg' hg' _ e=>by have:=HCW.o.size;omega)).in' (c':=en) (Ay _);exact (Elt.In.inS h1).mono (λg' _ hg'=>by show w9.heap.size<=g';omega)
        .obtain⟨e,h1,h2,h3⟩:=HK.o.eq j y0 hy0
         refine⟨e,by rw[Au3 (Ne.symm hji)];exact h1,λh=>?_,λh=>h3 oM⟩;obtain⟨l',h4,h5⟩:=h2 oM;exact⟨l',h4,h5.chg hce (λg' hg' e=>oM)⟩)
       clear hsc5;go_wp2;go_roundw
       case rel=>exact⟨i+1,_,oM,by go_num,HKN.o⟩
       case measure=>simp[intOf];omega
    .obtain rfl:i=LL.length:=oM
     have b9:decide ((LL.length:Int)<(LL.length:Int))=false:=sI;have qa:=HAW.o;have hab:ba<wo.heap.size:=Az6 _ _ qa;have za:wo.frozen? ⟨ba,0,none⟩=false:=(HK.o.chg.frozen (p:=⟨ba,0,none⟩) (Az6 _ _ HA3.o.1) (λe=>by have:=(HBL.o ba e).1;have:=HS0.o;have:=HBA.o;omega)).trans HA3.o.2;have s0:(wo.setCell ⟨ba,0,none⟩ (.slice a LL.length LL.length)).cell? ⟨ba,0,none⟩=some (.slice a LL.length LL.length):=Az9 _ _ _ qa;have HFIN:Hd (zJx pg gb tk w Z (.returned (.agg #[.slice a (List.zipWith (λ(s:Int×List Int) l=>(s.1,s.2,nY l)) ss LL).length (List.zipWith (λ(s:Int×List Int) l=>(s.1,s.2,nY l)) ss LL).length])) (wo.setCell ⟨ba,0,none⟩ (.slice a LL.length LL.length))):=jh (by
      have hsc:=zA wo ba 0 (.slice a LL.length LL.length);have h0:=HS0.o;have hb:=HBA.o;have hp:=HPG.o;have h23:=HS23.o;have h9o:=HK.o.chg.size;have h02:=HS02.o;have hzl:(List.zipWith (λ(s:Int×List Int) l=>(s.1,s.2,nY l)) ss LL).length=LL.length:=(by rw[List.length_zipWith,HN.o,Nat.min_self]);have hbb:=HBL.o;have hco:Chg (λk=>(Value.slice a LL.length LL.length).ownBlock=some k) w9 wo:=HK.o.chg;refine⟨((HC3.o.trans2 hco (λg' hg' e=>by have:=(hbb g' e).1;omega)).trans2 hsc (λg' hg' e=>oM)),.inr ⟨_,_,_,HLK.o,rfl,?_,(HG3.o.chg hco (λe=>by have:=(hbb _ e).1;omega) (λe=>by have:=(hbb _ e).1;omega)).chg hsc oM oM⟩⟩;refine⟨X,?_,?_,λj x d hx hd=>?_⟩
      .rw[hzl]
       exact (Elt.In.inS (((HK.o.own.chg hsc (λg' hg' _ e=>oM))).in' (c':=LL.length) (Ay _))).mono (λg' _ hg'=>by show w.heap.size<=g';omega)
      .rw[hzl,HK.o.len];exact HX2.o.2.1
      .have hjX:=(Az1.1 hx).1
       have hjL:j<LL.length:=(by rw[HK.o.len,HX2.o.2.1]at hjX;exact hjX);obtain⟨x0,hx0⟩:∃x0,X0[j]?=some x0:=⟨_,Az (by rw[HX2.o.2.1];exact hjL)⟩;obtain⟨e,h1,h2,-⟩:=HK.o.eq j x0 hx0;rw[hx]at h1;obtain rfl:=Az3 h1;obtain⟨l,h4,h5⟩:=h2 hjL;obtain⟨s,hs⟩:∃s,ss[j]?=some s:=⟨_,Az (by rw[HN.o];exact hjL)⟩;rw[List.getElem?_zipWith,hs,h4]at hd;simp only[Option.some.injEq]at hd;subst hd;obtain⟨r1,r2,r3,-⟩:=HX3.o.2 j x0 s hx0 hs;exact⟨r1,r2,((r3.chg hco (λg' hg' e=>hg'.2.1 e)).chg hsc (λg' hg' e=>by have:=hg'.1;omega)).mono (λg' _ hg'=>by show w.heap.size<=g';have:=hg'.1;omega),(h5.chg hsc (λg' hg' e=>oM)).mono (λg' _ hg'=>by show w.heap.size<=g';omega)⟩)
     have hzl:(List.zipWith (λ(s:Int×List Int) l=>(s.1,s.2,nY l)) ss LL).length=LL.length:=(by rw[List.length_zipWith,HN.o,Nat.min_self]);rw[hzl]at HFIN;clear hzl hab;go_wp2;exact bodyPost_ret (v:=.agg #[.slice a LL.length LL.length]) (by simp[results,Tryz.results109,go_sem,s0]) rfl HFIN.o
  .have HF:Hd (jU tk Z=none):=jh (by rw[HLK.o,if_neg (λh=>hnl h.2)])
   have b1:((m:Int) == (tk:Int)+1)=true:=(by simpa using hmt);have b2:((LL.length:Int) == (n:Int))=false:=sO;have b2':(LL.length == n)=false:=(by simpa using hnl);clear hmt;go_wp2_with fail
   refine (nU _).mono ?_;rintro e w9 ⟨rfl,rfl⟩;exact⟨rfl,HC3.o,.inl ⟨HF.o,rfl⟩⟩
 .have HF:Hd (jU tk Z=none):=jh (by rw[HLK.o,if_neg (λh=>hmt h.1)])
  have b1:((m:Int) == (tk:Int)+1)=false:=by simpa using hmt
  clear hmt;go_wp2_with fail
  refine (nU _).mono ?_;rintro e w9 ⟨rfl,rfl⟩;exact⟨rfl,HC3.o,.inl ⟨HF.o,rfl⟩⟩
def zDc (f:FuncId) (lb:Array Value) (p:Int->Bool) (w:World):Prop:=∀(x:Int) (w':World),I.Byte x->Cf w w' ->
 Calls Tryz.prog f (#[.int .i64 x]++lb) w' λe w''=>e=.returned (.bool (p x))/\Cf w' w''
theorem zGu (f:FuncId) (lb:Array Value) (p:Int->Bool) (Z:List Int) (a:Option Addr) (c B:Nat) (w:World) (eg:∀args w,(callFunc f args).run Tryz.prog w=.ok (.enter f args) w) (h:intE.In w B (a,Z.length,c) Z) (hp:zDc f lb p w) (hl:Z.length<=1000000000) :
  Calls Tryz.prog 131 #[.slice a Z.length c,.func (.func f) #[] lb] w λe w'=>e=.returned (.int .i64 (idxV p Z))/\Cf w w':=by
 have HL:=jh h;have HP:=jh hp;clear h hp;go_enter Tryz.func131,Tryz.ntmps131
 go_wp2
 go_loopw [8] (λq wr=>∃k:Nat,k<=Z.length/\q=.int .i64 k/\(∀(j:Nat) y,j<k->Z[j]?=some y->p y=false)/\Cf w wr) (λq _=>Z.length-(intOf q).toNat)
 case atStart=>exact⟨0,oM,rfl,λj y h=>absurd h (Ax _),Chg.refl _ _⟩
 case round =>
  obtain⟨k,hk,rfl,hb,hc⟩:=hrel;have HB:=jh hb;have HC:=jh hc;clear hb hc;by_cases hkl:k<Z.length
  .have b9:decide ((k:Int)<(Z.length:Int))=true:=by simp;omega
   obtain⟨x,g,o,hx,rfl,c0,x0,x1,-,-⟩:=(HL.o.same HC.o).getI hkl;have HX:=jh hx;clear hx;have hcall:=HP.o x wr ⟨x0,x1⟩ HC.o;cases hxi:p x with
   | true =>
    rw[hxi]at hcall;have HF:Hd (idxV p Z=k):=jh (uQ HX.o hxi HB.o);have HCALL:=jh hcall;clear hcall hxi;go_wp2_with fail
    refine HCALL.o.mono ?_;rintro e w2 ⟨rfl,hc2⟩;have HC2:=jh (HC.o.trans hc2);clear hc2 c0;go_wp2;go_ret
    exact⟨by rw[HF.o];rfl,HC2.o⟩
   | false =>
    rw[hxi]at hcall;have HB2:Hd (∀(j:Nat) y,j<k+1->Z[j]?=some y->p y=false):=jh (λj y hj hy=>by
     by_cases he:j=k
     .subst he;rw[HX.o]at hy;obtain rfl:=Az3 hy;exact hxi
     .exact HB.o j y oM hy)
    have HCALL:=jh hcall;clear hcall hxi;go_wp2_with fail
    refine HCALL.o.mono ?_;rintro e w2 ⟨rfl,hc2⟩;have HC2:=jh (HC.o.trans hc2);clear hc2 c0;go_wp2;go_roundw
    case rel=>exact⟨k+1,oM,by go_num,HB2.o,HC2.o⟩
    case measure=>simp[intOf];omega
  .obtain rfl:k=Z.length:=oM
   have HF:Hd (idxV p Z=-1):=jh (rG HB.o);go_wp2;go_ret
   exact⟨by rw[HF.o];rfl,HC.o⟩
theorem pQ (f:FuncId) (lb:Array Value) (p:Int->Bool) (Z:List Int) (a:Option Addr) (c B:Nat) (w:World) (eg:∀args w,(callFunc f args).run Tryz.prog w=.ok (.enter f args) w) (h:intE.In w B (a,Z.length,c) Z) (hp:zDc f lb p w) (hl:Z.length<=1000000000) :
  Calls Tryz.prog 89 #[.slice a Z.length c,.func (.func f) #[] lb] w λe w'=>e=.returned (.bool (Z.any p))/\Cf w w':=by
 have HL:=jh h;have HP:=jh hp;clear h hp;rcases tE p Z with ⟨k,x,-,-,h3,-,h5⟩|⟨h3,-,h5⟩
 all_goals
  have HI:=jh h3;have HN:=jh h5;clear h3 h5;go_enter Tryz.func89,Tryz.ntmps89
  go_wp2_with fail
  refine (zGu f lb p Z a c B _ eg HL.o HP.o hl).mono ?_;rintro e w2 ⟨rfl,hc2⟩;rw[HI.o];have HC:=jh hc2;clear hc2;go_wp2;go_ret
  exact⟨by rw[HN.o];rfl,HC.o⟩
def hasB (x:Int) (Z:List Int):Bool:=Z.any (λy=>x == y)
theorem zAx (x:Int) (Z:List Int):hasB x Z=Z.contains x:=by
 unfold hasB;rw[List.any_beq]
theorem zNg (v:Int) (Z:List Int) (a:Option Addr) (c B:Nat) (w:World) (h:intE.In w B (a,Z.length,c) Z) (hl:Z.length<=1000000000) :
  Calls Tryz.prog 165 #[.slice a Z.length c,.int .i64 v] w λe w'=>e=.returned (.int .i64 (idxV (λy=>v == y) Z))/\Cf w w':=by
 have HL:=jh h;clear h;go_enter Tryz.func165,Tryz.ntmps165
 go_wp2
 go_loopw [8] (λq wr=>∃k:Nat,k<=Z.length/\q=.int .i64 k/\(∀(j:Nat) y,j<k->Z[j]?=some y->(v == y)=false)/\Cf w wr) (λq _=>Z.length-(intOf q).toNat)
 case atStart=>exact⟨0,oM,rfl,λj y h=>absurd h (Ax _),Chg.refl _ _⟩
 case round =>
  obtain⟨k,hk,rfl,hb,hc⟩:=hrel;have HB:=jh hb;have HC:=jh hc;clear hb hc;by_cases hkl:k<Z.length
  .have b9:decide ((k:Int)<(Z.length:Int))=true:=by simp;omega
   obtain⟨x,g,o,hx,rfl,c0,x0,x1,-,-⟩:=(HL.o.same HC.o).getI hkl;have HX:=jh hx;clear hx;cases hxi:(v == x) with
   | true =>
    have HF:Hd (idxV (λy=>v == y) Z=k):=jh (uQ (p:=λy=>v == y) HX.o hxi HB.o);go_wp2;go_ret
    exact⟨by rw[HF.o];rfl,HC.o⟩
   | false =>
    have HB2:Hd (∀(j:Nat) y,j<k+1->Z[j]?=some y->(v == y)=false):=jh (λj y hj hy=>by
     by_cases he:j=k
     .subst he;rw[HX.o]at hy;obtain rfl:=Az3 hy;exact hxi
     .exact HB.o j y oM hy)
    go_wp2;go_roundw
    case rel=>exact⟨k+1,oM,by go_num,HB2.o,HC.o⟩
    case measure=>simp[intOf];omega
  .obtain rfl:k=Z.length:=oM
   have HF:Hd (idxV (λy=>v == y) Z=-1):=jh (rG (p:=λy=>v == y) HB.o);go_wp2;go_ret
   exact⟨by rw[HF.o];rfl,HC.o⟩
theorem zBt (v:Int) (Z:List Int) (a:Option Addr) (c B:Nat) (w:World) (h:intE.In w B (a,Z.length,c) Z) (hl:Z.length<=1000000000) :
  Calls Tryz.prog 125 #[.slice a Z.length c,.int .i64 v] w λe w'=>e=.returned (.bool (hasB v Z))/\Cf w w':=by
 have HL:=jh h;clear h;rcases tE (λy=>v == y) Z with ⟨k,x,-,-,h3,-,h5⟩|⟨h3,-,h5⟩
 all_goals
  have HI:=jh h3;have HN:Hd (hasB v Z=_):=jh h5;clear h3 h5;go_enter Tryz.func125,Tryz.ntmps125
  go_wp2_with fail
  refine (zNg v Z a c B _ HL.o hl).mono ?_;rintro e w2 ⟨rfl,hc2⟩;rw[HI.o];have HC:=jh hc2;clear hc2;go_wp2;go_ret
  exact⟨by rw[HN.o];rfl,HC.o⟩
structure Fair (t:LexD):Prop where
 r:t.r.length<=1000000000
 c:t.c.length<=1000000000
 n:t.n.length<=1000000000
 e:t.e.length<=1000000000
 l:∀l∈t.n,l.length<=1000000000
theorem zJv {R:List (Int×Int)}{k:Nat}{x y:Int}(h:R[k]?=some (x,y)) (hb:y<x):apOk R k=false:=by
 unfold apOk;rw[Aw2,h];simp only[Option.getD_some];rw[decide_eq_false oM]
 rfl
theorem zG7 {R:List (Int×Int)}{x y:Int}(h:R[0]?=some (x,y)) (hb:x<=y):apOk R 0=true:=by
 unfold apOk;rw[Aw2,h];simp only[Option.getD_some];rw[decide_eq_true hb]
 rfl
theorem zG8 {R:List (Int×Int)}{k:Nat}{x y x' y':Int}(h:R[k+1]?=some (x,y)) (h':R[k]?=some (x',y')) (hb:x<=y):apOk R (k+1)=decide (y'<x):=by
 unfold apOk;rw[Aw2,Aw2,h,Nat.add_sub_cancel,h'];simp only[Option.getD_some];rw[decide_eq_true hb,decide_eq_false (show ¬k+1=0 by omega)];simp
theorem cY (R:List (Int×Int)) (a:Option Addr) (c B:Nat) (w:World) (h:rngE.In w B (a,R.length,c) R) (hl:R.length<=1000000000) :
  Calls Tryz.prog 124 #[.slice a R.length c] w λe w'=>e=.returned (.bool (jN R))/\Cf w w':=by
 have HL:=jh h;clear h;go_enter Tryz.func124,Tryz.ntmps124
 go_wp2
 go_loopw [7] (λq wr=>∃k:Nat,k<=R.length/\q=.int .i64 k/\(∀j,j<k->apOk R j=true)/\Cf w wr) (λq _=>R.length-(intOf q).toNat)
 case atStart=>exact⟨0,oM,rfl,λj h=>absurd h (Ax _),Chg.refl _ _⟩
 case round =>
  obtain⟨k,hk,rfl,hb,hc⟩:=hrel;have HB:=jh hb;have HC:=jh hc;clear hb hc;by_cases hkl:k<R.length
  .have b9:decide ((k:Int)<(R.length:Int))=true:=by simp;omega
   obtain⟨x,y,g,o,hx,rfl,c0,c1,hx32,hy32,hB,hg⟩:=(HL.o.same HC.o).getR hkl;have HX:=jh hx;obtain⟨wa,hwa⟩:∃v,v=(wr.alloc (.cells #[.int .i32 x,.int .i32 y] 117)):=⟨_,rfl⟩;have p0:wa.cell? ⟨wr.heap.size,0,none⟩=some (.int .i32 x):=(by rw[hwa,Az7];rfl);have p1:wa.cell? ⟨wr.heap.size,1,none⟩=some (.int .i32 y):=(by rw[hwa,Az7];rfl);have HCA:Hd (Cf w wa):=jh (by rw[hwa];exact HC.o.alloc _);have HP:Hd (∀wx,Cf wa wx->wx.cell? ⟨wr.heap.size,0,none⟩=some (.int .i32 x)/\wx.cell? ⟨wr.heap.size,1,none⟩=some (.int .i32 y)):=jh (λwx hx=>⟨hx.cellS p0 iD,hx.cellS p1 iD⟩);have HWA:=jh hwa;clear p0 p1;clear hx hwa;by_cases h1:y<x
   .have d1:decide (y<x)=true:=by simpa using h1
    have HF:Hd (jN R=false):=jh (jL hkl (zJv HX.o h1));go_upto_region 4 with (fail)
    rw[<-HWA.o];clear c0 c1;refine ws (λw'=>Cf wa w') ?_;(iterate 20 (first|refine sq ?_|refine rq ?_ (by intro _ w' _ hC;obtain⟨p0,p1⟩:=HP.o w' hC;(try have c3:=hC.cellS HC3.o iD);(try have e4:=HE.o);(try have e5:=HW.o);go_simp;try with_reducible rfl)))
    refine zQ ?_;intro w2 hC2;have HC2:=jh (HCA.o.trans hC2);clear hC2;go_wp2;go_ret
    exact⟨by rw[HF.o];rfl,HC2.o⟩
   .have d1:decide (y<x)=false:=by simpa using h1
    by_cases hk0:k=0
    .have HK:Hd (∀j,j<k+1->apOk R j=true):=jh (λj hj=>by
      obtain rfl:j=k:=oM;have h3:=HX.o;subst hk0;exact zG7 h3 oM)
     have d2:decide (0<(k:Int))=false:=sO;have d3:decide (0<k)=false:=sO;clear hk0;go_upto_region 4 with (fail)
     rw[<-HWA.o];clear c0 c1;refine ws (λw'=>Cf wa w') ?_;(iterate 20 (first|refine sq ?_|refine rq ?_ (by intro _ w' _ hC;obtain⟨p0,p1⟩:=HP.o w' hC;(try have c3:=hC.cellS HC3.o iD);(try have e4:=HE.o);(try have e5:=HW.o);go_simp;try with_reducible rfl)))
     refine zQ ?_;intro w2 hC2;have HC2:=jh (HCA.o.trans hC2);clear hC2;go_wp2;go_roundw
     case rel=>exact⟨k+1,oM,by go_num,HK.o,HC2.o⟩
     case measure=>simp[intOf];omega
    .obtain⟨m,hm⟩:∃m,k=m+1:=⟨k-1,oM⟩
     obtain⟨x',y',g',o',hx',ha',c2,c3,-,hy',-,-⟩:=(HL.o.same HCA.o).getR (show m<R.length by omega);injection ha' with ha';injection ha' with e1 e2;subst e1 e2;have d2:decide (0<(k:Int))=true:=sO;have d3:decide (0<k)=true:=sO;have e4:(k:Int)-1=(m:Int):=oM;have hml:m<R.length:=oM;have hm1:(1:Int)<=k:=oM;have HM:=jh hm;have HE:=jh e4;have HW:Hd (IntKind.i64.wrap (m:Int)=m):=jh (IntWalk.i64_in _ oM);have HAP:Hd (apOk R k=decide (y'<x)):=jh (by have:=HX.o;rw[hm]at this ⊢;exact zG8 this hx' oM);have HC3:=jh c3;clear hx' hm e4 c2 c3;by_cases h2:x<=y'
     .have d4:decide (x<=y')=true:=by simpa using h2
      have HF:Hd (jN R=false):=jh (jL hkl (by rw[HAP.o];simpa using h2));go_upto_region 4 with (fail)
      rw[<-HWA.o];clear c0 c1;refine ws (λw'=>Cf wa w') ?_;(iterate 20 (refine rq ?_ (by intro _ w' _ hC;obtain⟨p0,p1⟩:=HP.o w' hC;(try have c3:=hC.cellS HC3.o iD);(try have e4:=HE.o);(try have e5:=HW.o);go_simp;try with_reducible rfl)))
      refine zQ ?_;intro w2 hC2;have HC2:=jh (HCA.o.trans hC2);clear hC2;go_wp2;go_ret
      exact⟨by rw[HF.o];rfl,HC2.o⟩
     .have d4:decide (x<=y')=false:=by simpa using h2
      have HK:Hd (∀j,j<k+1->apOk R j=true):=jh (λj hj=>by
       by_cases he:j=k
       .rw[he,HAP.o];simp;omega
       .exact HB.o j oM)
      go_upto_region 4 with (fail)
      rw[<-HWA.o];clear c0 c1;refine ws (λw'=>Cf wa w') ?_;(iterate 20 (refine rq ?_ (by intro _ w' _ hC;obtain⟨p0,p1⟩:=HP.o w' hC;(try have c3:=hC.cellS HC3.o iD);(try have e4:=HE.o);(try have e5:=HW.o);go_simp;try with_reducible rfl)))
      refine zQ ?_;intro w2 hC2;have HC2:=jh (HCA.o.trans hC2);clear hC2;go_wp2;go_roundw
      case rel=>exact⟨k+1,oM,by go_num,HK.o,HC2.o⟩
      case measure=>simp[intOf];omega
  .obtain rfl:k=R.length:=oM
   have HF:Hd (jN R=true):=jh (zC9 HB.o);go_wp2;go_ret
   exact⟨by rw[HF.o];rfl,HC.o⟩
def zPh (f:FuncId) (lb:Array Value) (p:List Int->Bool) (B:Nat) (w:World):Prop:=∀(l:List Int) (a:Option Addr) (c:Nat) (w':World),intE.In w' B (a,l.length,c) l->l.length<=1000000000->Cf w w' ->
 Calls Tryz.prog f (#[.slice a l.length c]++lb) w' λe w''=>e=.returned (.bool (p l))/\Cf w' w''
theorem sC.getIn {w:World}{B:Nat}{a:Option Addr}{n c:Nat}{LL:List (List Int)}(h:sC w B (a,n,c) LL) {k:Nat}(hk:k<LL.length) :
  ∃(l:List Int) (g o:Nat) (la:Option Addr) (lc:Nat),LL[k]?=some l/\a=some ⟨g,o,none⟩/\w.cell? ⟨g,o+k,none⟩=some (.slice la l.length lc)/\intE.In w B (la,l.length,lc) l/\g<w.heap.size/\B<=g:=by
 obtain⟨l,g,o,la,lc,gl,ol,h1,h2,h3,h4,h5,h6,h7,h8⟩:=h.get hk;exact⟨l,g,o,la,lc,h1,h2,h3,⟨rfl,h4,gl,ol,zQa.2 h5,h6⟩,h7,h8⟩
theorem zFf (f:FuncId) (lb:Array Value) (p:List Int->Bool) (LL:List (List Int)) (a:Option Addr) (c B:Nat) (w:World) (eg:∀args w,(callFunc f args).run Tryz.prog w=.ok (.enter f args) w) (h:sC w B (a,LL.length,c) LL) (hp:zPh f lb p B w) (hl:LL.length<=1000000000) (hll:∀l∈LL,l.length<=1000000000) :
  Calls Tryz.prog 166 #[.slice a LL.length c,.func (.func f) #[] lb] w λe w'=>e=.returned (.int .i64 (idxV p LL))/\Cf w w':=by
 have HL:=jh h;have HP:=jh hp;have HLL:=jh hll;clear h hp hll;go_enter Tryz.func166,Tryz.ntmps166
 go_wp2
 go_loopw [8] (λq wr=>∃k:Nat,k<=LL.length/\q=.int .i64 k/\(∀(j:Nat) y,j<k->LL[j]?=some y->p y=false)/\Cf w wr) (λq _=>LL.length-(intOf q).toNat)
 case atStart=>exact⟨0,oM,rfl,λj y h=>absurd h (Ax _),Chg.refl _ _⟩
 case round =>
  obtain⟨k,hk,rfl,hb,hc⟩:=hrel;have HB:=jh hb;have HC:=jh hc;clear hb hc;by_cases hkl:k<LL.length
  .have b9:decide ((k:Int)<(LL.length:Int))=true:=by simp;omega
   obtain⟨x,g,o,la,lc,hx,rfl,c0,hin,-,-⟩:=(HL.o.same HC.o).getIn hkl;have HX:=jh hx;have hcall:=HP.o x la lc wr hin (HLL.o x (Az2 hx)) HC.o;clear hx hin;cases hxi:p x with
   | true =>
    rw[hxi]at hcall;have HF:Hd (idxV p LL=k):=jh (uQ HX.o hxi HB.o);have HCALL:=jh hcall;clear hcall hxi;go_wp2_with fail
    refine HCALL.o.mono ?_;rintro e w2 ⟨rfl,hc2⟩;have HC2:=jh (HC.o.trans hc2);clear hc2 c0;go_wp2;go_ret
    exact⟨by rw[HF.o];rfl,HC2.o⟩
   | false =>
    rw[hxi]at hcall;have HB2:Hd (∀(j:Nat) y,j<k+1->LL[j]?=some y->p y=false):=jh (λj y hj hy=>by
     by_cases he:j=k
     .subst he;rw[HX.o]at hy;obtain rfl:=Az3 hy;exact hxi
     .exact HB.o j y oM hy)
    have HCALL:=jh hcall;clear hcall hxi;go_wp2_with fail
    refine HCALL.o.mono ?_;rintro e w2 ⟨rfl,hc2⟩;have HC2:=jh (HC.o.trans hc2);clear hc2 c0;go_wp2;go_roundw
    case rel=>exact⟨k+1,oM,by go_num,HB2.o,HC2.o⟩
    case measure=>simp[intOf];omega
  .obtain rfl:k=LL.length:=oM
   have HF:Hd (idxV p LL=-1):=jh (rG HB.o);go_wp2;go_ret
   exact⟨by rw[HF.o];rfl,HC.o⟩
theorem zFu (f:FuncId) (lb:Array Value) (p:List Int->Bool) (LL:List (List Int)) (a:Option Addr) (c B:Nat) (w:World) (eg:∀args w,(callFunc f args).run Tryz.prog w=.ok (.enter f args) w) (h:sC w B (a,LL.length,c) LL) (hp:zPh f lb p B w) (hl:LL.length<=1000000000) (hll:∀l∈LL,l.length<=1000000000) :
  Calls Tryz.prog 127 #[.slice a LL.length c,.func (.func f) #[] lb] w λe w'=>e=.returned (.bool (LL.any p))/\Cf w w':=by
 have HL:=jh h;have HP:=jh hp;have HLL:=jh hll;clear h hp hll;rcases tE p LL with ⟨k,x,-,-,h3,-,h5⟩|⟨h3,-,h5⟩
 all_goals
  have HI:=jh h3;have HN:=jh h5;clear h3 h5;go_enter Tryz.func127,Tryz.ntmps127
  go_wp2_with fail
  refine (zFf f lb p LL a c B _ eg HL.o HP.o hl HLL.o).mono ?_;rintro e w2 ⟨rfl,hc2⟩;rw[HI.o];have HC:=jh hc2;clear hc2;go_wp2;go_ret
  exact⟨by rw[HN.o];rfl,HC.o⟩
def zC7 (e:Int):Bool:=decide (e < -1)
def zDn (n:Nat) (s:Int):Bool:=decide (s < -1) || decide ((n:Int)<=s)
def eU (cols:Int) (n:Nat) (l:List Int):Bool:=!decide ((l.length:Int)=cols) || l.any (zDn n)
theorem zN1 (cols:Int) (n:Nat) (l:List Int):eU cols n l=!rowB cols n l:=by
 have h:(!l.all (inB (-1) n))=l.any (zDn n):=by
  rw[List.not_all_eq_any_not]
  congr 1
  funext s
  unfold inB zDn;by_cases h1:s < -1 <;> by_cases h2:(n:Int)<=s
  all_goals simp[h1,h2]
  all_goals omega
 unfold eU rowB;rw[Bool.not_and,h]
theorem zNm (w:World):zDc 126 #[] zC7 w:=by
 intro x w' hx hc;show Calls Tryz.prog 126 #[.int .i64 x] w' _;go_enter Tryz.func126,Tryz.ntmps126
 go_wp2;go_ret
 exact⟨rfl,Chg.refl _ _⟩
theorem zQd (b n:Nat) (na:Option Addr) (nc:Nat) (w:World) (h:w.cell? ⟨b,2,none⟩=some (.slice na n nc)):zDc 129 #[.pointer (some ⟨b,0,none⟩)] (zDn n) w:=by
 intro x w' hx hc;have h2:=hc.cellS h iD;show Calls Tryz.prog 129 #[.int .i64 x,.pointer (some ⟨b,0,none⟩)] w' _;by_cases h1:x < -1
 .have HF:Hd (zDn n x=true):=jh (by simp[zDn,h1])
  have d1:decide (x < -1)=true:=by simpa using h1
  go_enter Tryz.func129,Tryz.ntmps129
  go_wp2;go_ret
  exact⟨by rw[HF.o];rfl,Chg.refl _ _⟩
 .have HF:Hd (zDn n x=decide ((n:Int)<=x)):=jh (by simp[zDn,h1])
  have d1:decide (x < -1)=false:=by simpa using h1
  go_enter Tryz.func129,Tryz.ntmps129
  go_wp2;go_ret
  exact⟨by rw[HF.o];rfl,Chg.refl _ _⟩
theorem zNk (p b n B:Nat) (cols:Int) (na:Option Addr) (nc:Nat) (w:World) (h0:w.cell? ⟨p,0,none⟩=some (.int .i64 cols)) (h:w.cell? ⟨b,2,none⟩=some (.slice na n nc)):zPh 128 #[.pointer (some ⟨p,0,none⟩),.pointer (some ⟨b,0,none⟩)] (eU cols n) B w:=by
 intro l a c w' hin hl hc;have h1:=hc.cellS h0 iD;have h2:=hc.cellS h iD;have eg:=enters_of Tryz.func129 kR rfl;have HI:=jh hin;have HG:=jh (zQd b n na nc w' h2);clear hin h2 h h0;show Calls Tryz.prog 128 #[.slice a l.length c,.pointer (some ⟨p,0,none⟩),.pointer (some ⟨b,0,none⟩)] w' _;by_cases hcl:(l.length:Int)=cols
 .have HF:Hd (eU cols n l=l.any (zDn n)):=jh (by simp[eU,hcl])
  have d1:((l.length:Int) != cols)=false:=by simpa using hcl
  clear hcl;go_enter Tryz.func128,Tryz.ntmps128
  go_wp2_with fail
  refine (pQ _ _ (zDn n) l a c B _ eg HI.o HG.o hl).mono ?_;rintro e w2 ⟨rfl,hc2⟩;have HC:=jh hc2;clear hc2;go_wp2;go_ret
  exact⟨by rw[HF.o];rfl,HC.o⟩
 .have HF:Hd (eU cols n l=true):=jh (by simp[eU,hcl])
  have d1:((l.length:Int) != cols)=true:=by simpa using hcl
  clear hcl;go_enter Tryz.func128,Tryz.ntmps128
  go_wp2;go_ret
  exact⟨by rw[HF.o];rfl,Chg.refl _ _⟩
theorem zM3 {t:LexD}(h:t.e.any zC7=true):mayT t=false:=uU (λhm=>by
 rw[Au5]at h;obtain⟨e,h1,h2⟩:=h;have:=hm.eb e h1;simp[zC7]at h2
 omega)
theorem zM2 {t:LexD}(h1:jN t.r=true) (h2:t.c.length=t.r.length) (h3:0<t.n.length) (h4:t.e.length=t.n.length) (h5:∀c∈t.c,0<=c/\c<t.c.length) (h6:zFn t.c=true) (h7:t.e.any zC7=false) :
  mayT t=!t.n.any (eU (xS t.c) t.n.length):=by
 have e:t.n.all (rowB (xS t.c) t.n.length)=!t.n.any (eU (xS t.c) t.n.length):=by
  rw[List.not_any_eq_all_not]
  congr 1
  funext l
  rw[zN1,Bool.not_not]
 have e2:t.e.all (λe=>decide (-1<=e))=true:=by
  rw[Ax5];intro x hx;rw[Aw1]at h7;have:=h7 x hx;simp[zC7]at this
  simpa using this
 have e3:t.c.all (inB 0 t.c.length)=true:=by
  rw[Ax5];intro x hx;have:=h5 x hx;simp[inB]
  exact this
 unfold mayT;rw[h1,e3,h6,e2,e,decide_eq_true (show t.c.length=t.r.length/\0<t.n.length/\t.e.length=t.n.length from ⟨h2,h3,h4⟩)];simp
theorem zEg {C:List Int}(h:∀j:Nat,(j:Int)<xS C->hasB j C=true):zFn C=true:=by
 unfold zFn;rw[Ax5];intro j hj;rw[<-zAx];exact h j (by have:=At2.1 hj;omega)
theorem zC2 {C:List Int}{j:Nat}(hj:(j:Int)<xS C) (h:hasB j C=false):zFn C=false:=by
 unfold zFn;rw[List.all_eq_false];exact⟨j,At2.2 oM,by rw[<-zAx,h];simp⟩
def MayW (w:World) (b:Nat) (rs cs ns es:Sl) (v:Int) (wr:World):Prop :=
 (wr.cell? ⟨w.heap.size,0,none⟩=some (slV rs)/\wr.cell? ⟨w.heap.size,1,none⟩=some (slV cs)/\wr.cell? ⟨w.heap.size,2,none⟩=some (slV ns)/\wr.cell? ⟨w.heap.size,3,none⟩=some (slV es))/\(wr.cell? ⟨b,0,none⟩=some (.int .i64 v)/\wr.frozen? ⟨b,0,none⟩=false)/\Cf w wr/\w.heap.size<b
theorem MayW.chg {w wr wx:World}{b:Nat}{rs cs ns es:Sl}{v:Int}(h:MayW w b rs cs ns es v wr) (hc:Cf wr wx):MayW w b rs cs ns es v wx:=by
 obtain⟨⟨h0,h1,h2,h3⟩,⟨h4,h5⟩,h6,h7⟩:=h;exact⟨⟨hc.cellS h0 iD,hc.cellS h1 iD,hc.cellS h2 iD,hc.cellS h3 iD⟩,⟨hc.cellS h4 iD,(hc.frozen (p:=⟨b,0,none⟩) (Az6 _ _ h4) iD).trans h5⟩,h6.trans hc,h7⟩
theorem MayW.set {w wr:World}{b:Nat}{rs cs ns es:Sl}{v:Int}(h:MayW w b rs cs ns es v wr) (v':Int):MayW w b rs cs ns es v' (wr.setCell ⟨b,0,none⟩ (.int .i64 v')):=by
 obtain⟨⟨h0,h1,h2,h3⟩,⟨h4,h5⟩,h6,h7⟩:=h;have hs:=zA wr b 0 (.int .i64 v');exact⟨⟨hs.cellS h0 (by simp only;omega),hs.cellS h1 (by simp only;omega),hs.cellS h2 (by simp only;omega),hs.cellS h3 (by simp only;omega)⟩,⟨Az9 _ _ _ h4,(Az4 _ _ _ _).trans h5⟩,(h6.any.trans (hs.mono (T:=λk=>w.heap.size<=k) (λk _ e=>oM))).fresh,h7⟩
theorem zK0 (t:LexD) (rs cs ns es:Sl) (B:Nat) (w:World) (h:TabIn w B rs cs ns es t) (hf:Fair t) :
  Calls Tryz.prog 84 #[lexV rs cs ns es] w λe w'=>e=.returned (.bool (mayT t))/\Cf w w':=by
 obtain⟨ra,rn,rc⟩:=rs;obtain⟨ca,cn,cc⟩:=cs;obtain⟨na,nn,nc⟩:=ns;obtain⟨ea,en,ec⟩:=es;obtain⟨hR,hC,hN,hE⟩:=h;obtain⟨fr,fc,fn,fe,fl⟩:=hf;obtain⟨rfl,hr1⟩:=hR.len;obtain⟨rfl,hc1⟩:=hC.len;obtain⟨rfl,hn1⟩:=hN.len;obtain⟨rfl,he1⟩:=hE.len;have HR:=jh hR;have HC:=jh hC;have HN:=jh hN;have HE:=jh hE;have HL:=jh fl;have HT0:Hd (∀wx,Cf (w.alloc (.cells #[.slice ra t.r.length rc,.slice ca t.c.length cc,.slice na t.n.length nc,.slice ea t.e.length ec] 28)) wx->wx.cell? ⟨w.heap.size,0,none⟩=some (.slice ra t.r.length rc)/\wx.cell? ⟨w.heap.size,1,none⟩=some (.slice ca t.c.length cc)/\wx.cell? ⟨w.heap.size,2,none⟩=some (.slice na t.n.length nc)/\wx.cell? ⟨w.heap.size,3,none⟩=some (.slice ea t.e.length ec)) :=
  jh (λwx hx=>(zQ5 w (ra,t.r.length,rc) (ca,t.c.length,cc) (na,t.n.length,nc) (ea,t.e.length,ec) 28).chg hx iD)
 clear hR hC hN hE fl;show Calls Tryz.prog 84 #[.agg #[.slice ra t.r.length rc,.slice ca t.c.length cc,.slice na t.n.length nc,.slice ea t.e.length ec]] w _;cases hap:jN t.r with
 | false =>
  have HF:Hd (mayT t=false):=jh (uU (λhm=>by rw[hm.ap]at hap;cases hap));have HAP:=jh hap;clear hap;go_enter Tryz.func84,Tryz.ntmps84
  go_wp2_with fail
  refine (cY t.r ra rc B _ (HR.o.same ((Chg.refl _ _).alloc _)) fr).mono ?_;rintro e w1 ⟨rfl,h1c⟩;rw[HAP.o];have HC1:=jh (((Chg.refl _ w).alloc _).trans h1c);clear h1c;go_wp2;go_ret
  exact⟨by rw[HF.o];rfl,HC1.o⟩
 | true =>
  have HAP:=jh hap;clear hap;by_cases g1:t.c.length=t.r.length
  .by_cases g2:0<t.n.length
   .by_cases g3:t.e.length=t.n.length
    .have d1:((t.c.length:Int) != (t.r.length:Int))=false:=by simp[g1]
     have d2:decide ((t.n.length:Int)<1)=false:=decide_eq_false oM;have d3:((t.e.length:Int) != (t.n.length:Int))=false:=(by simp[g3]);have d2':decide (t.n.length<1)=false:=decide_eq_false oM;have HG1:=jh g1;have HG3:=jh g3;clear g1 g3;go_enter Tryz.func84,Tryz.ntmps84
     go_wp2_with fail
     refine (cY t.r ra rc B _ (HR.o.same ((Chg.refl _ _).alloc _)) fr).mono ?_;rintro e w1 ⟨rfl,h1c⟩;rw[HAP.o];have HC1:=jh (((Chg.refl _ w).alloc _).trans h1c);obtain⟨q0,q1,q2,q3⟩:=HT0.o w1 h1c;have HQ:=jh (HT0.o w1 h1c);have hlt:w.heap.size<w1.heap.size:=(by have:=h1c.size;simp at this;omega);clear h1c;have HM0:Hd (MayW w w1.heap.size (ra,t.r.length,rc) (ca,t.c.length,cc) (na,t.n.length,nc) (ea,t.e.length,ec) (xS (t.c.take 0)) (w1.alloc (.cells #[.int .i64 0] 3))):=jh (by
      have ha:=(Chg.refl (λ_=>False) w1).alloc (.cells #[.int .i64 0] 3);exact⟨⟨ha.cellS HQ.o.1 iD,ha.cellS HQ.o.2.1 iD,ha.cellS HQ.o.2.2.1 iD,ha.cellS HQ.o.2.2.2 iD⟩,⟨by simp[xS],Az8 _ _ _ _⟩,HC1.o.alloc _,hlt⟩)
     obtain⟨⟨y0,y1,y2,y3⟩,-,-,-⟩:=HM0.o;unfold slV at y0 y1 y2 y3;simp only at y0 y1 y2 y3;go_wp2;clear y0 y1 y2 y3
     go_loopw [38] (λq wr=>∃k:Nat,k<=t.c.length/\q=.int .i64 k/\(∀(j:Nat) c,j<k->t.c[j]?=some c->0<=c/\c<t.c.length)/\MayW w w1.heap.size (ra,t.r.length,rc) (ca,t.c.length,cc) (na,t.n.length,nc) (ea,t.e.length,ec) (xS (t.c.take k)) wr) (λq _=>t.c.length-(intOf q).toNat)
     case atStart=>exact⟨0,oM,rfl,λj y h=>absurd h (Ax _),HM0.o⟩
     case round =>
      clear HM0;obtain⟨k,hk,rfl,hb,hm⟩:=hrel;have HB:=jh hb;have HM:=jh hm;obtain⟨⟨q0,q1,q2,q3⟩,⟨m0,m1⟩,hcw,-⟩:=hm;unfold slV at q0 q1 q2 q3;simp only at q0 q1 q2 q3;have HCW:=jh hcw;clear hb hcw;obtain⟨v,hv⟩:∃x,xS (t.c.take k)=x:=⟨_,rfl⟩;rw[hv]at m0;have HV:=jh hv;by_cases hkl:k<t.c.length
      .have b9:decide ((k:Int)<(t.c.length:Int))=true:=by simp;omega
       obtain⟨c,g,o,hx,rfl,c0,x0,x1,-,-⟩:=(HC.o.same HCW.o).getI hkl;have HX:=jh hx;clear hx hv;by_cases h1:c<0
       .have d5:decide (c<0)=true:=by simpa using h1
        have HF:Hd (mayT t=false):=jh (uU (λhm=>by have:=hm.cb c (Az2 HX.o);omega));go_wp2;go_ret
        exact⟨by rw[HF.o];rfl,HCW.o⟩
       .have d5:decide (c<0)=false:=by simpa using h1
        by_cases h2:(t.c.length:Int)<=c
        .have d6:decide ((t.c.length:Int)<=c)=true:=by simpa using h2
         have HF:Hd (mayT t=false):=jh (uU (λhm=>by have:=hm.cb c (Az2 HX.o);omega));go_wp2;go_ret
         exact⟨by rw[HF.o];rfl,HCW.o⟩
        .have d6:decide ((t.c.length:Int)<=c)=false:=by simpa using h2
         have HB2:Hd (∀(j:Nat) c,j<k+1->t.c[j]?=some c->0<=c/\c<t.c.length):=jh (λj y hj hy=>by
          by_cases he:j=k
          .subst he;rw[HX.o]at hy;obtain rfl:=Az3 hy;omega
          .exact HB.o j y oM hy)
         have HNV:Hd (xS (t.c.take (k+1))=max v (c+1)):=jh (by rw[bL HX.o,HV.o]);have HM2:Hd (MayW w w1.heap.size (ra,t.r.length,rc) (some ⟨g,o,none⟩,t.c.length,cc) (na,t.n.length,nc) (ea,t.e.length,ec) (xS (t.c.take (k+1))) (wr.setCell ⟨w1.heap.size,0,none⟩ (.int .i64 (if v<c+1 then c+1 else v)))):=jh (by
          rw[HNV.o,show max v (c+1)=if v<c+1 then c+1 else v by split <;> omega];exact HM.o.set _)
         clear HM;go_wp2;go_roundw
         case rel=>exact⟨k+1,oM,by go_num,HB2.o,HM2.o⟩
         case measure=>simp[intOf];omega
      .obtain rfl:k=t.c.length:=oM
       rw[Ay5]at HV;have HM3:=HM;rw[Ay5,HV.o]at HM3;have HCB:Hd (∀c∈t.c,0<=c/\c<t.c.length):=jh (λc hc=>by
        obtain⟨j,hj⟩:=Ax7 hc;exact HB.o j c (Az1.1 hj).1 hj)
       have hv0:0<=v:=(by rw[<-HV.o];exact tW _);have hv1:v<=t.c.length:=(by rw[<-HV.o];exact fY oM (λc hc=>(HCB.o c hc).2));clear hv HM HB;go_wp2
       go_loopw [57] (λq wr=>∃k:Nat,(k:Int)<=v/\q=.int .i64 k/\(∀(j:Nat),j<k->hasB j t.c=true)/\MayW w w1.heap.size (ra,t.r.length,rc) (ca,t.c.length,cc) (na,t.n.length,nc) (ea,t.e.length,ec) v wr) (λq _=>v.toNat-(intOf q).toNat)
       case atStart=>exact⟨0,oM,rfl,λj h=>absurd h (Ax _),HM3.o⟩
       case round =>
        clear HM3 q0 q1 q2 q3 m0 m1 HCW;obtain⟨k,hk,rfl,hb,hm⟩:=hrel;have HB:=jh hb;have HM:=jh hm;obtain⟨⟨q0,q1,q2,q3⟩,⟨m0,m1⟩,hcw,-⟩:=hm;unfold slV at q0 q1 q2 q3;simp only at q0 q1 q2 q3;have HCW:=jh hcw;clear hb hcw;by_cases hkl:(k:Int)<v
        .have b9:decide ((k:Int)<v)=true:=by simpa using hkl
         cases hh:hasB k t.c with
         | true =>
          have HB2:Hd (∀(j:Nat),j<k+1->hasB j t.c=true):=jh (λj hj=>by
           by_cases he:j=k
           .subst he;exact hh
           .exact HB.o j oM)
          have HH:=jh hh;clear hh;go_wp2_with fail
          refine (zBt k t.c ca cc B wr (HC.o.same HCW.o) fc).mono ?_;rintro e w2 ⟨rfl,h2c⟩;rw[HH.o];have HM2:=jh (HM.o.chg h2c);clear h2c HM;go_wp2;go_roundw
          case rel=>exact⟨k+1,oM,by go_num,HB2.o,HM2.o⟩
          case measure=>simp[intOf];omega
         | false =>
          have HF:Hd (mayT t=false):=jh (uU (λhm=>by
           have h1:=hm.fill;rw[zC2 (j:=k) (by rw[HV.o];exact hkl) hh]at h1;cases h1))
          have HH:=jh hh;clear hh;go_wp2_with fail
          refine (zBt k t.c ca cc B wr (HC.o.same HCW.o) fc).mono ?_;rintro e w2 ⟨rfl,h2c⟩;rw[HH.o];have HC2:=jh (HCW.o.trans h2c);clear h2c;go_wp2;go_ret
          exact⟨by rw[HF.o];rfl,HC2.o⟩
        .obtain rfl:(k:Int)=v:=oM
         have b9:decide ((k:Int)<(k:Int))=false:=sI;have HFI:Hd (zFn t.c=true):=jh (zEg (λj hj=>HB.o j (by rw[HV.o]at hj;omega)));have eg:=enters_of Tryz.func126 kR rfl;go_wp2_with fail
         refine (pQ _ _ zC7 t.e ea ec B wr eg (HE.o.same HCW.o) (zNm wr) fe).mono ?_;rintro e w2 ⟨rfl,h2c⟩;have HM2:=jh (HM.o.chg h2c);have HC2:=jh (HCW.o.trans h2c);clear h2c HM HCW eg q0 q1 q2 q3 m0 m1;cases he:t.e.any zC7 with
         | true =>
          have HF:Hd (mayT t=false):=jh (zM3 he);clear he;go_wp2;go_ret
          exact⟨by rw[HF.o];rfl,HC2.o⟩
         | false =>
          have HF:Hd (mayT t=!t.n.any (eU (k:Int) t.n.length)):=jh (by
           have:=zM2 HAP.o HG1.o g2 HG3.o HCB.o HFI.o he;rw[HV.o]at this;exact this)
          clear he;obtain⟨⟨q0,q1,q2,q3⟩,⟨m0,m1⟩,-,-⟩:=HM2.o;unfold slV at q0 q1 q2 q3;simp only at q0 q1 q2 q3;have eg:=enters_of Tryz.func128 kR rfl;have HG:=jh (zNk w1.heap.size w.heap.size t.n.length B k na nc w2 m0 q2);go_wp2_with fail
          refine (zFu _ _ (eU (k:Int) t.n.length) t.n na nc B w2 eg (HN.o.same HC2.o) HG.o fn HL.o).mono ?_;rintro e w3 ⟨rfl,h3c⟩;have HC3:=jh (HC2.o.trans h3c);clear h3c eg;cases hb:t.n.any (eU (k:Int) t.n.length) with
          | true =>
           rw[hb]at HF;go_wp2;go_ret
           exact⟨by rw[HF.o];rfl,HC3.o⟩
          | false =>
           rw[hb]at HF;go_wp2;go_ret
           exact⟨by rw[HF.o];rfl,HC3.o⟩
    .have d1:((t.c.length:Int) != (t.r.length:Int))=false:=by simp[g1]
     have d2:decide ((t.n.length:Int)<1)=false:=decide_eq_false oM;have d2':decide (t.n.length<1)=false:=decide_eq_false oM;have d3:((t.e.length:Int) != (t.n.length:Int))=true:=sO;have HG1:=jh g1;clear g1;have HF:Hd (mayT t=false):=jh (uU (λhm=>g3 hm.el));go_enter Tryz.func84,Tryz.ntmps84
     go_wp2_with fail
     refine (cY t.r ra rc B _ (HR.o.same ((Chg.refl _ _).alloc _)) fr).mono ?_;rintro e w1 ⟨rfl,h1c⟩;rw[HAP.o];have HC1:=jh (((Chg.refl _ w).alloc _).trans h1c);obtain⟨q0,q1,q2,q3⟩:=HT0.o w1 h1c;clear h1c;go_wp2;go_ret
     exact⟨by rw[HF.o];rfl,HC1.o⟩
   .have d1:((t.c.length:Int) != (t.r.length:Int))=false:=by simp[g1]
    have d2:decide ((t.n.length:Int)<1)=true:=decide_eq_true oM;have d2':decide (t.n.length<1)=true:=decide_eq_true oM;have HG1:=jh g1;clear g1;have HF:Hd (mayT t=false):=jh (uU (λhm=>g2 hm.nl));go_enter Tryz.func84,Tryz.ntmps84
    go_wp2_with fail
    refine (cY t.r ra rc B _ (HR.o.same ((Chg.refl _ _).alloc _)) fr).mono ?_;rintro e w1 ⟨rfl,h1c⟩;rw[HAP.o];have HC1:=jh (((Chg.refl _ w).alloc _).trans h1c);obtain⟨q0,q1,q2,q3⟩:=HT0.o w1 h1c;clear h1c;go_wp2;go_ret
    exact⟨by rw[HF.o];rfl,HC1.o⟩
  .have d1:((t.c.length:Int) != (t.r.length:Int))=true:=by simp;omega
   have HF:Hd (mayT t=false):=jh (uU (λhm=>g1 hm.cl));go_enter Tryz.func84,Tryz.ntmps84
   go_wp2_with fail
   refine (cY t.r ra rc B _ (HR.o.same ((Chg.refl _ _).alloc _)) fr).mono ?_;rintro e w1 ⟨rfl,h1c⟩;rw[HAP.o];have HC1:=jh (((Chg.refl _ w).alloc _).trans h1c);obtain⟨q0,q1,q2,q3⟩:=HT0.o w1 h1c;clear h1c;go_wp2;go_ret
   exact⟨by rw[HF.o];rfl,HC1.o⟩
end Go.Proofs.YtgnpmceimpjheaaGreat
