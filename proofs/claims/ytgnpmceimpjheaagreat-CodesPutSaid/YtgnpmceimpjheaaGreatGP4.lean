/- A part of the proof: RowsP RowsQ TakeP TakeQ RowsV CodP EncD CodM CodG CodL PtA PtB. -/
import Derived.Test.YtgnpmceimpjheaaGreatGP3
import Derived.Test.YtgnpmceimpjheaaGreatGP2
import Derived.Test.YtgnpmceimpjheaaGreatGP1
import Derived.OwnWalk
set_option maxRecDepth 100000
set_option maxHeartbeats 16000000
namespace Go.Proofs.YtgnpmceimpjheaaGreat
open Go.RowKit
def zY:Int->List (Int×Int)->List Int
 | _,[]=>[]
 | last,c :: l=>(c.1-last) :: (c.2+1) :: zY c.1 l
def mE (last:Int) (l:List (Int×Int)):Int:=l.foldl (λ_ c=>c.1) last
theorem zHx (last:Int) (l:List (Int×Int)) (c:Int×Int):mE last (l++[c])=c.1:=by simp[mE]
theorem eA:∀(l:List (Int×Int)) (last:Int) (c:Int×Int),zY last (l++[c])=zY last l++[c.1-mE last l,c.2+1]
 | [],last,c=>rfl
 | x :: l,last,c=>by
  have:=eA l x.1 c;simp only[Au9,zY,this]
  rfl
def xG (r:RowD):List Int:=(r.1+1) :: (r.2.length:Int) :: zY 0 r.2
def xU:TabD->List Int
 | (W,R,O)=>W :: (R.length:Int) :: (R.flatMap xG++(O.length:Int) :: O)
def bytesOf (L:List Int):List Int:=L.flatMap (λn=>putL n.toNat)
def mC (t:TabD):List Int:=bytesOf (xU t)
theorem zDm (X Y:List Int):bytesOf (X++Y)=bytesOf X++bytesOf Y:=by simp[bytesOf]
theorem zBu (X:List Int) (z:Int):bytesOf (X++[z])=bytesOf X++putL z.toNat:=by simp[bytesOf]
theorem zBv (X:List Int):∀a∈bytesOf X,Byte a:=λa ha=>by
 obtain⟨n,_,h⟩:=List.mem_flatMap.1 ha;exact dQ _ a h
theorem zAd (X:List Int) (h:∀n∈X,0<=n/\n<4294967296):(bytesOf X).length<=5 * X.length:=by
 induction X with
 | nil=>simp[bytesOf]
 | cons x X ih =>
  have h1:=ih (λn hn=>h n (by simp[hn]));have h2:=h x sI;have h3:bytesOf (x :: X)=putL x.toNat++bytesOf X:=by simp[bytesOf]
  have h4:=sG (n:=x.toNat) oM;rw[h3,Az0,Ax2];omega
theorem zH3 {X:List Int}(h:X≠[]):0<(bytesOf X).length:=by
 cases X with
 | nil=>exact absurd rfl h
 | cons x X =>
  have h3:bytesOf (x :: X)=putL x.toNat++bytesOf X:=by simp[bytesOf]
  rw[h3,Az0];have:=zPu x.toNat;omega
structure Fld8 (br:Nat) (w:World) (v:Value) (X:List Int):Prop where
 c:w.cell? ⟨br,0,none⟩=some v
 z:w.frozen? ⟨br,0,none⟩=false
 own:Own w (br+1) v X
theorem Fld8.lt {br:Nat}{w:World}{v:Value}{X:List Int}(h:Fld8 br w v X):br<w.heap.size:=Az6 _ _ h.c
theorem Fld8.chg {S:Nat->Prop}{br:Nat}{w w':World}{v:Value}{X:List Int}(h:Fld8 br w v X) (hc:Chg S w w') (hs:∀g,br<=g->g<w.heap.size->¬S g):Fld8 br w' v X :=
 ⟨hc.cellS h.c (hs br (Ay _) h.lt),(hc.frozen (p:=⟨br,0,none⟩) h.lt (hs br (Ay _) h.lt)).trans h.z,h.own.chg hc (λg hg=>hs g oM)⟩
theorem Fld8.step {br:Nat}{w w1:World}{v v':Value}{X X':List Int}(h:Fld8 br w v X) (ho:Own w1 (br+1) v' X') (hc:Chg (λk=>br+1<=k) w w1) :
  (w1.cell? ⟨br,0,none⟩=some v/\w1.frozen? ⟨br,0,none⟩=false)/\Fld8 br (w1.setCell ⟨br,0,none⟩ v') v' X'/\Chg (λk=>br<=k) w (w1.setCell ⟨br,0,none⟩ v'):=by
 have hlt:=h.lt;have c1:=hc.cellS h.c (by show ¬br+1<=br;omega);have z1:=(hc.frozen (p:=⟨br,0,none⟩) hlt (by show ¬br+1<=br;omega)).trans h.z;exact⟨⟨c1,z1⟩,⟨Az9 _ _ _ c1,(Az4 _ _ _ _).trans z1,ho.chg (zA _ _ _ _) (λg hg _ e=>oM)⟩,(hc.mono (λk _ e=>oM)).trans ((zA w1 br 0 v').mono (λk _ e=>oM))⟩
theorem zMm {w:World}{B:Nat}{v:Value}{X:List Int}(h:Own w B v X) {g:Nat}(hg:v.ownBlock=some g):B<=g/\g<w.heap.size:=Elt.Own.blk (jW.2 h) hg
theorem Own.shape3 {w:World}{B:Nat}{v:Value}{X:List Int}(h:Own w B v X):∃a n c,v=.slice a n c:=by
 obtain⟨a,c,h⟩:=h.shape;exact⟨a,_,c,h⟩
theorem nC (z:Int) (bo:Nat) (v:Value) (X:List Int) (w:World) (h:Fld8 bo w v X) (hz:0<=z/\z<4294967296) (hl:X.length<=1000000000) :
  Calls Tryz.prog 158 #[.int .i64 z,.pointer (some ⟨bo,0,none⟩)] w λe w'=>∃v',e=.returned (.tuple #[])/\Fld8 bo w' v' (X++putL z.toNat)/\Chg (λk=>k=bo\/v.ownBlock=some k) w w'/\(∀g,v'.ownBlock=some g->v.ownBlock=some g\/w.heap.size<=g):=by
 obtain⟨n,rfl⟩:=Aw8 hz.1;have hn:n<4294967296:=oM
 rw[Ay6];clear hz;have HF:=jh h;have hbl:=h.lt;obtain⟨va,vl,vc,rfl⟩:=h.own.shape3;obtain⟨wd,hwd⟩:∃wd,wd=w.drew:=⟨_,rfl⟩;have HWD:Hd (Cf w wd):=jh (by rw[hwd];exact (Chg.refl _ _).drew);have HWE:Hd (w.drew=wd):=jh hwd.symm;have HFD:=jh (HF.o.chg HWD.o (λ_ _ _ h=>h));have hw5:IntKind.u32.wrap (n:Int)=n:=by rw[IntKind.wrap_u32];omega
 clear h hwd;go_enter Tryz.func158,Tryz.ntmps158
 refine zC (λx=>Chg (λj=>bo+1<=j) wd x) (λi=>decide (i=5)) kR ?_;show yN _ _ _ _ _ _ 6 (Array.replicate 6 false) _ w.drew;rw[HWE.o];have HSS:Hd (Chg (λj=>bo+1<=j) wd wd):=jh cR;(refine lq 0 HSS.o ?_ (hr:=by intro w' hC;have q:=hC.cellS HFD.o.c (show ¬bo+1<=bo by omega);go_simp;try with_reducible rfl));(refine lq 1 HSS.o ?_);(refine lq 2 HSS.o ?_);refine yE (i:=3) kR rfl rfl 62 #[.slice none 0 0,.int .u32 n] (λu w''=>∃h,u=.slice (some ⟨h,0,none⟩) ([]++putL n).length ([]++putL n).length/\Row w'' h ([]++putL n)/\Cf wd w'') (by go_simp) ?_ ?_
 .refine (zMh [] n none 0 0 0 wd ⟨λk a hk=>by simp at hk,λh=>(h rfl).elim⟩ (λh=>by simp at h) sI hn).mono ?_
  rintro e w2 ⟨h,rfl,_,h2,h3⟩;exact⟨_,rfl,λ_=>h3.any,h,rfl,h2,h3⟩
 rintro u w2 hs2 ⟨h,rfl,hr,hc⟩ K hK;have HSS:=jh (hs2 dE);have HF2:=jh (HFD.o.chg hc (λ_ _ _ h=>h));have HR:=jh hr;have HC:=jh hc;rw[Aw7]at HR ⊢;obtain⟨PL,hPL⟩:∃PL,(putL n).length=PL:=⟨_,rfl⟩;have HPL:=jh hPL;rw[hPL];clear hs2 hr hc hPL;(try go_simp)
 refine hK _ ?_;clear hK K;refine xE (i:=4) kR rfl rfl (.tmp 3) (.tmp 6) 45 45 rfl (.slice va vl vc) (.slice (some ⟨h,0,none⟩) PL PL) rfl rfl (λv' w1=>Own w1 (bo+1) v' (X++putL n)/\Chg (λj=>bo+1<=j) w2 w1/\Chg (λk=>(Value.slice va vl vc).ownBlock=some k) w2 w1/\(v'.ownBlock=(Value.slice va vl vc).ownBlock\/v'.ownBlock=some w2.heap.size)) ?_ ?_
 .have hsrc:=tN (c:=PL) (HR.o.bytes (Aw6 _)) (λ_=>rfl)
  rw[HPL.o]at hsrc;have h5:=sG hn;obtain⟨v',w1,hrun,h1,h2,⟨h3,h4⟩,-⟩:=(jW.2 HF2.o.own).append (by have:=HF2.o.lt;omega) 45 (.slice (some ⟨h,0,none⟩) PL PL) (putL n) (by rw[HPL.o,eC];exact hsrc) (dQ n) oM 45;exact⟨v',w1,hrun,λ_=>HSS.o.trans h2,jW.1 h1,h2,h3,h4⟩
 rintro v' w1 hs ⟨h1,h2,h3,h4⟩ K hK;obtain⟨va',vl',vc',hv'⟩:=h1.shape3;subst hv';obtain⟨⟨k1,k2⟩,hf1,hf2⟩:=HF2.o.step h1 h2;have HFF:=jh hf1;have HCF:Hd (Chg (λk=>k=bo\/(Value.slice va vl vc).ownBlock=some k) w (w1.setCell ⟨bo,0,none⟩ (.slice va' vl' vc'))):=jh (((HWD.o.any.trans HC.o.any).trans (h3.mono (λk _ e=>.inr e))).trans ((zA w1 bo 0 _).mono (λk _ e=>.inl e)));have HBK:Hd (∀g,(Value.slice va' vl' vc').ownBlock=some g->(Value.slice va vl vc).ownBlock=some g\/w.heap.size<=g):=jh (λg hg=>by
  rcases h4 with h4|h4
  .rw[h4]at hg;exact .inl hg
  .rw[h4]at hg
   obtain rfl:=Az3 hg;exact .inr (HWD.o.trans HC.o).size)
 clear hf1 hf2 h1 h2 h3 h4 hs;(try go_simp)
 refine hK _ ?_;clear hK K;(refine ld 5 ?_);refine yA kR ?_ _;go_wp2;go_end0
 exact⟨_,rfl,HFF.o,HCF.o,HBK.o⟩
theorem cU:∀(X Y:List (Int×Int)) (last:Int),zY last (X++Y)=zY last X++zY (mE last X) Y
 | [],Y,last=>rfl
 | x :: X,Y,last=>by
  have:=cU X Y x.1;simp only[Au9,zY,this]
  rfl
theorem zC5 {W:Nat}{d:Int}(hW:W<=65536):∀(l:List (Int×Int)) (lf lp:Int),yQ W d lf l=true->lp<=lf+1->0<=lp->∀n∈zY lp l,0<=n/\n<4294967296
 | [],_,_,_,_,_,n,hn=>by cases hn
 | c :: l,lf,lp,h,h1,h2,n,hn=>by
  simp only[yQ,Ay2,decide_eq_true_eq]at h;obtain⟨⟨⟨⟨g1,g2⟩,g3⟩,-⟩,g5⟩:=h;simp only[zY,Ax3]at hn;rcases hn with rfl|rfl|hn
  .omega
  .omega
  .exact zC5 hW l c.1 c.1 g5 oM oM n hn
theorem kJ {W:Nat}{r:RowD}(hW:W<=65536) (h:vU W r=true):kE r.1/\r.2.length<=W/\∀n∈xG r,0<=n/\n<4294967296:=by
 obtain⟨d,cs⟩:=r;by_cases h0:W=0
 .subst h0
  simp only[vU,if_true,Ay2,decide_eq_true_eq]at h;obtain⟨rfl,rfl⟩:=h;refine⟨dE,Ay _,λn hn=>?_⟩;simp[xG,zY]at hn
  subst hn;omega
 .simp only[vU,if_neg h0,Ay2,decide_eq_true_eq]at h
  obtain⟨⟨⟨h1,-⟩,h3⟩,h4⟩:=h;refine⟨h3,by show cs.length<=W;omega,λn hn=>?_⟩;simp only[xG,Ax3]at hn;rcases hn with rfl|rfl|hn
  .show 0<=d+1/\d+1<4294967296
   omega
  .show 0<=(cs.length:Int)/\(cs.length:Int)<4294967296
   omega
  .exact zC5 hW cs (-1) 0 h1 oM oM n hn
theorem zCk:∀(l:List Int) (next m r:Int),rA next m l=some r->∀i∈l,0<=i/\i<m
 | [],_,_,_,_,i,hi=>by cases hi
 | x :: l,next,m,r,h,i,hi=>by
  simp only[rA]at h
  split at h
  .cases h
  .rcases Ax3.1 hi with rfl|hi
   .omega
   .exact zCk l _ m r h i hi
theorem jY {W:Int}{R:List RowD}{O:List Int}(h:mayL (W,R,O)=true):(∀n∈xU (W,R,O),0<=n/\n<4294967296)/\R.length<=O.length:=by
 obtain⟨h1,h2,h3,h4⟩:=gE h;have hle:=zFa O 0 R.length _ h2;refine⟨λn hn=>?_,oM⟩;simp only[xU,Ax3,Av2,List.mem_flatMap]at hn;rcases hn with rfl|rfl|⟨r,hr,hn⟩|rfl|hn
 .omega
 .omega
 .exact (kJ oM (h3 r hr)).2.2 n hn
 .omega
 .have:=zCk O 0 R.length _ h2 n hn
  omega
theorem zJe {W:Int}{R:List RowD}{O:List Int}{k:Nat}{r:RowD}(h:R[k]?=some r):xU (W,R,O)=(W :: (R.length:Int) :: (R.take k).flatMap xG)++(xG r++((R.drop (k+1)).flatMap xG++(O.length:Int) :: O)):=by
 have h1:=(Az1.1 h).1;have h2:R=R.take k++r :: R.drop (k+1):=by
  rw[<-(Az1.1 h).2,<-Au2 h1,List.take_append_drop]
 simp only[xU];rw[show R.flatMap xG=(R.take k++r :: R.drop (k+1)).flatMap xG by rw[<-h2]];simp
theorem zG5 {d:Int}{cs:List (Int×Int)}{j:Nat}{c:Int×Int}(h:cs[j]?=some c):xG (d,cs)=((d+1) :: (cs.length:Int) :: zY 0 (cs.take j))++((c.1-mE 0 (cs.take j)) :: (c.2+1) :: zY c.1 (cs.drop (j+1))):=by
 have h1:=(Az1.1 h).1;have h2:cs=cs.take j++c :: cs.drop (j+1):=by
  rw[<-(Az1.1 h).2,<-Au2 h1,List.take_append_drop]
 simp only[xG];rw[show zY 0 cs=zY 0 (cs.take j++c :: cs.drop (j+1)) by rw[<-h2],cU];simp[zY]
theorem zP0 {W:Int}{R:List RowD}{O:List Int}{k:Nat}{i:Int}(h:O[k]?=some i):xU (W,R,O)=((W :: (R.length:Int) :: R.flatMap xG)++[(O.length:Int)]++O.take k)++(i :: O.drop (k+1)):=by
 have h1:=(Az1.1 h).1;simp only[xU];rw[<-(Az1.1 h).2,<-Au2 h1];simp
structure Apart1 (bo:Nat) (w:World) (v:Value) (b:Nat):Prop where
 ne:b≠bo
 lt:b<w.heap.size
 out:∀g,v.ownBlock=some g->g≠b
theorem Apart1.next {bo:Nat}{w w':World}{v v':Value}{b:Nat}(h:Apart1 bo w v b) {S:Nat->Prop}(hc:Chg S w w') (hb:∀g,v'.ownBlock=some g->v.ownBlock=some g\/w.heap.size<=g):Apart1 bo w' v' b :=
 ⟨h.ne,Ay9 h.lt hc.size,λg hg e=>by
  rcases hb g hg with h1|h1
  .exact h.out g h1 e
  .have:=h.lt;omega⟩
theorem Apart1.keep {bo:Nat}{w w':World}{v:Value}{b:Nat}(h:Apart1 bo w v b) (hc:Chg (λk=>k=bo\/v.ownBlock=some k) w w') {j:Nat}{u:Value}(hu:w.cell? ⟨b,j,none⟩=some u):w'.cell? ⟨b,j,none⟩=some u :=
 hc.cellS hu (λe=>by rcases e with e|e;· exact h.ne e
                     .exact h.out _ e rfl)
structure PutSt (w0:World) (bo:Nat) (w:World) (v:Value) (N:List Int):Prop where
 fld:Fld8 bo w v (bytesOf N)
 chg:Chg (λk=>bo<=k) w0 w
theorem PutSt.put {w0:World}{bo:Nat}{w w':World}{v v':Value}{N:List Int}{z:Int}(h:PutSt w0 bo w v N) (hf:Fld8 bo w' v' (bytesOf N++putL z.toNat)) (hc:Chg (λk=>k=bo\/v.ownBlock=some k) w w'):PutSt w0 bo w' v' (N++[z]) :=
 ⟨by rw[zBu];exact hf,h.chg.trans (hc.mono (λk _ e=>by
  rcases e with e|e
  .omega
  .have:=(zMm h.fld.own e).1;omega))⟩
theorem PutSt.alloc {w0:World}{bo:Nat}{w:World}{v:Value}{N:List Int}(h:PutSt w0 bo w v N) (o:Obj):PutSt w0 bo (w.alloc o) v N :=
 ⟨h.fld.chg ((Chg.refl (λ_=>False) w).alloc o) (λ_ _ _ h=>h),h.chg.alloc o⟩
theorem PutSt.fresh {w0:World}{bo:Nat}{w:World}{v:Value}{N:List Int}(h:PutSt w0 bo w v N) (o:Obj):Apart1 bo (w.alloc o) v w.heap.size :=
 ⟨by have:=h.fld.lt;omega,sI,λg hg e=>by have:=(zMm h.fld.own hg).2;omega⟩
theorem zSw (Z:List Int) (W:Int) (R:List RowD) (O:List Int) (ra oa ab:Option Addr) (rc oc cb gb ob B g o:Nat) (w:World) (hW:I.Byte W) (hR:uN vN rowE w B (ra,R.length,rc) R) (hrl:R.length<=100000000) (hcl:∀r∈R,r.2.length<=1000000000)
  (hO:I.BytesAt w g o O) (ha:0<O.length->oa=some ⟨g,o,none⟩) (hol:O.length<=100000000) (hm:mayL (W,R,O)=true)
  (hb:BytesAt w gb ob Z) (hab:0<Z.length->ab=some ⟨gb,ob,none⟩) (hzl:Z.length<=1000000) (hN:(xU (W,R,O)).length<=10000000) :
  Calls Tryz.prog 117 #[.slice ab Z.length cb,.agg #[.int .i64 W,.slice ra R.length rc,.slice oa O.length oc]] w λe w'=>∃h,e=.returned (.tuple #[.slice (some ⟨h,0,none⟩) (Z++mC (W,R,O)).length (Z++mC (W,R,O)).length,.int .i64 0])/\w.heap.size<=h/\Row w' h (Z++mC (W,R,O))/\Cf w w':=by
 have HC0:=jh ((Chg.refl (λ_=>False) w).alloc (.cells #[.int .i64 W,.slice ra R.length rc,.slice oa O.length oc] 201));have HB0:Hd (∀wr,Cf (w.alloc (.cells #[.int .i64 W,.slice ra R.length rc,.slice oa O.length oc] 201)) wr->wr.cell? ⟨w.heap.size,0,none⟩=some (.int .i64 W)/\wr.cell? ⟨w.heap.size,1,none⟩=some (.slice ra R.length rc)/\wr.cell? ⟨w.heap.size,2,none⟩=some (.slice oa O.length oc)/\w.heap.size<wr.heap.size):=jh λwr hc =>
  ⟨hc.cellS sI iD,hc.cellS sI iD,hc.cellS sI iD,by have:=hc.size;simp at this;omega⟩
 have HR:=jh hR;have HO:=jh hO;have HA:=jh ha;have HCL:=jh hcl;have HM:=jh hm;have HBZ:=jh hb;have HAB:=jh hab;have HT:=jh (jY hm).1;have HRO:=jh (jY hm).2;have HNL:=jh hN;have HBL:Hd (∀(P S:List Int),xU (W,R,O)=P++S->(bytesOf P).length<=100000000):=jh λP S h=>by
  have:=zAd P (λn hn=>HT.o n (by rw[h];simp[hn]));have h2:=congrArg List.length h;simp only[Az0]at h2;omega
 have HWT:=jh (HT.o W (by simp[xU]));have HRT:=jh (HT.o R.length (by simp[xU]));have HOT:=jh (HT.o O.length (by simp[xU]));clear hR hO ha hcl hm hb hab hN;go_enter Tryz.func117,Tryz.ntmps117
 go_wp2_with fail
 refine (zHs W R O ra oa rc oc B g o _ hW (HR.o.same HC0.o) hrl HCL.o (HO.o.chg HC0.o iE) HA.o hol).mono ?_;rintro e w2 ⟨rfl,hc2⟩;rw[HM.o];obtain⟨b0,b1,b2,hb3⟩:=HB0.o w2 hc2;have HC2:=jh (HC0.o.trans hc2);have HS0:Hd (PutSt w2 w2.heap.size (w2.alloc (.cells #[.slice none 0 0] 45)) (.slice none 0 0) []):=jh ⟨⟨by rw[Az7];rfl,Az8 _ _ _ _,.inl ⟨rfl,rfl⟩⟩,(Chg.refl _ _).alloc _⟩;have HBB:Hd (∀wr,Chg (λk=>w2.heap.size<=k) w2 wr->wr.cell? ⟨w.heap.size,0,none⟩=some (.int .i64 W)/\wr.cell? ⟨w.heap.size,1,none⟩=some (.slice ra R.length rc)/\wr.cell? ⟨w.heap.size,2,none⟩=some (.slice oa O.length oc)):=jh λwr hc =>
  ⟨hc.cellS b0 (by show ¬w2.heap.size<=w.heap.size;omega),hc.cellS b1 (by show ¬w2.heap.size<=w.heap.size;omega),hc.cellS b2 (by show ¬w2.heap.size<=w.heap.size;omega)⟩
 obtain⟨wb,hwb⟩:∃wb,wb=w2.alloc (.cells #[.slice none 0 0] 45):=⟨_,rfl⟩;have HWB:=jh hwb;rw[<-hwb]at HS0;obtain⟨b0,b1,b2⟩:=HBB.o (w2.alloc (.cells #[.slice none 0 0] 45)) ((Chg.refl _ _).alloc _);rw[hwb]at HS0;clear hc2 HB0 hwb HWB;go_wp2_with fail
 refine (nC (W) _ _ _ _ HS0.o.fld (HWT.o) (Ay4 (HBL.o _ (xU (W,R,O)) (rfl)) oM)).mono ?_;rintro e w3 ⟨v3,rfl,hf3,hc3,hk3⟩;have HS1:=jh (HS0.o.put hf3 hc3);clear hf3 hc3 hk3;obtain⟨b0,b1,b2⟩:=HBB.o w3 HS1.o.chg;clear HS0;go_wp2_with fail
 refine (nC ((R.length:Int)) _ _ _ _ HS1.o.fld (HRT.o) (Ay4 (HBL.o _ (R.length :: (R.flatMap xG++(O.length:Int) :: O)) (rfl)) oM)).mono ?_;rintro e w4 ⟨v4,rfl,hf3,hc3,hk3⟩;have HS2:=jh (HS1.o.put hf3 hc3);clear hf3 hc3 hk3;obtain⟨b0,b1,b2⟩:=HBB.o w4 HS2.o.chg;clear HS1;go_wp2_with fail
 go_loopw [31] (λq wr=>∃(k:Nat) (v:Value),k<=R.length/\q=.int .i64 k/\PutSt w2 w2.heap.size wr v (W :: (R.length:Int) :: (R.take k).flatMap xG)) (λq _=>R.length-(intOf q).toNat)
 case atStart=>exact⟨0,v4,oM,rfl,by simpa using HS2.o⟩
 case round =>
  clear HS2 b0 b1 b2;obtain⟨k,v,hk,rfl,hs⟩:=hrel;have HS:=jh hs;obtain⟨b0,b1,b2⟩:=HBB.o wr hs.chg;have HCW:=jh (HC2.o.trans (hs.chg.fresh));clear hs;by_cases hkl:k<R.length
  .have b32:decide ((k:Int)<(R.length:Int))=true:=by simp;omega
   obtain⟨r,g',o',xa,xc,hr,rfl,c0,c1,hrb,hin,-,-⟩:=HR.o.get rfl (λ_=>rfl) hkl;obtain⟨rd,rl⟩:=r;simp only at c0 c1 hin hrb;have c0:=HCW.o.cellS c0 iD;have c1:=HCW.o.cellS c1 iD;have HRK:=jh hr;have HIN:=jh hin;have HRL:=jh (HCL.o _ (Az2 hr));have HSP:=jh (zJe (W:=W) (O:=O) hr);have hdb:=HT.o (rd+1) (by rw[HSP.o];simp[xG]);have hlb:=HT.o (rl.length:Int) (by rw[HSP.o];simp[xG]);have HTK:Hd (R.take (k+1)=R.take k++[(rd,rl)]):=jh (by rw[Ay1,hr];rfl);obtain⟨hdb0,hdb1⟩:=hdb;have HDB:=jh (And.intro hdb0 hdb1);have HLB:=jh hlb;have HSA:=jh (HS.o.alloc (.cells #[.int .i64 rd,.slice xa rl.length xc] 241));have HAP:=jh (HS.o.fresh (.cells #[.int .i64 rd,.slice xa rl.length xc] 241));have r0:(wr.alloc (.cells #[.int .i64 rd,.slice xa rl.length xc] 241)).cell? ⟨wr.heap.size,0,none⟩=some (.int .i64 rd):=(by rw[Az7];rfl);have r1:(wr.alloc (.cells #[.int .i64 rd,.slice xa rl.length xc] 241)).cell? ⟨wr.heap.size,1,none⟩=some (.slice xa rl.length xc):=(by rw[Az7];rfl);obtain⟨rb,hrbx⟩:∃rb,rb=wr.heap.size:=⟨_,rfl⟩;clear hr hin hrb hlb;go_wp2_with fail
   refine (nC (rd+1) _ _ _ _ HSA.o.fld (HDB.o) (Ay4 (HBL.o _ (_) (by exact HSP.o)) oM)).mono ?_;rintro e w5 ⟨v5,rfl,hf3,hc3,hk3⟩;have HS5:=jh (HSA.o.put hf3 hc3);have HAP5:=jh (HAP.o.next hc3 hk3);have r05:=HAP.o.keep hc3 r0;have r15:=HAP.o.keep hc3 r1;clear hf3 hc3 hk3;clear HSA HAP r0 r1;go_wp2_with fail
   refine (nC ((rl.length:Int)) _ _ _ _ HS5.o.fld (HLB.o) (Ay4 (HBL.o _ ((rl.length:Int) :: zY 0 rl++((R.drop (k+1)).flatMap xG++(O.length:Int) :: O)) (by rw[HSP.o];simp[xG])) oM)).mono ?_;rintro e w6 ⟨v6,rfl,hf3,hc3,hk3⟩;have HS6:=jh (HS5.o.put hf3 hc3);have HAP6:=jh (HAP5.o.next hc3 hk3);have r06:=HAP5.o.keep hc3 r05;have r16:=HAP5.o.keep hc3 r15;clear hf3 hc3 hk3;clear HS5 HAP5 r05 r15;go_wp2_with fail
   have HRLE:Hd (rl.length<=1000000000):=HRL;clear b0 b1 b2 r06 r16 HAP6 c0 c1 b32 hrbx rb;obtain⟨wi,rfl⟩:∃wi:World,wi=wr:=⟨_,rfl⟩
   go_loopw [10,48] (λlv q wr=>∃(j:Nat) (v:Value),j<=rl.length/\q=.int .i64 j/\lv=.int .i64 (mE 0 (rl.take j))/\PutSt w2 w2.heap.size wr v ((W :: (R.length:Int) :: (R.take k).flatMap xG)++[rd+1]++[(rl.length:Int)]++zY 0 (rl.take j))) (λ_ q _=>rl.length-(intOf q).toNat)
   case atStart=>exact⟨0,v6,oM,rfl,rfl,by simpa [zY] using HS6.o⟩
   case round =>
    clear HS6 HS;obtain⟨j,v,hj,rfl,rfl,hs⟩:=hrel;have HS:=jh hs;have HCJ:=jh (HC2.o.trans (hs.chg.fresh));have hrl9:=HRLE.o;clear hs;by_cases hjl:j<rl.length
    .have b49:decide ((j:Int)<(rl.length:Int))=true:=by simp;omega
     obtain⟨x,gx,ox,u,vv,hx,rfl,hp,c0,c1,hok,-,-⟩:=(HIN.o.same HCJ.o).get2 rfl hjl;obtain⟨rfl,rfl⟩:=zAn hp;obtain⟨x0,x1⟩:=x;obtain⟨⟨p0,p1⟩,⟨p2,p3⟩⟩:=hok;simp only at c0 c1 p0 p1 p2 p3;have HCS:=jh (zG5 (d:=rd) hx);have HSN:Hd (zY 0 (rl.take (j+1))=zY 0 (rl.take j)++[x0-mE 0 (rl.take j),x1+1]):=jh (by rw[Ay1,hx];exact eA _ _ _);have HLN:Hd (mE 0 (rl.take (j+1))=x0):=jh (by rw[Ay1,hx];exact zHx _ _ _);have hd0:=HT.o (x0-mE 0 (rl.take j)) (by rw[HSP.o,HCS.o];simp);have hd1:=HT.o (x1+1) (by rw[HSP.o,HCS.o];simp);obtain⟨lz,hlz⟩:∃lz,mE 0 (rl.take j)=lz:=⟨_,rfl⟩;rw[hlz]at HSN hd0 HCS ⊢;have HD0:=jh hd0;have HD1:=jh hd1;obtain⟨e0,e1⟩:=hd0;obtain⟨e2,e3⟩:=hd1;have HPRE:Hd (xU (W,R,O)=((W :: (R.length:Int) :: (R.take k).flatMap xG)++[rd+1]++[(rl.length:Int)]++zY 0 (rl.take j))++((x0-lz) :: (x1+1) :: zY x0 (rl.drop (j+1))++((R.drop (k+1)).flatMap xG++(O.length:Int) :: O))):=jh (by rw[HSP.o,HCS.o];simp);have HSA:=jh (HS.o.alloc (.cells #[.int .i64 x0,.int .i64 x1] 246));have HAP:=jh (HS.o.fresh (.cells #[.int .i64 x0,.int .i64 x1] 246));have r0:(wr.alloc (.cells #[.int .i64 x0,.int .i64 x1] 246)).cell? ⟨wr.heap.size,0,none⟩=some (.int .i64 x0):=(by rw[Az7];rfl);have r1:(wr.alloc (.cells #[.int .i64 x0,.int .i64 x1] 246)).cell? ⟨wr.heap.size,1,none⟩=some (.int .i64 x1):=(by rw[Az7];rfl);clear hx hp hlz HCS;go_wp2_with fail
     refine (nC (x0-lz) _ _ _ _ HSA.o.fld (HD0.o) (Ay4 (HBL.o _ (_) (by exact HPRE.o)) oM)).mono ?_;rintro e w5 ⟨v5,rfl,hf3,hc3,hk3⟩;have HS5:=jh (HSA.o.put hf3 hc3);have HAP5:=jh (HAP.o.next hc3 hk3);have r05:=HAP.o.keep hc3 r0;have r15:=HAP.o.keep hc3 r1;clear hf3 hc3 hk3;clear HSA HAP r0 r1;go_wp2_with fail
     refine (nC (x1+1) _ _ _ _ HS5.o.fld (HD1.o) (Ay4 (HBL.o _ ((x1+1) :: zY x0 (rl.drop (j+1))++((R.drop (k+1)).flatMap xG++(O.length:Int) :: O)) (by rw[HPRE.o];simp)) oM)).mono ?_;rintro e w6 ⟨v6,rfl,hf3,hc3,hk3⟩;have HS6:=jh (HS5.o.put hf3 hc3);have HAP6:=jh (HAP5.o.next hc3 hk3);have r06:=HAP5.o.keep hc3 r05;have r16:=HAP5.o.keep hc3 r15;clear hf3 hc3 hk3;clear HS5 HAP5 r05 r15;go_wp2;go_roundw
     case rel=>exact⟨j+1,_,oM,by go_num,by rw[HLN.o],by rw[HSN.o];simpa using HS6.o⟩
     case measure=>simp[intOf];omega
    .obtain rfl:j=rl.length:=oM
     have HSX:Hd (PutSt w2 w2.heap.size wr v (W :: (R.length:Int) :: (R.take (k+1)).flatMap xG)):=jh (by
      have:=HS.o;rw[Ay5]at this;rw[HTK.o];simpa [xG] using this)
     clear HS;go_wp2;go_roundw
     case rel=>exact⟨k+1,v,oM,by go_num,HSX.o⟩
     case measure=>simp[intOf];omega
  .obtain rfl:k=R.length:=oM
   have HSX:Hd (PutSt w2 w2.heap.size wr v (W :: (R.length:Int) :: R.flatMap xG)):=jh (by have:=HS.o;rwa [Ay5]at this);clear HS;go_wp2_with fail
   refine (nC ((O.length:Int)) _ _ _ _ HSX.o.fld (HOT.o) (Ay4 (HBL.o _ ((O.length:Int) :: O) (by simp[xU])) oM)).mono ?_;rintro e w4 ⟨v4,rfl,hf3,hc3,hk3⟩;have HS2:=jh (HSX.o.put hf3 hc3);clear hf3 hc3 hk3;obtain⟨b0,b1,b2⟩:=HBB.o w4 HS2.o.chg;clear HSX;go_wp2_with fail
   obtain⟨wi,rfl⟩:∃wi:World,wi=wr:=⟨_,rfl⟩;clear b0 b1 b2 HCW
   go_loopw [75] (λq wr=>∃(k:Nat) (v:Value),k<=O.length/\q=.int .i64 k/\PutSt w2 w2.heap.size wr v ((W :: (R.length:Int) :: R.flatMap xG)++[(O.length:Int)]++O.take k)) (λq _=>O.length-(intOf q).toNat)
   case atStart=>exact⟨0,v4,oM,rfl,by simpa using HS2.o⟩
   case round =>
    clear HS2;obtain⟨k,v,hk,rfl,hs⟩:=hrel;have HS:=jh hs;have HCJ:=jh (HC2.o.trans (hs.chg.fresh));obtain⟨b0,b1,b2⟩:=HBB.o wr hs.chg;clear hs;by_cases hkl:k<O.length
    .have b76:decide ((k:Int)<(O.length:Int))=true:=by simp;omega
     obtain⟨i,hi,c1,i0,i1⟩:=(HO.o.chg HCJ.o iE).get hkl;have e1:=HA.o oM;subst e1;have HSP:=jh (zP0 (W:=W) (R:=R) hi);have HIB:=jh (HT.o i (by rw[HSP.o];simp));have HTK:Hd (O.take (k+1)=O.take k++[i]):=jh (by rw[Ay1,hi];rfl);clear hi;go_wp2_with fail
     refine (nC (i) _ _ _ _ HS.o.fld (HIB.o) (Ay4 (HBL.o _ (_) (by exact HSP.o)) oM)).mono ?_;rintro e w5 ⟨v5,rfl,hf3,hc3,hk3⟩;have HS5:=jh (HS.o.put hf3 hc3);clear hf3 hc3 hk3;clear HS;go_wp2;go_roundw
     case rel=>exact⟨k+1,_,oM,by go_num,by rw[HTK.o,<-Az5];exact HS5.o⟩
     case measure=>simp[intOf];omega
    .obtain rfl:k=O.length:=oM
     have HSX:Hd (PutSt w2 w2.heap.size wr v (xU (W,R,O))):=jh (by have:=HS.o;rw[Ay5]at this;simpa [xU] using this);have HYL:=jh (HBL.o (xU (W,R,O)) [] sI);have HYP:=jh (zH3 (X:=xU (W,R,O)) (by simp[xU]));obtain⟨Y,hY⟩:∃Y,bytesOf (xU (W,R,O))=Y:=⟨_,rfl⟩;have HYE:Hd (mC (W,R,O)=Y):=jh hY;have HCV:=jh HSX.o.fld.c;have HOW:=jh HSX.o.fld.own;have HCH:=jh HSX.o.chg;rw[hY]at HYL HYP HOW;obtain⟨hh,C,hv,hBh,hRow,hpre,hmax⟩:=HOW.o.some (by intro e;have:=HYP.o;rw[e]at this;simp at this);subst hv;have c6:=HCV.o;have HYB:=jh (hRow.bytes hpre);have HCA:=jh ((Chg.refl (λ_=>False) wr).alloc (.cells #[.slice ab Z.length cb,.slice (some ⟨hh,0,none⟩) Y.length C.length] 45));clear hRow hpre hBh HS HSX HCV HOW hY;go_wp2_with fail
     refine (bJ Z Y ab gb ob cb hh C.length wr.heap.size _ (HBZ.o.chg (HCJ.o.trans HCA.o) iE) HAB.o (HYB.o.chg HCA.o iE) HYP.o oM HYL.o sI sI).mono ?_;rintro e w7 ⟨v7,rfl,hown7,hc7⟩;obtain⟨h7,C7,rfl,hB7,hRow7,hpre7,hmax7⟩:=hown7.some (by intro e;have h1:=HYP.o;have h2:=congrArg List.length e;rw[Az0,Aw5]at h2;omega);have HFIN:Hd (Row w7 h7 (Z++Y)/\w.heap.size<=h7/\Cf w w7):=jh ⟨⟨λk a hk=>by have:=(hRow7.bytes hpre7).c k a hk;rw[Ax0]at this;exact this.1,hRow7.z,hRow7.lt,λa ha=>hRow7.byte a (hpre7.subset ha)⟩,Ay4 HCJ.o.size (Ay4 HCA.o.size hB7),(HCJ.o.trans HCA.o).trans hc7⟩;have hple:=hpre7.length_le;rw[Az0]at hple;clear hown7 hc7 hRow7 hpre7 hB7;go_wp2_with fail
     refine (zB2 w7 h7 _ _ hple).mono ?_;rintro e w8 ⟨rfl,rfl⟩;go_wp2;go_ret2
     exact⟨h7,by rw[HYE.o];simp only[Az0];rfl,HFIN.o.2.1,by rw[HYE.o];exact HFIN.o.1,HFIN.o.2.2⟩
theorem bA:∀{Z:List Int}{i acc n s:Nat},sY i acc Z=some (n,s)->i<s/\s<=i+Z.length/\n<4294967296
 | [],i,acc,n,s,h=>by simp[sY]at h
 | c :: l,i,acc,n,s,h=>by
  unfold sY at h
  split at h
  .cases h
  split at h
  .have:=bA h
   simp only[Ax2];omega
  split at h
  .cases h
  .rename_i h1
   injection h with h;injection h with h2 h3;simp only[Ax2];omega
abbrev Rd:=Nat×Bool
def numP (Z:List Int) (m:Nat) (s:Rd):Nat×Rd:=match sY 0 0 (Z.drop s.1) with
 | some (n,k)=>if n<=m then (n,s.1+k,s.2) else (0,s.1,true)
 | none=>(0,s.1,true)
theorem zCj (Z:List Int) (m:Nat) (s:Rd):(∃n k,sY 0 0 (Z.drop s.1)=some (n,k)/\n<=m/\n<4294967296/\0<k/\(s.1<=Z.length->s.1+k<=Z.length)/\numP Z m s=(n,s.1+k,s.2))\/numP Z m s=(0,s.1,true):=by
 unfold numP;cases h:sY 0 0 (Z.drop s.1) with
 | none=>exact .inr rfl
 | some p =>
  obtain⟨n,k⟩:=p;simp only;by_cases hn:n<=m
  .rw[if_pos hn]
   have:=bA h;rw[Av6]at this;exact .inl ⟨n,k,rfl,hn,oM,oM,λhs=>oM,rfl⟩
  .rw[if_neg hn]
   exact .inr rfl
theorem vC {Z:List Int}{m:Nat}{s:Rd}(h:s.1<=Z.length):(numP Z m s).2.1<=Z.length/\(numP Z m s).1<=m/\(numP Z m s).1<4294967296/\s.1<=(numP Z m s).2.1/\(s.2=true->(numP Z m s).2.2=true)/\((numP Z m s).2.2=true\/s.1<(numP Z m s).2.1):=by
 rcases zCj Z m s with ⟨n,k,_,h1,h2,h3,h4,e⟩|e
 .rw[e]
  have:=h4 h;exact⟨this,h1,h2,by show s.1<=s.1+k;omega,λh=>h,.inr (by show s.1<s.1+k;omega)⟩
 .rw[e]
  exact⟨h,Av _,oM,Ay _,λ_=>rfl,.inl rfl⟩
def rJ (Z:List Int) (ms mv:Nat):Nat->Rd->Int->List (Int×Int)->List (Int×Int)×Rd
 | 0,s,_,acc=>(acc,s)
 | k+1,s,x,acc=>if s.2 then (acc,s) else
  rJ Z ms mv k (numP Z mv (numP Z ms s).2).2 (x+(numP Z ms s).1) (acc++[(x+(numP Z ms s).1,((numP Z mv (numP Z ms s).2).1:Int)-1)])
theorem nN {Z:List Int}{ms mv k:Nat}{s:Rd}{x:Int}{acc:List (Int×Int)}(h:s.2=true\/k=0):rJ Z ms mv k s x acc=(acc,s):=by
 cases k with
 | zero=>rfl
 | succ k=>unfold rJ;rw[if_pos (by rcases h with h|h;exact h;cases h)]
theorem qQ {Z:List Int}{ms mv k:Nat}{s:Rd}{x:Int}{acc:List (Int×Int)}(h:s.2=false):rJ Z ms mv (k+1) s x acc=rJ Z ms mv k (numP Z mv (numP Z ms s).2).2 (x+(numP Z ms s).1) (acc++[(x+(numP Z ms s).1,((numP Z mv (numP Z ms s).2).1:Int)-1)]):=by
 conv=>lhs;unfold rJ
 rw[if_neg (by rw[h];decide)]
def rowP (Z:List Int) (mw mv:Nat) (s:Rd):RowD×Rd :=
 ((((numP Z mv s).1:Int)-1,(rJ Z mw mv (numP Z mw (numP Z mv s).2).1 (numP Z mw (numP Z mv s).2).2 0 []).1),(rJ Z mw mv (numP Z mw (numP Z mv s).2).1 (numP Z mw (numP Z mv s).2).2 0 []).2)
def kW (Z:List Int) (mw mv:Nat):Nat->Rd->List RowD->List RowD×Rd
 | 0,s,acc=>(acc,s)
 | k+1,s,acc=>if s.2 then (acc,s) else kW Z mw mv k (rowP Z mw mv s).2 (acc++[(rowP Z mw mv s).1])
theorem fE {Z:List Int}{mw mv k:Nat}{s:Rd}{acc:List RowD}(h:s.2=true\/k=0):kW Z mw mv k s acc=(acc,s):=by
 cases k with
 | zero=>rfl
 | succ k=>unfold kW;rw[if_pos (by rcases h with h|h;exact h;cases h)]
theorem mN {Z:List Int}{mw mv k:Nat}{s:Rd}{acc:List RowD}(h:s.2=false):kW Z mw mv (k+1) s acc=kW Z mw mv k (rowP Z mw mv s).2 (acc++[(rowP Z mw mv s).1]):=by
 conv=>lhs;unfold kW
 rw[if_neg (by rw[h];decide)]
def ofP (Z:List Int) (mm:Nat):Nat->Rd->List Int->List Int×Rd
 | 0,s,acc=>(acc,s)
 | k+1,s,acc=>if s.2 then (acc,s) else ofP Z mm k (numP Z mm s).2 (acc++[((numP Z mm s).1:Int)])
theorem zAq {Z:List Int}{mm k:Nat}{s:Rd}{acc:List Int}(h:s.2=true\/k=0):ofP Z mm k s acc=(acc,s):=by
 cases k with
 | zero=>rfl
 | succ k=>unfold ofP;rw[if_pos (by rcases h with h|h;exact h;cases h)]
theorem bC {Z:List Int}{mm k:Nat}{s:Rd}{acc:List Int}(h:s.2=false):ofP Z mm (k+1) s acc=ofP Z mm k (numP Z mm s).2 (acc++[((numP Z mm s).1:Int)]):=by
 conv=>lhs;unfold ofP
 rw[if_neg (by rw[h];decide)]
structure Most where
 mm:Nat
 mv:Nat
 mw:Nat->Nat
def vL:Most:=⟨65536,16777216,id⟩
def vS (Z:List Int) (B:Most):TabD×Rd :=
 let p:=numP Z B.mm (0,false)
 let q:=numP Z B.mm p.2
 let r:=kW Z (B.mw p.1) B.mv q.1 q.2 []
 let u:=numP Z B.mm r.2
 let v:=ofP Z B.mm u.1 u.2 []
 (((p.1:Int),r.1,v.1),v.2)
-- a wrong one stays wrong
theorem dW {Z:List Int}{m:Nat}{s:Rd}(h:(numP Z m s).2.2=false):s.2=false:=by
 rcases zCj Z m s with ⟨n,k,_,h1,h2,h3,h4,e⟩|e
 .rw[e]at h;exact h
 .rw[e]at h;cases h
theorem zAc {Z:List Int}{ms mv:Nat}:∀{k:Nat}{s:Rd}{x:Int}{acc:List (Int×Int)},(rJ Z ms mv k s x acc).2.2=false->s.2=false
 | 0,s,x,acc,h=>h
 | k+1,s,x,acc,h=>by
  cases hs:s.2 with
  | false=>rfl
  | true=>rw[nN (.inl hs)]at h;rw[<-hs];exact h
theorem zBb {Z:List Int}{mw mv:Nat}:∀{k:Nat}{s:Rd}{acc:List RowD},(kW Z mw mv k s acc).2.2=false->s.2=false
 | 0,s,acc,h=>h
 | k+1,s,acc,h=>by
  cases hs:s.2 with
  | false=>rfl
  | true=>rw[fE (.inl hs)]at h;rw[<-hs];exact h
theorem zBz {Z:List Int}{mm:Nat}:∀{k:Nat}{s:Rd}{acc:List Int},(ofP Z mm k s acc).2.2=false->s.2=false
 | 0,s,acc,h=>h
 | k+1,s,acc,h=>by
  cases hs:s.2 with
  | false=>rfl
  | true=>rw[zAq (.inl hs)]at h;rw[<-hs];exact h
-- what is right by a number is so by a greater one
def mW (Z:List Int) (B:Most):Bool:=!(vS Z B).2.2 && mayL (vS Z B).1
def zAf:TabD->Int->Int->Int
 | (W,R,O),l,i=>if l<0\/(O.length:Int)<=l\/i<0\/W<=i then -1 else match O[l.toNat]? with
  | none=>-1
  | some k=>if k<0\/(R.length:Int)<=k then -1 else match R[k.toNat]? with
   | none=>-1
   | some r=>zC8 r i
theorem zB4 {W l i:Int}{R:List RowD}{O:List Int}(h:l<0\/(O.length:Int)<=l\/i<0\/W<=i):zAf (W,R,O) l i=-1:=by simp only[zAf,if_pos h]
theorem zN6 {W i:Int}{l:Nat}{R:List RowD}{O:List Int}{k:Int}(h:¬((l:Int)<0\/(O.length:Int)<=l\/i<0\/W<=i)) (hk:O[l]?=some k):zAf (W,R,O) l i=if k<0\/(R.length:Int)<=k then -1 else match R[k.toNat]? with
  | none=>-1
  | some r=>zC8 r i:=by simp only[zAf,if_neg h,Ay6,hk]
theorem zN7 (W l i:Int) (R:List RowD) (O:List Int) (ra oa:Option Addr) (rc oc B g o:Nat) (w:World) (hW:I.Byte W) (hll:I.Byte l) (hii:I.Byte i) (hR:uN vN rowE w B (ra,R.length,rc) R) (hcl:∀r∈R,r.2.length<=1000000000)
  (hO:I.BytesAt w g o O) (ha:0<O.length->oa=some ⟨g,o,none⟩) (hol:O.length<=100000000) :
  Calls Tryz.prog 168 #[.agg #[.int .i64 W,.slice ra R.length rc,.slice oa O.length oc],.int .i64 l,.int .i64 i] w λe w'=>e=.returned (.int .i64 (zAf (W,R,O) l i))/\Cf w w':=by
 have HR:=jh hR;have HO:=jh hO;have HA:=jh ha;have HCL:=jh hcl;have HC0:=jh ((Chg.refl (λ_=>False) w).alloc (.cells #[.int .i64 W,.slice ra R.length rc,.slice oa O.length oc] 201));obtain⟨_,_⟩:=hW;obtain⟨_,_⟩:=hll;obtain⟨_,_⟩:=hii;clear hR hO ha hcl;by_cases h1:l<0
 .have d1:decide (l<0)=true:=by simpa using h1
  have HF:=jh (zB4 (W:=W) (R:=R) (O:=O) (i:=i) (.inl h1));go_enter Tryz.func168,Tryz.ntmps168
  go_wp2;go_ret
  exact⟨by rw[HF.o];rfl,HC0.o⟩
 .have d1:decide (l<0)=false:=by simpa using h1
  obtain⟨k,rfl⟩:=Aw8 (show 0<=l by omega);by_cases h2:O.length<=k
  .have d2:decide ((O.length:Int)<=(k:Int))=true:=by simp;omega
   have HF:=jh (zB4 (W:=W) (R:=R) (O:=O) (i:=i) (l:=(k:Int)) (.inr (.inl oM)));go_enter Tryz.func168,Tryz.ntmps168
   go_wp2;go_ret
   exact⟨by rw[HF.o];rfl,HC0.o⟩
  .have d2:decide ((O.length:Int)<=(k:Int))=false:=by simp;omega
   by_cases h3:i<0
   .have d3:decide (i<0)=true:=by simpa using h3
    have HF:=jh (zB4 (W:=W) (R:=R) (O:=O) (i:=i) (l:=(k:Int)) (.inr (.inr (.inl h3))));go_enter Tryz.func168,Tryz.ntmps168
    go_wp2;go_ret
    exact⟨by rw[HF.o];rfl,HC0.o⟩
   .have d3:decide (i<0)=false:=by simpa using h3
    by_cases h4:W<=i
    .have d4:decide (W<=i)=true:=by simpa using h4
     have HF:=jh (zB4 (W:=W) (R:=R) (O:=O) (i:=i) (l:=(k:Int)) (.inr (.inr (.inr h4))));go_enter Tryz.func168,Tryz.ntmps168
     go_wp2;go_ret
     exact⟨by rw[HF.o];rfl,HC0.o⟩
    .have d4:decide (W<=i)=false:=by simpa using h4
     obtain⟨q,hq,c1,q0,q1⟩:=(HO.o.chg HC0.o iE).get (k:=k) oM;have e1:=HA.o oM;subst e1;have HT:=jh (zN6 (W:=W) (R:=R) (i:=i) (l:=k) oM hq);have hk:k<O.length:=oM;clear hq;by_cases h5:q<0
     .have d5:decide (q<0)=true:=by simpa using h5
      rw[if_pos (.inl h5)]at HT;go_enter Tryz.func168,Tryz.ntmps168
      go_wp2;go_ret
      exact⟨by rw[HT.o];rfl,HC0.o⟩
     .have d5:decide (q<0)=false:=by simpa using h5
      obtain⟨n,rfl⟩:=Aw8 (show 0<=q by omega);by_cases h6:R.length<=n
      .have d6:decide ((R.length:Int)<=(n:Int))=true:=by simp;omega
       rw[if_pos (.inr oM)]at HT;go_enter Tryz.func168,Tryz.ntmps168
       go_wp2;go_ret
       exact⟨by rw[HT.o];rfl,HC0.o⟩
      .have d6:decide ((R.length:Int)<=(n:Int))=false:=by simp;omega
       obtain⟨r,g',o',xa,xc,hr,rfl,c0,c2,hrb,hin,-,-⟩:=(HR.o.same HC0.o).get rfl (λ_=>rfl) (show n<R.length by omega);obtain⟨rd,rl⟩:=r;simp only at c0 c2 hin hrb;rw[if_neg oM,Ay6,hr]at HT;have HIN:=jh hin;have HRL:=jh (HCL.o _ (Az2 hr));have hn:n<R.length:=oM;clear hr hin hrb;go_enter Tryz.func168,Tryz.ntmps168
       go_wp2_with fail
       refine (zTr rd rl xa xc B i _ HIN.o HRL.o).mono ?_;rintro e w2 ⟨rfl,hc2⟩;have HC2:=jh (HC0.o.trans hc2);clear hc2;go_wp2;go_ret
       exact⟨by rw[HT.o];rfl,HC2.o⟩
abbrev Rdr (α:Type):=List Int->Option (α×List Int)
def numG (m:Nat):Rdr Int:=λb=>match sY 0 0 b with
 | none=>none
 | some (n,k)=>if n<=m then some ((n:Int),b.drop k) else none
def anyG:Rdr Int:=numG 16777215
def gU:Rdr Str:=λb=>match numG 64 b with
 | none=>none
 | some (n,r)=>if n<=r.length then some (strOfNums (r.take n.toNat),r.drop n.toNat) else none
def repG {α:Type}(one:Rdr α):Nat->List α->Rdr (List α)
 | 0,acc,b=>some (acc,b)
 | k+1,acc,b=>match one b with
  | none=>none
  | some (x,r)=>repG one k (acc++[x]) r
def vA {α:Type}(one:Rdr α):Rdr (List α):=λb=>match anyG b with
 | none=>none
 | some (n,r)=>repG one n.toNat [] r
def zBy:Rdr qS:=λb=>match numG 3 b with
 | none=>none
 | some (k,b1)=>match anyG b1 with
  | none=>none
  | some (x,b2)=>match anyG b2 with
   | none=>none
   | some (t,b3)=>some ((k,x,t),b3)
def jC:Rdr StD:=λb=>match anyG b with
 | none=>none
 | some (r,b1)=>match vA zBy b1 with
  | none=>none
  | some (es,b2)=>match vA anyG b2 with
   | none=>none
   | some (ds,b3)=>some ((r,es,ds),b3)
def qY (t:TabD):List (List Int):=(List.range t.2.2.length).map (λ(i:Nat)=>(List.range t.1.toNat).map (λ(k:Nat)=>zAf t i k))
def mY:Rdr (List (List Int)×Int):=λb =>
 if mW b vL then if ((vS b vL).1.2.2.length:Int) * (vS b vL).1.1<=4194304 then some ((qY (vS b vL).1,(vS b vL).1.1),b.drop (vS b vL).2.1) else none else none
def rcG:Rdr ((Int×Int)×Int):=λb=>match anyG b with
 | none=>none
 | some (l,b1)=>match anyG b1 with
  | none=>none
  | some (h,b2)=>match anyG b2 with
   | none=>none
   | some (c,b3)=>some (((l,h),c),b3)
def endG:Rdr Int:=λb=>match anyG b with
 | none=>none
 | some (n,r)=>some (n-1,r)
def lexG:Rdr LexD:=λb=>match vA rcG b with
 | none=>none
 | some (rc,b1)=>match mY b1 with
  | none=>none
  | some ((ns,w),b2)=>if w=xS (rc.map (·.2)) then match repG endG ns.length [] b2 with
   | none=>none
   | some (es,b3)=>some (⟨rc.map (·.1),rc.map (·.2),ns,es⟩,b3)
   else none
def yL:Nat->List StD->List Int
 | _,[]=>[]
 | k,s :: l=>if 0<s.2.2.length then (k:Int) :: yL (k+1) l else yL (k+1) l
def qE (l:List StD):List Int:=yL 0 l
def netG:Rdr NetD:=λb=>match vA jC b with
 | none=>none
 | some (st,b1)=>match vA anyG b1 with
  | none=>none
  | some (s,b2)=>match vA anyG b2 with
   | none=>none
   | some (p,b3)=>match vA anyG b3 with
    | none=>none
    | some (q,b4)=>some (⟨st,s,p,q,qE st⟩,b4)
def lsG:Rdr (Int×List Int):=λb=>match numG 3 b with
 | none=>none
 | some (k,b1)=>match vA anyG b1 with
  | none=>none
  | some (l,b2)=>some ((k,l),b2)
def vE:Int->List Int->List (Int×Int)
 | _,[]=>[]
 | k,x :: l=>if 0<=x then (k,x) :: vE (k+1) l else vE (k+1) l
def nY (l:List Int):List (Int×Int):=vE (-1) l
def jU (tokens:Nat):Rdr (List LsD):=λb=>match vA lsG b with
 | none=>none
 | some (ss,b1)=>match mY b1 with
  | none=>none
  | some ((ls,w),b2)=>if w=tokens+1/\ls.length=ss.length then some (List.zipWith (λs l=>(s.1,s.2,nY l)) ss ls,b2) else none
def tokG:Rdr (Str×Bool):=λb=>match gU b with
 | none=>none
 | some (s,b1)=>match numG 1 b1 with
  | none=>none
  | some (n,b2)=>some ((s,decide (n=1)),b2)
def qA:List Int:=[72,66,84,49]
def zA6:Rdr TabsD:=λb=>match vA gU b with
 | none=>none
 | some (rl,b1)=>match vA tokG b1 with
  | none=>none
  | some (tk,b2)=>match lexG b2 with
   | none=>none
   | some (lx,b3)=>match netG b3 with
    | none=>none
    | some (nt,b4)=>match repG (jU tk.length) nt.d.length [] b4 with
     | none=>none
     | some (lk,b5)=>some (⟨rl,tk.map (·.1),tk.map (·.2),lx,nt,lk⟩,b5)
theorem zCb {Z:List Int}{n k:Nat}(h:sY 0 0 Z=some (n,k)):0<k/\k<=Z.length/\n<4294967296:=by
 have:=bA h;omega
theorem hJ {m:Nat}{b r:List Int}{x:Int}(h:numG m b=some (x,r)):∃n k:Nat,sY 0 0 b=some (n,k)/\x=n/\n<=m/\n<4294967296/\r=b.drop k/\0<k/\k<=b.length:=by
 unfold numG at h;cases ht:sY 0 0 b with
 | none=>rw[ht]at h;cases h
 | some p =>
  obtain⟨n,k⟩:=p;rw[ht]at h;simp only at h;have:=zCb ht
  split at h
  .rename_i hn
   injection h with h;injection h with h1 h2;exact⟨n,k,rfl,h1.symm,hn,this.2.2,h2.symm,this.1,this.2.1⟩
  .cases h
theorem zMv {m:Nat}{b:List Int}(h:numG m b=none):sY 0 0 b=none\/∃n k:Nat,sY 0 0 b=some (n,k)/\m<n/\n<4294967296:=by
 unfold numG at h;cases ht:sY 0 0 b with
 | none=>exact .inl rfl
 | some p =>
  obtain⟨n,k⟩:=p;rw[ht]at h;simp only at h
  split at h
  .cases h
  .rename_i hn
   exact .inr ⟨n,k,rfl,oM,(zCb ht).2.2⟩
def zN (z:Int):List Int:=putL z.toNat
def vG (s:Str):List Int:=putL s.size++strB s
def zS {α:Type}(enc:α->List Int) (L:List α):List Int:=putL L.length++L.flatMap enc
def pG (e:qS):List Int:=zN e.1++(zN e.2.1++zN e.2.2)
def vQ (s:StD):List Int:=zN s.1++(zS pG s.2.1++zS zN s.2.2)
def vJ (W:Int) (LL:List (List Int)):List Int:=mC (W,(yC LL).1,(yC LL).2)
def ptRc (x:(Int×Int)×Int):List Int:=zN x.1.1++(zN x.1.2++zN x.2)
def bW (e:Int):List Int:=zN (e+1)
def dS (t:LexD):List Int:=zS ptRc (t.r.zip t.c)++(vJ (xS t.c) t.n++t.e.flatMap bW)
def aU (n:NetD):List Int:=zS vQ n.st++(zS zN n.s++(zS zN n.p++zS zN n.q))
def ptLs (s:Int×List Int):List Int:=zN s.1++zS zN s.2
def yW (tk:Nat) (es:List (Int×Int)):List Int:=es.foldl (λl e=>l.set (e.1+1).toNat e.2) (List.replicate (tk+1) (-1))
def tU (tk:Nat) (A:List LsD):List Int:=zS ptLs (A.map (λs=>(s.1,s.2.1)))++vJ ((tk:Int)+1) (A.map (λs=>yW tk s.2.2))
def qL (x:Str×Bool):List Int:=vG x.1++zN (if x.2 then 1 else 0)
def zAm (t:TabsD):List Int:=zS vG t.rl++(zS qL (t.tk.zip t.dr)++(dS t.lx++(aU t.nt++t.lk.flatMap (tU t.tk.length))))
def tA (t:TabsD):List Int:=qA++zAm t
def tL:Ending:=.panicked [{ v:=.iface 129 (.agg #[]),recovered:=false }]
theorem cC (w:World):Calls Tryz.prog 102 #[.bool true] w λe w'=>e=.returned (.tuple #[])/\w'=w:=by
 go_enter Tryz.func102,Tryz.ntmps102
 go_wp2;go_end0
 exact⟨rfl,rfl⟩
theorem nU (w:World):Calls Tryz.prog 102 #[.bool false] w λe w'=>e=tL/\w'=w:=by
 go_enter Tryz.func102,Tryz.ntmps102
 go_wp2;exact⟨rfl,rfl,rfl⟩
structure GetSt (pg gb:Nat) (w:World) (Z:List Int):Prop where
 c:∃o cc,w.cell? ⟨pg,0,none⟩=some (.slice (some ⟨gb,o,none⟩) Z.length cc)/\Z.length<=cc/\BytesAt w gb o Z
 z:w.frozen? ⟨pg,0,none⟩=false
 lt:pg<w.heap.size
 lb:gb<w.heap.size
 ne:gb≠pg
 len:Z.length<=10000000
 byte:∀a∈Z,Byte a
theorem GetSt.chg {pg gb:Nat}{T:Nat->Prop}{w w':World}{Z:List Int}(h:GetSt pg gb w Z) (hc:Chg T w w') (hp:¬T pg) (hb:¬T gb):GetSt pg gb w' Z:=by
 obtain⟨o,cc,h1,h2,h3⟩:=h.c;exact⟨⟨o,cc,hc.cellS h1 hp,h2,h3.chg hc (λ_=>hb)⟩,(hc.frozen (p:=⟨pg,0,none⟩) h.lt hp).trans h.z,Ay9 h.lt hc.size,Ay9 h.lb hc.size,h.ne,h.len,h.byte⟩
theorem GetSt.fresh {pg gb:Nat}{w w':World}{Z:List Int}(h:GetSt pg gb w Z) (hc:Cf w w'):GetSt pg gb w' Z:=h.chg hc iD iD
def cutV (gb o cc n k:Nat):Value:=if cc=k then .slice (some ⟨gb,o,none⟩) 0 0 else .slice (some ⟨gb,o+k,none⟩) (n-k) (cc-k)
theorem GetSt.cut {pg gb:Nat}{w:World}{Z:List Int}(h:GetSt pg gb w Z) {o cc k:Nat}(h1:w.cell? ⟨pg,0,none⟩=some (.slice (some ⟨gb,o,none⟩) Z.length cc)) (h2:Z.length<=cc) (h3:BytesAt w gb o Z) (hk:k<=Z.length) :
  GetSt pg gb (w.setCell ⟨pg,0,none⟩ (cutV gb o cc Z.length k)) (Z.drop k):=by
 have hc:=zA w pg 0 (cutV gb o cc Z.length k);refine⟨?_,(Az4 _ _ _ _).trans h.z,Ay9 h.lt hc.size,Ay9 h.lb hc.size,h.ne,by rw[Av6];have:=h.len;omega,λa ha=>h.byte a (List.mem_of_mem_drop ha)⟩;have e1:(w.setCell ⟨pg,0,none⟩ (cutV gb o cc Z.length k)).cell? ⟨pg,0,none⟩=some (cutV gb o cc Z.length k):=Az9 _ _ _ h1;by_cases he:cc=k
 .have hd:Z.drop k=[]:=List.drop_eq_nil_of_le oM
  rw[hd];refine⟨o,0,?_,Ay _,⟨λj a hj=>by simp at hj,λh=>absurd rfl h⟩⟩;rw[e1,cutV,if_pos he]
  rfl
 .refine⟨o+k,cc-k,?_,by rw[Av6];omega,⟨λj a hj=>?_,λhne=>Ay9 h.lb hc.size⟩⟩
  .rw[e1,cutV,if_neg he,Av6]
  .rw[List.getElem?_drop]at hj
   have h4:=(h3.chg hc (λ_=>h.ne)).c (k+j) a hj;rw[Av8];exact h4
theorem zCx {pg gb m:Nat}{Z:List Int}(w:World) (h:GetSt pg gb w Z) (hn:numG m Z=none) :
  Calls Tryz.prog 106 #[.pointer (some ⟨pg,0,none⟩),.int .i64 m] w λe w'=>e=tL/\Cf w w':=by
 obtain⟨o,cc,h1,h2,h3⟩:=h.c;have HT:=jh (gW Z (some ⟨gb,o,none⟩) gb o cc w h3 (λ_=>rfl) h2 (by have:=h.len;omega));clear h2 h3;rcases zMv hn with h4|⟨n,k,h4,h5,h6⟩
 all_goals
  rw[h4]at HT;clear h4 hn;go_enter Tryz.func106,Tryz.ntmps106
  go_wp2_with fail
  refine HT.o.mono ?_;rintro e w2 ⟨rfl,hc⟩;simp only[zRg];have HC:=jh hc;clear hc h1
 .go_wp2_with fail
  refine (nU _).mono ?_;rintro e w3 ⟨rfl,rfl⟩;exact⟨rfl,rfl,HC.o⟩
 .have d1:decide (n<=m)=false:=decide_eq_false oM
  go_wp2_with fail
  refine (nU _).mono ?_;rintro e w3 ⟨rfl,rfl⟩;exact⟨rfl,rfl,HC.o⟩
theorem zAy {pg gb m:Nat}{Z r:List Int}{x:Int}(w:World) (h:GetSt pg gb w Z) (hn:numG m Z=some (x,r)) :
  Calls Tryz.prog 106 #[.pointer (some ⟨pg,0,none⟩),.int .i64 m] w λe w'=>e=.returned (.int .i64 x)/\GetSt pg gb w' r/\Chg (·=pg) w w':=by
 obtain⟨o,cc,h1,h2,h3⟩:=h.c;have HT:=jh (gW Z (some ⟨gb,o,none⟩) gb o cc w h3 (λ_=>rfl) h2 (by have:=h.len;omega));obtain⟨n,k,h4,rfl,h5,h6,rfl,h7,h8⟩:=hJ hn;rw[h4]at HT;have HS:=jh h;have HK:=jh h8;have hk2:k<=10000000:=by have:=h.len;omega
 have HE:Hd (∀w2,Cf w w2->w2.cell? ⟨pg,0,none⟩=some (.slice (some ⟨gb,o,none⟩) Z.length cc)/\w2.frozen? ⟨pg,0,none⟩=false/\GetSt pg gb (w2.setCell ⟨pg,0,none⟩ (cutV gb o cc Z.length k)) (Z.drop k)) :=
  jh λw2 hc=>⟨hc.cellS h1 iD,(hc.frozen (p:=⟨pg,0,none⟩) h.lt iD).trans h.z,(h.fresh hc).cut (hc.cellS h1 iD) h2 (h3.chg hc iE) h8⟩
 have HL:Hd (Z.length<=cc):=jh h2;have hd1:decide ((n:Int)<=(m:Int))=true:=by simp;omega
 clear h h2 h3 h4 hn;go_enter Tryz.func106,Tryz.ntmps106
 go_wp2_with fail
 refine HT.o.mono ?_;rintro e w2 ⟨rfl,hc⟩;simp only[zRg];obtain⟨c2,z2,g2⟩:=HE.o w2 hc;have HC:=jh hc;have HG:=jh g2;clear hc h1 g2;go_wp2_with fail
 refine (cC _).mono ?_;rintro e w3 ⟨rfl,rfl⟩;by_cases hck:cc=k
 .have hzk:Z.length-k=0:=by have:=HL.o;omega
  rw[cutV,if_pos hck]at HG;go_wp2;go_ret
  exact⟨rfl,HG.o,HC.o.any.trans (zA _ _ _ _)⟩
 .rw[cutV,if_neg hck]at HG
  go_wp2;go_ret
  exact⟨rfl,HG.o,HC.o.any.trans (zA _ _ _ _)⟩
theorem bS {pg gb:Nat}{Z:List Int}(w:World) (h:GetSt pg gb w Z) (hn:anyG Z=none) :
  Calls Tryz.prog 139 #[.pointer (some ⟨pg,0,none⟩)] w λe w'=>e=tL/\Cf w w':=by
 have HN:=jh (zCx w h hn);clear h hn;go_enter Tryz.func139,Tryz.ntmps139
 go_wp2_with fail
 refine HN.o.mono ?_;rintro e w2 ⟨rfl,hc⟩;exact⟨rfl,rfl,hc⟩
theorem bQ {pg gb:Nat}{Z r:List Int}{x:Int}(w:World) (h:GetSt pg gb w Z) (hn:anyG Z=some (x,r)) :
  Calls Tryz.prog 139 #[.pointer (some ⟨pg,0,none⟩)] w λe w'=>e=.returned (.int .i64 x)/\GetSt pg gb w' r/\Chg (·=pg) w w':=by
 have HN:=jh (zAy w h hn);clear h hn;go_enter Tryz.func139,Tryz.ntmps139
 go_wp2_with fail
 refine HN.o.mono ?_;rintro e w2 ⟨rfl,hg,hc⟩;have HG:=jh hg;have HC:=jh hc;clear hg hc;go_wp2;go_ret
 exact⟨rfl,HG.o,HC.o⟩
theorem zB8 (Z:List Int):(numG 64 Z=none/\gU Z=none)\/∃(n:Nat) (r:List Int),n<=64/\numG 64 Z=some ((n:Int),r)/\((r.length<n/\gU Z=none)\/(n<=r.length/\gU Z=some (strOfNums (r.take n),r.drop n))):=by
 unfold gU;cases h:numG 64 Z with
 | none=>exact .inl ⟨rfl,rfl⟩
 | some p =>
  obtain⟨x,r⟩:=p;obtain⟨n,k,_,rfl,hn,_⟩:=hJ h;refine .inr ⟨n,r,hn,rfl,?_⟩;simp only[Ay6];by_cases hl:n<=r.length
  .exact .inr ⟨hl,by rw[if_pos oM]⟩
  .exact .inl ⟨oM,by rw[if_neg oM]⟩
theorem zL0 {pg gb:Nat}{Z:List Int}(w:World) (h:GetSt pg gb w Z) (hn:gU Z=none) :
  Calls Tryz.prog 104 #[.pointer (some ⟨pg,0,none⟩)] w λe w'=>e=tL/\Chg (·=pg) w w':=by
 rcases zB8 Z with ⟨h1,-⟩|⟨n,r,h1,h2,⟨h3,-⟩|⟨h3,h4⟩⟩
 .have HN:=jh (zCx w h h1)
  clear h hn h1;go_enter Tryz.func104,Tryz.ntmps104
  go_wp2_with fail
  refine HN.o.mono ?_;rintro e w2 ⟨rfl,hc⟩;exact⟨rfl,rfl,hc.any⟩
 .have HN:=jh (zAy w h h2)
  have d1:decide (n<=r.length)=false:=decide_eq_false oM;clear h hn h2;go_enter Tryz.func104,Tryz.ntmps104
  go_wp2_with fail
  refine HN.o.mono ?_;rintro e w2 ⟨rfl,hg,hc⟩;obtain⟨o,cc,c1,c2,-⟩:=hg.c;have HC:=jh hc;clear hg hc c2;go_wp2_with fail
  refine (nU _).mono ?_;rintro e w3 ⟨rfl,rfl⟩;exact⟨rfl,rfl,HC.o⟩
 .rw[hn]at h4;cases h4
theorem zLz {pg gb:Nat}{Z r':List Int}{x:Str}(w:World) (h:GetSt pg gb w Z) (hn:gU Z=some (x,r')) :
  Calls Tryz.prog 104 #[.pointer (some ⟨pg,0,none⟩)] w λe w'=>e=.returned (.string x)/\GetSt pg gb w' r'/\Chg (·=pg) w w':=by
 rcases zB8 Z with ⟨h1,h2⟩|⟨n,r,h1,h2,⟨h3,h4⟩|⟨h3,h4⟩⟩
 .rw[hn]at h2;cases h2
 .rw[hn]at h4;cases h4
 .rw[hn]at h4
  injection h4 with h4;injection h4 with h5 h6;subst h5 h6;have HN:=jh (zAy w h h2);have d1:decide (n<=r.length)=true:=decide_eq_true h3;clear h hn h2;go_enter Tryz.func104,Tryz.ntmps104
  go_wp2_with fail
  refine HN.o.mono ?_;rintro e w2 ⟨rfl,hg,hc⟩;obtain⟨o,cc,c1,c2,c3⟩:=hg.c;have HC:=jh hc;have HG:=jh (hg.cut c1 c2 c3 h3);have z1:=hg.z;have hl:=hg.len;have HB:Hd (BytesAt w2 gb o (r.take n)):=jh ⟨λj x hj=>c3.c j x (by rw[List.getElem?_take_of_lt (by have:=(Az1.1 hj).1;rw[Ax1]at this;omega)]at hj;exact hj),λ_=>hg.lb⟩;have hcv:=zTd cc HB.o (a:=some ⟨gb,o,none⟩) (λ_=>rfl);rw[Ax1,Nat.min_eq_left h3]at hcv;have hn2:n<=cc:=oM
  have HRL:=jh h3;clear hg hc c3 HN HB;go_wp2_with fail
  refine (cC _).mono ?_;rintro e w3 ⟨rfl,rfl⟩;by_cases hck:cc=n
  .have hzk:r.length-n=0:=oM
   rw[cutV,if_pos hck]at HG;clear h3;subst hck;go_wp2;go_ret
   exact⟨rfl,HG.o,HC.o.trans (zA _ _ _ _)⟩
  .rw[cutV,if_neg hck]at HG
   clear h3;go_wp2;go_ret
   exact⟨rfl,HG.o,HC.o.trans (zA _ _ _ _)⟩
end Go.Proofs.YtgnpmceimpjheaaGreat
namespace Go.Proofs.YtgnpmceimpjheaaGreat
open Go.RowKit
theorem zSc (w:World) (a:Option Addr) (n c:Nat) (hn:n<=c):Calls Tryz.prog 140 #[.slice a n c] w λe w'=>e=.returned (.slice a n n)/\w=w':=by
 cases a with
 | none =>
  go_enter Tryz.func140,Tryz.ntmps140
  go_wp2;go_ret
  exact⟨rfl,rfl⟩
 | some ad =>
  go_enter Tryz.func140,Tryz.ntmps140
  go_wp2;go_ret
  exact⟨rfl,rfl⟩
theorem zQt (w:World) (a:Option Addr) (n c:Nat) (hn:n<=c):Calls Tryz.prog 110 #[.slice a n c] w λe w'=>e=.returned (.slice a n n)/\w=w':=by
 cases a with
 | none =>
  go_enter Tryz.func110,Tryz.ntmps110
  go_wp2;go_ret
  exact⟨rfl,rfl⟩
 | some ad =>
  go_enter Tryz.func110,Tryz.ntmps110
  go_wp2;go_ret
  exact⟨rfl,rfl⟩
theorem zQu (w:World) (a:Option Addr) (n c:Nat) (hn:n<=c):Calls Tryz.prog 111 #[.slice a n c] w λe w'=>e=.returned (.slice a n n)/\w=w':=by
 cases a with
 | none =>
  go_enter Tryz.func111,Tryz.ntmps111
  go_wp2;go_ret
  exact⟨rfl,rfl⟩
 | some ad =>
  go_enter Tryz.func111,Tryz.ntmps111
  go_wp2;go_ret
  exact⟨rfl,rfl⟩
theorem zSd (w:World) (a:Option Addr) (n c:Nat) (hn:n<=c):Calls Tryz.prog 143 #[.slice a n c] w λe w'=>e=.returned (.slice a n n)/\w=w':=by
 cases a with
 | none =>
  go_enter Tryz.func143,Tryz.ntmps143
  go_wp2;go_ret
  exact⟨rfl,rfl⟩
 | some ad =>
  go_enter Tryz.func143,Tryz.ntmps143
  go_wp2;go_ret
  exact⟨rfl,rfl⟩
theorem zTe (w:World) (a:Option Addr) (n c:Nat) (hn:n<=c):Calls Tryz.prog 170 #[.slice a n c] w λe w'=>e=.returned (.slice a n n)/\w=w':=by
 cases a with
 | none =>
  go_enter Tryz.func170,Tryz.ntmps170
  go_wp2;go_ret
  exact⟨rfl,rfl⟩
 | some ad =>
  go_enter Tryz.func170,Tryz.ntmps170
  go_wp2;go_ret
  exact⟨rfl,rfl⟩
theorem zTf (w:World) (a:Option Addr) (n c:Nat) (hn:n<=c):Calls Tryz.prog 173 #[.slice a n c] w λe w'=>e=.returned (.slice a n n)/\w=w':=by
 cases a with
 | none =>
  go_enter Tryz.func173,Tryz.ntmps173
  go_wp2;go_ret
  exact⟨rfl,rfl⟩
 | some ad =>
  go_enter Tryz.func173,Tryz.ntmps173
  go_wp2;go_ret
  exact⟨rfl,rfl⟩
theorem zTg (w:World) (a:Option Addr) (n c:Nat) (hn:n<=c):Calls Tryz.prog 150 #[.slice a n c] w λe w'=>e=.returned (.slice a n n)/\w=w':=by
 cases a with
 | none =>
  go_enter Tryz.func150,Tryz.ntmps150
  go_wp2;go_ret
  exact⟨rfl,rfl⟩
 | some ad =>
  go_enter Tryz.func150,Tryz.ntmps150
  go_wp2;go_ret
  exact⟨rfl,rfl⟩
theorem zQs (w:World) (a:Option Addr) (n c:Nat) (hn:n<=c):Calls Tryz.prog 189 #[.slice a n c] w λe w'=>e=.returned (.slice a n n)/\w=w':=by
 cases a with
 | none =>
  go_enter Tryz.func189,Tryz.ntmps189
  go_wp2;go_ret
  exact⟨rfl,rfl⟩
 | some ad =>
  go_enter Tryz.func189,Tryz.ntmps189
  go_wp2;go_ret
  exact⟨rfl,rfl⟩
theorem zQr (w:World) (a:Option Addr) (n c:Nat) (hn:n<=c):Calls Tryz.prog 169 #[.slice a n c] w λe w'=>e=.returned (.slice a n n)/\w=w':=by
 cases a with
 | none =>
  go_enter Tryz.func169,Tryz.ntmps169
  go_wp2;go_ret
  exact⟨rfl,rfl⟩
 | some ad =>
  go_enter Tryz.func169,Tryz.ntmps169
  go_wp2;go_ret
  exact⟨rfl,rfl⟩
theorem Chg.trans2 {S S':Nat->Prop}{a b c:World}(h:Chg S a b) (k:Chg S' b c) (hs:∀k,k<a.heap.size->S' k->S k):Chg S a c :=
 ⟨k.os.trans h.os,k.tape.trans h.tape,k.output.trans h.output,Ay4 h.size k.size,λj hj hn=>(k.block j (Ay9 hj h.size) (λe=>hn (hs j hj e))).trans (h.block j hj hn)⟩
section
variable {β δ:Type}{E:Elt β}{R:Rp β δ}
structure Side (pg gb:Nat) (C T:World->Nat->Prop) (St:World->List δ->List Int->Prop):Prop where
 get:∀{w acc Z},St w acc Z->GetSt pg gb w Z
 pgC:∀w,C w pg
 sub:∀{w k},C w k->T w k
 lt:∀{w acc Z k},St w acc Z->T w k->k<w.heap.size
 keep:∀{S:Nat->Prop}{w w' acc Z},St w acc Z->Chg S w w'->(∀k,S k->¬T w k)->St w' acc Z/\(∀k,T w' k->T w k)/\∀k,C w' k->C w k
 move:∀{w w' acc Z r},St w acc Z->GetSt pg gb w' r->Chg (·=pg) w w'->St w' acc r/\(∀k,T w' k->T w k)/\∀k,C w' k->C w k
def zHa (f:FuncId) (fa:Array Value) (one:Rdr δ) (E:Elt β) (val:β->Value) (R:Rp β δ) (C T:World->Nat->Prop) (St:World->List δ->List Int->Prop):Prop :=
 ∀(w:World) (acc:List δ) (Z:List Int),St w acc Z->acc.length<=16777215 ->
  (one Z=none->Calls Tryz.prog f fa w λe w'=>e=tL/\Chg (C w) w w') /\
  ∀x r,one Z=some (x,r)->Calls Tryz.prog f fa w λe w'=>∃y,e=.returned (val y)/\E.ok y/\R w' (λk=>w.heap.size<=k/\¬T w' k) y x/\St w' (acc++[x]) r/\Chg (C w) w w'/\(∀k,T w' k->T w k\/w.heap.size<=k)/\∀k,C w' k->C w k\/w.heap.size<=k
structure LSt (E:Elt β) (R:Rp β δ) (C T:World->Nat->Prop) (St:World->List δ->List Int->Prop) (w wr:World) (v:Value) (acc:List δ) (Z:List Int) (X:List β):Prop where
 own:E.Own wr w.heap.size v X
 len:X.length=acc.length
 rel:∀(j:Nat) x d,X[j]?=some x->acc[j]?=some d->R wr (λk=>w.heap.size<=k/\¬T wr k/\v.ownBlock≠some k) x d
 st:St wr acc Z
 chg:Chg (C w) w wr
 tg:∀k,T wr k->T w k\/w.heap.size<=k
 cg:∀k,C wr k->C w k\/w.heap.size<=k
 ob:∀k,v.ownBlock=some k->¬T wr k
theorem LSt.start {pg gb:Nat}{C T:World->Nat->Prop}{St:World->List δ->List Int->Prop}(hS:Side pg gb C T St) {w w1:World}{Z r:List Int}(h:St w [] Z) (hg:GetSt pg gb w1 r) (hc:Chg (·=pg) w w1) :
  LSt E R C T St w w1 (.slice none 0 0) [] r []:=by
 obtain⟨h1,h2,h3⟩:=hS.move h hg hc;exact⟨.nil _ _,rfl,λj x d hx=>by simp at hx,h1,hc.mono (λk _ e=>by subst e;exact hS.pgC _),λk hk=>.inl (h2 k hk),λk hk=>.inl (h3 k hk),λk hk=>by cases hk⟩
theorem LSt.step (hR:Good R) {pg gb:Nat}{C T:World->Nat->Prop}{St:World->List δ->List Int->Prop}(hS:Side pg gb C T St) {w wr w2 w4:World}{v v':Value}{acc:List δ}{Z r:List Int}{X:List β}(o:Obj) (h:LSt E R C T St w wr v acc Z X)
  {y:β}{x:δ}(hy:R w2 (λk=>wr.heap.size<=k/\¬T w2 k) y x) (hst:St w2 (acc++[x]) r) (hc:Chg (C wr) wr w2) (htg:∀k,T w2 k->T wr k\/wr.heap.size<=k) (hcg:∀k,C w2 k->C wr k\/wr.heap.size<=k)
  (ho:E.Own w4 w.heap.size v' (X++[y])) (hb:Chg (λk=>v.ownBlock=some k) (w2.alloc o) w4/\(v'.ownBlock=v.ownBlock\/v'.ownBlock=some (w2.alloc o).heap.size)):LSt E R C T St w w4 v' (acc++[x]) r (X++[y]):=by
 obtain⟨hb1,hb2⟩:=hb;have hblk:∀k,v.ownBlock=some k->w.heap.size<=k/\k<wr.heap.size:=λk hk=>h.own.blk hk
 have h24:Chg (λk=>v.ownBlock=some k) w2 w4:=((Chg.refl _ w2).alloc o).trans hb1;have hnt:∀k,v.ownBlock=some k->¬T w2 k:=λk hk ht=>by
  rcases htg k ht with h1|h1
  .exact h.ob k hk h1
  .have:=(hblk k hk).2;omega
 obtain⟨k1,k2,k3⟩:=hS.keep hst h24 hnt;have hsz:wr.heap.size<=w2.heap.size:=hc.size;have hsa:(w2.alloc o).heap.size=w2.heap.size+1:=sI
 have hw:w.heap.size<=wr.heap.size:=h.chg.size;refine⟨ho,by simp[h.len],λj z d hz hd=>?_,k1,(h.chg.trans2 hc (λk hk hCk=>(h.cg k hCk).resolve_right oM)).trans2 h24 (λk hk e=>absurd (hblk k e).1 oM),λk hk=>?_,λk hk=>?_,λk hk ht=>?_⟩
 .have hnew:∀k,k<w2.heap.size->v'.ownBlock=some k->v.ownBlock=some k:=λk hk e=>by
   rcases hb2 with e2|e2
   .rw[<-e2];exact e
   .rw[e2,hsa]at e;injection e with e;omega
  rw[List.getElem?_append]at hz hd;by_cases hj:j<X.length
  .rw[if_pos hj]at hz
   rw[if_pos (by have:=h.len;omega)]at hd;have r1:=hR.mono (h.rel j z d hz hd) (S':=λk=>w.heap.size<=k/\¬T wr k/\v.ownBlock≠some k/\k<wr.heap.size) (λk hk hs=>⟨hs.1,hs.2.1,hs.2.2,hk⟩);have r2:=hR.chg r1 hc (λk hs hC=>hs.2.1 (hS.sub hC));have r3:=hR.chg r2 h24 (λk hs e=>hs.2.2.1 e);refine hR.mono r3 (λk _ hs=>⟨hs.1,λht=>?_,λe=>hs.2.2.1 (hnew k oM e)⟩);rcases htg k (k2 k ht) with h1|h1
   .exact hs.2.1 h1
   .omega
  .rw[if_neg hj]at hz
   rw[if_neg (by have:=h.len;omega)]at hd;have hj0:j-X.length=0:=by
    have:=(Az1.1 hz).1;simp at this;omega
   rw[hj0]at hz;rw[show j-acc.length=0 by have:=h.len;omega]at hd;simp at hz hd
   subst hz hd;have r1:=hR.mono hy (S':=λk=>wr.heap.size<=k/\¬T w2 k/\k<w2.heap.size) (λk hk hs=>⟨hs.1,hs.2,hk⟩);have r2:=hR.chg r1 h24 (λk hs e=>by have:=(hblk k e).2;omega);exact hR.mono r2 (λk _ hs=>⟨oM,λht=>hs.2.1 (k2 k ht),λe=>by have:=(hblk k (hnew k hs.2.2 e)).2;omega⟩)
 .rcases htg k (k2 k hk) with h1|h1
  .exact h.tg k h1
  .exact .inr oM
 .rcases hcg k (k3 k hk) with h1|h1
  .exact h.cg k h1
  .exact .inr oM
 .have ht2:=k2 k ht
  rcases hb2 with e2|e2
  .rw[e2]at hk;exact hnt k hk ht2
  .rw[e2,hsa]at hk
   injection hk with hk;have:=hS.lt hst ht2;omega
theorem LSt.final {C T:World->Nat->Prop}{St:World->List δ->List Int->Prop}(hR:Good R) {w wr:World}{v:Value}{acc:List δ}{Z:List Int}{X:List β}(h:LSt E R C T St w wr v acc Z X) :
  ∃a c,v=.slice a acc.length c/\acc.length<=c/\zJ E R wr (λk=>w.heap.size<=k/\¬T wr k) (a,acc.length,acc.length) acc:=by
 obtain⟨a,g,c,h1,h2,h3,h4⟩:=h.own.at';rw[h.len]at h1 h2;refine⟨a,c,h1,h2,X,⟨h.len.symm,Ay _,g,0,h3,λhp=>⟨(h4 hp).1,(h4 hp).2,h.ob g (by rw[h1,(h4 hp).1];rfl)⟩⟩,h.len,λj x d hx hd=>hR.mono (h.rel j x d hx hd) (λk _ hs=>⟨hs.1,hs.2.1⟩)⟩
theorem Elt.Own.cap {w:World}{B:Nat}{a:Option Addr}{n c:Nat}{X:List β}(h:E.Own w B (.slice a n c) X):E.Own w B (.slice a n n) X:=by
 rcases h with ⟨h1,rfl⟩|⟨g,C,h1,h2,h3,h4,h5⟩
 .injection h1 with e1 e2 e3
  subst e1 e2;exact .nil _ _
 .injection h1 with e1 e2 e3
  subst e1 e2 e3;refine .inr ⟨g,X,rfl,h2,⟨λj u hj=>?_,h3.z,h3.lt,λx hx=>h3.ok x (h4.subset hx)⟩,Aw6 _,Ay4 h4.length_le h5⟩;have:=(h3.at' h4).c j u hj;rwa [Ax0]at this
theorem LSt.finalX {C T:World->Nat->Prop}{St:World->List δ->List Int->Prop}{w wr:World}{a:Option Addr}{n c:Nat}{acc:List δ}{Z:List Int}{X:List β}(h:LSt E R C T St w wr (.slice a n c) acc Z X) :
  ∃X,E.Own wr w.heap.size (.slice a n n) X/\X.length=acc.length/\(∀k,(Value.slice a n n).ownBlock=some k->¬T wr k)/\∀(j:Nat) x d,X[j]?=some x->acc[j]?=some d->R wr (λk=>w.heap.size<=k/\¬T wr k/\(Value.slice a n n).ownBlock≠some k) x d:=by
 have hob:(Value.slice a n n).ownBlock=(Value.slice a n c).ownBlock:=by cases a <;> rfl
 rw[hob];exact⟨X,h.own.cap,h.len,h.ob,h.rel⟩
def eJ (one:Rdr δ) (E:Elt β) (R:Rp β δ) (C T:World->Nat->Prop) (St:World->List δ->List Int->Prop) (w:World) (Z:List Int) (e:Ending) (w':World):Prop :=
 Chg (C w) w w'/\((vA one Z=none/\e=tL)\/∃L r a,vA one Z=some (L,r)/\e=.returned (.slice a L.length L.length)/\zJ E R w' (λk=>w.heap.size<=k/\¬T w' k) (a,L.length,L.length) L/\St w' L r/\L.length<=16777215/\(∀k,T w' k->T w k\/w.heap.size<=k)/\(∀k,C w' k->C w k\/w.heap.size<=k) /\
  ∃X,E.Own w' w.heap.size (.slice a L.length L.length) X/\X.length=L.length/\(∀k,(Value.slice a L.length L.length).ownBlock=some k->¬T w' k)/\∀(j:Nat) x d,X[j]?=some x->L[j]?=some d->R w' (λk=>w.heap.size<=k/\¬T w' k/\(Value.slice a L.length L.length).ownBlock≠some k) x d)
theorem zDb {Z r:List Int}{x:Int}(h:anyG Z=some (x,r)):∃n:Nat,x=n/\n<=16777215/\r.length<=Z.length:=by
 obtain⟨n,k,_,rfl,h2,_,rfl,_⟩:=hJ h;exact⟨n,rfl,h2,by rw[Av6];omega⟩
end
theorem fL {δ:Type}{one:Rdr δ}:∀{k:Nat}{acc L:List δ}{Z r:List Int},repG one k acc Z=some (L,r)->L.length=acc.length+k
 | 0,acc,L,Z,r,h=>by
  simp only[repG]at h;injection h with h;injection h with h1;rw[<-h1];omega
 | k+1,acc,L,Z,r,h=>by
  unfold repG at h
  split at h
  .cases h
  .have:=fL h
   simp at this
   omega
def dG (s:Str):Value:=.string s
def zCt (n:Int):Value:=.int .i64 n
def pN (y:qS):Value:=.agg #[.int .u8 y.1,.int .i64 y.2.1,.int .i64 y.2.2]
def zBw (y:Int×Sl×Sl):Value:=.agg #[.int .i64 y.1,.slice y.2.1.1 y.2.1.2.1 y.2.1.2.2,.slice y.2.2.1 y.2.2.2.1 y.2.2.2.2]
def zCq (y:Int×Sl×Sl):Value:=.agg #[.int .u8 y.1,.slice y.2.1.1 y.2.1.2.1 y.2.1.2.2,.slice y.2.2.1 y.2.2.2.1 y.2.2.2.2]
theorem zRb {δ:Type}{R:Rp Str δ}(hR:Good R) {pg gb:Nat}{C T:World->Nat->Prop}{St:World->List δ->List Int->Prop}(hS:Side pg gb C T St) (f:FuncId) (fa lb:Array Value) (one:Rdr δ) (eg:∀args w,(callFunc f args).run Tryz.prog w=.ok (.enter f args) w)
  (hO:zHa f (fa++lb) one strE dG R C T St) (w:World) (Z:List Int) (h:St w [] Z) :
  Calls Tryz.prog 103 #[.pointer (some ⟨pg,0,none⟩),.func (.func f) fa lb] w (eJ one strE R C T St w Z):=by
 have HO:=jh hO;have HR:=jh hR;have HS:=jh hS;have HST:=jh h;have HG:=jh (hS.get h);clear hO hR hS h;cases hn:anyG Z with
 | none =>
  have HF:Hd (vA one Z=none):=jh (by unfold vA;rw[hn]);have HN:=jh (bS w HG.o hn);clear hn;go_enter Tryz.func103,Tryz.ntmps103
  go_wp2_with fail
  refine HN.o.mono ?_;rintro e w1 ⟨rfl,hc⟩;exact⟨rfl,hc.any,.inl ⟨HF.o,rfl⟩⟩
 | some p =>
  obtain⟨x,r⟩:=p;obtain⟨n,rfl,hn2,-⟩:=zDb hn;have HF:Hd (vA one Z=repG one n [] r):=jh (by unfold vA;rw[hn];rfl);have HN:=jh (bQ w HG.o hn);clear hn;go_enter Tryz.func103,Tryz.ntmps103
  go_wp2_with fail
  refine HN.o.mono ?_;rintro e w1 ⟨rfl,hg,hc⟩;have HL0:Hd (LSt strE R C T St w w1 (.slice none 0 0) [] r []):=jh (LSt.start HS.o HST.o hg hc);clear hg hc HN;go_wp2
  go_loopw [5,8] (λv q wr=>∃(k:Nat) (acc:List δ) (Zk:List Int) (X:List Str) (v0:Value),v0=v/\k<=n/\q=.int .i64 k/\acc.length=k/\repG one (n-k) acc Zk=repG one n [] r/\LSt strE R C T St w wr v0 acc Zk X) (λ_ q _=>n-(intOf q).toNat)
  case atStart=>exact⟨0,[],r,[],_,rfl,oM,rfl,rfl,rfl,HL0.o⟩
  case round =>
   clear HL0;obtain⟨k,acc,Zk,X,v,rfl,hk,rfl,ha,hrep,hl⟩:=hrel;have HRP:=jh hrep;have HL:=jh hl;have HA:=jh ha;clear hrep ha;by_cases hkn:k<n
   .have b9:decide ((k:Int)<(n:Int))=true:=by simp;omega
    have b9':decide (k<n)=true:=sO;obtain⟨m,hm⟩:∃m,n-k=m+1:=⟨n-k-1,oM⟩;have hm2:n-(k+1)=m:=oM;obtain⟨hO1,hO2⟩:=HO.o wr acc Zk hl.st (by have:=HA.o;omega);clear hl;cases ho:one Zk with
    | none =>
     have HRN:Hd (vA one Z=none):=jh (by rw[HF.o,<-HRP.o,hm];unfold repG;rw[ho]);have HC1:=jh (hO1 ho);clear hO1 hO2 ho hm hm2;go_wp2_with fail
     refine HC1.o.mono ?_;rintro e w2 ⟨rfl,hc⟩;refine⟨rfl,HL.o.chg.trans2 hc (λj hj hC=>(HL.o.cg j hC).resolve_right oM),.inl ⟨HRN.o,rfl⟩⟩
    | some p =>
     obtain⟨x,rx⟩:=p;have HRN:Hd (repG one (n-(k+1)) (acc++[x]) rx=repG one n [] r):=jh (by rw[<-HRP.o,hm,hm2];conv=>rhs;unfold repG;rw[ho]);have HC1:=jh (hO2 x rx ho);clear hO1 hO2 ho hm hm2;go_wp2_with fail
     refine HC1.o.mono ?_;rintro e w2 ⟨y,rfl,hy,hry,hst,hc,htg,hcg⟩;simp only[dG];have HOWN:Hd (strE.Own w2 w.heap.size v X):=jh (HL.o.own.chgB hc (λg hg hC=>HL.o.ob g hg (HS.o.sub hC)));have HLB:Hd (w.heap.size<=w2.heap.size):=jh (Ay4 HL.o.chg.size hc.size);have HY:Hd (∀x∈[y],strE.ok x):=jh (λa ha=>by rw[Ay3]at ha;rw[ha];exact hy);have HXL:Hd (X.length<=16777215):=jh (by rw[HL.o.len,HA.o];omega);have HRY:=jh hry;have HST2:=jh hst;have HC:=jh hc;have HTG:=jh htg;have HCG:=jh hcg;clear hy hry hst hc htg hcg HC1;go_wp2_with (at_builtin;refine Elt.wpList_append2 strE rfl _ _ 22 22 rfl rfl w.heap.size v X [y] (.slice (some ⟨w2.heap.size,0,none⟩) 1 1) rfl rfl (HOWN.o.chg ((Chg.refl (λ_=>False) _).alloc _) (λ_ _ _ h=>h)) (by have:=HLB.o;simp;omega) (strE.srcLit 1 HY.o) HY.o (by have:=HXL.o;simp;omega) ?_;intro v' w4 HO4 HC4 HB4)
     have HL4:=jh (LSt.step HR.o HS.o _ HL.o HRY.o HST2.o HC.o HTG.o HCG.o HO4.o HB4.o);go_roundw
     case rel=>exact⟨k+1,acc++[x],rx,X++[y],_,rfl,oM,by go_num,by simp[HA.o],HRN.o,HL4.o⟩
     case measure=>simp[intOf];omega
   .obtain rfl:k=n:=oM
    have b9:decide ((k:Int)<(k:Int))=false:=sI;obtain⟨a,c,hv,hac,hfin⟩:=hl.final HR.o;subst hv;have HFIN:=jh hfin;have HLR:Hd (vA one Z=some (acc,Zk)):=jh (by rw[HF.o,<-HRP.o,Au0];rfl);clear hfin hl;go_wp2_with fail
    refine (zSc wr a acc.length c hac).mono ?_;rintro e w3 ⟨rfl,rfl⟩;go_wp2;go_ret
    exact⟨HL.o.chg,.inr ⟨acc,Zk,a,HLR.o,rfl,HFIN.o,HL.o.st,by rw[HA.o];omega,HL.o.tg,HL.o.cg,HL.o.finalX⟩⟩
theorem zTa {δ:Type}{R:Rp Int δ}(hR:Good R) {pg gb:Nat}{C T:World->Nat->Prop}{St:World->List δ->List Int->Prop}(hS:Side pg gb C T St) (f:FuncId) (fa lb:Array Value) (one:Rdr δ) (eg:∀args w,(callFunc f args).run Tryz.prog w=.ok (.enter f args) w)
  (hO:zHa f (fa++lb) one intE zCt R C T St) (w:World) (Z:List Int) (h:St w [] Z) :
  Calls Tryz.prog 147 #[.pointer (some ⟨pg,0,none⟩),.func (.func f) fa lb] w (eJ one intE R C T St w Z):=by
 have HO:=jh hO;have HR:=jh hR;have HS:=jh hS;have HST:=jh h;have HG:=jh (hS.get h);clear hO hR hS h;cases hn:anyG Z with
 | none =>
  have HF:Hd (vA one Z=none):=jh (by unfold vA;rw[hn]);have HN:=jh (bS w HG.o hn);clear hn;go_enter Tryz.func147,Tryz.ntmps147
  go_wp2_with fail
  refine HN.o.mono ?_;rintro e w1 ⟨rfl,hc⟩;exact⟨rfl,hc.any,.inl ⟨HF.o,rfl⟩⟩
 | some p =>
  obtain⟨x,r⟩:=p;obtain⟨n,rfl,hn2,-⟩:=zDb hn;have HF:Hd (vA one Z=repG one n [] r):=jh (by unfold vA;rw[hn];rfl);have HN:=jh (bQ w HG.o hn);clear hn;go_enter Tryz.func147,Tryz.ntmps147
  go_wp2_with fail
  refine HN.o.mono ?_;rintro e w1 ⟨rfl,hg,hc⟩;have HL0:Hd (LSt intE R C T St w w1 (.slice none 0 0) [] r []):=jh (LSt.start HS.o HST.o hg hc);clear hg hc HN;go_wp2
  go_loopw [5,8] (λv q wr=>∃(k:Nat) (acc:List δ) (Zk:List Int) (X:List Int) (v0:Value),v0=v/\k<=n/\q=.int .i64 k/\acc.length=k/\repG one (n-k) acc Zk=repG one n [] r/\LSt intE R C T St w wr v0 acc Zk X) (λ_ q _=>n-(intOf q).toNat)
  case atStart=>exact⟨0,[],r,[],_,rfl,oM,rfl,rfl,rfl,HL0.o⟩
  case round =>
   clear HL0;obtain⟨k,acc,Zk,X,v,rfl,hk,rfl,ha,hrep,hl⟩:=hrel;have HRP:=jh hrep;have HL:=jh hl;have HA:=jh ha;clear hrep ha;by_cases hkn:k<n
   .have b9:decide ((k:Int)<(n:Int))=true:=by simp;omega
    have b9':decide (k<n)=true:=sO;obtain⟨m,hm⟩:∃m,n-k=m+1:=⟨n-k-1,oM⟩;have hm2:n-(k+1)=m:=oM;obtain⟨hO1,hO2⟩:=HO.o wr acc Zk hl.st (by have:=HA.o;omega);clear hl;cases ho:one Zk with
    | none =>
     have HRN:Hd (vA one Z=none):=jh (by rw[HF.o,<-HRP.o,hm];unfold repG;rw[ho]);have HC1:=jh (hO1 ho);clear hO1 hO2 ho hm hm2;go_wp2_with fail
     refine HC1.o.mono ?_;rintro e w2 ⟨rfl,hc⟩;refine⟨rfl,HL.o.chg.trans2 hc (λj hj hC=>(HL.o.cg j hC).resolve_right oM),.inl ⟨HRN.o,rfl⟩⟩
    | some p =>
     obtain⟨x,rx⟩:=p;have HRN:Hd (repG one (n-(k+1)) (acc++[x]) rx=repG one n [] r):=jh (by rw[<-HRP.o,hm,hm2];conv=>rhs;unfold repG;rw[ho]);have HC1:=jh (hO2 x rx ho);clear hO1 hO2 ho hm hm2;go_wp2_with fail
     refine HC1.o.mono ?_;rintro e w2 ⟨y,rfl,hy,hry,hst,hc,htg,hcg⟩;simp only[zCt];have HOWN:Hd (intE.Own w2 w.heap.size v X):=jh (HL.o.own.chgB hc (λg hg hC=>HL.o.ob g hg (HS.o.sub hC)));have HLB:Hd (w.heap.size<=w2.heap.size):=jh (Ay4 HL.o.chg.size hc.size);have HY:Hd (∀x∈[y],intE.ok x):=jh (λa ha=>by rw[Ay3]at ha;rw[ha];exact hy);have HXL:Hd (X.length<=16777215):=jh (by rw[HL.o.len,HA.o];omega);have HRY:=jh hry;have HST2:=jh hst;have HC:=jh hc;have HTG:=jh htg;have HCG:=jh hcg;clear hy hry hst hc htg hcg HC1;go_wp2_with (at_builtin;refine Elt.wpList_append2 intE rfl _ _ 25 25 rfl rfl w.heap.size v X [y] (.slice (some ⟨w2.heap.size,0,none⟩) 1 1) rfl rfl (HOWN.o.chg ((Chg.refl (λ_=>False) _).alloc _) (λ_ _ _ h=>h)) (by have:=HLB.o;simp;omega) (intE.srcLit 1 HY.o) HY.o (by have:=HXL.o;simp;omega) ?_;intro v' w4 HO4 HC4 HB4)
     have HL4:=jh (LSt.step HR.o HS.o _ HL.o HRY.o HST2.o HC.o HTG.o HCG.o HO4.o HB4.o);go_roundw
     case rel=>exact⟨k+1,acc++[x],rx,X++[y],_,rfl,oM,by go_num,by simp[HA.o],HRN.o,HL4.o⟩
     case measure=>simp[intOf];omega
   .obtain rfl:k=n:=oM
    have b9:decide ((k:Int)<(k:Int))=false:=sI;obtain⟨a,c,hv,hac,hfin⟩:=hl.final HR.o;subst hv;have HFIN:=jh hfin;have HLR:Hd (vA one Z=some (acc,Zk)):=jh (by rw[HF.o,<-HRP.o,Au0];rfl);clear hfin hl;go_wp2_with fail
    refine (zBf wr a acc.length c hac).mono ?_;rintro e w3 ⟨rfl,rfl⟩;go_wp2;go_ret
    exact⟨HL.o.chg,.inr ⟨acc,Zk,a,HLR.o,rfl,HFIN.o,HL.o.st,by rw[HA.o];omega,HL.o.tg,HL.o.cg,HL.o.finalX⟩⟩
theorem zR3 {δ:Type}{R:Rp qS δ}(hR:Good R) {pg gb:Nat}{C T:World->Nat->Prop}{St:World->List δ->List Int->Prop}(hS:Side pg gb C T St) (f:FuncId) (fa lb:Array Value) (one:Rdr δ) (eg:∀args w,(callFunc f args).run Tryz.prog w=.ok (.enter f args) w)
  (hO:zHa f (fa++lb) one qC pN R C T St) (w:World) (Z:List Int) (h:St w [] Z) :
  Calls Tryz.prog 171 #[.pointer (some ⟨pg,0,none⟩),.func (.func f) fa lb] w (eJ one qC R C T St w Z):=by
 have HO:=jh hO;have HR:=jh hR;have HS:=jh hS;have HST:=jh h;have HG:=jh (hS.get h);clear hO hR hS h;cases hn:anyG Z with
 | none =>
  have HF:Hd (vA one Z=none):=jh (by unfold vA;rw[hn]);have HN:=jh (bS w HG.o hn);clear hn;go_enter Tryz.func171,Tryz.ntmps171
  go_wp2_with fail
  refine HN.o.mono ?_;rintro e w1 ⟨rfl,hc⟩;exact⟨rfl,hc.any,.inl ⟨HF.o,rfl⟩⟩
 | some p =>
  obtain⟨x,r⟩:=p;obtain⟨n,rfl,hn2,-⟩:=zDb hn;have HF:Hd (vA one Z=repG one n [] r):=jh (by unfold vA;rw[hn];rfl);have HN:=jh (bQ w HG.o hn);clear hn;go_enter Tryz.func171,Tryz.ntmps171
  go_wp2_with fail
  refine HN.o.mono ?_;rintro e w1 ⟨rfl,hg,hc⟩;have HL0:Hd (LSt qC R C T St w w1 (.slice none 0 0) [] r []):=jh (LSt.start HS.o HST.o hg hc);clear hg hc HN;go_wp2
  go_loopw [5,8] (λv q wr=>∃(k:Nat) (acc:List δ) (Zk:List Int) (X:List qS) (v0:Value),v0=v/\k<=n/\q=.int .i64 k/\acc.length=k/\repG one (n-k) acc Zk=repG one n [] r/\LSt qC R C T St w wr v0 acc Zk X) (λ_ q _=>n-(intOf q).toNat)
  case atStart=>exact⟨0,[],r,[],_,rfl,oM,rfl,rfl,rfl,HL0.o⟩
  case round =>
   clear HL0;obtain⟨k,acc,Zk,X,v,rfl,hk,rfl,ha,hrep,hl⟩:=hrel;have HRP:=jh hrep;have HL:=jh hl;have HA:=jh ha;clear hrep ha;by_cases hkn:k<n
   .have b9:decide ((k:Int)<(n:Int))=true:=by simp;omega
    have b9':decide (k<n)=true:=sO;obtain⟨m,hm⟩:∃m,n-k=m+1:=⟨n-k-1,oM⟩;have hm2:n-(k+1)=m:=oM;obtain⟨hO1,hO2⟩:=HO.o wr acc Zk hl.st (by have:=HA.o;omega);clear hl;cases ho:one Zk with
    | none =>
     have HRN:Hd (vA one Z=none):=jh (by rw[HF.o,<-HRP.o,hm];unfold repG;rw[ho]);have HC1:=jh (hO1 ho);clear hO1 hO2 ho hm hm2;go_wp2_with fail
     refine HC1.o.mono ?_;rintro e w2 ⟨rfl,hc⟩;refine⟨rfl,HL.o.chg.trans2 hc (λj hj hC=>(HL.o.cg j hC).resolve_right oM),.inl ⟨HRN.o,rfl⟩⟩
    | some p =>
     obtain⟨x,rx⟩:=p;have HRN:Hd (repG one (n-(k+1)) (acc++[x]) rx=repG one n [] r):=jh (by rw[<-HRP.o,hm,hm2];conv=>rhs;unfold repG;rw[ho]);have HC1:=jh (hO2 x rx ho);clear hO1 hO2 ho hm hm2;go_wp2_with fail
     refine HC1.o.mono ?_;rintro e w2 ⟨y,rfl,hy,hry,hst,hc,htg,hcg⟩;simp only[pN];have HOWN:Hd (qC.Own w2 w.heap.size v X):=jh (HL.o.own.chgB hc (λg hg hC=>HL.o.ob g hg (HS.o.sub hC)));have HLB:Hd (w.heap.size<=w2.heap.size):=jh (Ay4 HL.o.chg.size hc.size);have HY:Hd (∀x∈[y],qC.ok x):=jh (λa ha=>by rw[Ay3]at ha;rw[ha];exact hy);have HXL:Hd (X.length<=16777215):=jh (by rw[HL.o.len,HA.o];omega);have HRY:=jh hry;have HST2:=jh hst;have HC:=jh hc;have HTG:=jh htg;have HCG:=jh hcg;clear hy hry hst hc htg hcg HC1;go_wp2_with (at_builtin;refine Elt.wpList_append2 qC rfl _ _ 72 72 rfl rfl w.heap.size v X [y] (.slice (some ⟨w2.heap.size,0,none⟩) 1 1) rfl rfl (HOWN.o.chg ((Chg.refl (λ_=>False) _).alloc _) (λ_ _ _ h=>h)) (by have:=HLB.o;simp;omega) (qC.srcLit 1 HY.o) HY.o (by have:=HXL.o;simp;omega) ?_;intro v' w4 HO4 HC4 HB4)
     have HL4:=jh (LSt.step HR.o HS.o _ HL.o HRY.o HST2.o HC.o HTG.o HCG.o HO4.o HB4.o);go_roundw
     case rel=>exact⟨k+1,acc++[x],rx,X++[y],_,rfl,oM,by go_num,by simp[HA.o],HRN.o,HL4.o⟩
     case measure=>simp[intOf];omega
   .obtain rfl:k=n:=oM
    have b9:decide ((k:Int)<(k:Int))=false:=sI;obtain⟨a,c,hv,hac,hfin⟩:=hl.final HR.o;subst hv;have HFIN:=jh hfin;have HLR:Hd (vA one Z=some (acc,Zk)):=jh (by rw[HF.o,<-HRP.o,Au0];rfl);clear hfin hl;go_wp2_with fail
    refine (zQs wr a acc.length c hac).mono ?_;rintro e w3 ⟨rfl,rfl⟩;go_wp2;go_ret
    exact⟨HL.o.chg,.inr ⟨acc,Zk,a,HLR.o,rfl,HFIN.o,HL.o.st,by rw[HA.o];omega,HL.o.tg,HL.o.cg,HL.o.finalX⟩⟩
theorem zT4 {δ:Type}{R:Rp (Int×Sl×Sl) δ}(hR:Good R) {pg gb:Nat}{C T:World->Nat->Prop}{St:World->List δ->List Int->Prop}(hS:Side pg gb C T St) (f:FuncId) (fa lb:Array Value) (one:Rdr δ) (eg:∀args w,(callFunc f args).run Tryz.prog w=.ok (.enter f args) w)
  (hO:zHa f (fa++lb) one stE zBw R C T St) (w:World) (Z:List Int) (h:St w [] Z) :
  Calls Tryz.prog 145 #[.pointer (some ⟨pg,0,none⟩),.func (.func f) fa lb] w (eJ one stE R C T St w Z):=by
 have HO:=jh hO;have HR:=jh hR;have HS:=jh hS;have HST:=jh h;have HG:=jh (hS.get h);clear hO hR hS h;cases hn:anyG Z with
 | none =>
  have HF:Hd (vA one Z=none):=jh (by unfold vA;rw[hn]);have HN:=jh (bS w HG.o hn);clear hn;go_enter Tryz.func145,Tryz.ntmps145
  go_wp2_with fail
  refine HN.o.mono ?_;rintro e w1 ⟨rfl,hc⟩;exact⟨rfl,hc.any,.inl ⟨HF.o,rfl⟩⟩
 | some p =>
  obtain⟨x,r⟩:=p;obtain⟨n,rfl,hn2,-⟩:=zDb hn;have HF:Hd (vA one Z=repG one n [] r):=jh (by unfold vA;rw[hn];rfl);have HN:=jh (bQ w HG.o hn);clear hn;go_enter Tryz.func145,Tryz.ntmps145
  go_wp2_with fail
  refine HN.o.mono ?_;rintro e w1 ⟨rfl,hg,hc⟩;have HL0:Hd (LSt stE R C T St w w1 (.slice none 0 0) [] r []):=jh (LSt.start HS.o HST.o hg hc);clear hg hc HN;go_wp2
  go_loopw [5,8] (λv q wr=>∃(k:Nat) (acc:List δ) (Zk:List Int) (X:List (Int×Sl×Sl)) (v0:Value),v0=v/\k<=n/\q=.int .i64 k/\acc.length=k/\repG one (n-k) acc Zk=repG one n [] r/\LSt stE R C T St w wr v0 acc Zk X) (λ_ q _=>n-(intOf q).toNat)
  case atStart=>exact⟨0,[],r,[],_,rfl,oM,rfl,rfl,rfl,HL0.o⟩
  case round =>
   clear HL0;obtain⟨k,acc,Zk,X,v,rfl,hk,rfl,ha,hrep,hl⟩:=hrel;have HRP:=jh hrep;have HL:=jh hl;have HA:=jh ha;clear hrep ha;by_cases hkn:k<n
   .have b9:decide ((k:Int)<(n:Int))=true:=by simp;omega
    have b9':decide (k<n)=true:=sO;obtain⟨m,hm⟩:∃m,n-k=m+1:=⟨n-k-1,oM⟩;have hm2:n-(k+1)=m:=oM;obtain⟨hO1,hO2⟩:=HO.o wr acc Zk hl.st (by have:=HA.o;omega);clear hl;cases ho:one Zk with
    | none =>
     have HRN:Hd (vA one Z=none):=jh (by rw[HF.o,<-HRP.o,hm];unfold repG;rw[ho]);have HC1:=jh (hO1 ho);clear hO1 hO2 ho hm hm2;go_wp2_with fail
     refine HC1.o.mono ?_;rintro e w2 ⟨rfl,hc⟩;refine⟨rfl,HL.o.chg.trans2 hc (λj hj hC=>(HL.o.cg j hC).resolve_right oM),.inl ⟨HRN.o,rfl⟩⟩
    | some p =>
     obtain⟨x,rx⟩:=p;have HRN:Hd (repG one (n-(k+1)) (acc++[x]) rx=repG one n [] r):=jh (by rw[<-HRP.o,hm,hm2];conv=>rhs;unfold repG;rw[ho]);have HC1:=jh (hO2 x rx ho);clear hO1 hO2 ho hm hm2;go_wp2_with fail
     refine HC1.o.mono ?_;rintro e w2 ⟨y,rfl,hy,hry,hst,hc,htg,hcg⟩;simp only[zBw];have HOWN:Hd (stE.Own w2 w.heap.size v X):=jh (HL.o.own.chgB hc (λg hg hC=>HL.o.ob g hg (HS.o.sub hC)));have HLB:Hd (w.heap.size<=w2.heap.size):=jh (Ay4 HL.o.chg.size hc.size);have HY:Hd (∀x∈[y],stE.ok x):=jh (λa ha=>by rw[Ay3]at ha;rw[ha];exact hy);have HXL:Hd (X.length<=16777215):=jh (by rw[HL.o.len,HA.o];omega);have HRY:=jh hry;have HST2:=jh hst;have HC:=jh hc;have HTG:=jh htg;have HCG:=jh hcg;clear hy hry hst hc htg hcg HC1;go_wp2_with (at_builtin;refine Elt.wpList_append2 stE rfl _ _ 29 29 rfl rfl w.heap.size v X [y] (.slice (some ⟨w2.heap.size,0,none⟩) 1 1) rfl rfl (HOWN.o.chg ((Chg.refl (λ_=>False) _).alloc _) (λ_ _ _ h=>h)) (by have:=HLB.o;simp;omega) (stE.srcLit 1 HY.o) HY.o (by have:=HXL.o;simp;omega) ?_;intro v' w4 HO4 HC4 HB4)
     have HL4:=jh (LSt.step HR.o HS.o _ HL.o HRY.o HST2.o HC.o HTG.o HCG.o HO4.o HB4.o);go_roundw
     case rel=>exact⟨k+1,acc++[x],rx,X++[y],_,rfl,oM,by go_num,by simp[HA.o],HRN.o,HL4.o⟩
     case measure=>simp[intOf];omega
   .obtain rfl:k=n:=oM
    have b9:decide ((k:Int)<(k:Int))=false:=sI;obtain⟨a,c,hv,hac,hfin⟩:=hl.final HR.o;subst hv;have HFIN:=jh hfin;have HLR:Hd (vA one Z=some (acc,Zk)):=jh (by rw[HF.o,<-HRP.o,Au0];rfl);clear hfin hl;go_wp2_with fail
    refine (zTe wr a acc.length c hac).mono ?_;rintro e w3 ⟨rfl,rfl⟩;go_wp2;go_ret
    exact⟨HL.o.chg,.inr ⟨acc,Zk,a,HLR.o,rfl,HFIN.o,HL.o.st,by rw[HA.o];omega,HL.o.tg,HL.o.cg,HL.o.finalX⟩⟩
theorem zT5 {δ:Type}{R:Rp (Int×Sl×Sl) δ}(hR:Good R) {pg gb:Nat}{C T:World->Nat->Prop}{St:World->List δ->List Int->Prop}(hS:Side pg gb C T St) (f:FuncId) (fa lb:Array Value) (one:Rdr δ) (eg:∀args w,(callFunc f args).run Tryz.prog w=.ok (.enter f args) w)
  (hO:zHa f (fa++lb) one lsE zCq R C T St) (w:World) (Z:List Int) (h:St w [] Z) :
  Calls Tryz.prog 148 #[.pointer (some ⟨pg,0,none⟩),.func (.func f) fa lb] w (eJ one lsE R C T St w Z):=by
 have HO:=jh hO;have HR:=jh hR;have HS:=jh hS;have HST:=jh h;have HG:=jh (hS.get h);clear hO hR hS h;cases hn:anyG Z with
 | none =>
  have HF:Hd (vA one Z=none):=jh (by unfold vA;rw[hn]);have HN:=jh (bS w HG.o hn);clear hn;go_enter Tryz.func148,Tryz.ntmps148
  go_wp2_with fail
  refine HN.o.mono ?_;rintro e w1 ⟨rfl,hc⟩;exact⟨rfl,hc.any,.inl ⟨HF.o,rfl⟩⟩
 | some p =>
  obtain⟨x,r⟩:=p;obtain⟨n,rfl,hn2,-⟩:=zDb hn;have HF:Hd (vA one Z=repG one n [] r):=jh (by unfold vA;rw[hn];rfl);have HN:=jh (bQ w HG.o hn);clear hn;go_enter Tryz.func148,Tryz.ntmps148
  go_wp2_with fail
  refine HN.o.mono ?_;rintro e w1 ⟨rfl,hg,hc⟩;have HL0:Hd (LSt lsE R C T St w w1 (.slice none 0 0) [] r []):=jh (LSt.start HS.o HST.o hg hc);clear hg hc HN;go_wp2
  go_loopw [5,8] (λv q wr=>∃(k:Nat) (acc:List δ) (Zk:List Int) (X:List (Int×Sl×Sl)) (v0:Value),v0=v/\k<=n/\q=.int .i64 k/\acc.length=k/\repG one (n-k) acc Zk=repG one n [] r/\LSt lsE R C T St w wr v0 acc Zk X) (λ_ q _=>n-(intOf q).toNat)
  case atStart=>exact⟨0,[],r,[],_,rfl,oM,rfl,rfl,rfl,HL0.o⟩
  case round =>
   clear HL0;obtain⟨k,acc,Zk,X,v,rfl,hk,rfl,ha,hrep,hl⟩:=hrel;have HRP:=jh hrep;have HL:=jh hl;have HA:=jh ha;clear hrep ha;by_cases hkn:k<n
   .have b9:decide ((k:Int)<(n:Int))=true:=by simp;omega
    have b9':decide (k<n)=true:=sO;obtain⟨m,hm⟩:∃m,n-k=m+1:=⟨n-k-1,oM⟩;have hm2:n-(k+1)=m:=oM;obtain⟨hO1,hO2⟩:=HO.o wr acc Zk hl.st (by have:=HA.o;omega);clear hl;cases ho:one Zk with
    | none =>
     have HRN:Hd (vA one Z=none):=jh (by rw[HF.o,<-HRP.o,hm];unfold repG;rw[ho]);have HC1:=jh (hO1 ho);clear hO1 hO2 ho hm hm2;go_wp2_with fail
     refine HC1.o.mono ?_;rintro e w2 ⟨rfl,hc⟩;refine⟨rfl,HL.o.chg.trans2 hc (λj hj hC=>(HL.o.cg j hC).resolve_right oM),.inl ⟨HRN.o,rfl⟩⟩
    | some p =>
     obtain⟨x,rx⟩:=p;have HRN:Hd (repG one (n-(k+1)) (acc++[x]) rx=repG one n [] r):=jh (by rw[<-HRP.o,hm,hm2];conv=>rhs;unfold repG;rw[ho]);have HC1:=jh (hO2 x rx ho);clear hO1 hO2 ho hm hm2;go_wp2_with fail
     refine HC1.o.mono ?_;rintro e w2 ⟨y,rfl,hy,hry,hst,hc,htg,hcg⟩;simp only[zCq];have HOWN:Hd (lsE.Own w2 w.heap.size v X):=jh (HL.o.own.chgB hc (λg hg hC=>HL.o.ob g hg (HS.o.sub hC)));have HLB:Hd (w.heap.size<=w2.heap.size):=jh (Ay4 HL.o.chg.size hc.size);have HY:Hd (∀x∈[y],lsE.ok x):=jh (λa ha=>by rw[Ay3]at ha;rw[ha];exact hy);have HXL:Hd (X.length<=16777215):=jh (by rw[HL.o.len,HA.o];omega);have HRY:=jh hry;have HST2:=jh hst;have HC:=jh hc;have HTG:=jh htg;have HCG:=jh hcg;clear hy hry hst hc htg hcg HC1;go_wp2_with (at_builtin;refine Elt.wpList_append2 lsE rfl _ _ 61 61 rfl rfl w.heap.size v X [y] (.slice (some ⟨w2.heap.size,0,none⟩) 1 1) rfl rfl (HOWN.o.chg ((Chg.refl (λ_=>False) _).alloc _) (λ_ _ _ h=>h)) (by have:=HLB.o;simp;omega) (lsE.srcLit 1 HY.o) HY.o (by have:=HXL.o;simp;omega) ?_;intro v' w4 HO4 HC4 HB4)
     have HL4:=jh (LSt.step HR.o HS.o _ HL.o HRY.o HST2.o HC.o HTG.o HCG.o HO4.o HB4.o);go_roundw
     case rel=>exact⟨k+1,acc++[x],rx,X++[y],_,rfl,oM,by go_num,by simp[HA.o],HRN.o,HL4.o⟩
     case measure=>simp[intOf];omega
   .obtain rfl:k=n:=oM
    have b9:decide ((k:Int)<(k:Int))=false:=sI;obtain⟨a,c,hv,hac,hfin⟩:=hl.final HR.o;subst hv;have HFIN:=jh hfin;have HLR:Hd (vA one Z=some (acc,Zk)):=jh (by rw[HF.o,<-HRP.o,Au0];rfl);clear hfin hl;go_wp2_with fail
    refine (zTf wr a acc.length c hac).mono ?_;rintro e w3 ⟨rfl,rfl⟩;go_wp2;go_ret
    exact⟨HL.o.chg,.inr ⟨acc,Zk,a,HLR.o,rfl,HFIN.o,HL.o.st,by rw[HA.o];omega,HL.o.tg,HL.o.cg,HL.o.finalX⟩⟩
end Go.Proofs.YtgnpmceimpjheaaGreat
namespace Go.Proofs.YtgnpmceimpjheaaGreat
open Go.RowKit
def Cp (pg:Nat) (w:World) (k:Nat):Prop:=k=pg\/∃v,w.cell? ⟨pg,0,none⟩=some v/\v.ownBlock=some k
def POwn (w:World) (B:Nat) (v:Value) (X:List Int):Prop :=
 Own w B v X\/∃g,v=.slice (some ⟨g,0,none⟩) X.length X.length/\B<=g/\g<w.heap.size/\BytesAt w g 0 X
theorem POwn.chgB {S:Nat->Prop}{w w':World}{B:Nat}{v:Value}{X:List Int}(h:POwn w B v X) (hc:Chg S w w') (hs:∀g,v.ownBlock=some g->¬S g):POwn w' B v X:=by
 rcases h with h|⟨g,rfl,h2,h3,h4⟩
 .exact .inl (jW.1 ((jW.2 h).chgB hc hs))
 .exact .inr ⟨g,rfl,h2,Ay9 h3 hc.size,h4.chg hc (λ_=>hs g rfl)⟩
theorem POwn.blk {w:World}{B:Nat}{v:Value}{X:List Int}(h:POwn w B v X) {g:Nat}(hg:v.ownBlock=some g):B<=g/\g<w.heap.size:=by
 rcases h with h|⟨g',rfl,h2,h3,-⟩
 .exact zMm h hg
 .have e:g'=g:=Az3 hg
  omega
theorem POwn.shape3 {w:World}{B:Nat}{v:Value}{X:List Int}(h:POwn w B v X):∃a n c,v=.slice a n c:=by
 rcases h with h|⟨g',rfl,-⟩
 .exact h.shape3
 .exact⟨_,_,_,rfl⟩
theorem POwn.bytes {w:World}{B:Nat}{v:Value}{X:List Int}(h:POwn w B v X) (hx:X≠[]):∃g c,v=.slice (some ⟨g,0,none⟩) X.length c/\B<=g/\g<w.heap.size/\BytesAt w g 0 X:=by
 rcases h with h|⟨g,rfl,h2,h3,h4⟩
 .obtain⟨g,C,rfl,h2,h3,h4,h5⟩:=h.some hx
  exact⟨g,_,rfl,h2,h3.lt,h3.bytes h4⟩
 .exact⟨g,_,rfl,h2,h3,h4⟩
theorem POwn.append {w:World}{B:Nat}{v:Value}{X:List Int}(h:POwn w B v X) (hB:B<=w.heap.size) (tx:TypeId) (x:Value) (Y:List Int) (hs:Src Tryz.prog 1 tx x Y.length (zL Y) w) (hY:∀a∈Y,Byte a) (hlen:X.length+Y.length<=1000000000000) (ty:TypeId) :
  ∃v' w',(Builtin.append_ #[45,tx] ty #[v,x]).run Tryz.prog w=.ok v' w'/\POwn w' B v' (X++Y)/\Chg (λk=>v.ownBlock=some k) w w'/\(v'.ownBlock=v.ownBlock\/v'.ownBlock=some w.heap.size):=by
 rcases h with h|⟨g,rfl,h2,h3,h4⟩
 .obtain⟨v',w',hrun,g1,-,⟨g2,g3⟩,-⟩:=(jW.2 h).append hB tx x Y (by rw[eC];exact hs) hY hlen ty
  exact⟨v',w',hrun,.inl (jW.1 g1),g2,g3⟩
 .rcases Aw4 Y.length with h0|h0
  .have hY0:=Aw9.1 h0
   subst hY0;obtain⟨i,hi,hz,k1,k2⟩:=info_parts zCv;refine⟨_,_,run_append_nothing (P:=Tryz.prog) w 45 tx ty 5 i Tryz.underlying45 hi (some ⟨g,0,none⟩) X.length X.length (Ay _) x (by rw[k1];exact hs),?_,Chg.refl _ _,.inl rfl⟩;rw[Av4];exact .inr ⟨g,rfl,h2,h3,h4⟩
  .obtain⟨w',C,hrun,hR,hp,hC,hc⟩:=zK4 (.slice (some ⟨g,0,none⟩) X.length X.length) X _ X.length rfl (λw' hc=>by
    have hb:=h4.chg hc iE;refine run_firstCells_some w' 1 X.length ⟨g,0,none⟩ X.length X.length (zL X) sI (λj u hu=>?_);obtain⟨x,hx,rfl⟩:=sN hu;rw[Addr.add_lit];exact (hb.c j x hx).1) h4.byte tx x Y hs hY oM hlen ty
   exact⟨_,_,hrun,.inl (.inr ⟨_,C,rfl,hB,hR,hp,hC⟩),hc.any,.inr rfl⟩
theorem rU {ops:Array Oper}{rest:List Oper}{o:Oper}{a:Act}{w:World}{Q:Exit->Act->World->Prop}(hgd:o.guard=none) (s x:Operand) (tx:TypeId)
  (ho:o.op=.call { callee:=.builtin .append,args:=#[s,x],argTypes:=#[45,tx] }) (B:Nat) (v:Value) (X Y:List Int) (u:Value) (hv:a.eval s=v) (hu:a.eval x=u)
  (h:POwn w B v X) (hB:B<=w.heap.size) (hs:Src Tryz.prog 1 tx u Y.length (zL Y) w) (hY:∀a∈Y,Byte a) (hlen:X.length+Y.length<=1000000000000)
  (hK:∀v' w',Hd (POwn w' B v' (X++Y))->Hd (Chg (λk=>v.ownBlock=some k) w w'/\(v'.ownBlock=v.ownBlock\/v'.ownBlock=some w.heap.size))->wpList Tryz.prog ops Q rest (a.put o.dst v') w'):wpList Tryz.prog ops Q (o :: rest) a w:=by
 obtain⟨v',w',hrun,h1,h2,h3⟩:=h.append hB tx u Y hs hY hlen o.type;exact Lib.wpList_append_run w hgd s x 45 tx ho v u hv hu v' w' hrun (hK v' w' (jh h1) (jh ⟨h2,h3⟩))
structure PSt (pg B:Nat) (w:World) (Z:List Int):Prop where
 ex:∃v,w.cell? ⟨pg,0,none⟩=some v/\POwn w B v Z/\v.ownBlock≠some pg
 z:w.frozen? ⟨pg,0,none⟩=false
 le:B<=pg
structure Puts (pg B:Nat) (w w':World) (Z:List Int):Prop where
 st:PSt pg B w' Z
 chg:Chg (Cp pg w) w w'
 nx:∀k,Cp pg w' k->Cp pg w k\/w.heap.size<=k
theorem PSt.lt {pg B:Nat}{w:World}{Z:List Int}(h:PSt pg B w Z):pg<w.heap.size:=by
 obtain⟨v,h1,-⟩:=h.ex;exact Az6 _ _ h1
theorem PSt.low {pg B:Nat}{w:World}{Z:List Int}(h:PSt pg B w Z) {k:Nat}(hk:Cp pg w k):B<=k/\k<w.heap.size:=by
 obtain⟨v,h1,h2,h3⟩:=h.ex;rcases hk with rfl|⟨u,hu,hk⟩
 .exact⟨h.le,h.lt⟩
 .rw[h1]at hu
  obtain rfl:=Az3 hu;exact h2.blk hk
theorem PSt.chg {pg B:Nat}{S:Nat->Prop}{w w':World}{Z:List Int}(h:PSt pg B w Z) (hc:Chg S w w') (hs:∀k,S k->¬Cp pg w k):PSt pg B w' Z/\∀k,Cp pg w' k->Cp pg w k:=by
 obtain⟨v,h1,h2,h3⟩:=h.ex;have hp:¬S pg:=λe=>hs _ e (.inl rfl)
 have c1:=hc.cellS h1 hp;refine⟨⟨⟨v,c1,h2.chgB hc (λg hg e=>hs g e (.inr ⟨v,h1,hg⟩)),h3⟩,(hc.frozen (p:=⟨pg,0,none⟩) h.lt hp).trans h.z,h.le⟩,λk hk=>?_⟩;rcases hk with rfl|⟨u,hu,hk⟩
 .exact .inl rfl
 .rw[c1]at hu
  exact .inr ⟨v,h1,by rw[Az3 hu];exact hk⟩
theorem PSt.fresh {pg B:Nat}{w w':World}{Z:List Int}(h:PSt pg B w Z) (hc:Cf w w'):Puts pg B w w' Z:=by
 obtain⟨h1,h2⟩:=h.chg hc (λ_ h=>h.elim);exact⟨h1,hc.any,λk hk=>.inl (h2 k hk)⟩
theorem PSt.refl {pg B:Nat}{w:World}{Z:List Int}(h:PSt pg B w Z):Puts pg B w w Z:=h.fresh cR
theorem Puts.trans {pg B:Nat}{a b c:World}{Z Y:List Int}(h:Puts pg B a b Z) (k:Puts pg B b c Y):Puts pg B a c Y :=
 ⟨k.st,h.chg.trans2 k.chg (λj hj hC=>(h.nx j hC).resolve_right oM),λj hj=>by
  rcases k.nx j hj with h1|h1
  .exact h.nx j h1
  .exact .inr (Ay4 h.chg.size h1)⟩
theorem Puts.below {pg B:Nat}{w w':World}{Z Y:List Int}(hs:PSt pg B w Y) (h:Puts pg B w w' Z):Chg (λk=>B<=k) w w':=h.chg.mono (λ_ _ hk=>(hs.low hk).1)
theorem PSt.store {pg B:Nat}{w w2 w1:World}{v v':Value}{Z Y:List Int}(h:PSt pg B w Z) (hv:w.cell? ⟨pg,0,none⟩=some v) (hc:Cf w w2) (ho:POwn w1 B v' (Z++Y))
  (h3:Chg (λk=>v.ownBlock=some k) w2 w1) (h4:v'.ownBlock=v.ownBlock\/v'.ownBlock=some w2.heap.size) :
  (w1.cell? ⟨pg,0,none⟩=some v/\w1.frozen? ⟨pg,0,none⟩=false)/\Puts pg B w (w1.setCell ⟨pg,0,none⟩ v') (Z++Y):=by
 obtain⟨u,h1,h2,h5⟩:=h.ex;rw[hv]at h1;obtain rfl:=Az3 h1;have hlt:=h.lt;have c2:=hc.cellS hv iD;have c1:w1.cell? ⟨pg,0,none⟩=some v:=h3.cellS c2 h5;have z1:w1.frozen? ⟨pg,0,none⟩=false:=(h3.frozen (p:=⟨pg,0,none⟩) (Ay9 hlt hc.size) h5).trans ((hc.frozen (p:=⟨pg,0,none⟩) hlt iD).trans h.z);have hne:v'.ownBlock≠some pg:=by
  rcases h4 with h4|h4
  .rw[h4];exact h5
  .rw[h4]
   intro e;have:=Az3 e;have:=hc.size;omega
 have c3:(w1.setCell ⟨pg,0,none⟩ v').cell? ⟨pg,0,none⟩=some v':=Az9 _ _ _ c1;refine⟨⟨c1,z1⟩,⟨⟨v',c3,ho.chgB (zA w1 pg 0 v') (λg hg e=>hne (by subst e;exact hg)),hne⟩,(Az4 _ _ _ _).trans z1,h.le⟩,
  ((hc.any).trans (h3.mono (λk _ e=>.inr ⟨v,hv,e⟩))).trans ((zA w1 pg 0 v').mono (λk _ e=>.inl e)),λk hk=>?_⟩
 rcases hk with rfl|⟨u,hu,hk⟩
 .exact .inl (.inl rfl)
 .rw[c3]at hu
  obtain rfl:=Az3 hu;rcases h4 with h4|h4
  .rw[h4]at hk;exact .inl (.inr ⟨v,hv,hk⟩)
  .rw[h4]at hk
   obtain rfl:=Az3 hk;exact .inr hc.size
theorem zJb (s:Str):byteCells s=zL (strB s):=by
 simp only[byteCells,zL,strB,List.map_map]
 rfl
theorem uA {pg B:Nat}{Z:List Int}(z:Int) (w:World) (h:PSt pg B w Z) (hz:0<=z/\z<4294967296) (hl:Z.length<=1000000000) :
  Calls Tryz.prog 27 #[.pointer (some ⟨pg,0,none⟩),.int .i64 z] w λe w'=>e=.returned (.tuple #[])/\Puts pg B w w' (Z++zN z):=by
 obtain⟨n,rfl⟩:=Aw8 hz.1;have hn:n<4294967296:=oM
 rw[show zN (n:Int)=putL n by unfold zN;rw[Ay6]];clear hz;obtain⟨v,hv,ho,hne⟩:=h.ex;obtain⟨va,vl,vc,rfl⟩:=ho.shape3;have HP:=jh h;have HV:=jh hv;have HNE:Hd (¬(Value.slice va vl vc).ownBlock=some pg):=jh hne;have hbl:=h.lt;have hble:=h.le;obtain⟨wd,hwd⟩:∃wd,wd=w.drew:=⟨_,rfl⟩;have HWD:Hd (Cf w wd):=jh (by rw[hwd];exact (Chg.refl _ _).drew);have HWE:Hd (w.drew=wd):=jh hwd.symm;have HVD:Hd (wd.cell? ⟨pg,0,none⟩=some (.slice va vl vc)):=jh (HWD.o.cellS hv iD);have HOD:Hd (POwn wd B (.slice va vl vc) Z):=jh (ho.chgB HWD.o iF);have HBL:Hd (pg<wd.heap.size):=jh (Ay9 hbl HWD.o.size);have hw5:IntKind.u32.wrap (n:Int)=n:=by rw[IntKind.wrap_u32];omega
 clear h hwd hv ho hne;go_enter Tryz.func27,Tryz.ntmps27
 refine zC (λx=>Chg (λk=>(Value.slice va vl vc).ownBlock=some k) wd x) (λi=>decide (i=11)) kR ?_;show yN _ _ _ _ _ _ 12 (Array.replicate 12 false) _ w.drew;rw[HWE.o];have HSS:Hd (Chg (λk=>(Value.slice va vl vc).ownBlock=some k) wd wd):=jh cR;(refine lq 0 HSS.o ?_);(refine lq 1 HSS.o ?_);(refine lq 2 HSS.o ?_);(refine lq 3 HSS.o ?_);(refine lq 4 HSS.o ?_ (hr:=by intro w' hC;have q:=hC.cellS HVD.o HNE.o;go_simp;try with_reducible rfl));(refine lq 5 HSS.o ?_);(refine lq 6 HSS.o ?_);refine yE (i:=7) kR rfl rfl 62 #[.slice none 0 0,.int .u32 n] (λu w''=>∃h,u=.slice (some ⟨h,0,none⟩) ([]++putL n).length ([]++putL n).length/\Row w'' h ([]++putL n)/\Cf wd w'') (by go_simp) ?_ ?_
 .refine (zMh [] n none 0 0 0 wd ⟨λk a hk=>by simp at hk,λh=>(h rfl).elim⟩ (λh=>by simp at h) sI hn).mono ?_
  rintro e w2 ⟨h,rfl,_,h2,h3⟩;exact⟨_,rfl,λ_=>h3.any,h,rfl,h2,h3⟩
 rintro u w2 hs2 ⟨h,rfl,hr,hc⟩ K hK;have HSS:=jh (hs2 dE);have HF2:Hd (POwn w2 B (.slice va vl vc) Z):=jh (HOD.o.chgB hc iF);have HR:=jh hr;have HC:=jh hc;rw[Aw7]at HR ⊢;obtain⟨PL,hPL⟩:∃PL,(putL n).length=PL:=⟨_,rfl⟩;have HPL:=jh hPL;rw[hPL];clear hs2 hr hc hPL;(try go_simp)
 refine hK _ ?_;clear hK K;refine xE (i:=8) kR rfl rfl (.tmp 8) (.tmp 11) 45 45 rfl (.slice va vl vc) (.slice (some ⟨h,0,none⟩) PL PL) rfl rfl (λv' w1=>POwn w1 B v' (Z++putL n)/\Chg (λk=>(Value.slice va vl vc).ownBlock=some k) w2 w1/\(v'.ownBlock=(Value.slice va vl vc).ownBlock\/v'.ownBlock=some w2.heap.size)) ?_ ?_
 .have hsrc:=tN (c:=PL) (HR.o.bytes (Aw6 _)) (λ_=>rfl)
  rw[HPL.o]at hsrc;have h5:=sG hn;obtain⟨v',w1,hrun,h1,h3,h4⟩:=HF2.o.append (by have:=HBL.o;have:=HC.o.size;omega) 45 (.slice (some ⟨h,0,none⟩) PL PL) (putL n) (by rw[HPL.o];exact hsrc) (dQ n) oM 45;exact⟨v',w1,hrun,λ_=>HSS.o.trans h3,h1,h3,h4⟩
 rintro v' w1 hs ⟨h1,h3,h4⟩ K hK;have HSS:=jh (hs dE);obtain⟨va',vl',vc',hv'⟩:=h1.shape3;subst hv';obtain⟨⟨k1,k2⟩,hf1⟩:=HP.o.store HV.o (HWD.o.trans HC.o) h1 h3 h4;have HFF:=jh hf1;clear hf1 h1 h3 h4 hs;(try go_simp)
 refine hK _ ?_;clear hK K;(refine lq 9 HSS.o ?_);(refine lq 10 HSS.o ?_);(refine ld 11 ?_);refine yA kR ?_ _;go_wp2;go_end0
 exact⟨rfl,HFF.o⟩
theorem zGe {pg B:Nat}{Z:List Int}(s:Str) (w:World) (h:PSt pg B w Z) (hs:s.size<=1000000) (hl:Z.length<=1000000000) :
  Calls Tryz.prog 26 #[.pointer (some ⟨pg,0,none⟩),.string s] w λe w'=>e=.returned (.tuple #[])/\Puts pg B w w' (Z++vG s):=by
 have HN:=jh (uA (s.size:Int) w h oM hl);have HS:=jh hs;have HL:=jh hl;clear h hs hl;go_enter Tryz.func26,Tryz.ntmps26
 go_wp2_with fail
 refine HN.o.mono ?_;rintro e w2 ⟨rfl,hp⟩;have HP:=jh hp;obtain⟨v,hv,ho,hne⟩:=hp.st.ex;obtain⟨va,vl,vc,rfl⟩:=ho.shape3;have HV:=jh hv;have HO:=jh ho;have HB:Hd (B<=w2.heap.size):=jh (by have:=hp.st.lt;have:=hp.st.le;omega);have HZL:Hd ((Z++zN (s.size:Int)).length<=2000000000):=jh (by
  have:=sG (n:=s.size) (by have:=HS.o;omega);have h2:=HL.o;rw[Az0];unfold zN;rw[Ay6];omega)
 have HSB:=jh (fC s);clear hp ho hne;go_wp2_with (at_builtin;refine rU rfl _ _ 9 rfl B (.slice va vl vc) (Z++zN (s.size:Int)) (strB s) (.string s) rfl rfl HO.o HB.o (by rw[<-zJb,HSB.o];exact Src.ofString w2 Tryz.underlying9 s) (zF8 s) (by have:=HZL.o;have:=HS.o;have:=HSB.o;omega) ?_;intro v' w1 HO1 HB1;obtain⟨va',vl',vc',hv'⟩:=HO1.o.shape3;subst hv';obtain⟨⟨k1,k2⟩,hf1⟩:=HP.o.st.store HV.o cR HO1.o HB1.o.1 HB1.o.2;have HFF:=jh (HP.o.trans hf1);clear hf1)
 go_wp2;go_end0
 refine⟨rfl,?_⟩;have:=HFF.o;rw[Az5]at this;unfold vG;unfold zN at this;rw[Ay6]at this;exact this
end Go.Proofs.YtgnpmceimpjheaaGreat
