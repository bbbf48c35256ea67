/- A part of the proof: PtG PtI PtJ PtK BackL EncL CodR EncP CodQ EncT EncO PtL Tally. -/
import Derived.Test.YtgnpmceimpjheaaGreatGP9
import Derived.Test.YtgnpmceimpjheaaGreatGP2
import Derived.Test.YtgnpmceimpjheaaGreatGP6
import Derived.Test.YtgnpmceimpjheaaGreatGP8
import Derived.Test.YtgnpmceimpjheaaGreatGP4
import Derived.Test.YtgnpmceimpjheaaGreatGP1
import Derived.Lib.Mul64
import Derived.Laws.Bits64b
import Derived.Laws.IdiomCopy
set_option maxRecDepth 100000
set_option maxHeartbeats 16000000
namespace Go.Proofs.YtgnpmceimpjheaaGreat
open Go.RowKit
theorem zM0 (n:Nat) (hn:n<=1000) (w:World):Calls Tryz.prog 160 #[.int .u64 1,.int .u64 n] w λe w'=>e=.returned (.tuple #[.int .u64 0,.int .u64 n])/\w'=w:=by
 have f1:bits .and .u64 1 4294967295=1:=dE
 have f2:bits .and .u64 (n:Int) 4294967295=n:=by
  have h:=bits_and_u64_nat n 4294967295 oM oM;have e:n &&& 4294967295=n % 4294967296:=Nat.and_two_pow_sub_one_eq_mod n 32;rw[e,Nat.mod_eq_of_lt oM]at h;exact h
 have f3:(n:Int) / 4294967296=0:=oM
 have f4:IntKind.u64.wrap (n:Int)=n:=by rw[IntKind.wrap_u64];omega
 have f5:bits .and .u64 0 4294967295=0:=dE
 go_enter Tryz.func160,Tryz.ntmps160
 go_wp2;go_ret2
 exact⟨rfl,rfl⟩
theorem mul_one (n:Nat) (hn:n<=1000) (w:World):Calls Tryz.prog 118 #[.int .u64 1,.int .u64 n] w λe w'=>e=.returned (.tuple #[.int .u64 0,.int .u64 n])/\w'=w:=by
 go_enter Tryz.func118,Tryz.ntmps118
 go_wp2_with fail
 refine (zM0 n hn w).mono ?_;rintro e w1 ⟨rfl,rfl⟩;go_wp2;go_ret2
 exact⟨rfl,rfl⟩
theorem zDd {P:Program}{ops:Array Oper}{rest:List Oper}{o:Oper}{a:Act}{w:World}{Q:Exit->Act->World->Prop}(hgd:o.guard=none) (d s:Operand) (dT sT:TypeId)
  (ho:o.op=.call { callee:=.builtin .copy,args:=#[d,s],argTypes:=#[dT,sT] }) (v u:Value) (hd:a.eval d=v) (hs:a.eval s=u) {v':Value}{w':World}
  (hr:(Builtin.copy_ #[dT,sT] o.type #[v,u]).run P w=.ok v' w') (h:wpList P ops Q rest (a.put o.dst v') w'):wpList P ops Q (o :: rest) a w:=by
 refine wpList_plain hgd λK hK=>?_
 unfold Oper.wp;simp[execOp,ho,resolve,invoke,builtin,hd,hs,hr,Result.andThen]
 exact hK _ _ h
theorem zNd {P:Program}{md:Region.Mode}{ops:Array Oper}{Q:Exit->Act->World->Prop}{S:World->Prop}{late:Nat->Bool}{i:Nat}{oi:Oper}{fuel:Nat}{listed:Array Bool}{a:Act}{w:World}(hr:Region.ready md ops listed=[i]) (hi:ops[i]?=some oi)
  (hw:Region.wanted oi (yielded ops a.tmps)=true) (d s:Operand) (dT sT:TypeId) (ho:oi.op=.call { callee:=.builtin .copy,args:=#[d,s],argTypes:=#[dT,sT] }) (v u:Value) (hd:a.eval d=v) (hs:a.eval s=u) {v':Value}{w':World}
  (hrun:(Builtin.copy_ #[dT,sT] oi.type #[v,u]).run P w=.ok v' w') (hS:late i=false->S w')
  (h:∀K:Act->Prop,(∀a,yN P md ops Q S late fuel (listed.setIfInBounds i true) a w'->K a)->K (a.put oi.dst v')) :
  yN P md ops Q S late (fuel+1) listed a w:=by
 refine⟨λh0=>(by rw[hr]at h0;cases h0),λj hj=>?_⟩;rw[hr]at hj;obtain rfl:j=i:=by simpa using hj
 have hx:(execOp a.eval oi).run P w=.ok (.value v') w':=by
  simp[execOp,ho,resolve,invoke,builtin,hd,hs,hrun,Result.andThen]
 unfold Go.wpOp;simp only[hi,hw,if_true,Oper.wp,hx,Oper.upon];exact .inl ⟨hS,h _ iE⟩
theorem zJr {w:World}{h g os k m n d dc sc:Nat}{C:List Int}{z:Int}(ty:TypeId) (hR:I.Row w h C) (hp:List.replicate k z <+: C) (hn:C.length=n) (hz:I.Byte z) (hsrc:∀j,j<m->w.cell? ⟨g,os+j,none⟩=some (.int .i64 z)) {sl:Nat}(hm:m=Nat.min sl d) (hk:k+m<=n) :
  (Builtin.copy_ #[25,25] ty #[.slice (some ⟨h,k,none⟩) d dc,.slice (some ⟨g,os,none⟩) sl sc]).run Tryz.prog w=.ok (.int .i64 m) (w.setCells h k (I.zL (List.replicate m z))) /\
   ∃C',I.Row (w.setCells h k (I.zL (List.replicate m z))) h C'/\C'.length=n/\List.replicate (k+m) z <+: C':=by
 subst hn;obtain⟨i,hi,hiz,h1,h2⟩:=info_parts intE.info;have hl:(I.zL (List.replicate m z)).length=m:=sI
 have hrun:=run_copy_cells (P:=Tryz.prog) w 25 25 ty 3 h k d dc ⟨g,os,none⟩ sl sc (I.zL (List.replicate m z)) Tryz.underlying25 (by rw[show (3:TypeId)=intE.e from rfl,hi,Option.map_some,h1];rfl) (by rw[hl,hm]) (λj v hj=>by
  obtain⟨a,ha,rfl⟩:=I.sN hj;have hjm:=(Az1.1 ha).1;rw[Av3]at hjm;have:a=z:=(At3.1 (Az2 ha)).2;rw[this,Addr.add_lit];exact hsrc j hjm) (λj hj=>by
  rw[hl]at hj;rw[hR.c (k+j) _ (Az oM)];rfl) (λj _=>hR.z _) I.bN
 rw[hl]at hrun;obtain⟨C',c1,c2,c3⟩:=hR.put (X:=List.replicate k z) (Y:=List.replicate m z) hp sO (λa ha=>by rw[(At3.1 ha).2];exact hz);rw[Av3]at c1;exact⟨hrun,C',c1,c2,by rw[<-List.replicate_append_replicate]at *;exact c3⟩
theorem zRq {w:World}{h k:Nat}{C:List Int}{z:Int}(hR:I.Row w h C) (hp:List.replicate k z <+: C):∀j,j<k->w.cell? ⟨h,0+j,none⟩=some (.int .i64 z):=λj hj=>by
 obtain⟨Y,rfl⟩:=hp;rw[Ax0];refine hR.c j z ?_;rw[Ay8 (by simpa using hj)];simp[hj]
theorem zKe (n:Nat) (h1:1<=n) (hn:n<=1000) (g:Nat) (w:World) (hx:w.cell? ⟨g,0,none⟩=some (.int .i64 (-1))) :
  Calls Tryz.prog 72 #[.slice (some ⟨g,0,none⟩) 1 1,.int .i64 n] w λe w'=>∃h,e=.returned (.slice (some ⟨h,0,none⟩) n n)/\w.heap.size<=h/\I.Row w' h (List.replicate n (-1))/\Cf w w':=by
 have HX:=jh hx;have b1:decide ((n:Int)<0)=false:=sI
 have b2:¬((n:Int)<0):=oM
 have w1:IntKind.u64.wrap (n:Int)=n:=by rw[IntKind.wrap_u64];omega
 have w2:IntKind.i64.wrap (n:Int)=n:=by rw[IntKind.wrap_i64];omega
 have b3:decide ((9223372036854775807:Int)<(n:Int))=false:=by simp;omega
 have b4:¬((9223372036854775807:Int)<(n:Int)):=oM
 have hcr:∀(W:World),I.Row W w.heap.size (List.replicate n 0)->W.cell? ⟨g,0,none⟩=some (.int .i64 (-1))->(Builtin.copy_ #[25,25] 3 #[.slice (some ⟨w.heap.size,0,none⟩) n n,.slice (some ⟨g,0,none⟩) 1 1]).run Tryz.prog W=.ok (.int .i64 1) (W.setCells w.heap.size 0 (I.zL (List.replicate 1 (-1)))) /\
  ∃C',I.Row (W.setCells w.heap.size 0 (I.zL (List.replicate 1 (-1)))) w.heap.size C'/\C'.length=n/\List.replicate (0+1) (-1) <+: C':=λW hR hc =>
  zJr (m:=1) 3 hR sI sI dE (λj hj=>by rw[show j=0 by omega];exact hc) (by show 1=min 1 n;omega) oM
 have HCR:=jh hcr;clear hx hcr;go_enter Tryz.func72,Tryz.ntmps72
 go_wp2_with fail
 refine (mul_one n hn w).mono ?_;rintro e wm ⟨rfl,rfl⟩;obtain⟨h,hh⟩:∃b,b=wm.heap.size:=⟨_,rfl⟩;have HH:=jh hh;rw[<-hh]at HCR;go_upto_region 7 with (at_make;refine intE.wpList_make rfl _ _ _ rfl rfl _ _ _ _ n n rfl rfl rfl oM oM oM ?_;intro w7 HR7 HC7)
 rw[<-hh]at HR7 ⊢;clear hh;have HR7':Hd (I.Row w7 h (List.replicate n 0)):=jh (cG.1 HR7.o);obtain⟨hrun,C8,r8,l8,p8⟩:=HCR.o w7 HR7'.o (HC7.o.cellS HX.o iD);obtain⟨w8,hw8⟩:∃X,X=w7.setCells h 0 (I.zL (List.replicate 1 (-1))):=⟨_,rfl⟩;rw[<-hw8]at hrun r8;have HRUN:=jh hrun;have HR8:=jh r8;have HL8:=jh l8;have HP8:=jh p8;have HC8:Hd (Chg (λk=>wm.heap.size<=k) wm w8):=jh (HC7.o.any.trans (by rw[hw8];exact (sA _ _ _ _).mono (λk _ e=>by rw[e,HH.o];exact Ay _)));clear hrun r8 l8 p8 hw8 HCR HR7 HR7';go_upto_region 8 with (refine zDd rfl _ _ 25 25 rfl _ _ rfl rfl HRUN.o ?_)
 clear HRUN
 go_loopw [8] (λq wr=>∃(k:Nat) (C:List Int),1<=k/\k<=n/\q=.int .i64 k/\I.Row wr h C/\Hd (C.length=n)/\List.replicate k (-1) <+: C/\Chg (λk=>wm.heap.size<=k) wm wr) (λq _=>n-(intOf q).toNat)
 case atStart=>exact⟨1,C8,oM,oM,rfl,HR8.o,HL8,HP8.o,HC8.o⟩
 case round =>
  clear HR8 HL8 HP8 HC8;obtain⟨k,C,hk1,hk,rfl,hR,HL,hp,hc⟩:=hrel;have HR:=jh hR;have HP:=jh hp;have HC:=jh hc;clear hR hp hc;by_cases hkn:k<n
  .have b9:decide ((k:Int)<(n:Int))=true:=by simp;omega
   have b10:(k:Int)<=(n:Int):=oM;have b11:¬n=k:=oM;obtain⟨m,hm⟩:∃m,m=Nat.min k (n-k):=⟨_,rfl⟩;have hm2:1<=m/\k+m<=n/\m<=k:=(by rw[hm];show 1<=min k (n-k)/\k+min k (n-k)<=n/\min k (n-k)<=k;omega);have w3:IntKind.i64.wrap ((k:Int)+(m:Int))=((k+m:Nat):Int):=(by rw[IntKind.wrap_i64];omega);have w4:wrap64 ((k:Int)+(m:Int))=((k+m:Nat):Int):=(by unfold wrap64;omega);obtain⟨wd,hwd⟩:∃X,wr.drew=X:=⟨_,rfl⟩;have HWD:Hd (Cf wr wd):=jh (by rw[<-hwd];exact (Chg.refl _ _).drew);have hRD:I.Row wd h C:=HR.o.chg HWD.o iD;obtain⟨hrun,C',r',l',p'⟩:=zJr (g:=h) (os:=0) (k:=k) (m:=m) (d:=n-k) (dc:=n-k) (sc:=n) (sl:=k) 3 hRD HP.o HL.o dE (λj hj=>zRq hRD HP.o j (Ay9 hj hm2.2.2)) hm hm2.2.1;obtain⟨w9,hw9⟩:∃X,X=wd.setCells h k (I.zL (List.replicate m (-1))):=⟨_,rfl⟩;rw[<-hw9]at hrun r';have HRUN:=jh hrun;have HR9:=jh r';have HL9:=jh l';have HP9:=jh p';have HC9:Hd (Chg (λk=>wm.heap.size<=k) wm w9):=jh ((HC.o.trans HWD.o.any).trans (by rw[hw9];exact (sA _ _ _ _).mono (λk _ e=>by rw[e,HH.o];exact Ay _)));clear hrun r' l' p' hw9 hRD HR HP HC HL hm;go_upto_region 9 with (fail)
   refine zC (λ_=>True) (λ_=>false) kR ?_;show yN _ _ _ _ _ _ 10 (Array.replicate 10 false) _ wr.drew;rw[hwd];clear hwd;have HSS:Hd True:=jh trivial;(refine lq 0 HSS.o ?_);(refine lq 1 HSS.o ?_);(refine lq 2 HSS.o ?_);(refine lq 3 HSS.o ?_);(refine lq 4 HSS.o ?_);(refine lq 5 HSS.o ?_);(refine lq 6 HSS.o ?_);refine zNd (i:=7) kR rfl rfl (.tmp 41) (.tmp 44) 25 25 rfl _ _ rfl rfl HRUN.o (λ_=>trivial) (λK hK=>?_);(try go_simp)
   refine hK _ ?_;clear hK K;(refine lq 8 HSS.o ?_);(refine lq 9 HSS.o ?_);refine yA kR ?_ _;go_wp2;go_roundw
   case rel=>exact⟨k+m,C',oM,hm2.2.1,by go_num,HR9.o,HL9,HP9.o,HC9.o⟩
   case measure=>simp[intOf];omega
  .obtain rfl:k=n:=oM
   have b9:decide ((k:Int)<(k:Int))=false:=sI;have HF:Hd (I.Row wr h (List.replicate k (-1))):=jh (by
    have h2:=HP.o;obtain⟨Y,hY⟩:=h2;have h3:=congrArg List.length hY;rw[Az0,Av3,HL.o]at h3;have h4:Y=[]:=Aw9.1 oM;rw[h4,Av4]at hY;rw[hY];exact HR.o)
   go_wp2;go_ret
   exact⟨h,rfl,by rw[HH.o];exact Ay _,HF.o,HC.o.fresh⟩
def Ck (pg bl:Nat) (w:World) (k:Nat):Prop:=Cp pg w k\/k=bl\/∃v,w.cell? ⟨bl,0,none⟩=some v/\v.ownBlock=some k
structure PSk (pg B bx bt bl tk:Nat) (w:World) (acc:List LsD) (Z:List Int):Prop where
 b:PSb pg B bx w Z
 t:w.cell? ⟨bt,0,none⟩=some (.int .i64 tk)
 nt:¬Ck pg bl w bt
 nx:¬Ck pg bl w bx
 nl:¬Cp pg w bl
 lb:B<=bl
 zl:w.frozen? ⟨bl,0,none⟩=false
 ex:∃v X,w.cell? ⟨bl,0,none⟩=some v/\nW.Own w B v X/\(∀k,v.ownBlock=some k->¬Cp pg w k/\k≠bl)/\X.length=acc.length/\∀(j:Nat) x d,X[j]?=some x->acc[j]?=some d->intE.InS w (λk=>¬Ck pg bl w k) x (yW tk d.2.2)
theorem PSk.lt {pg B bx bt bl tk:Nat}{w:World}{acc:List LsD}{Z:List Int}(h:PSk pg B bx bt bl tk w acc Z) {k:Nat}(hk:Ck pg bl w k):B<=k/\k<w.heap.size:=by
 obtain⟨v,X,h1,h2,-⟩:=h.ex;rcases hk with hk|rfl|⟨u,hu,hk⟩
 .exact h.b.g.low hk
 .exact⟨h.lb,Az6 _ _ h1⟩
 .rw[h1]at hu
  obtain rfl:=Az3 hu;exact h2.blk hk
theorem PSk.turn {pg B bx bt bl tk:Nat}{S:Nat->Prop}{w w':World}{acc:List LsD}{Z Z':List Int}(h:PSk pg B bx bt bl tk w acc Z) (hst:PSt pg B w' Z') (hc:Chg S w w') (hs:∀k,k<w.heap.size->S k->Cp pg w k) (hn:∀k,Cp pg w' k->Cp pg w k\/w.heap.size<=k) :
  PSk pg B bx bt bl tk w' acc Z'/\∀k,Ck pg bl w' k->Ck pg bl w k\/w.heap.size<=k:=by
 obtain⟨v,X,h1,h2,h3,h4,h5⟩:=h.ex;have hbl:=Az6 _ _ h1;have hb:=h.b.c;have hbx:=Az6 _ _ h.b.c;have hbt:=Az6 _ _ h.t;simp only at hbl hbx hbt;have hc':Chg (Cp pg w) w w':=hc.mono hs;have c1:=hc'.cellS h1 h.nl;have key:∀k,Ck pg bl w' k->Ck pg bl w k\/w.heap.size<=k:=λk hk=>by
  rcases hk with hk|hk|⟨u,hu,hk⟩
  .rcases hn k hk with h6|h6
   .exact .inl (.inl h6)
   .exact .inr h6
  .exact .inl (.inr (.inl hk))
  .rw[c1]at hu
   obtain rfl:=Az3 hu;exact .inl (.inr (.inr ⟨v,h1,hk⟩))
 have nn:∀{b},b<w.heap.size->¬Cp pg w b->¬Cp pg w' b:=λhl hb e=>(hn _ e).elim hb (λh=>oM)
 refine⟨⟨⟨hst,hc'.cellS hb h.b.n,nn hbx h.b.n⟩,hc'.cellS h.t (λe=>h.nt (.inl e)),λe=>(key _ e).elim h.nt (λh=>oM),λe=>(key _ e).elim h.nx (λh=>oM),nn hbl h.nl,h.lb,(hc'.frozen (p:=⟨bl,0,none⟩) hbl h.nl).trans h.zl,
  v,X,c1,h2.chgB hc' (λg hg e=>(h3 g hg).1 e),λk hk=>⟨nn (h2.blk hk).2 (h3 k hk).1,(h3 k hk).2⟩,h4,λj x d hx hd=>?_⟩,key⟩
 have r1:=(h5 j x d hx hd).mono (S':=λk=>¬Ck pg bl w k/\k<w.heap.size) (λg hg hs=>⟨hs,hg⟩);have r2:=r1.chg hc' (λg hg e=>hg.1 (.inl e));exact r2.mono (λg _ hg e=>(key g e).elim hg.1 (λh=>oM))
theorem zRp (pg B bx bt bl tk:Nat):SideW (δ:=LsD) pg B (Ck pg bl) (PSk pg B bx bt bl tk) where
 get:=λh=>h.b.g
 sub:=λh=>.inl h
 low:=λh hk=>(PSk.lt h hk).1
 move:=λh hp=>PSk.turn h hp.st hp.chg iF hp.nx
theorem PSk.fresh {pg B bx bt bl tk:Nat}{w w':World}{acc:List LsD}{Z:List Int}(h:PSk pg B bx bt bl tk w acc Z) (hc:Cf w w'):PSk pg B bx bt bl tk w' acc Z/\∀k,w.heap.size<=k->¬Ck pg bl w' k:=by
 obtain⟨h1,h2⟩:=h.b.g.chg hc (λ_ h=>h.elim);have h3:=(h.turn h1 hc (λ_ _ h=>h.elim) (λk hk=>.inl (h2 k hk))).1;refine⟨h3,λk hk e=>?_⟩;obtain⟨v,X,h4,h5,-⟩:=h.ex;have c1:=hc.cellS h4 iD;rcases e with e|e|⟨u,hu,e⟩
 .have:=(h.b.g.low (h2 k e)).2;omega
 .have:=Az6 _ _ h4;simp only at this;omega
 .rw[c1]at hu
  obtain rfl:=Az3 hu;have:=(h5.blk e).2;omega
theorem PSk.push {pg B bx bt bl tk:Nat}{w wa wb:World}{acc:List LsD}{Z:List Int}{v v':Value}{X:List Sl}{y:Sl}{d:LsD}(h:PSk pg B bx bt bl tk w acc Z)
  (h1:w.cell? ⟨bl,0,none⟩=some v) (h3:∀k,v.ownBlock=some k->¬Cp pg w k/\k≠bl) (h4:X.length=acc.length) (h5:∀(j:Nat) x d,X[j]?=some x->acc[j]?=some d->intE.InS w (λk=>¬Ck pg bl w k) x (yW tk d.2.2))
  (hy:intE.InS w (λk=>¬Ck pg bl w k) y (yW tk d.2.2)) (ha:Cf w wa) (ho:nW.Own wb B v' (X++[y])) (hb:Chg (λk=>v.ownBlock=some k) wa wb) (hv:v'.ownBlock=v.ownBlock\/v'.ownBlock=some wa.heap.size) :
  (wb.cell? ⟨bl,0,none⟩=some v/\wb.frozen? ⟨bl,0,none⟩=false)/\uJ (Ck pg bl) (PSk pg B bx bt bl tk) w (acc++[d]) Z (.returned (.tuple #[])) (wb.setCell ⟨bl,0,none⟩ v'):=by
 have hbl:=Az6 _ _ h1;have hbx:=Az6 _ _ h.b.c;have hbt:=Az6 _ _ h.t;simp only at hbl hbx hbt;have hsa:=ha.size;have nob:¬v.ownBlock=some bl:=λe=>(h3 bl e).2 rfl
 have hab:Chg (λk=>v.ownBlock=some k) w wb:=ha.any.trans hb;have cb:wb.cell? ⟨bl,0,none⟩=some v:=hab.cellS h1 nob;have zb:wb.frozen? ⟨bl,0,none⟩=false:=(hab.frozen (p:=⟨bl,0,none⟩) hbl nob).trans h.zl;obtain⟨w',hw'⟩:∃W,W=wb.setCell ⟨bl,0,none⟩ v':=⟨_,rfl⟩;have hs:Chg (·=bl) wb w':=by rw[hw'];exact zA wb bl 0 v'
 have hc:Chg (λk=>v.ownBlock=some k\/k=bl) w w':=(hab.mono (λ_ _ e=>.inl e)).trans (hs.mono (λ_ _ e=>.inr e));have c':w'.cell? ⟨bl,0,none⟩=some v':=by rw[hw'];exact Az9 _ _ _ cb
 obtain⟨p1,p2⟩:=h.b.g.chg hc (λk hk e=>by
  rcases hk with hk|rfl
  .exact (h3 k hk).1 e
  .exact h.nl e)
 have key:∀k,Ck pg bl w' k->Ck pg bl w k\/w.heap.size<=k:=λk hk=>by
  rcases hk with hk|hk|⟨u,hu,hk⟩
  .exact .inl (.inl (p2 k hk))
  .exact .inl (.inr (.inl hk))
  .rw[c']at hu
   obtain rfl:=Az3 hu;rcases hv with hv|hv
   .rw[hv]at hk;exact .inl (.inr (.inr ⟨v,h1,hk⟩))
   .rw[hv]at hk;have:=Az3 hk;exact .inr oM
 have nS:∀{b},¬Ck pg bl w b->¬(v.ownBlock=some b\/b=bl):=λhb e=>by
  rcases e with e|e
  .exact hb (.inr (.inr ⟨v,h1,e⟩))
  .exact hb (.inr (.inl e))
 have nob':∀g,v'.ownBlock=some g->¬g=bl:=λg hg e=>by
  rcases hv with hv|hv
  .rw[hv]at hg;exact (h3 g hg).2 e
  .rw[hv]at hg;have:=Az3 hg;omega
 have hel:∀{x:Sl}{L:List Int},intE.InS w (λk=>¬Ck pg bl w k) x L->intE.InS w' (λk=>¬Ck pg bl w' k) x L:=λhx=>by
  have r1:=hx.mono (S':=λk=>¬Ck pg bl w k/\k<w.heap.size) (λg hg hs=>⟨hs,hg⟩);have r2:=r1.chg hc (λg hg e=>nS hg.1 e);exact r2.mono (λg _ hg e=>(key g e).elim hg.1 (λh=>oM))
 rw[<-hw'];refine⟨⟨cb,zb⟩,rfl,⟨⟨p1,hc.cellS h.b.c (nS h.nx),λe=>h.b.n (p2 _ e)⟩,hc.cellS h.t (nS h.nt),λe=>(key _ e).elim h.nt (λh=>oM),λe=>(key _ e).elim h.nx (λh=>oM),λe=>h.nl (p2 _ e),h.lb,by rw[hw'];exact (Az4 _ _ _ _).trans zb,
  v',X++[y],c',ho.chgB hs (λg hg e=>nob' g hg e),λk hk=>⟨λe=>?_,nob' k hk⟩,by simp[h4],λj x d' hx hd=>?_⟩,hc.mono (λk _ hk=>?_),key⟩
 .rcases hv with hv|hv
  .rw[hv]at hk;exact (h3 k hk).1 (p2 k e)
  .rw[hv]at hk;have:=Az3 hk;have:=(h.b.g.low (p2 k e)).2;omega
 .rw[List.getElem?_append]at hx hd
  by_cases hj:j<X.length
  .rw[if_pos hj]at hx
   rw[if_pos oM]at hd;exact hel (h5 j x d' hx hd)
  .rw[if_neg hj]at hx
   rw[if_neg oM]at hd;have hj0:j-X.length=0:=by
    have:=(Az1.1 hx).1;simp at this;omega
   rw[hj0]at hx;rw[show j-acc.length=0 by omega]at hd;simp at hx hd
   subst hx hd;exact hel hy
 .rcases hk with hk|hk
  .exact .inr (.inr ⟨v,h1,hk⟩)
  .exact .inr (.inl hk)
theorem zMa {w:World}{h j:Nat}{C:List Int}{x:Int}(hR:I.Row w h C) (hj:j<C.length) (hx:I.Byte x):I.Row (w.setCell ⟨h,j,none⟩ (.int .i64 x)) h (C.set j x) :=
 ⟨λk a hk=>by
  by_cases e:k=j
  .subst e
   rw[Av5 hj]at hk;obtain rfl:=Az3 hk;exact Az9 _ _ _ (hR.c k _ (Az hj))
  .rw[Au3 (Ne.symm e)]at hk
   rw[Ay0 _ _ _ _ (by intro h;injection h with _ h;exact e h.symm)];exact hR.c k a hk,λk=>(Az4 _ _ _ _).trans (hR.z k),Ay9 hR.lt (zA _ _ _ _).size,λa ha=>by
  rcases List.mem_or_eq_of_mem_set ha with h|h
  .exact hR.byte a h
  .rw[h];exact hx⟩
theorem fS (tk:Nat) (es:List (Int×Int)):(yW tk es).length=tk+1:=by
 have:∀(es:List (Int×Int)) (L:List Int),(es.foldl (λl e=>l.set (e.1+1).toNat e.2) L).length=L.length:=by
  intro es
  induction es with
  | nil=>intro L;rfl
  | cons e es ih=>intro L;rw[List.foldl_cons,ih,Au4]
 unfold yW;rw[this,Av3]
theorem zBm (tk:Nat) {es:List (Int×Int)}{k:Nat}{e:Int×Int}(h:es[k]?=some e):yW tk (es.take (k+1))=(yW tk (es.take k)).set (e.1+1).toNat e.2:=by
 unfold yW;rw[Ay1,h,List.foldl_append]
 rfl
structure OkL (tk:Nat) (d:LsD):Prop where
 k:0<=d.1/\d.1<=255
 a:d.2.1.length<=1000000000/\∀z∈d.2.1,U32 z
 el:d.2.2.length<=1000000000
 e:∀e∈d.2.2,-1<=e.1/\e.1<tk/\I.Byte e.2
def ptL (d:LsD):List Int:=ptLs (d.1,d.2.1)
theorem zKj {pg B bx bt bl tk:Nat}{Z:List Int}{acc:List LsD}(y:Int×Sl×Sl) (d:LsD) (w:World) (h:PSk pg B bx bt bl tk w acc Z) (hr:lsR w (·<B) y d) (hok:OkL tk d) (htk:tk<=900) (hac:acc.length<=1000000000) (hl:(Z++ptL d).length<=1000000000) :
  Calls Tryz.prog 71 #[zCq y,.pointer (some ⟨bx,0,none⟩),.pointer (some ⟨bt,0,none⟩),.pointer (some ⟨bl,0,none⟩)] w (uJ (Ck pg bl) (PSk pg B bx bt bl tk) w (acc++[d]) (Z++ptL d)):=by
 obtain⟨k,al,es⟩:=d;obtain⟨yk,⟨aa,an,ac⟩,⟨ea,en,ec⟩⟩:=y;obtain⟨r1,r2,r3,r4⟩:=hr;simp only at r1 r2 r3 r4;subst r1;obtain⟨rfl,-⟩:=r3.len;obtain⟨rfl,-⟩:=r4.len;obtain⟨o1,⟨o2,o3⟩,o4,o5⟩:=hok;simp only at o1 o2 o3 o4 o5;have HL:Hd (Z.length<=1000000000/\((Z++zN yk)++zS zN al).length<=1000000000):=jh (by
  simp only[ptL,ptLs,Az0]at hl ⊢;omega)
 obtain⟨w0,hw0⟩:∃W,W=w.alloc (.cells #[.int .u8 yk,.slice aa al.length ac,.slice ea es.length ec] 67):=⟨_,rfl⟩;have hC0:Cf w w0:=by rw[hw0];exact (Chg.refl _ _).alloc _
 have HS:=jh h;have HP0:Hd (Puts pg B w w0 Z):=jh (h.b.g.fresh hC0);have hn:¬Cp pg w0 w.heap.size:=h.b.g.newF hC0 (Ay _);have HK:Hd (∀W Z',Puts pg B w0 W Z'->W.cell? ⟨bx,0,none⟩=some (.pointer (some ⟨pg,0,none⟩))/\W.cell? ⟨bt,0,none⟩=some (.int .i64 tk)/\W.cell? ⟨w.heap.size,0,none⟩=some (.int .u8 yk)/\W.cell? ⟨w.heap.size,1,none⟩=some (.slice aa al.length ac)/\W.cell? ⟨w.heap.size,2,none⟩=some (.slice ea es.length ec)):=jh (λW Z' hp=>by
  have h1:=HP0.o.trans hp;exact⟨h1.keep h.b.n h.b.c,h1.keep (λe=>h.nt (.inl e)) h.t,hp.keep hn (by rw[hw0,Az7];rfl),hp.keep hn (by rw[hw0,Az7];rfl),hp.keep hn (by rw[hw0,Az7];rfl)⟩)
 have HES:Hd (∀W Z',Puts pg B w0 W Z'->intE.InS W (·<B) (aa,al.length,ac) al/\rY.InS W (·<B) (ea,es.length,ec) es):=jh (λW Z' hp=>by
  have hc:=(HP0.o.trans hp).below h.b.g;exact⟨r3.chg hc (λg hg e=>oM),r4.chg hc (λg hg e=>oM)⟩)
 have hmf:=mkfn;have hwk:IntKind.i64.wrap yk=yk:=by rw[IntKind.wrap_i64];omega
 have HO1:Hd (U32 yk):=jh ⟨oM,oM⟩;have HO3:=jh o3;have HO5:=jh o5;have HAC:=jh hac;clear h hn hl r2 r3 r4 o3 o5 hC0 hac;show Calls Tryz.prog 71 #[.agg #[.int .u8 yk,.slice aa al.length ac,.slice ea es.length ec],.pointer (some ⟨bx,0,none⟩),.pointer (some ⟨bt,0,none⟩),.pointer (some ⟨bl,0,none⟩)] w _;go_enter Tryz.func71,Tryz.ntmps71
 go_upto_region 1 with (fail)
 rw[<-hw0];clear hw0;obtain⟨q0,q1,q2,q3,q4⟩:=HK.o w0 Z HP0.o.st.refl;go_wp2_with fail
 refine (uA yk w0 HP0.o.st HO1.o HL.o.1).mono ?_;rintro e1 w1 ⟨rfl,hp1⟩;have HP1:=jh hp1;clear hp1 q0 q1 q2 q3 q4;obtain⟨q0,q1,q2,q3,q4⟩:=HK.o w1 _ HP1.o;go_wp2_with fail
 refine (dU al aa ac w1 HP1.o.st (HES.o w1 _ HP1.o).1 HO3.o o2 HL.o.2).mono ?_;rintro e2 w2 ⟨rfl,hp2⟩;have HP2:=jh (HP1.o.trans hp2);clear hp2 q0 q1 q2 q3 q4;obtain⟨q0,q1,q2,q3,q4⟩:=HK.o w2 _ HP2.o;have HPT:=jh (HP0.o.trans HP2.o);have HS2:Hd (PSk pg B bx bt bl tk w2 acc ((Z++zN yk)++zS zN al)/\∀k,Ck pg bl w2 k->Ck pg bl w k\/w.heap.size<=k):=jh ((zRp pg B bx bt bl tk).move HS.o HPT.o);have wt1:wrap64 ((tk:Int)+1)=((tk+1:Nat):Int):=by unfold wrap64;omega
 obtain⟨w2a,hw2a⟩:∃W,W=w2.alloc (.cells #[.int .i64 (-1)] 3):=⟨_,rfl⟩;have HC2a:Hd (Cf w2 w2a):=jh (by rw[hw2a];exact (Chg.refl _ _).alloc _);have hx2:w2a.cell? ⟨w2.heap.size,0,none⟩=some (.int .i64 (-1)):=by rw[hw2a];exact vW _ _ rfl
 have HRP:=jh (zKe (tk+1) oM oM w2.heap.size w2a hx2);have q1a:=yG (.cells #[.int .i64 (-1)] 3) q1;go_wp2_with fail
 rw[<-hw2a];clear hw2a hx2 q0 q1 q2 q3 q4 q1a;refine HRP.o.mono ?_;rintro e3 w3 ⟨h,rfl,hh,hr3,hc3⟩;have HH:Hd (w2.heap.size<=h):=jh (Ay4 HC2a.o.size hh);have HR3:=jh hr3;have HC3:=jh (HC2a.o.trans hc3);clear hh hr3 hc3 HRP;obtain⟨-,-,-,-,q4⟩:=HK.o w3 _ (HP2.o.trans (HP2.o.st.fresh HC3.o));go_upto_region 5 with (fail)
 clear q4
 go_loopw [26] (λq wr=>∃k:Nat,k<=es.length/\q=.int .i64 k/\I.Row wr h (yW tk (es.take k))/\Chg (·=h) w3 wr) (λq _=>es.length-(intOf q).toNat)
 case atStart=>exact⟨0,oM,rfl,HR3.o,Chg.refl _ _⟩
 case round =>
  clear HR3;obtain⟨j,hj,rfl,hR,hc⟩:=hrel;have HR:=jh hR;have HC:=jh hc;clear hR hc;have HC2:Hd (Cf w2 wr):=jh (HC3.o.trans2 HC.o (λg hg e=>by have:=HH.o;omega));by_cases hjl:j<es.length
  .have b9:decide ((j:Int)<(es.length:Int))=true:=by simp;omega
   have h4:=(HES.o wr _ (HP2.o.trans (HP2.o.st.fresh HC2.o))).2;obtain⟨⟨tok,tt⟩,d',g,o,hx,hrx,rfl,-,-,-,hcells⟩:=(zJ.of h4).get2 (f:=uW) rfl hjl rfl;obtain⟨c0,c1⟩:=hcells _ _ rfl;obtain rfl:(tok,tt)=d':=hrx;have HX:=jh hx;obtain⟨t1,t2,t3⟩:=HO5.o _ (Az2 hx);simp only at t1 t2 t3;obtain⟨u,hu⟩:=Aw8 (show 0<=tok+1 by omega);have hu2:u<tk+1:=oM;have HLL:=jh (fS tk (es.take j));have wt2:wrap64 (tok+1)=(u:Int):=(by unfold wrap64;omega);have b5:(u:Int)<((tk+1:Nat):Int):=oM;have b6:(u:Int)<(tk:Int)+1:=oM;obtain⟨w6,hw6⟩:∃W,W=wr.alloc (.cells #[.int .i64 tok,.int .i64 tt] 149):=⟨_,rfl⟩;have HC6:Hd (Cf wr w6):=jh (by rw[hw6];exact (Chg.refl _ _).alloc _);have f0:w6.cell? ⟨wr.heap.size,0,none⟩=some (.int .i64 tok):=(by rw[hw6,Az7];rfl);have f1:w6.cell? ⟨wr.heap.size,1,none⟩=some (.int .i64 tt):=(by rw[hw6,Az7];rfl);have hR6:I.Row w6 h (yW tk (es.take j)):=HR.o.chg HC6.o iD;have f2:w6.cell? ⟨h,u,none⟩=some (.int .i64 ((yW tk (es.take j)).getD u 0)):=by
    have:=hR6.c u ((yW tk (es.take j)).getD u 0) (by rw[Aw2,Az (by rw[HLL.o];exact hu2)];rfl);exact this
   have f3:=hR6.z u;have HR7:Hd (I.Row (w6.setCell ⟨h,u,none⟩ (.int .i64 tt)) h (yW tk (es.take (j+1)))):=jh (by
    rw[zBm tk HX.o];have:=zMa hR6 (j:=u) (x:=tt) (by rw[HLL.o];exact hu2) t3;simp only;rw[show (tok+1).toNat=u by omega];exact this)
   have HC7:Hd (Chg (·=h) w3 (w6.setCell ⟨h,u,none⟩ (.int .i64 tt))):=jh ((HC.o.trans HC6.o.any).trans (zA _ _ _ _));clear hx hcells h4 t1 t2 t3 hu hR6;go_upto_region 7 with (fail)
   rw[<-hw6];clear hw6 c0 c1;go_wp2;go_roundw
   case rel=>exact⟨j+1,oM,by go_num,HR7.o,HC7.o⟩
   case measure=>simp[intOf];omega
  .obtain rfl:j=es.length:=oM
   have b9:decide ((es.length:Int)<(es.length:Int))=false:=sI;have HRF:Hd (I.Row wr h (yW tk es)):=jh (by
    have:=HR.o;rwa [Ax6 (Ay _)]at this)
   obtain⟨hk1,hk2⟩:=PSk.fresh HS2.o.1 HC2.o;obtain⟨v,X,x1,x2,x3,x4,x5⟩:=hk1.ex;have HKR:=jh hk1;have HX2:=jh x2;have HX1:=jh x1;have HX3:=jh x3;have HX4:=jh x4;have HX5:=jh x5;have hny:¬Ck pg bl wr h:=hk2 h HH.o;have HY:Hd (intE.InS wr (λk=>¬Ck pg bl wr k) (some ⟨h,0,none⟩,tk+1,tk+1) (yW tk es)):=jh ⟨(fS tk es).symm,Ay _,h,0,(cG.2 HRF.o).at' (Aw6 _),λ_=>⟨rfl,hny⟩⟩;obtain⟨va,vl,vc,hv⟩:=x2.shape3;subst hv;obtain⟨wa,hwa⟩:∃W,W=wr.alloc (.cells #[.slice (some ⟨h,0,none⟩) (tk+1) (tk+1)] 25):=⟨_,rfl⟩;have HCA:Hd (Cf wr wa):=jh (by rw[hwa];exact (Chg.refl _ _).alloc _);have HWA:=jh hwa;have HBW:Hd (B<=wr.heap.size):=jh (by have:=hk1.b.g.lt;have:=hk1.b.g.le;omega);have HXL:Hd (X.length<=1000000000):=jh (by rw[x4];exact HAC.o);clear hk1 hk2 x2 x3 x4 x5 hny hwa;go_wp2_with (at_builtin;go_loud (refine Elt.wpList_append2 nW rfl _ _ 26 26 rfl rfl B (.slice va vl vc) X [(some ⟨h,0,none⟩,tk+1,tk+1)] (.slice (some ⟨wr.heap.size,0,none⟩) 1 1) rfl rfl (HX2.o.chg ((Chg.refl (λ_=>False) _).alloc _) (λ_ _ _ h=>h)) (by have:=HBW.o;simp;omega) (Elt.srcLit nW (w:=wr) (Y:=[(some ⟨h,0,none⟩,tk+1,tk+1)]) (e:=25) 1 (λ_ _=>trivial)) (λ_ _=>trivial) (by have:=HXL.o;simp;omega) ?_;intro v' wb HO1 HC4 HB1;obtain⟨va',vl',vc',hv'⟩:=HO1.o.shape3;subst hv';obtain⟨⟨k1,k2⟩,hf1⟩:=PSk.push (d:=(yk,al,es)) HKR.o HX1.o HX3.o HX4.o HX5.o HY.o ((Chg.refl (λ_=>False) wr).alloc _) HO1.o HB1.o.1 HB1.o.2;have HFF:=jh hf1;clear hf1))
   go_wp2;go_end0
   have HPR:=HPT.o.trans (HP2.o.st.fresh HC2.o);have h1:=uJ.puts (zRp pg B bx bt bl tk) HS.o HPR;have h2:=h1.trans HFF.o;rw[Az5]at h2;exact h2
theorem zHc {pg B bx bt bl tk:Nat}(htk:tk<=900):aN 71 #[] #[.pointer (some ⟨bx,0,none⟩),.pointer (some ⟨bt,0,none⟩),.pointer (some ⟨bl,0,none⟩)] ptL (OkL tk) lsE zCq lsR B (Ck pg bl) (PSk pg B bx bt bl tk):=by
 intro w acc Z x d h ha hx hr hok hl;show Calls Tryz.prog 71 #[zCq x,.pointer (some ⟨bx,0,none⟩),.pointer (some ⟨bt,0,none⟩),.pointer (some ⟨bl,0,none⟩)] w _;exact zKj x d w h hr hok htk ha hl
theorem zGf (tk:Nat) (A:List LsD):tU tk A=zS ptL A++vJ ((tk+1:Nat):Int) (A.map (λs=>yW tk s.2.2)):=by
 unfold tU zS;rw[Aw3,List.flatMap_map]
 rfl
theorem zMj {pg B:Nat}{Z:List Int}(A:List LsD) (a:Option Addr) (c tk:Nat) (w:World) (h:PSt pg B w Z) (hA:zJ lsE lsR w (·<B) (a,A.length,c) A) (hok:∀d∈A,OkL tk d) (htk:tk<=64) (han:A.length<=4096) (hmk:uG ((tk:Int)+1) (A.map (λs=>yW tk s.2.2))=true) (hl:(Z++tU tk A).length<=1000000000) :
  Calls Tryz.prog 30 #[.pointer (some ⟨pg,0,none⟩),.agg #[.slice a A.length c],.int .i64 tk] w λe' w'=>e'=.returned (.tuple #[])/\Puts pg B w w' (Z++tU tk A):=by
 rw[zGf]at hl ⊢;obtain⟨LL,hLL⟩:∃x,A.map (λs=>yW tk s.2.2)=x:=⟨_,rfl⟩;have HLL:=jh hLL;have hLn:LL.length=A.length:=by rw[<-hLL];simp
 have HLN:=jh hLn;rw[hLL]at hl hmk ⊢;clear hLL hLn;have HL:Hd ((Z++zS ptL A).length<=1000000000/\((Z++zS ptL A)++vJ ((tk+1:Nat):Int) LL).length<=1000000000):=jh (by
  simp only[Az0]at hl ⊢;omega)
 obtain⟨w0,hw0⟩:∃W,W=(((w.alloc (.cells #[.pointer (some ⟨pg,0,none⟩)] 81)).alloc (.cells #[.slice a A.length c] 63)).alloc (.cells #[.int .i64 tk] 3)).alloc (.cells #[.slice none 0 0] 26):=⟨_,rfl⟩;have hC0:Cf w w0:=by rw[hw0];exact ((((Chg.refl _ w).alloc _).alloc _).alloc _).alloc _
 have HP0:Hd (Puts pg B w w0 Z):=jh (h.fresh hC0);have c0:w0.cell? ⟨w.heap.size,0,none⟩=some (.pointer (some ⟨pg,0,none⟩)):=by rw[hw0];exact yG _ (yG _ (yG _ (vW _ _ rfl)))
 have c1:w0.cell? ⟨w.heap.size+1,0,none⟩=some (.slice a A.length c):=by rw[hw0];exact yG _ (yG _ (vW _ _ sI))
 have c2:w0.cell? ⟨w.heap.size+1+1,0,none⟩=some (.int .i64 tk):=by rw[hw0];exact yG _ (vW _ _ sI)
 have c3:w0.cell? ⟨w.heap.size+1+1+1,0,none⟩=some (.slice none 0 0):=by rw[hw0];exact vW _ _ sI
 have z3:w0.frozen? ⟨w.heap.size+1+1+1,0,none⟩=false:=by
  have e:w.heap.size+1+1+1=(((w.alloc (.cells #[.pointer (some ⟨pg,0,none⟩)] 81)).alloc (.cells #[.slice a A.length c] 63)).alloc (.cells #[.int .i64 tk] 3)).heap.size:=sI
  rw[hw0,e];exact Az8 _ _ _ _
 obtain⟨bl,hbl⟩:∃b,b=w.heap.size+1+1+1:=⟨_,rfl⟩;rw[<-hbl]at c3 z3;obtain⟨bt,hbt⟩:∃b,b=w.heap.size+1+1:=⟨_,rfl⟩;rw[<-hbt]at c2;obtain⟨ba,hba⟩:∃b,b=w.heap.size+1:=⟨_,rfl⟩;rw[<-hba]at c1;obtain⟨bx,hbx⟩:∃b,b=w.heap.size:=⟨_,rfl⟩;rw[<-hbx]at c0;have hnp:∀k,w.heap.size<=k->¬Cp pg w0 k:=λk hk=>h.newF hC0 hk
 have hnk:∀k,w.heap.size<=k->k≠bl->¬Ck pg bl w0 k:=λk hk hkl e=>by
  rcases e with e|e|⟨u,hu,e⟩
  .exact hnp k hk e
  .exact hkl e
  .rw[c3]at hu
   obtain rfl:=Az3 hu;cases e
 have HB:Hd (bx=w.heap.size/\ba=w.heap.size+1/\bt=w.heap.size+2/\bl=w.heap.size+3/\B<=w.heap.size):=jh ⟨hbx,hba,oM,oM,by have:=h.lt;have:=h.le;omega⟩;have HS0:Hd (PSk pg B bx bt bl tk w0 [] Z):=jh ⟨⟨HP0.o.st,c0,hnp _ oM⟩,c2,hnk _ oM oM,hnk _ oM oM,hnp _ oM,by have:=HB.o;omega,z3,.slice none 0 0,[],c3,.nil _ _,(λk hk=>by cases hk),rfl,λj x d hx=>by simp at hx⟩;have HNA:Hd (¬Ck pg bl w0 ba):=jh (hnk _ oM oM);have HN3:Hd (∀v,w0.cell? ⟨bl,0,none⟩=some v->v=.slice none 0 0):=jh (λv hv=>by rw[c3]at hv;exact (Az3 hv).symm);have HC0:=jh hC0;have HPS:=jh h;have HA0:=jh ((zJ.good lsR.good).chg hA hC0 iF);have HOK:=jh hok;have HMK:=jh hmk;have hmf:=mkfn;have eg:=enters_of Tryz.func71 kR rfl;have wt1:wrap64 ((tk:Int)+1)=((tk+1:Nat):Int):=by unfold wrap64;omega
 have HPUT:=jh (zTv lsR.good (zRp pg B bx bt bl tk) 71 #[] #[.pointer (some ⟨bx,0,none⟩),.pointer (some ⟨bt,0,none⟩),.pointer (some ⟨bl,0,none⟩)] ptL (OkL tk) eg (zHc oM) A a c w0 Z HS0.o HA0.o hok oM HL.o.1);have d1:=HS0.o.b.c;have d2:=c1;clear h hA hok hmk hl hC0 c1 c3 z3 hnp hnk c0 c2;go_enter Tryz.func30,Tryz.ntmps30
 go_upto_region 2 with (fail)
 rw[<-hw0,<-hbl,<-hbt,<-hba,<-hbx];clear hw0 hbl hbt hba hbx;go_wp2_with fail
 refine HPUT.o.mono ?_;rintro e1 w1 ⟨rfl,hs1,hc1,hn1⟩;have HS1:=jh hs1;have HC1:=jh hc1;have HN1:=jh hn1;clear hc1 hn1 HPUT d1 d2;obtain⟨v,X,x1,x2,-,x4,x5⟩:=hs1.ex;obtain⟨va,vc,rfl⟩:=x2.shape;have HLI:Hd (sC w1 0 (va,LL.length,vc) LL):=jh (by
  obtain⟨a',g,c',e1,e2,e3,e4⟩:=x2.at';injection e1 with e1 e5 e6;subst e1 e6;have hn:=HLN.o;refine⟨X,⟨by show LL.length=X.length;omega,by show LL.length<=vc;omega,g,0,e3,λhp=>⟨(e4 hp).1,Av _⟩⟩,oM,λj x l hx hl=>?_⟩;rw[<-HLL.o,Aw]at hl;obtain⟨d,hd,rfl⟩:=Option.map_eq_some_iff.1 hl;exact Elt.InS.in' (x5 j x d hx hd) (λ_ _=>Av _))
 have HPT:Hd (Puts pg B w w1 (Z++zS ptL A)):=jh (by
  have hw0l:=HC0.o.size;have hcp:=HPS.o.chg HC0.o (λ_ h=>h.elim);have hcell:=HN3.o;have hck:∀k,Ck pg bl w0 k->Cp pg w0 k\/k=bl:=λk hk=>by
   rcases hk with hk|hk|⟨u,hu,hk⟩
   .exact .inl hk
   .exact .inr hk
   .rw[hcell u hu]at hk;cases hk
  refine⟨hs1.b.g,(HC0.o.any (S:=Cp pg w)).trans2 HC1.o (λk hk e=>?_),λk hk=>?_⟩
  .rcases hck k e with e|e
   .exact hcp.2 k e
   .have:=HB.o;omega
  .rcases HN1.o k (.inl hk) with e|e
   .rcases hck k e with e|e
    .exact .inl (hcp.2 k e)
    .exact .inr (by have:=HB.o;omega)
   .exact .inr oM)
 have d1:=hs1.b.c;have d2:=hs1.t;have hXL:X.length=LL.length:=by rw[HLN.o];exact x4
 have HTB:=jh (zD2 (tk+1) LL va vc w1 HPT.o.st HLI.o oM (by have:=HLN.o;omega) (by rw[show ((tk+1:Nat):Int)=(tk:Int)+1 by omega];exact HMK.o) (by
  rw[HLN.o];have:=Nat.mul_le_mul han (show tk+1<=65 by omega);omega) HL.o.2)
 have d3:=x1;rw[hXL]at d3;clear hXL x1 x2 x4 x5 hs1 HLI;go_wp2_with fail
 refine HTB.o.mono ?_;rintro e2 w2 ⟨rfl,hp2⟩;have HF:=jh (HPT.o.trans hp2);clear hp2 d1 d2 d3 HTB;go_wp2;go_end0
 refine⟨rfl,?_⟩;have:=HF.o;rw[Az5]at this;exact this
theorem zQb {r:RowD}{R:List RowD}(h:r∈R):∃j:Nat,idxV (vY r) R=j/\R[j]?=some r:=by
 have h1:R.findIdx (vY r)<R.length:=by
  rw[List.findIdx_lt_length];exact⟨r,h,by simp[vY]⟩
 refine⟨R.findIdx (vY r),by unfold idxV;rw[if_pos h1],?_⟩;have h2:=List.findIdx_getElem (w:=h1);rw[Az h1];simp only[vY,decide_eq_true_eq]at h2;rw[<-h2]
theorem zHu (LL:List (List Int)):∀(i:Nat) (L:List Int),LL[i]?=some L->∃j:Nat,(yC LL).2[i]?=some (j:Int)/\(yC LL).1[j]?=some (rowL L):=by
 have key:∀(n:Nat),n<=LL.length->∀(i:Nat) (L:List Int),i<n->LL[i]?=some L->∃j:Nat,(yC (LL.take n)).2[i]?=some (j:Int)/\(yC (LL.take n)).1[j]?=some (rowL L):=by
  intro n
  induction n with
  | zero=>intro _ i L h;omega
  | succ n ih =>
   intro hn i L hi hL;have hl:LL[n]?=some LL[n]:=Az oM;have e:LL.take (n+1)=LL.take n++[LL[n]]:=(by rw[Ay1,hl];rfl);have hlen:=(tC (LL.take n)).2;rw[Ax1]at hlen;rw[e,zBc]
   generalize yC (LL.take n)=t at *
   obtain⟨R,O⟩:=t;simp only at hlen ih;unfold addL;by_cases hin:i<n
   .obtain⟨j,h1,h2⟩:=ih oM i L hin hL
    have h3:=(Az1.1 h1).1;have h4:=(Az1.1 h2).1;refine⟨j,?_⟩
    split
    .exact⟨by rw[Ay8 h3];exact h1,h2⟩
    .exact⟨by rw[Ay8 h3];exact h1,by rw[Ay8 h4];exact h2⟩
   .obtain rfl:i=n:=oM
    rw[hl]at hL;obtain rfl:=Az3 hL
    split
    .rename_i hh
     obtain⟨j,h1,h2⟩:=zQb (mU.1 hh);refine⟨j,?_,h2⟩;show (O++[idxV (vY (rowL LL[i])) R])[i]?=_;rw[h1,Ax4 oM,show i-O.length=0 by omega]
     rfl
    .refine⟨R.length,?_,?_⟩
     .show (O++[(R.length:Int)])[i]?=_
      rw[Ax4 oM,show i-O.length=0 by omega]
      rfl
     .show (R++[rowL LL[i]])[R.length]?=_
      simp
 intro i L hL;have:=key LL.length (Ay _) i L (Az1.1 hL).1 hL;rwa [Ay5]at this
theorem zP6 {W:Int}{LL:List (List Int)}{i k:Nat}{L:List Int}{n:Int}(hL:LL[i]?=some L) (hn:L[k]?=some n) (hk:(k:Int)<W):zAf (W,(yC LL).1,(yC LL).2) i k=n:=by
 obtain⟨j,h1,h2⟩:=zHu LL i L hL;have h3:=(Az1.1 h1).1;have h4:=(Az1.1 h2).1;unfold zAf;simp only;rw[if_neg oM,Ay6,h1];simp only;rw[if_neg oM,Ay6,h2];exact zLm L k n hn
theorem zHv {W:Nat}{LL:List (List Int)}(h:∀l∈LL,l.length=W):qY ((W:Int),(yC LL).1,(yC LL).2)=LL:=by
 refine List.ext_getElem (by simp[qY,(tC LL).2]) (λi h1 h2=>?_);simp only[qY,List.getElem_map,List.getElem_range,Ay6];have hl:=h _ (List.getElem_mem h2);refine List.ext_getElem (by simp[hl]) (λk k1 k2=>?_);simp only[List.getElem_map,List.getElem_range];exact zP6 (Az h2) (Az k2) (by rw[hl]at k2;omega)
theorem zJ2 {b r:List Int}{s:Str}(h:gU b=some (s,r)):∃n b1,numG 64 b=some (n,b1)/\n<=b1.length/\s=strOfNums (b1.take n.toNat)/\r=b1.drop n.toNat:=by
 unfold gU at h
 split at h
 .cases h
 .rename_i n b1 h1
  split at h
  .rename_i h2
   injection h with h;injection h with e1 e2;exact⟨n,b1,h1,h2,e1.symm,e2.symm⟩
  .cases h
theorem zMw {m:Nat}{b r:List Int}{x:Int}(h:numG m b=some (x,r)):∃n:Nat,x=n/\n<=m:=by
 obtain⟨n,k,_,h1,h2,_⟩:=hJ h;exact⟨n,h1,h2⟩
theorem zDr {b r:List Int}{s:Str}(h:gU b=some (s,r)):s.size<=64:=by
 obtain⟨n,b1,h1,h2,rfl,_⟩:=zJ2 h;obtain⟨k,rfl,hk⟩:=zMw h1;show (strOfNums _).data.size<=64;simp only[strOfNums,List.size_toArray,Aw3,Ax1];omega
theorem zE1 {α:Type}{one:Rdr α}{P:α->Prop}(hP:∀b x r,one b=some (x,r)->P x):∀(k:Nat) (acc L:List α) (b r:List Int),repG one k acc b=some (L,r)->(∀x∈acc,P x)->∀x∈L,P x
 | 0,acc,L,b,r,h,ha=>by
  simp only[repG]at h;injection h with h;injection h with h1 _;rw[<-h1];exact ha
 | k+1,acc,L,b,r,h,ha=>by
  unfold repG at h
  split at h
  .cases h
  .rename_i x r1 h1
   exact zE1 hP k _ L r1 r h (λy hy=>by
    rcases Av2.1 hy with hy|hy
    .exact ha y hy
    .rw[Ay3.1 hy];exact hP _ _ _ h1)
theorem zD8 {α:Type}{one:Rdr α}{b r:List Int}{L:List α}(h:vA one b=some (L,r)):∃(n:Nat) (b1:List Int),anyG b=some ((n:Int),b1)/\n<=16777215/\repG one n [] b1=some (L,r)/\L.length=n:=by
 unfold vA at h
 split at h
 .cases h
 .rename_i x b1 h1
  obtain⟨n,rfl,hn⟩:=zMw h1;have h2:=fL h;exact⟨n,b1,h1,hn,h,by rw[h2];simp⟩
theorem rE {α:Type}{one:Rdr α}{b r:List Int}{L:List α}(h:vA one b=some (L,r)):L.length<=16777215:=by
 obtain⟨n,_,_,h2,_,h3⟩:=zD8 h;omega
theorem zAv {α:Type}{one:Rdr α}{P:α->Prop}(hP:∀b x r,one b=some (x,r)->P x) {b r:List Int}{L:List α}(h:vA one b=some (L,r)):∀x∈L,P x:=by
 obtain⟨n,b1,_,_,h2,_⟩:=zD8 h;exact zE1 hP n [] L b1 r h2 (λx hx=>by cases hx)
theorem zHg {b r:List Int}{ls:List (List Int)}{w:Int}(h:mY b=some ((ls,w),r)):∃(m sz:Nat) (R:List RowD) (O:List Int),mW b vL=true/\vS b vL=(((m:Int),R,O),sz,false)/\mayL ((m:Int),R,O)=true/\m<=65536/\O.length<=65536/\sz<=b.length/\(O.length:Int) * (m:Int)<=4194304/\ls=qY ((m:Int),R,O)/\w=m/\r=b.drop sz:=by
 unfold mY at h
 split at h
 .rename_i hk
  obtain⟨m,sz,R,O,h1,h2,h3,h4,h5⟩:=zB9 hk;rw[h1]at h;simp only at h
  split at h
  .rename_i h6
   injection h with h;injection h with e1 e2;injection e1 with e1 e3;exact⟨m,sz,R,O,hk,h1,h2,h3,h4,h5,h6,e1.symm,e3.symm,e2.symm⟩
  .cases h
 .cases h
theorem zDu {b r:List Int}{ls:List (List Int)}{w:Int}(h:mY b=some ((ls,w),r)):ls.length<=65536/\∀l∈ls,l.length<=65536:=by
 obtain⟨m,sz,R,O,_,_,_,h1,h2,_,_,rfl,_,_⟩:=zHg h;unfold qY;refine⟨by simpa using h2,λl hl=>?_⟩;rw[At0]at hl;obtain⟨i,_,rfl⟩:=hl;simpa using h1
theorem zHh {b r:List Int}{s:StD}(h:jC b=some (s,r)):∃b1 b2,anyG b=some (s.1,b1)/\vA zBy b1=some (s.2.1,b2)/\vA anyG b2=some (s.2.2,r):=by
 unfold jC at h
 split at h
 .cases h
 split at h
 .cases h
 split at h
 .cases h
 rename_i h1 _ _ _ h2 _ _ _ h3;injection h with h;injection h with e1 e2;subst e1 e2;exact⟨_,_,h1,h2,h3⟩
theorem zNb {b r:List Int}{t:LexD}(h:lexG b=some (t,r)):∃rc b1 w b2,vA rcG b=some (rc,b1)/\mY b1=some ((t.n,w),b2)/\w=xS (rc.map (·.2))/\repG endG t.n.length [] b2=some (t.e,r)/\t.r=rc.map (·.1)/\t.c=rc.map (·.2):=by
 unfold lexG at h
 split at h
 .cases h
 split at h
 .cases h
 split at h
 .split at h
  .cases h
  .rename_i h1 _ _ _ _ h2 h3 _ _ _ h4
   injection h with h;injection h with e1 e2;subst e1 e2;exact⟨_,_,_,_,h1,h2,h3,h4,rfl,rfl⟩
 .cases h
theorem zMx {b r:List Int}{n:NetD}(h:netG b=some (n,r)):∃b1 b2 b3,vA jC b=some (n.st,b1)/\vA anyG b1=some (n.s,b2)/\vA anyG b2=some (n.p,b3)/\vA anyG b3=some (n.q,r)/\n.d=qE n.st:=by
 unfold netG at h
 split at h
 .cases h
 split at h
 .cases h
 split at h
 .cases h
 split at h
 .cases h
 rename_i h1 _ _ _ h2 _ _ _ h3 _ _ _ h4;injection h with h;injection h with e1 e2;subst e1 e2;exact⟨_,_,_,h1,h2,h3,h4,rfl⟩
theorem zKw {tk:Nat}{b r:List Int}{A:List LsD}(h:jU tk b=some (A,r)):∃ss b1 ls,vA lsG b=some (ss,b1)/\mY b1=some ((ls,(tk:Int)+1),r)/\ls.length=ss.length/\A=List.zipWith (λs l=>(s.1,s.2,nY l)) ss ls:=by
 unfold jU at h
 split at h
 .cases h
 split at h
 .cases h
 split at h
 .rename_i h1 _ _ _ _ h2 h3
  injection h with h;injection h with e1 e2;subst e1 e2;obtain⟨rfl,h3⟩:=h3;exact⟨_,_,_,h1,h2,h3,rfl⟩
 .cases h
theorem zLh {b r:List Int}{t:TabsD}(h:zA6 b=some (t,r)):∃b1 tk b2 b3 b4,vA gU b=some (t.rl,b1)/\vA tokG b1=some (tk,b2)/\lexG b2=some (t.lx,b3)/\netG b3=some (t.nt,b4)/\repG (jU tk.length) t.nt.d.length [] b4=some (t.lk,r)/\t.tk=tk.map (·.1)/\t.dr=tk.map (·.2):=by
 unfold zA6 at h
 split at h
 .cases h
 split at h
 .cases h
 split at h
 .cases h
 split at h
 .cases h
 split at h
 .cases h
 rename_i h1 _ _ _ h2 _ _ _ h3 _ _ _ h4 _ _ _ h5;injection h with h;injection h with e1 e2;subst e1 e2;exact⟨_,_,_,_,_,h1,h2,h3,h4,h5,rfl,rfl⟩
theorem zLx {b r:List Int}{x:Str×Bool}(h:tokG b=some (x,r)):∃b1 n,gU b=some (x.1,b1)/\numG 1 b1=some (n,r)/\x.2=decide (n=1):=by
 unfold tokG at h
 split at h
 .cases h
 split at h
 .cases h
 rename_i h1 _ _ _ h2;injection h with h;injection h with e1 e2;subst e1 e2;exact⟨_,_,h1,h2,rfl⟩
theorem zP7 {b r:List Int}{x:Int×List Int}(h:lsG b=some (x,r)):∃b1,numG 3 b=some (x.1,b1)/\vA anyG b1=some (x.2,r):=by
 unfold lsG at h
 split at h
 .cases h
 split at h
 .cases h
 rename_i h1 _ _ _ h2;injection h with h;injection h with e1 e2;subst e1 e2;exact⟨_,h1,h2⟩
theorem zBq:∀(L:List StD) (k:Nat),(yL k L).length<=L.length
 | [],_=>Ay _
 | s :: L,k=>by
  have:=zBq L (k+1);simp only[yL]
  split <;> simp <;> omega
theorem zA4:∀(L:List Int) (k:Int),(vE k L).length<=L.length
 | [],_=>Ay _
 | s :: L,k=>by
  have:=zA4 L (k+1);simp only[vE]
  split <;> simp <;> omega
theorem zNr {b r:List Int}{t:TabsD}(h:zA6 b=some (t,r)):FairTabs t:=by
 obtain⟨b1,tk,b2,b3,b4,h1,h2,h3,h4,h5,e1,e2⟩:=zLh h;obtain⟨rc,c1,w,c2,h6,h7,-,h8,e3,e4⟩:=zNb h3;obtain⟨d1,d2,d3,g1,g2,g3,g4,e5⟩:=zMx h4;have l1:=rE h1;have l2:=rE h2;have l3:=rE h6;obtain⟨l4,l5⟩:=zDu h7;have l6:=fL h8;have l7:=rE g1;have l8:=rE g2;have l9:=rE g3;have l10:=rE g4;have l11:=fL h5;have l12:=zBq t.nt.st 0;have l13:t.nt.d.length<=16777215:=by rw[e5];exact Ay4 l12 l7
 simp only[Aw5,Ax0]at l6 l11;refine⟨oM,by rw[e1,Aw3];omega,by rw[e2,Aw3];omega,λs hs=>?_,λs hs=>?_,⟨by rw[e3,Aw3];omega,by rw[e4,Aw3];omega,oM,oM,λl hl=>Ay4 (l5 l hl) dE⟩,⟨oM,oM,oM,oM,oM,λs hs=>?_⟩,oM,λA hA=>?_⟩
 .exact Ay4 (zAv (P:=λs=>s.size<=64) (λ_ _ _ h=>zDr h) h1 s hs) dE
 .rw[e1]at hs
  obtain⟨x,hx,rfl⟩:=At0.1 hs;exact Ay4 (zAv (P:=λx=>x.1.size<=64) (λ_ _ _ h=>by obtain⟨_,_,h,_⟩:=zLx h;exact zDr h) h2 x hx) dE
 .refine zAv (P:=stB) (λb x r h=>?_) g1 s hs
  obtain⟨_,_,_,k1,k2⟩:=zHh h;exact⟨Ay4 (rE k1) dE,Ay4 (rE k2) dE⟩
 .refine zE1 (P:=λA=>A.length<=1000000000/\∀d∈A,lsB d) (λb x r h=>?_) _ [] _ _ _ h5 (λx hx=>by cases hx) A hA
  obtain⟨ss,_,ls,k1,k2,k3,rfl⟩:=zKw h;have k4:=rE k1;obtain⟨k5,k6⟩:=zDu k2;refine⟨by rw[List.length_zipWith];omega,λd hd=>?_⟩;obtain⟨j,hj,rfl⟩:=List.mem_iff_getElem.1 hd;rw[List.length_zipWith]at hj;simp only[List.getElem_zipWith];refine⟨Ay4 (zAv (P:=λx=>x.2.length<=16777215) (λ_ _ _ h=>by obtain⟨_,_,h⟩:=zP7 h;exact rE h) k1 ss[j] (List.getElem_mem _)) dE,?_⟩;exact Ay4 (Ay4 (zA4 _ _) (k6 ls[j] (List.getElem_mem _))) dE
end Go.Proofs.YtgnpmceimpjheaaGreat
namespace Go.Proofs.YtgnpmceimpjheaaGreat
open Go.RowKit
section
variable {α:Type}
def Back (one:Rdr α) (enc:α->List Int) (ok:α->Prop):Prop:=∀x r,ok x->one (enc x++r)=some (x,r)
def okN (m:Nat) (x:Int):Prop:=0<=x/\x<=m
theorem eE {m:Nat}(hm:m<4294967296):Back (numG m) zN (okN m):=by
 rintro x r ⟨h1,h2⟩;obtain⟨n,rfl⟩:=Aw8 h1;unfold numG zN;simp only[Ay6];rw[zCa oM r];simp only;rw[if_pos oM,List.drop_append_of_le_length (Ay _),List.drop_length,Aw7]
theorem zB3 {one:Rdr α}{enc:α->List Int}{ok:α->Prop}(h:Back one enc ok):∀(L acc:List α) (r:List Int),(∀x∈L,ok x)->repG one L.length acc (L.flatMap enc++r)=some (acc++L,r)
 | [],acc,r,_=>by simp[repG]
 | x :: L,acc,r,hL=>by
  simp only[Ax2,repG,List.flatMap_cons,Az5];rw[h x _ (hL x sI)];simp only;rw[zB3 h L _ r (λy hy=>hL y (by simp[hy]))];simp
def okL (ok:α->Prop) (L:List α):Prop:=L.length<=16777215/\∀x∈L,ok x
theorem rL {one:Rdr α}{enc:α->List Int}{ok:α->Prop}(h:Back one enc ok):Back (vA one) (zS enc) (okL ok):=by
 rintro L r ⟨h1,h2⟩;unfold vA zS;have:=eE (m:=16777215) dE (L.length:Int) (L.flatMap enc++r) ⟨oM,oM⟩;simp only[zN,Ay6]at this;rw[Az5];unfold anyG;rw[this];simp only[Ay6];rw[zB3 h L [] r h2,Aw7]
end
theorem qJ:Back anyG zN (okN 16777215):=eE dE
def zCg (s:Str):Prop:=s.size<=64
theorem zG6:Back gU vG zCg:=by
 intro s r hs;unfold gU vG;have:=eE (m:=64) dE (s.size:Int) (strB s++r) ⟨oM,by have h:s.size<=64:=hs;omega⟩;simp only[zN,Ay6]at this;rw[Az5,this];simp only[Ay6];have hl:=fC s;rw[if_pos (by rw[Az0,hl];omega),List.take_append_of_le_length oM,Ax6 oM,zJ7,List.drop_append_of_le_length oM,List.drop_of_length_le oM,Aw7]
def zQ8 (e:qS):Prop:=okN 3 e.1/\okN 16777215 e.2.1/\okN 16777215 e.2.2
theorem zN3:Back zBy pG zQ8:=by
 rintro ⟨k,x,t⟩ r ⟨h1,h2,h3⟩;unfold zBy pG;simp only[Az5];rw[eE dE k _ h1];simp only;rw[qJ x _ h2];simp only;rw[qJ t _ h3]
def zMs (s:StD):Prop:=okN 16777215 s.1/\okL zQ8 s.2.1/\okL (okN 16777215) s.2.2
theorem zLj:Back jC vQ zMs:=by
 rintro ⟨k,x,t⟩ r ⟨h1,h2,h3⟩;unfold jC vQ;simp only[Az5];rw[qJ k _ h1];simp only;rw[rL zN3 x _ h2];simp only;rw[rL qJ t _ h3]
def okRc (x:(Int×Int)×Int):Prop:=okN 16777215 x.1.1/\okN 16777215 x.1.2/\okN 16777215 x.2
theorem zSj:Back rcG ptRc okRc:=by
 rintro ⟨⟨k,x⟩,t⟩ r ⟨h1,h2,h3⟩;unfold rcG ptRc;simp only[Az5];rw[qJ k _ h1];simp only;rw[qJ x _ h2];simp only;rw[qJ t _ h3]
def zS5 (e:Int):Prop:=-1<=e/\e<=16777214
theorem zQy:Back endG bW zS5:=by
 rintro x r ⟨h1,h2⟩;unfold endG bW;rw[qJ (x+1) _ ⟨oM,oM⟩];simp only;rw[show x+1-1=x by omega]
theorem zEr {W:Nat}{LL:List (List Int)}(r:List Int) (h1:W<=65536) (hn:LL.length<=65536) (hm:uG W LL=true) (hc:(LL.length:Int) * W<=4194304):mY (vJ W LL++r)=some ((LL,(W:Int)),r):=by
 have hmay:=zAt oM oM hn hm;have hw:∀l∈LL,l.length=W:=λl hl=>by
  have:=Ax5.1 hm l hl;simp only[pA,Ay2,decide_eq_true_eq]at this;omega
 unfold mY vJ;rw[if_pos (zJ4 hmay r),zJa hmay r];simp only;rw[if_pos (by rw[(tC LL).2];exact hc),zHv hw,List.drop_append_of_le_length (Ay _),List.drop_length,Aw7]
end Go.Proofs.YtgnpmceimpjheaaGreat
namespace Go.Proofs.YtgnpmceimpjheaaGreat
open Go.RowKit
def bU (Z:List Int):Option TabsD:=if Z.take 4=qA then match zA6 (Z.drop 4) with
 | none=>none
 | some (t,r)=>if r=[]/\yJ t=true then some t else none
 else none
section
variable {β δ:Type}{E:Elt β}{R:Rp β δ}
theorem LSt.store (hR:Good R) {C T:World->Nat->Prop}{St:World->List δ->List Int->Prop}{S:Nat->Prop}{w wr w':World}{v:Value}{acc:List δ}{Z:List Int}{X:List β}(h:LSt E R C T St w wr v acc Z X) (hc:Chg S wr w') (hS:∀k,S k->C wr k) (hst:St w' acc Z)
  (hT:∀k,T w' k->T wr k) (hC:∀k,C w' k->C wr k) (hsub:∀k,C wr k->T wr k):LSt E R C T St w w' v acc Z X :=
 ⟨h.own.chgB hc (λg hg e=>h.ob g hg (hsub g (hS g e))),h.len,λj x d hx hd=>hR.mono (hR.chg (h.rel j x d hx hd) hc (λg hg e=>hg.2.1 (hsub g (hS g e)))) (λg _ hg=>⟨hg.1,λht=>hg.2.1 (hT g ht),hg.2.2⟩),hst,
  h.chg.trans2 hc (λg hg e=>(h.cg g (hS g e)).resolve_right oM),λk hk=>h.tg k (hT k hk),λk hk=>h.cg k (hC k hk),λk hk ht=>h.ob k hk (hT k ht)⟩
end
structure QSt (pg gb bx tb:Nat) (w8:World) (w:World) (Z:List Int):Prop where
 g:GetSb pg gb bx w Z
 lt:pg<tb/\gb<tb/\bx<tb/\tb<w.heap.size
 o:∀j u,j<12->w8.cell? ⟨tb,j,none⟩=some u->w.cell? ⟨tb,j,none⟩=some u
 z:∀j,w.frozen? ⟨tb,j,none⟩=false
def Tq (pg gb bx tb:Nat):World->Nat->Prop:=λ_ k=>k=pg\/k=gb\/k=bx\/k=tb
def Cq (pg tb:Nat):World->Nat->Prop:=λ_ k=>k=pg\/k=tb
theorem QSt.chg {pg gb bx tb:Nat}{w8 w w':World}{Z:List Int}{S:Nat->Prop}(h:QSt pg gb bx tb w8 w Z) (hc:Chg S w w') (h1:¬S pg) (h2:¬S gb) (h3:¬S bx) (h4:¬S tb):QSt pg gb bx tb w8 w' Z :=
 ⟨h.g.chg hc h1 h2 h3,⟨h.lt.1,h.lt.2.1,h.lt.2.2.1,Ay9 h.lt.2.2.2 hc.size⟩,λj u hj hu=>hc.cellS (h.o j u hj hu) h4,λj=>(hc.frozen (p:=⟨tb,j,none⟩) h.lt.2.2.2 h4).trans (h.z j)⟩
theorem QSt.go {pg gb bx tb:Nat}{w8 w w':World}{Z r:List Int}(h:QSt pg gb bx tb w8 w Z) (hg:GetSt pg gb w' r) (hc:Chg (·=pg) w w'):QSt pg gb bx tb w8 w' r:=by
 have h4:¬tb=pg:=by have:=h.lt;omega
 exact⟨h.g.go hg hc,⟨h.lt.1,h.lt.2.1,h.lt.2.2.1,Ay9 h.lt.2.2.2 hc.size⟩,λj u hj hu=>hc.cellS (h.o j u hj hu) h4,λj=>(hc.frozen (p:=⟨tb,j,none⟩) h.lt.2.2.2 h4).trans (h.z j)⟩
theorem QSt.set {pg gb bx tb:Nat}{w8 w:World}{Z:List Int}(h:QSt pg gb bx tb w8 w Z) (v:Value):QSt pg gb bx tb w8 (w.setCell ⟨tb,12,none⟩ v) Z:=by
 have hc:=zA w tb 12 v;have hl:=h.lt;exact⟨h.g.chg hc oM oM oM,⟨hl.1,hl.2.1,hl.2.2.1,Ay9 hl.2.2.2 hc.size⟩,λj u hj hu=>by
  rw[Ay0 _ _ _ _ (by intro e;injection e with _ e;omega)];exact h.o j u hj hu,λj=>(Az4 _ _ _ _).trans (h.z j)⟩
theorem zSt {δ:Type}(pg gb bx tb:Nat) (w8:World):Side pg gb (Cq pg tb) (Tq pg gb bx tb) (λw (_:List δ) Z=>QSt pg gb bx tb w8 w Z) where
 get:=λh=>h.g.g
 pgC:=λ_=>.inl rfl
 sub:=λh=>by
  rcases h with h|h
  .exact .inl h
  .exact .inr (.inr (.inr h))
 lt:=λ{w acc Z k} h ht=>by
  rcases ht with rfl|rfl|rfl|rfl
  .exact h.g.g.lt
  .exact h.g.g.lb
  .exact h.g.lt
  .exact h.lt.2.2.2
 keep:=λ{S w w' acc Z} h hc hs=>⟨QSt.chg h hc (λe=>hs _ e (.inl rfl)) (λe=>hs _ e (.inr (.inl rfl))) (λe=>hs _ e (.inr (.inr (.inl rfl)))) (λe=>hs _ e (.inr (.inr (.inr rfl)))),λ_ h=>h,λ_ h=>h⟩
 move:=λh hg hc=>⟨QSt.go h hg hc,λ_ h=>h,λ_ h=>h⟩
theorem zL3:strOfNums qA=⟨#[72,66,84,49]⟩:=dE
theorem zF5 {pg n c:Nat}{a:Option Addr}(w:World) (h:w.cell? ⟨pg,0,none⟩=some (.slice a n c)) (hn:n<4):Calls Tryz.prog 55 #[.pointer (some ⟨pg,0,none⟩)] w λe w'=>e=tL/\Cf w w':=by
 have hlt:=Az6 _ _ h;have b1:decide (4<=n)=false:=decide_eq_false oM;have b1':decide ((4:Int)<=(n:Int))=false:=decide_eq_false oM;obtain⟨w0,hw0⟩:∃W,W=(w.alloc (.cells #[.pointer (some ⟨pg,0,none⟩)] 132)).alloc (.cells #[.slice none 0 0,.slice none 0 0,.slice none 0 0,.slice none 0 0,.slice none 0 0,.slice none 0 0,.slice none 0 0,.slice none 0 0,.slice none 0 0,.slice none 0 0,.slice none 0 0,.slice none 0 0,.slice none 0 0] 34):=⟨_,rfl⟩;have HC0:Hd (Cf w w0):=jh (by rw[hw0];exact ((Chg.refl _ w).alloc _).alloc _);have q0:w0.cell? ⟨w.heap.size,0,none⟩=some (.pointer (some ⟨pg,0,none⟩)):=by rw[hw0];exact yG _ (vW _ _ rfl)
 have q1:=HC0.o.cellS h iD;clear h;go_enter Tryz.func55,Tryz.ntmps55
 go_upto_region 1 with (fail)
 rw[<-hw0];clear hw0;go_wp2_with fail
 refine (nU _).mono ?_;rintro e w3 ⟨rfl,rfl⟩;exact⟨rfl,rfl,HC0.o⟩
end Go.Proofs.YtgnpmceimpjheaaGreat
namespace Go.Proofs.YtgnpmceimpjheaaGreat
open Go.RowKit
theorem zFd {α β:Type}:∀(a:List α) (b:List β),a.length=b.length->(a.zip b).map (·.1)=a
 | [],[],_=>rfl
 | [],_ :: _,h=>by simp at h
 | _ :: _,[],h=>by simp at h
 | x :: a,y :: b,h=>by simp only[List.zip_cons_cons,List.map_cons];rw[zFd a b (by simpa using h)]
theorem zFc {α β:Type}:∀(a:List α) (b:List β),a.length=b.length->(a.zip b).map (·.2)=b
 | [],[],_=>rfl
 | [],_ :: _,h=>by simp at h
 | _ :: _,[],h=>by simp at h
 | x :: a,y :: b,h=>by simp only[List.zip_cons_cons,List.map_cons];rw[zFc a b (by simpa using h)]
structure OkLex (t:LexD):Prop where
 cl:t.c.length=t.r.length
 el:t.e.length=t.n.length
 rl:t.r.length<=16777215
 rc:∀x∈t.r.zip t.c,okRc x
 cw:xS t.c<=65536
 nl:t.n.length<=65536
 mo:uG (xS t.c) t.n=true
 pr:(t.n.length:Int) * xS t.c<=4194304
 eb:∀e∈t.e,zS5 e
theorem zQx:Back lexG dS OkLex:=by
 rintro t r ⟨h1,h2,h3,h4,h5,h6,h7,h8,h9⟩;obtain⟨W,hW⟩:=Aw8 (tW t.c);unfold lexG dS;simp only[Az5];rw[rL zSj (t.r.zip t.c) _ ⟨by rw[Au7];omega,h4⟩];simp only;rw[hW]at h5 h7 h8 ⊢;rw[zEr _ oM h6 h7 h8];simp only;rw[zFc _ _ h1.symm,zFd _ _ h1.symm,if_pos hW.symm];have:=zB3 zQy t.e [] r h9;rw[h2,Aw7]at this;rw[this]
structure OkNet (n:NetD):Prop where
 st:okL zMs n.st
 s:okL (okN 16777215) n.s
 p:okL (okN 16777215) n.p
 q:okL (okN 16777215) n.q
 d:qE n.st=n.d
theorem zQw:Back netG aU OkNet:=by
 rintro t r ⟨h1,h2,h3,h4,h5⟩;unfold netG aU;simp only[Az5];rw[rL zLj _ _ h1];simp only;rw[rL qJ _ _ h2];simp only;rw[rL qJ _ _ h3];simp only;rw[rL qJ _ _ h4];simp only;rw[h5]
def dL (es:List (Int×Int)):List (Int×Int):=es.map (λe=>(e.1+1,e.2))
theorem zGp (tk:Nat) (es:List (Int×Int)):yW tk es=bY (tk+1) (-1,dL es):=by
 unfold yW bY dL;simp only;rw[List.foldl_map]
theorem zC4:∀(L:List Int) (k:Nat),(∀x∈L,-1<=x)->vE ((k:Int)-1) L=(zG (-1) k L).map (λc=>(c.1-1,c.2))
 | [],_,_=>rfl
 | x :: L,k,h=>by
  have ih:=zC4 L (k+1) (λy hy=>h y (by simp[hy]));have hx:=h x sI;simp only[vE,zG];rw[show ((k:Int)-1)+1=((k+1:Nat):Int)-1 by omega,ih];by_cases hh:x=-1
  .rw[if_neg oM,if_pos hh]
  .rw[if_pos oM,if_neg hh];rfl
theorem zFr {L:List Int}(h:∀x∈L,-1<=x):nY L=(zG (-1) 0 L).map (λc=>(c.1-1,c.2)):=zC4 L 0 h
theorem zLk (cs:List (Int×Int)):(dL cs).map (λc=>(c.1-1,c.2))=cs:=by
 unfold dL;rw[List.map_map]
 conv=>rhs;rw[<-List.map_id cs]
 refine List.map_congr_left (λc _=>?_);simp only[Function.comp,id];rw[show c.1+1-1=c.1 by omega]
theorem zEb {tk:Int}:∀(es:List (Int×Int)) (last:Int),xW (es.map (·.1)) last tk=true->(∀e∈es,0<=e.2/\e.2<=16777215)->yQ (tk+1) (-1) last (dL es)=true
 | [],_,_,_=>rfl
 | e :: es,last,h,hv=>by
  simp only[List.map_cons,xW]at h
  split at h
  .cases h
  .rename_i hn
   have hx:=hv e sI;have ih:=zEb es (e.1+1) h (λy hy=>hv y (by simp[hy]));simp only[dL,List.map_cons,yQ,Ay2,decide_eq_true_eq,Ax8,decide_eq_false_iff_not];exact⟨⟨⟨⟨oM,oM⟩,oM,oM⟩,oM⟩,ih⟩
theorem cE {tk:Nat}{es:List (Int×Int)}(h:xW (es.map (·.1)) (-1) tk=true) (hv:∀e∈es,0<=e.2/\e.2<=16777215):(yW tk es).length=tk+1/\(∀x∈yW tk es,kE x)/\nY (yW tk es)=es:=by
 have hf:=zEb es (-1) h hv;have hf0:yQ ((0+(tk+1):Nat):Int) (-1) (((0:Nat):Int)-1) (dL es)=true:=by
  rw[show ((0+(tk+1):Nat):Int)=(tk:Int)+1 by omega];exact hf
 have h1:=fW (-1) _ (tk+1) (dL es) 0 [] rfl rfl hf0;rw[Aw7,Aw7]at h1;have e1:yW tk es=sE (-1) (tk+1) (dL es) 0:=by rw[zGp];exact h1
 have hvals:=kA (-1) _ ⟨oM,oM⟩ (tk+1) (dL es) 0 _ hf0;rw[e1];refine⟨mJ _ _ _ _,hvals,?_⟩;rw[zFr (λx hx=>(hvals x hx).1),nL (-1) _ (tk+1) (dL es) 0 rfl hf0,zLk]
structure OkLs (tk:Nat) (s:LsD):Prop where
 k:okN 3 s.1
 a:okL (okN 16777215) s.2.1
 r:xW (s.2.2.map (·.1)) (-1) tk=true
 t:∀e∈s.2.2,0<=e.2/\e.2<=16777215
theorem zCp {tk:Nat}{A:List LsD}(h:∀s∈A,OkLs tk s):uG ((tk:Int)+1) (A.map (λs=>yW tk s.2.2))=true:=by
 unfold uG;rw[Ax5];intro l hl;obtain⟨s,hs,rfl⟩:=At0.1 hl;obtain⟨h1,h2,-⟩:=cE (h s hs).r (h s hs).t;simp only[pA,Ay2,decide_eq_true_eq,Ax8];refine⟨?_,by rw[h1];rfl⟩;unfold uS;rw[Aw1];intro x hx;have:=h2 x hx;simp only[valB,Ax8,decide_eq_false_iff_not,Classical.not_not];exact this
theorem zN2 (tk:Nat) (htk:tk<=64):Back (jU tk) (tU tk) (λA=>A.length<=4096/\∀s∈A,OkLs tk s):=by
 rintro A r ⟨h1,h2⟩;unfold jU tU;simp only[Az5];have back_ls:Back lsG ptLs (λs=>okN 3 s.1/\okL (okN 16777215) s.2):=by
  rintro ⟨k,l⟩ r ⟨h1,h2⟩;unfold lsG ptLs;simp only[Az5];rw[eE dE k _ h1];simp only;rw[rL qJ _ _ h2]
 rw[rL back_ls _ _ ⟨by rw[Aw3];omega,λx hx=>by
  obtain⟨s,hs,rfl⟩:=At0.1 hx;exact⟨(h2 s hs).k,(h2 s hs).a⟩⟩]
 simp only;have hbt:=zEr (W:=tk+1) (LL:=A.map (λ(s:LsD)=>yW tk s.2.2)) r oM (by rw[Aw3];omega) (by have:=zCp h2;rw[show ((tk+1:Nat):Int)=(tk:Int)+1 by omega];exact this) (by
  rw[Aw3];have:(A.length:Int) * ((tk+1:Nat):Int)=((A.length * (tk+1):Nat):Int):=sI
  rw[this];have:=Nat.mul_le_mul h1 (show tk+1<=65 by omega);omega)
 rw[show ((tk+1:Nat):Int)=(tk:Int)+1 by omega]at hbt;rw[hbt];simp only;rw[if_pos ⟨trivial,sI⟩];have hz:∀(A:List LsD),(∀s∈A,OkLs tk s)->List.zipWith (λ(s:Int×List Int) l=>(s.1,s.2,nY l)) (A.map (λs=>(s.1,s.2.1))) (A.map (λs=>yW tk s.2.2))=A:=by
  intro A
  induction A with
  | nil=>intro _;rfl
  | cons s A ih =>
   intro h;simp only[List.map_cons,List.zipWith_cons_cons];rw[ih (λx hx=>h x (by simp[hx])),(cE (h s sI).r (h s sI).t).2.2]
 rw[hz A h2]
def zTy (x:Str×Bool):Prop:=zCg x.1
theorem zQv:Back tokG qL zTy:=by
 rintro ⟨s,b⟩ r h;unfold tokG qL;simp only[Az5];rw[zG6 s _ h];simp only;cases b
 .have:=eE (m:=1) dE 0 r ⟨oM,oM⟩
  simp only[Bool.false_eq_true,if_false];rw[this]
  rfl
 .have:=eE (m:=1) dE 1 r ⟨oM,oM⟩
  simp only[if_true];rw[this]
  rfl
structure OkTabs (t:TabsD):Prop where
 rl:okL zCg t.rl
 dl:t.tk.length=t.dr.length
 tk:t.tk.length<=64/\∀s∈t.tk,zCg s
 lx:OkLex t.lx
 nt:OkNet t.nt
 ll:t.lk.length=t.nt.d.length
 lk:∀A∈t.lk,A.length<=4096/\∀s∈A,OkLs t.tk.length s
theorem zN4:Back zA6 zAm OkTabs:=by
 rintro t r ⟨h1,h2,h3,h4,h5,h6,h7⟩;unfold zA6 zAm;simp only[Az5];rw[rL zG6 _ _ h1];simp only;rw[rL zQv (t.tk.zip t.dr) _ ⟨by rw[Au7];omega,λx hx=>h3.2 _ (List.of_mem_zip hx).1⟩];simp only;rw[zQx _ _ h4];simp only;rw[zQw _ _ h5];simp only;have hz:(t.tk.zip t.dr).length=t.tk.length:=by rw[Au7];omega
 rw[hz,<-h6,zB3 (zN2 t.tk.length h3.1) t.lk [] r h7,zFd _ _ h2,zFc _ _ h2]
 rfl
theorem zL2 {t:TabsD}(h:OkTabs t) (hm:yJ t=true):bU (tA t)=some t:=by
 unfold bU tA;have:=zN4 t [] h;rw[Av4]at this;rw[show (qA++zAm t).take 4=qA from rfl,if_pos rfl,show (qA++zAm t).drop 4=zAm t from rfl,this];simp only;rw[if_pos ⟨trivial,hm⟩]
structure SmallT (t:TabsD):Prop where
 r:t.lx.r.length<=65536
 st:∀s∈t.nt.st,s.2.1.length<=65536/\s.2.2.length<=65536/\∀e∈s.2.1,0<=e.1
 q:t.nt.q.length<=65536
 al:∀A∈t.lk,∀s∈A,s.2.1.length<=65536
theorem zDa {α:Type}{p:α->Bool}{L:List α}(h:L.any (λx=>!p x)=false):∀x∈L,p x=true:=by
 intro x hx;have:=Aw1.1 h x hx;simpa using this
theorem fJ:∀(l:List Int) (least most:Int),xW l least most=true->∀x∈l,least<=x/\x<most
 | [],_,_,_,x,hx=>by cases hx
 | n :: l,least,most,h,x,hx=>by
  simp only[xW]at h
  split at h
  .cases h
  .rename_i hn
   rcases Ax3.1 hx with rfl|hx
   .omega
   .have:=fJ l _ _ h x hx
    omega
structure MayP (t:TabsD):Prop where
 rl1:1<=t.rl.length
 rl:t.rl.length<=64
 tk:t.tk.length<=64
 dr:t.dr.length=t.tk.length
 rn:∀s∈t.rl,sS s=true
 tn:∀s∈t.tk,sS s=true
 lx:rQ t.lx t.tk.length=true
 nt:tQ t.nt=true
 sl:t.nt.s.length=t.rl.length
 st:t.nt.st.length<=65536
 ll:t.lk.length=t.nt.d.length
 lk:jS t=true
 tb:∀s∈t.nt.st,s.2.1.any (sW t.tk.length)=false
theorem nG {t:TabsD}(h:yJ t=true):MayP t:=by
 unfold yJ at h;simp only[Ay2,decide_eq_true_eq,Ax8]at h;obtain⟨⟨⟨⟨⟨⟨⟨⟨⟨⟨⟨⟨h1,h2⟩,h3⟩,h4⟩,h5⟩,h6⟩,h7⟩,h8⟩,h9⟩,h10⟩,h11⟩,h12⟩,h13⟩:=h;refine⟨h1,h2,h3,h4,zDa h5,zDa h6,h7,h8,h9,h10,h11,h12,λs hs=>?_⟩;have:=Aw1.1 h13 s hs;simpa using this
structure LexP (t:LexD) (tk:Nat):Prop where
 m:MayS t
 nl:t.n.length<=65536
 pr:(t.n.length:Int) * xS t.c<=4194304
 rs:∀r∈t.r,0<=r.1/\r.2<=1114111/\r.1<=r.2
 eb:∀e∈t.e,-1<=e/\e<tk
theorem tG {t:LexD}{tk:Nat}(h:rQ t tk=true):LexP t tk:=by
 unfold rQ at h;simp only[Ay2,decide_eq_true_eq,Ax8]at h;obtain⟨⟨⟨⟨h1,h2⟩,h3⟩,h4⟩,h5⟩:=h;have hm:=fQ.1 h1;refine⟨hm,h2,h3,λr hr=>?_,λe he=>⟨hm.eb e he,?_⟩⟩
 .have:=Aw1.1 h4 r hr
  simp only[sQ,At4,decide_eq_true_eq,not_or]at this;obtain⟨j,hj,rfl⟩:=List.mem_iff_getElem.1 hr;have ha:=hm.ap;unfold jN at ha;have hb:=Ax5.1 ha j (At2.2 hj);simp only[apOk,Ay2,decide_eq_true_eq]at hb;have hc:=hb.1;rw[Aw2,Az hj,Option.getD_some]at hc;exact⟨oM,oM,hc⟩
 .have hne:t.e≠[]:=by intro e;rw[e]at he;cases he
  have:=(zAs hne).2 e he;omega
theorem zS2 {t:LexD}{tk:Nat}(h:rQ t tk=true):uG (xS t.c) t.n=true:=by
 obtain⟨hm,h2,h3,h4,h5⟩:=tG h;unfold uG;rw[Ax5];intro l hl;obtain⟨c1,c2⟩:=hm.row l hl;simp only[pA,Ay2,decide_eq_true_eq,Ax8];refine⟨?_,c1⟩;unfold uS;rw[Aw1];intro x hx;have:=c2 x hx;simp only[valB,Ax8,decide_eq_false_iff_not,Classical.not_not];exact⟨this.1,oM⟩
theorem zS4 {t:LexD}{tk:Nat}(h:rQ t tk=true) (htk:tk<=64) (hr:t.r.length<=16777215) (hw:xS t.c<=65536):OkLex t:=by
 obtain⟨hm,h2,h3,h4,h5⟩:=tG h;refine⟨hm.cl,hm.el,hr,λx hx=>?_,hw,h2,?_,h3,λe he=>?_⟩
 .obtain⟨a1,a2,a3⟩:=h4 _ (List.of_mem_zip hx).1
  obtain⟨b1,b2⟩:=hm.cb _ (List.of_mem_zip hx).2;have:=hm.cl;exact⟨⟨oM,oM⟩,⟨oM,oM⟩,⟨oM,oM⟩⟩
 .exact zS2 h
 .have:=h5 e he
  exact⟨this.1,oM⟩
structure NetP (n:NetD):Prop where
 sp:n.s.length=n.p.length
 sb:∀i∈n.s,0<=i/\i<n.st.length
 pb:∀i∈n.p,0<=i/\i<n.st.length
 qb:∀i∈n.q,0<=i/\i<n.st.length
 st:∀s∈n.st,kU n.st.length n.s.length n.q.length s=true/\0<=s.1/\s.1<n.s.length
 d:qE n.st=n.d
theorem aW {n:NetD}(h:tQ n=true):NetP n:=by
 unfold tQ at h;simp only[Ay2,decide_eq_true_eq,Ax8]at h;obtain⟨⟨⟨⟨h1,h2⟩,h3⟩,h4⟩,h5⟩:=h;have hb:=zDa h2;have hs:∀i,xJ n.st.length i=true->0<=i/\i<n.st.length:=λi hi=>by
  simpa [xJ] using hi
 refine⟨h1,λi hi=>hs i (hb i (by simp[hi])),λi hi=>hs i (hb i (by simp[hi])),λi hi=>?_,λs hs=>?_,h5⟩
 .have:=Aw1.1 h3 i hi
  simp only[rS,At4,decide_eq_true_eq,not_or]at this;exact⟨oM,oM⟩
 .have:=Ax5.1 h4 s hs
  simp only[stOk,Ay2,decide_eq_true_eq]at this;exact⟨this.1.1,this.1.2,this.2⟩
structure StP (ns nst np:Nat) (s:StD):Prop where
 e:∀e∈s.2.1,e.1<=3/\0<=e.2.1/\(e.1=1\/e.2.1<zCm nst np e.1)/\0<=e.2.2/\e.2.2<ns
 d:s.2.2.length=0\/(s.2.2.length=s.2.1.length/\∀i∈s.2.2,0<=i/\i<ns)
theorem zDw {ns nst np:Nat}{s:StD}(h:kU ns nst np s=true):StP ns nst np s:=by
 unfold kU at h;simp only[Ay2,At4,decide_eq_true_eq,Ax8]at h;obtain⟨h1,h2⟩:=h;refine⟨λe he=>?_,?_⟩
 .have:=Aw1.1 h1 e he
  simp only[xY,xJ,At4,Ay2,decide_eq_true_eq,Ax8,Bool.and_eq_false_iff,decide_eq_false_iff_not,not_or,not_and]at this;obtain⟨⟨⟨a1,a2⟩,a3⟩,a4⟩:=this;refine⟨oM,oM,?_,oM,oM⟩;by_cases hk:e.1=1
  .exact .inl hk
  .have:=a3 hk
   exact .inr oM
 .rcases h2 with h2|⟨⟨⟨h2,-⟩,-⟩,h3⟩
  .exact .inl h2
  .exact .inr ⟨h2,λi hi=>by
    have:=zDa h3 i hi;simpa [xJ] using this⟩
theorem zS1 {t:TabsD}(h:MayP t) (hst:∀s∈t.nt.st,s.2.1.length<=16777215/\s.2.2.length<=16777215/\∀e∈s.2.1,0<=e.1) (hq:t.nt.q.length<=16777215):OkNet t.nt:=by
 obtain⟨h1,h2,h3,h4,h5,h6⟩:=aW h.nt;have b1:=h.st;have b2:=h.sl;have b3:=h.rl;have b4:=h.tk;refine⟨⟨oM,λs hs=>?_⟩,⟨oM,λi hi=>?_⟩,⟨oM,λi hi=>?_⟩,⟨hq,λi hi=>?_⟩,h6⟩
 .obtain⟨c1,c2,c3⟩:=h5 s hs
  obtain⟨d1,d2⟩:=zDw c1;obtain⟨e1,e2,e3⟩:=hst s hs;refine⟨⟨c2,oM⟩,⟨e1,λe he=>?_⟩,⟨e2,λi hi=>?_⟩⟩
  .obtain⟨g1,g2,g3,g4,g5⟩:=d1 e he
   have g6:=e3 e he;refine⟨⟨g6,oM⟩,⟨g2,?_⟩,⟨g4,oM⟩⟩;rcases g3 with g3|g3
   .have:=Aw1.1 (h.tb s hs) e he
    simp only[sW,g3,decide_true,Av7,decide_eq_true_eq]at this;omega
   .unfold zCm at g3
    split at g3
    .omega
    .split at g3 <;> omega
  .rcases d2 with d2|⟨-,d2⟩
   .rw[Aw9.1 d2]at hi;cases hi
   .have:=d2 i hi
    exact⟨this.1,oM⟩
 .have:=h2 i hi
  exact⟨this.1,oM⟩
 .have:=h3 i hi
  exact⟨this.1,oM⟩
 .have:=h4 i hi
  exact⟨this.1,oM⟩
theorem zBk {A:List LsD}{alts tk:Int}(h:xN A alts tk=true):1<=A.length/\A.length<=4096/\∀s∈A,sU A.length alts tk s=true:=by
 unfold xN at h;simp only[Ay2,decide_eq_true_eq,Ax8]at h;exact⟨h.1.1,h.1.2,zDa h.2⟩
theorem zEa {k:Int}{na ne:Nat}(h:zDh k na ne=true):0<=k/\k<=3:=by
 unfold zDh at h
 split at h
 .omega
 split at h
 .omega
 split at h
 .omega
 simp only[Ay2,decide_eq_true_eq]at h;omega
theorem zJn {t:TabsD}(h:MayP t) {A:List LsD}(hA:A∈t.lk):∃s∈t.nt.st,xN A (s.2.2.length:Nat) t.tk.length=true:=by
 obtain⟨i,hi,rfl⟩:=List.mem_iff_getElem.1 hA;have hl:=h.lk;unfold jS at hl;have hid:i<t.nt.d.length:=by rw[<-h.ll];exact hi
 have:=Ax5.1 hl i (At2.2 hid);rw[Aw2,Az hi,Option.getD_some]at this;have hd:=(aW h.nt).d;have hm:t.nt.d.getD i 0∈yL 0 t.nt.st:=by
  rw[show yL 0 t.nt.st=t.nt.d from hd];exact zQf hid
 obtain⟨j,hj,hjl⟩:=mL _ _ _ hm;rw[hj]at this;simp only[Ax0,Ay6]at this;rw[Aw2 (l:=t.nt.st),Az hjl,Option.getD_some]at this;exact⟨t.nt.st[j],List.getElem_mem _,this⟩
theorem zRt {t:TabsD}(h:MayP t) (hst:∀s∈t.nt.st,s.2.2.length<=16777215) {A:List LsD}(hA:A∈t.lk) (hal:∀s∈A,s.2.1.length<=16777215):A.length<=4096/\∀s∈A,OkLs t.tk.length s:=by
 obtain⟨u,hu,hm⟩:=zJn h hA;have hul:=hst u hu;obtain⟨-,h2,h3⟩:=zBk hm;refine⟨h2,λs hs=>?_⟩;have hf:=h3 s hs;unfold sU at hf;simp only[Ay2,Ax8]at hf;obtain⟨⟨⟨f1,f2⟩,f3⟩,f4⟩:=hf;refine⟨zEa f4,⟨hal s hs,λx hx=>?_⟩,f3,λe he=>?_⟩
 .have:=fJ _ _ _ f2 x hx
  exact⟨this.1,oM⟩
 .have:=Aw1.1 f1 e he
  simp only[cW,At4,decide_eq_true_eq,not_or]at this;exact⟨oM,oM⟩
theorem zMr {t:TabsD}(hm:yJ t=true) (hs:SmallT t):OkTabs t:=by
 have h:=nG hm;have hx:=tG h.lx;have hr:=hs.r;have hcl:=hx.m.cl;have hw:xS t.lx.c<=65536:=by
  have:=fY (C:=t.lx.c) (m:=t.lx.c.length) oM (λc hc=>(hx.m.cb c hc).2);omega
 have hn:∀s,sS s=true->zCg s:=λs hs=>by
  unfold sS at hs;simp only[Ay2,decide_eq_true_eq]at hs;exact hs.2
 have b1:=h.rl;refine⟨⟨oM,λs hs=>hn s (h.rn s hs)⟩,h.dr.symm,⟨h.tk,λs hs=>hn s (h.tn s hs)⟩,zS4 h.lx h.tk oM hw,zS1 h (λs hs'=>?_) (by have:=hs.q;omega),h.ll,λA hA=>zRt h (λs hs'=>?_) hA (λs hs'=>?_)⟩
 .have:=hs.st s hs'
  exact⟨oM,oM,this.2.2⟩
 .have:=(hs.st s hs').2.1;omega
 .have:=hs.al A hA s hs';omega
theorem Elt.InS.oks {α:Type}{E:Elt α}{w:World}{S:Nat->Prop}{s:Sl}{L:List α}(h:E.InS w S s L):∀x∈L,E.ok x:=by
 obtain⟨-,-,g,o,h3,-⟩:=h;exact h3.ok
theorem NetIn.kinds {w:World}{S:Nat->Prop}{m:NetS}{n:NetD}(h:NetIn w S m n):∀s∈n.st,∀e∈s.2.1,0<=e.1/\e.1<=255:=by
 intro s hs e he;obtain⟨X,-,h2,h3⟩:=h.st;obtain⟨j,hj,rfl⟩:=List.mem_iff_getElem.1 hs;have hx:X[j]?=some X[j]:=Az oM;have hr:=h3 j _ _ hx (Az hj);exact (hr.2.2.1.oks e he).1
theorem zS0 {t:TabsD}(h:MayP t) (hf:FairN t.nt) (hk:∀s∈t.nt.st,∀e∈s.2.1,0<=e.1/\e.1<=255):OkNt t.nt:=by
 obtain⟨h1,h2,h3,h4,h5,h6⟩:=aW h.nt;have b1:=h.st;have b2:=h.sl;have b3:=h.rl;have b4:=h.tk;have b5:=hf.q;refine⟨⟨oM,λs hs=>?_⟩,⟨oM,λi hi=>?_⟩,⟨oM,λi hi=>?_⟩,⟨oM,λi hi=>?_⟩⟩
 .obtain⟨c1,c2,c3⟩:=h5 s hs
  obtain⟨d1,d2⟩:=zDw c1;obtain⟨e1,e2⟩:=hf.e s hs;refine⟨⟨c2,oM⟩,⟨e1,λe he=>?_⟩,e2,λi hi=>?_⟩
  .obtain⟨g1,g2,g3,g4,g5⟩:=d1 e he
   refine⟨hk s hs e he,⟨g2,?_⟩,⟨g4,oM⟩⟩;rcases g3 with g3|g3
   .have:=Aw1.1 (h.tb s hs) e he
    simp only[sW,g3,decide_true,Av7,decide_eq_true_eq]at this;omega
   .unfold zCm at g3
    split at g3
    .omega
    .split at g3 <;> omega
  .rcases d2 with d2|⟨-,d2⟩
   .rw[Aw9.1 d2]at hi;cases hi
   .have:=d2 i hi
    exact⟨this.1,oM⟩
 .have:=h2 i hi
  exact⟨this.1,oM⟩
 .have:=h3 i hi
  exact⟨this.1,oM⟩
 .have:=h4 i hi
  exact⟨this.1,oM⟩
theorem zS3 {t:LexD}{tk:Nat}(h:rQ t tk=true) (htk:tk<=64) (hf:Fair t) (hw:xS t.c<=65536):OkLx t:=by
 obtain⟨hm,h2,h3,h4,h5⟩:=tG h;have f1:=hf.r;refine⟨hm.cl,f1,by rw[hm.el];omega,λr hr=>?_,λc hc=>?_,hw,h2,zS2 h,h3,λe he=>?_⟩
 .obtain⟨a1,a2,a3⟩:=h4 r hr
  exact⟨⟨oM,oM⟩,⟨oM,oM⟩⟩
 .have:=hm.cb c hc
  have:=hm.cl;omega
 .have:=h5 e he
  omega
theorem zHt {tk:Nat}{A:List LsD}(h:∀s∈A,xW (s.2.2.map (·.1)) (-1) tk=true/\∀e∈s.2.2,0<=e.2/\e.2<=16777215):uG ((tk:Int)+1) (A.map (λs=>yW tk s.2.2))=true:=by
 unfold uG;rw[Ax5];intro l hl;obtain⟨s,hs,rfl⟩:=At0.1 hl;obtain⟨h1,h2,-⟩:=cE (h s hs).1 (h s hs).2;simp only[pA,Ay2,decide_eq_true_eq,Ax8];refine⟨?_,by rw[h1];rfl⟩;unfold uS;rw[Aw1];intro x hx;have:=h2 x hx;simp only[valB,Ax8,decide_eq_false_iff_not,Classical.not_not];exact this
theorem zPz {t:TabsD}(h:MayP t) (hf:FairTabs t) {A:List LsD}(hA:A∈t.lk):(∀d∈A,OkL t.tk.length d)/\A.length<=4096/\uG ((t.tk.length:Int)+1) (A.map (λs=>yW t.tk.length s.2.2))=true:=by
 obtain⟨u,hu,hm⟩:=zJn h hA;have hul:=(hf.nt.e u hu).2;obtain⟨-,h2,h3⟩:=zBk hm;have key:∀s∈A,OkL t.tk.length s/\xW (s.2.2.map (·.1)) (-1) t.tk.length=true/\∀e∈s.2.2,0<=e.2/\e.2<=16777215:=λs hs=>by
  have hfn:=h3 s hs;unfold sU at hfn;simp only[Ay2,Ax8]at hfn;obtain⟨⟨⟨f1,f2⟩,f3⟩,f4⟩:=hfn;have hb:=(hf.la A hA).2 s hs;have h4:=zEa f4;have he:∀e∈s.2.2,0<=e.2/\e.2<=16777215:=λe he=>by
   have:=Aw1.1 f1 e he;simp only[cW,At4,decide_eq_true_eq,not_or]at this;exact⟨oM,oM⟩
  refine⟨⟨⟨h4.1,oM⟩,⟨hb.1,λx hx=>?_⟩,hb.2,λe hh=>?_⟩,f3,he⟩
  .have:=fJ _ _ _ f2 x hx
   exact⟨this.1,oM⟩
  .have h5:=fJ _ _ _ f3 e.1 (At0.2 ⟨e,hh,rfl⟩)
   have h6:=he e hh;exact⟨h5.1,h5.2,⟨oM,oM⟩⟩
 exact⟨λd hd=>(key d hd).1,h2,zHt (λs hs=>(key s hs).2)⟩
end Go.Proofs.YtgnpmceimpjheaaGreat
namespace Go.Proofs.YtgnpmceimpjheaaGreat
structure Tally (A T L:List Int):Prop where
 len:T.length=A.length
 nodup:A.Nodup
 mem:∀n,n∈A↔n∈L
 cnt:∀(k:Nat) a t,A[k]?=some a->T[k]?=some t->t=L.count a
 le:A.length<=L.length
theorem Tally.start:Tally [] [] []:=⟨rfl,List.nodup_nil,λ_=>Iff.rfl,λk a t h=>by simp at h,Ay _⟩
theorem Tally.old {A T L:List Int}(h:Tally A T L) {k:Nat}{n t:Int}(hk:A[k]?=some n) (ht:T[k]?=some t):Tally A (T.set k (t+1)) (L++[n]):=by
 have hlt:=(Az1.1 ht).1;refine⟨by rw[Au4];exact h.len,h.nodup,λm=>?_,λj a u ha hu=>?_,by simp;have:=h.le;omega⟩
 .have hn:=(h.mem n).1 (Az2 hk)
  rw[h.mem]
  constructor
  .intro hm;simp[hm]
  .intro hm
   rcases Av2.1 hm with hm|hm
   .exact hm
   .rw[Ay3.1 hm];exact hn
 .by_cases he:j=k
  .subst he
   rw[hk]at ha;obtain rfl:=Az3 ha;rw[Av5 hlt]at hu;obtain rfl:=Az3 hu;rw[h.cnt j _ _ hk ht,List.count_append];simp
  .rw[Au3 (Ne.symm he)]at hu
   rw[h.cnt j _ _ ha hu,List.count_append];have hne:a≠n:=by
    intro e;subst e;have h1:=(Az1.1 ha).1;exact he (((List.getElem?_inj h1 h.nodup).1 (by rw[ha,hk])))
   simp[Ne.symm hne]
theorem Tally.new {A T L:List Int}(h:Tally A T L) {n:Int}(hn:n ∉ A):Tally (A++[n]) ((T++[0]).set T.length 1) (L++[n]):=by
 have hnl:n ∉ L:=λe=>hn ((h.mem n).2 e)
 refine⟨by simp[h.len],?_,λm=>?_,λj a u ha hu=>?_,by simp;exact h.le⟩
 .rw[List.nodup_append]
  refine⟨h.nodup,sI,λa ha b hb=>?_⟩;rw[Ay3]at hb;subst hb;intro e;subst e;exact hn ha
 .simp[h.mem]
 .have hlen:=h.len
  by_cases hj:j<T.length
  .rw[Au3 oM,Ay8 hj]at hu
   rw[Ay8 oM]at ha;have hne:a≠n:=λe=>hn (by rw[<-e];exact Az2 ha)
   rw[h.cnt j _ _ ha hu,List.count_append];simp[Ne.symm hne]
  .have hjl:=(Az1.1 ha).1
   simp only[Az0,List.length_singleton]at hjl;obtain rfl:j=T.length:=oM;rw[Av5 sI]at hu;obtain rfl:=Az3 hu;rw[hlen,Ax4 (Ay _),Au0]at ha;obtain rfl:=Az3 ha;rw[List.count_append,List.count_eq_zero.2 hnl];simp
def zFx (A L:List Int) (k:Nat) (b t:Int):Prop :=
 ((b=-1/\t=0/\k=0)\/(b∈L/\t=L.count b))/\∀(j:Nat) (x:Int),j<k->A[j]?=some x->(L.count x:Int)<t\/((L.count x:Int)=t/\b<=x)
theorem zFx.start (A L:List Int):zFx A L 0 (-1) 0:=⟨.inl ⟨rfl,rfl,rfl⟩,λ_ _ h=>absurd h (Ax _)⟩
theorem zFx.next {A L:List Int}{k:Nat}{b t x:Int}(h:zFx A L k b t) (hk:A[k]?=some x) (hx:x∈L) (b' t':Int) (hb:(b'=x/\t'=L.count x/\(t<L.count x\/((L.count x:Int)=t/\x<b)))\/(b'=b/\t'=t/\((L.count x:Int)<t\/((L.count x:Int)=t/\b<=x)))):zFx A L (k+1) b' t':=by
 obtain⟨h1,h2⟩:=h;have hpos:0<L.count x:=List.count_pos_iff.2 hx;rcases hb with ⟨rfl,rfl,hb⟩|⟨rfl,rfl,hb⟩
 .refine⟨.inr ⟨hx,rfl⟩,λj y hj hy=>?_⟩
  by_cases he:j=k
  .subst he;rw[hk]at hy;obtain rfl:=Az3 hy;omega
  .have:=h2 j y oM hy;omega
 .refine⟨.inr ?_,λj y hj hy=>?_⟩
  .rcases h1 with ⟨rfl,rfl,rfl⟩|h1
   .omega
   .exact h1
  .by_cases he:j=k
   .subst he;rw[hk]at hy;obtain rfl:=Az3 hy;exact hb
   .exact h2 j y oM hy
theorem zFx.done {A T L:List Int}{b t:Int}(h:zFx A L A.length b t) (hT:Tally A T L):b=xA L:=by
 refine zH4.unique (L:=L) ?_ (qU L);obtain⟨h1,h2⟩:=h;have hin:∀n∈L,∃j,A[j]?=some n/\j<A.length:=λn hn=>by
  obtain⟨j,hj,he⟩:=Av9 ((hT.mem n).2 hn);exact⟨j,by rw[Az hj,he],hj⟩
 rcases h1 with ⟨rfl,rfl,h3⟩|⟨h1,rfl⟩
 .refine .inl ⟨?_,rfl⟩
  cases L with
  | nil=>rfl
  | cons x L =>
   obtain⟨j,_,hj⟩:=hin x sI;omega
 .refine .inr ⟨h1,λn hn=>?_⟩
  obtain⟨j,hj,hl⟩:=hin n hn;have:=h2 j n hl hj;omega
end Go.Proofs.YtgnpmceimpjheaaGreat
