/- A part of the proof: CodS CodT CodU CodN Held TakeB TakeW TakeRow TakSt. -/
import Derived.Test.YtgnpmceimpjheaaGreatGP4
import Derived.Test.YtgnpmceimpjheaaGreatGP2
import Derived.Test.YtgnpmceimpjheaaGreatGP1
import Derived.Test.YtgnpmceimpjheaaGreatGP3
import Derived.Shelf.Abstract
import Derived.OrdersHeld
set_option maxRecDepth 100000
set_option maxHeartbeats 16000000
namespace Go.Proofs.YtgnpmceimpjheaaGreat
open Go.RowKit
section
variable {β δ:Type}
def C0 (pg:Nat):World->Nat->Prop:=λ_ k=>k=pg
def T0 (pg gb:Nat):World->Nat->Prop:=λ_ k=>k=pg\/k=gb
def S0 (δ:Type) (pg gb:Nat):World->List δ->List Int->Prop:=λw _ Z=>GetSt pg gb w Z
theorem zKb (pg gb:Nat):Side pg gb (C0 pg) (T0 pg gb) (S0 δ pg gb) where
 get:=λh=>h
 pgC:=λ_=>rfl
 sub:=λh=>.inl h
 lt:=λ{w acc Z k} h ht=>by rcases ht with rfl|rfl;exact h.lt;exact h.lb
 keep:=λh hc hs=>⟨h.chg hc (λe=>hs _ e (.inl rfl)) (λe=>hs _ e (.inr rfl)),λ_ h=>h,λ_ h=>h⟩
 move:=λ_ hg _=>⟨hg,λ_ h=>h,λ_ h=>h⟩
def jQ (pg gb:Nat) (one:Rdr δ) (E:Elt β) (val:β->Value) (R:Rp β δ) (w:World) (Z:List Int) (e:Ending) (w':World):Prop :=
 Chg (·=pg) w w'/\((one Z=none/\e=tL)\/∃x r y,one Z=some (x,r)/\e=.returned (val y)/\E.ok y/\R w' (λk=>w.heap.size<=k) y x/\GetSt pg gb w' r)
theorem zSv {pg gb:Nat}{f:FuncId}{fa:Array Value}{one:Rdr δ}{E:Elt β}{val:β->Value}{R:Rp β δ}(hR:Good R) (h:∀w Z,GetSt pg gb w Z->Calls Tryz.prog f fa w (jQ pg gb one E val R w Z)):zHa f fa one E val R (C0 pg) (T0 pg gb) (S0 δ pg gb):=by
 intro w acc Z hst _;refine⟨λhn=>(h w Z hst).mono ?_,λx r hs=>(h w Z hst).mono ?_⟩
 .rintro e w' ⟨hc,⟨_,rfl⟩|⟨x,r,y,h1,_⟩⟩
  .exact⟨rfl,hc⟩
  .rw[hn]at h1;cases h1
 .rintro e w' ⟨hc,⟨h1,_⟩|⟨x',r',y,h1,rfl,h2,h3,h4⟩⟩
  .rw[hs]at h1;cases h1
  .rw[hs]at h1
   injection h1 with h1;injection h1 with e1 e2;subst e1 e2;refine⟨y,rfl,h2,hR.mono h3 (λk _ hk=>⟨hk,λht=>?_⟩),h4,hc,λk hk=>.inl hk,λk hk=>.inl hk⟩;have h5:=GetSt.lt hst;have h6:=GetSt.lb hst;rcases ht with rfl|rfl <;> omega
def zA9 (pg gb:Nat) (one:Rdr δ) (E:Elt β) (R:Rp β δ) (w:World) (Z:List Int) (e:Ending) (w':World):Prop :=
 Chg (·=pg) w w'/\((vA one Z=none/\e=tL)\/∃L r a,vA one Z=some (L,r)/\e=.returned (.slice a L.length L.length)/\zJ E R w' (λk=>w.heap.size<=k) (a,L.length,L.length) L/\GetSt pg gb w' r/\L.length<=16777215)
theorem eJ.list {pg gb:Nat}{one:Rdr δ}{E:Elt β}{R:Rp β δ}(hR:Good R) {w w':World}{Z:List Int}{e:Ending}(h:eJ one E R (C0 pg) (T0 pg gb) (S0 δ pg gb) w Z e w'):zA9 pg gb one E R w Z e w':=by
 obtain⟨hc,h⟩:=h;refine⟨hc,?_⟩;rcases h with h|⟨L,r,a,h1,h2,h3,h4,h5,-⟩
 .exact .inl h
 .exact .inr ⟨L,r,a,h1,h2,(zJ.good hR).mono h3 (λk _ hs=>hs.1),h4,h5⟩
end
def zPc (pg gb:Nat) (one:Rdr Int) (m:Nat) (w:World) (Z:List Int) (e:Ending) (w':World):Prop :=
 Chg (·=pg) w w'/\((one Z=none/\e=tL)\/∃(x:Nat) (r:List Int),one Z=some ((x:Int),r)/\e=.returned (.int .i64 x)/\x<=m/\GetSt pg gb w' r)
theorem zFh {pg gb m:Nat}{Z:List Int}(w:World) (h:GetSt pg gb w Z):Calls Tryz.prog 106 #[.pointer (some ⟨pg,0,none⟩),.int .i64 m] w (zPc pg gb (numG m) m w Z):=by
 cases hn:numG m Z with
 | none=>exact (zCx w h hn).mono (λe w' hp=>⟨hp.2.any,.inl ⟨hn,hp.1⟩⟩)
 | some p =>
  obtain⟨x,r⟩:=p;obtain⟨n,k,_,rfl,hm,_⟩:=hJ hn;exact (zAy w h hn).mono (λe w' hp=>⟨hp.2.2,.inr ⟨n,r,hn,hp.1,hm,hp.2.1⟩⟩)
theorem eG {pg gb:Nat}{Z:List Int}(w:World) (h:GetSt pg gb w Z):Calls Tryz.prog 139 #[.pointer (some ⟨pg,0,none⟩)] w (zPc pg gb anyG 16777215 w Z):=by
 cases hn:anyG Z with
 | none=>exact (bS w h hn).mono (λe w' hp=>⟨hp.2.any,.inl ⟨hn,hp.1⟩⟩)
 | some p =>
  obtain⟨x,r⟩:=p;obtain⟨n,k,_,rfl,hm,_⟩:=hJ hn;exact (bQ w h hn).mono (λe w' hp=>⟨hp.2.2,.inr ⟨n,r,hn,hp.1,hm,hp.2.1⟩⟩)
theorem zQz {pg gb:Nat}(w:World) (Z:List Int) (h:GetSt pg gb w Z):Calls Tryz.prog 139 #[.pointer (some ⟨pg,0,none⟩)] w (jQ pg gb anyG intE zCt eqR w Z):=by
 refine (eG w h).mono ?_;rintro e w' ⟨hc,⟨h1,h2⟩|⟨x,r,h1,h2,h3,h4⟩⟩
 .exact⟨hc,.inl ⟨h1,h2⟩⟩
 .exact⟨hc,.inr ⟨x,r,x,h1,h2,⟨oM,oM⟩,rfl,h4⟩⟩
theorem zF3 {pg gb:Nat}(w:World) (Z:List Int) (h:GetSt pg gb w Z):Calls Tryz.prog 104 #[.pointer (some ⟨pg,0,none⟩)] w (jQ pg gb gU strE dG eqR w Z):=by
 cases hn:gU Z with
 | none=>exact (zL0 w h hn).mono (λe w' hp=>⟨hp.2,.inl ⟨hn,hp.1⟩⟩)
 | some p =>
  obtain⟨x,r⟩:=p;exact (zLz w h hn).mono (λe w' hp=>⟨hp.2.2,.inr ⟨x,r,x,hn,hp.1,trivial,rfl,hp.2.1⟩⟩)
theorem zE4 {β δ:Type}{pg gb:Nat}{f:FuncId}{fa:Array Value}{one:Rdr δ}{E:Elt β}{val:β->Value}{R:Rp β δ}(hR:Good R) (h:∀w Z,GetSt pg gb w Z->Calls Tryz.prog f fa w (jQ pg gb one E val R w Z)):zHa f (fa++#[]) one E val R (C0 pg) (T0 pg gb) (S0 δ pg gb):=by
 rw[Array.append_empty];exact zSv hR h
theorem zA8 {pg gb:Nat}(w:World) (Z:List Int) (h:GetSt pg gb w Z):Calls Tryz.prog 147 #[.pointer (some ⟨pg,0,none⟩),.func (.func 139) #[.pointer (some ⟨pg,0,none⟩)] #[]] w (zA9 pg gb anyG intE eqR w Z):=by
 have eg:=enters_of Tryz.func139 kR rfl;have hO:=zE4 (pg:=pg) (gb:=gb) (f:=139) (fa:=#[.pointer (some ⟨pg,0,none⟩)]) (E:=intE) (val:=zCt) (δ:=Int) eqR.good (λw Z h=>zQz w Z h);exact (zTa eqR.good (zKb pg gb) _ _ _ anyG eg hO w Z h).mono (λ_ _ hp=>hp.list eqR.good)
theorem zLy {pg gb:Nat}(w:World) (Z:List Int) (h:GetSt pg gb w Z):Calls Tryz.prog 103 #[.pointer (some ⟨pg,0,none⟩),.func (.func 104) #[.pointer (some ⟨pg,0,none⟩)] #[]] w (zA9 pg gb gU strE eqR w Z):=by
 have eg:=enters_of Tryz.func104 kR rfl;have hO:=zE4 (pg:=pg) (gb:=gb) (f:=104) (fa:=#[.pointer (some ⟨pg,0,none⟩)]) (E:=strE) (val:=dG) (δ:=Str) eqR.good (λw Z h=>zF3 w Z h);exact (zRb eqR.good (zKb pg gb) _ _ _ gU eg hO w Z h).mono (λ_ _ hp=>hp.list eqR.good)
theorem zTb {k x t:Nat}(hk:k<=3) (hx:x<=16777215) (ht:t<=16777215):qC.ok ((k:Int),(x:Int),(t:Int)):=by
 show (0<=(k:Int)/\(k:Int)<=255)/\(-9223372036854775808<=(x:Int)/\(x:Int)<=9223372036854775807)/\(-9223372036854775808<=(t:Int)/\(t:Int)<=9223372036854775807);omega
theorem zNv {pg gb:Nat}(w:World) (Z:List Int) (h:GetSt pg gb w Z):Calls Tryz.prog 172 #[.pointer (some ⟨pg,0,none⟩)] w (jQ pg gb zBy qC pN eqR w Z):=by
 have HG:=jh h;clear h;go_enter Tryz.func172,Tryz.ntmps172
 go_wp2_with fail
 refine (zFh _ (HG.o.fresh ((Chg.refl _ _).alloc _))).mono ?_;rintro e w1 ⟨hc,⟨h1,rfl⟩|⟨k,r1,h1,rfl,hk,hg⟩⟩
 .exact⟨rfl,((Chg.refl _ w).alloc _).trans hc,.inl ⟨by simp only[zBy,h1],rfl⟩⟩
 have HC1:=jh (((Chg.refl _ w).alloc _).trans hc);have HK:Hd (k<=3):=jh hk;have HCL:Hd (∀S w',Chg S (w.alloc (.cells #[.int .u8 0,.int .i64 0,.int .i64 0] 71)) w'->¬S w.heap.size->w'.cell? ⟨w.heap.size,0,none⟩=some (.int .u8 0)/\w'.cell? ⟨w.heap.size,1,none⟩=some (.int .i64 0)/\w'.cell? ⟨w.heap.size,2,none⟩=some (.int .i64 0)/\∀j,w'.frozen? ⟨w.heap.size,j,none⟩=false) :=
  jh λS w' hc hs=>⟨hc.cellS sI hs,hc.cellS sI hs,hc.cellS sI hs,λj=>(hc.frozen (p:=⟨w.heap.size,j,none⟩) sI hs).trans (Az8 _ _ _ _)⟩
 have HPG:Hd (pg<w.heap.size/\gb<w.heap.size):=jh ⟨HG.o.lt,HG.o.lb⟩;have H1:=jh h1;clear h1;go_wp2_with fail
 refine (eG _ hg).mono ?_;rintro e w2 ⟨hc2,⟨h2,rfl⟩|⟨x,r2,h2,rfl,hx,hg2⟩⟩
 .exact⟨rfl,HC1.o.trans hc2,.inl ⟨by simp only[zBy,H1.o,h2],rfl⟩⟩
 have H2:=jh h2;have HC2:=jh (hc.trans hc2);clear h2 hg hc hc2;go_wp2_with fail
 refine (eG _ hg2).mono ?_;rintro e w3 ⟨hc3,⟨h3,rfl⟩|⟨t,r3,h3,rfl,ht,hg3⟩⟩
 .exact⟨rfl,((Chg.refl _ w).alloc _).trans (HC2.o.trans hc3),.inl ⟨by simp only[zBy,H1.o,H2.o,h3],rfl⟩⟩
 have HF:Hd (zBy Z=some (((k:Int),(x:Int),(t:Int)),r3)):=jh (by simp only[zBy,H1.o,H2.o,h3]);have HC3:=jh (HC2.o.trans hc3);obtain⟨c0,c1,c2,cz⟩:=HCL.o _ w3 HC3.o (by have:=HPG.o;show ¬w.heap.size=pg;omega);have hz0:=cz 0;have hz1:=cz 1;have hz2:=cz 2;obtain⟨s0,s1,s2,sc⟩:=eL (.int .u8 k) (.int .i64 x) (.int .i64 t) c0 c1 c2;have HG3:=jh (hg3.chg sc (by have:=HPG.o;show ¬pg=w.heap.size;omega) (by have:=HPG.o;show ¬gb=w.heap.size;omega));have HC4:Hd (Chg (·=pg) w _):=jh ((((Chg.refl _ w).alloc _).trans HC3.o).trans2 sc (λj hj e=>absurd e (Nat.ne_of_lt hj)));clear hc3 hg2 hg3 h3 cz sc;go_wp2;exact bodyPost_ret (v:=.agg #[.int .u8 k,.int .i64 x,.int .i64 t]) (by simp[results,Tryz.results172,go_sem,s0,s1,s2]) rfl ⟨HC4.o,.inr ⟨_,_,_,HF.o,rfl,zTb hk hx ht,rfl,HG3.o⟩⟩
theorem zNu {pg gb:Nat}(w:World) (Z:List Int) (h:GetSt pg gb w Z):Calls Tryz.prog 171 #[.pointer (some ⟨pg,0,none⟩),.func (.func 172) #[.pointer (some ⟨pg,0,none⟩)] #[]] w (zA9 pg gb zBy qC eqR w Z):=by
 have eg:=enters_of Tryz.func172 kR rfl;have hO:=zE4 (pg:=pg) (gb:=gb) (f:=172) (fa:=#[.pointer (some ⟨pg,0,none⟩)]) (E:=qC) (val:=pN) (δ:=qS) eqR.good (λw Z h=>zNv w Z h);exact (zR3 eqR.good (zKb pg gb) _ _ _ zBy eg hO w Z h).mono (λ_ _ hp=>hp.list eqR.good)
theorem zJ9 {pg gb:Nat}(w:World) (Z:List Int) (h:GetSt pg gb w Z):Calls Tryz.prog 146 #[.pointer (some ⟨pg,0,none⟩)] w (jQ pg gb jC stE zBw stR w Z):=by
 have HG:=jh h;clear h;have hmf:=mkfn;go_enter Tryz.func146,Tryz.ntmps146
 go_wp2_with fail
 refine (eG _ (HG.o.fresh ((Chg.refl _ _).alloc _))).mono ?_;rintro e w1 ⟨hc,⟨h1,rfl⟩|⟨k,r1,h1,rfl,hk,hg⟩⟩
 .exact⟨rfl,((Chg.refl _ w).alloc _).trans hc,.inl ⟨by simp only[jC,h1],rfl⟩⟩
 have HC1:=jh (((Chg.refl _ w).alloc _).trans hc);have HCL:Hd (∀S w',Chg S (w.alloc (.cells #[.int .i64 0,.slice none 0 0,.slice none 0 0] 74)) w'->¬S w.heap.size->w'.cell? ⟨w.heap.size,0,none⟩=some (.int .i64 0)/\w'.cell? ⟨w.heap.size,1,none⟩=some (.slice none 0 0)/\w'.cell? ⟨w.heap.size,2,none⟩=some (.slice none 0 0)/\∀j,w'.frozen? ⟨w.heap.size,j,none⟩=false) :=
  jh λS w' hc hs=>⟨hc.cellS sI hs,hc.cellS sI hs,hc.cellS sI hs,λj=>(hc.frozen (p:=⟨w.heap.size,j,none⟩) sI hs).trans (Az8 _ _ _ _)⟩
 have HPG:Hd (pg<w.heap.size/\gb<w.heap.size):=jh ⟨HG.o.lt,HG.o.lb⟩;have HW1:Hd (w.heap.size+1<=w1.heap.size):=jh (by have:=hc.size;simp at this;omega);have H1:=jh h1;clear h1;go_wp2_with fail
 refine (zNu _ _ hg).mono ?_;rintro e w2 ⟨hc2,⟨h2,rfl⟩|⟨L,r2,a,h2,rfl,hL,hg2,hll⟩⟩
 .exact⟨rfl,HC1.o.trans hc2,.inl ⟨by simp only[jC,H1.o,h2],rfl⟩⟩
 have H2:=jh h2;have HC2:=jh (hc.trans hc2);have HL:Hd (qC.InS w2 (λk=>w1.heap.size<=k) (a,L.length,L.length) L):=jh hL.to;clear h2 hg hc hL;go_wp2_with fail
 refine (zA8 _ _ hg2).mono ?_;rintro e w3 ⟨hc3,⟨h3,rfl⟩|⟨M,r3,b,h3,rfl,hM,hg3,hml⟩⟩
 .exact⟨rfl,((Chg.refl _ w).alloc _).trans (HC2.o.trans hc3),.inl ⟨by simp only[jC,H1.o,H2.o,h3],rfl⟩⟩
 have HF:Hd (jC Z=some (((k:Int),L,M),r3)):=jh (by simp only[jC,H1.o,H2.o,h3]);have HC3:=jh (HC2.o.trans hc3);obtain⟨c0,c1,c2,cz⟩:=HCL.o _ w3 HC3.o (by have:=HPG.o;show ¬w.heap.size=pg;omega);have hz0:=cz 0;have hz1:=cz 1;have hz2:=cz 2;obtain⟨s0,s1,s2,sc⟩:=eL (.int .i64 k) (.slice a L.length L.length) (.slice b M.length M.length) c0 c1 c2;have HG3:=jh (hg3.chg sc (by have:=HPG.o;show ¬pg=w.heap.size;omega) (by have:=HPG.o;show ¬gb=w.heap.size;omega));have HC4:Hd (Chg (·=pg) w _):=jh ((((Chg.refl _ w).alloc _).trans HC3.o).trans2 sc (λj hj e=>absurd e (Nat.ne_of_lt hj)));have HW2:Hd (w1.heap.size<=w2.heap.size):=jh hc2.size;have HR:Hd (stR ((((w3.setCell ⟨w.heap.size,0,none⟩ (.int .i64 k)).setCell ⟨w.heap.size,1,none⟩ (.slice a L.length L.length)).setCell ⟨w.heap.size,2,none⟩ (.slice b M.length M.length))) (λk=>w.heap.size<=k) ((k:Int),(a,L.length,L.length),(b,M.length,M.length)) ((k:Int),L,M)):=jh
  ⟨rfl,⟨by show (-9223372036854775808:Int)<=(k:Int);omega,by show (k:Int)<=9223372036854775807;omega⟩,
   (((HL.o.chg hc3 (λg hg e=>by have:=HPG.o;have:=HW1.o;omega)).chg sc (λg hg e=>by have:=HW1.o;omega)).mono (λg _ hg=>by have:=HW1.o;show w.heap.size<=g;omega)),
   ((hM.to.chg sc (λg hg e=>by have:=HW1.o;have:=HW2.o;omega)).mono (λg _ hg=>by have:=HW1.o;have:=HW2.o;show w.heap.size<=g;omega))⟩
 have hkb:I.Byte (k:Int):=⟨by show (-9223372036854775808:Int)<=(k:Int);omega,by show (k:Int)<=9223372036854775807;omega⟩;have HKB:=jh hkb;clear hc3 hg2 hg3 h3 cz sc hM hkb hc2;go_wp2;exact bodyPost_ret (v:=.agg #[.int .i64 k,.slice a L.length L.length,.slice b M.length M.length]) (by simp[results,Tryz.results146,go_sem,s0,s1,s2]) rfl ⟨HC4.o,.inr ⟨_,_,((k:Int),(a,L.length,L.length),(b,M.length,M.length)),HF.o,rfl,HKB.o,HR.o,HG3.o⟩⟩
theorem zJ8 {pg gb:Nat}(w:World) (Z:List Int) (h:GetSt pg gb w Z):Calls Tryz.prog 145 #[.pointer (some ⟨pg,0,none⟩),.func (.func 146) #[.pointer (some ⟨pg,0,none⟩)] #[]] w (zA9 pg gb jC stE stR w Z):=by
 have eg:=enters_of Tryz.func146 kR rfl;have hO:=zE4 (pg:=pg) (gb:=gb) (f:=146) (fa:=#[.pointer (some ⟨pg,0,none⟩)]) (E:=stE) (val:=zBw) (δ:=StD) stR.good (λw Z h=>zJ9 w Z h);exact (zT4 stR.good (zKb pg gb) _ _ _ jC eg hO w Z h).mono (λ_ _ hp=>hp.list stR.good)
end Go.Proofs.YtgnpmceimpjheaaGreat
namespace Go.Proofs.YtgnpmceimpjheaaGreat
open Go.RowKit
section
variable {P:Program}{ops:Array Oper}{Q:Exit->Act->World->Prop}{md:Region.Mode}{S:World->Prop}{late:Nat->Bool}
theorem tJ {i:Nat}{oi:Oper}{fuel:Nat}{listed:Array Bool}{a:Act}{w:World}(hr:Region.ready md ops listed=[i]) (hi:ops[i]?=some oi)
  (hw:Region.wanted oi (yielded ops a.tmps)=true) (f:FuncId) (args:Array Value) (R:Value->World->Prop) (hrun:(execOp a.eval oi).run P w=.ok (.enter f args) w)
  (hcall:Calls P f args w (λe w''=>(∃v,e=.returned v/\(late i=false->S w'')/\R v w'')\/∃ch,e=.panicked ch/\Q (.panic ch) a w''))
  (h:∀v w'',(late i=false->S w'')->R v w''->∀K:Act->Prop,(∀a,yN P md ops Q S late fuel (listed.setIfInBounds i true) a w''->K a)->K (a.put oi.dst v)) :
  yN P md ops Q S late (fuel+1) listed a w:=by
 refine⟨λh0=>(by rw[hr]at h0;cases h0),λj hj=>?_⟩;rw[hr]at hj;obtain rfl:j=i:=by simpa using hj
 unfold Go.wpOp;simp only[hi,hw,if_true,Oper.wp,hrun,Oper.upon];refine .inl (hcall.mono λe w'' h2=>?_);rcases h2 with ⟨v,he,hS,hR⟩|⟨ch,he,hQ⟩
 .subst he
  exact⟨hS,h v w'' hS hR _ iE⟩
 .subst he
  exact hQ
end
def xQ (b:Nat):Nat->List Value->World->World
 | _,[],W=>W
 | o,v :: vs,W=>xQ b (o+1) vs (W.setCell ⟨b,o,none⟩ v)
theorem uC (b:Nat):∀(vs:List Value) (o:Nat) (W:World),(∀j,j<vs.length->(W.cell? ⟨b,o+j,none⟩).isSome=true) ->
  (∀j v,vs[j]?=some v->(xQ b o vs W).cell? ⟨b,o+j,none⟩=some v)/\(∀j,j<o->(xQ b o vs W).cell? ⟨b,j,none⟩=W.cell? ⟨b,j,none⟩)/\Chg (·=b) W (xQ b o vs W)/\∀p,(xQ b o vs W).frozen? p=W.frozen? p
 | [],o,W,_=>⟨λj v h=>by simp at h,λ_ _=>rfl,Chg.refl _ _,λ_=>rfl⟩
 | u :: vs,o,W,h=>by
  have hne:∀j,j≠o->(W.setCell ⟨b,o,none⟩ u).cell? ⟨b,j,none⟩=W.cell? ⟨b,j,none⟩:=λj hj=>Ay0 _ _ _ _ (by intro e;injection e with _ e;exact hj e.symm)
  obtain⟨h1,h2,h3,h4⟩:=uC b vs (o+1) (W.setCell ⟨b,o,none⟩ u) (λj hj=>by
   rw[hne _ oM,show o+1+j=o+(j+1) by omega];exact h (j+1) sO)
  refine⟨λj v hj=>?_,λj hj=>(h2 j oM).trans (hne j oM),(zA W b o u).trans h3,λp=>(h4 p).trans (Az4 _ _ _ _)⟩;cases j with
  | zero =>
   simp at hj
   subst hj;have h5:=h2 o oM;rw[show (xQ b o (u :: vs) W)=xQ b (o+1) vs (W.setCell ⟨b,o,none⟩ u) from rfl];show (xQ b (o+1) vs (W.setCell ⟨b,o,none⟩ u)).cell? ⟨b,o,none⟩=some u;rw[h5];obtain⟨x,hx⟩:=Option.isSome_iff_exists.1 (h 0 sI);rw[Nat.add_zero]at hx;exact Az9 _ _ _ hx
  | succ j =>
   have:=h1 j v (by simpa using hj);rw[show o+1+j=o+(j+1) by omega]at this;exact this
structure GetSb (pg gb bx:Nat) (w:World) (Z:List Int):Prop where
 g:GetSt pg gb w Z
 c:w.cell? ⟨bx,0,none⟩=some (.pointer (some ⟨pg,0,none⟩))
 ne:bx≠pg
theorem GetSb.lt {pg gb bx:Nat}{w:World}{Z:List Int}(h:GetSb pg gb bx w Z):bx<w.heap.size:=Az6 _ _ h.c
theorem GetSb.chg {pg gb bx:Nat}{T:Nat->Prop}{w w':World}{Z:List Int}(h:GetSb pg gb bx w Z) (hc:Chg T w w') (hp:¬T pg) (hb:¬T gb) (hx:¬T bx):GetSb pg gb bx w' Z:=⟨h.g.chg hc hp hb,hc.cellS h.c hx,h.ne⟩
theorem GetSb.fresh {pg gb bx:Nat}{w w':World}{Z:List Int}(h:GetSb pg gb bx w Z) (hc:Cf w w'):GetSb pg gb bx w' Z:=h.chg hc iD iD iD
theorem GetSb.go {pg gb bx:Nat}{w w':World}{Z r:List Int}(h:GetSb pg gb bx w Z) (hg:GetSt pg gb w' r) (hc:Chg (·=pg) w w'):GetSb pg gb bx w' r:=⟨hg,hc.cellS h.c h.ne,h.ne⟩
def Tb (pg gb bx:Nat):World->Nat->Prop:=λ_ k=>k=pg\/k=gb\/k=bx
def Sb (δ:Type) (pg gb bx:Nat):World->List δ->List Int->Prop:=λw _ Z=>GetSb pg gb bx w Z
theorem zTt {δ:Type}(pg gb bx:Nat):Side pg gb (C0 pg) (Tb pg gb bx) (Sb δ pg gb bx) where
 get:=λh=>h.g
 pgC:=λ_=>rfl
 sub:=λh=>.inl h
 lt:=λ{w acc Z k} h ht=>by rcases ht with rfl|rfl|rfl;exact h.g.lt;exact h.g.lb;exact GetSb.lt h
 keep:=λh hc hs=>⟨GetSb.chg h hc (λe=>hs _ e (.inl rfl)) (λe=>hs _ e (.inr (.inl rfl))) (λe=>hs _ e (.inr (.inr rfl))),λ_ h=>h,λ_ h=>h⟩
 move:=λh hg hc=>⟨GetSb.go h hg hc,λ_ h=>h,λ_ h=>h⟩
theorem zSu {β δ:Type}{pg gb bx:Nat}{f:FuncId}{fa:Array Value}{one:Rdr δ}{E:Elt β}{val:β->Value}{R:Rp β δ}(hR:Good R) (h:∀w Z,GetSb pg gb bx w Z->Calls Tryz.prog f fa w (jQ pg gb one E val R w Z)):zHa f fa one E val R (C0 pg) (Tb pg gb bx) (Sb δ pg gb bx):=by
 intro w acc Z hst _;refine⟨λhn=>(h w Z hst).mono ?_,λx r hs=>(h w Z hst).mono ?_⟩
 .rintro e w' ⟨hc,⟨_,rfl⟩|⟨x,r,y,h1,_⟩⟩
  .exact⟨rfl,hc⟩
  .rw[hn]at h1;cases h1
 .rintro e w' ⟨hc,⟨h1,_⟩|⟨x',r',y,h1,rfl,h2,h3,h4⟩⟩
  .rw[hs]at h1;cases h1
  .rw[hs]at h1
   injection h1 with h1;injection h1 with e1 e2;subst e1 e2;refine⟨y,rfl,h2,hR.mono h3 (λk _ hk=>⟨hk,λht=>?_⟩),GetSb.go hst h4 hc,hc,λk hk=>.inl hk,λk hk=>.inl hk⟩;have h5:=GetSt.lt (GetSb.g hst);have h6:=GetSt.lb (GetSb.g hst);have h7:=GetSb.lt hst;rcases ht with rfl|rfl|rfl <;> omega
def ls2R:Rp (Int×Sl×Sl) (Int×List Int):=λw S x d=>x.1=d.1/\U8 d.1/\intE.InS w S x.2.1 d.2/\x.2.2=(none,0,0)
theorem ls2R.good:Good ls2R:=⟨λh hc hs=>⟨h.1,h.2.1,h.2.2.1.chg hc hs,h.2.2.2⟩,λh hs=>⟨h.1,h.2.1,h.2.2.1.mono hs,h.2.2.2⟩⟩
theorem zRx {pg gb bx:Nat}(w:World) (Z:List Int) (h:GetSb pg gb bx w Z):Calls Tryz.prog 149 #[.pointer (some ⟨bx,0,none⟩)] w (jQ pg gb lsG lsE zCq ls2R w Z):=by
 have HG:=jh h;clear h;have hmf:=mkfn;go_enter Tryz.func149,Tryz.ntmps149
 go_upto_region 1 with (fail)
 obtain⟨w0,hw0⟩:∃W,W=w.alloc (.cells #[.int .u8 0,.slice none 0 0,.slice none 0 0] 67):=⟨_,rfl⟩;rw[<-hw0];have HCL:Hd (∀S w',Chg S w0 w'->¬S w.heap.size->w'.cell? ⟨w.heap.size,0,none⟩=some (.int .u8 0)/\w'.cell? ⟨w.heap.size,1,none⟩=some (.slice none 0 0)/\w'.cell? ⟨w.heap.size,2,none⟩=some (.slice none 0 0)/\∀j,w'.frozen? ⟨w.heap.size,j,none⟩=false) :=
  jh λS w' hc hs=>by
   subst hw0;exact⟨hc.cellS sI hs,hc.cellS sI hs,hc.cellS sI hs,λj=>(hc.frozen (p:=⟨w.heap.size,j,none⟩) sI hs).trans (Az8 _ _ _ _)⟩
 have HC0:Hd (Cf w w0):=jh (by rw[hw0];exact (Chg.refl _ w).alloc _);have HW0:Hd (w0.heap.size=w.heap.size+1):=jh (by rw[hw0];simp);clear hw0;obtain⟨wd,hwd⟩:∃W,w0.drew=W:=⟨_,rfl⟩;have HCD:Hd (Cf w0 wd):=jh (by rw[<-hwd];exact (Chg.refl _ _).drew);have HGD:=jh (HG.o.fresh (HC0.o.trans HCD.o));have HWD:Hd (w.heap.size+1<=wd.heap.size):=jh (by have:=HCD.o.size;have:=HW0.o;omega);have HPG:Hd (pg<w.heap.size/\gb<w.heap.size):=jh ⟨HG.o.g.lt,HG.o.g.lb⟩;refine zC (λx=>Chg (·=pg) wd x) (λi=>decide (8<=i)) kR ?_;show yN _ _ _ _ _ _ 9 (Array.replicate 9 false) _ w0.drew;rw[hwd];clear hwd;have HSS:Hd (Chg (·=pg) wd wd):=jh cR;(refine lq 0 HSS.o ?_ (hr:=by intro w' hC;have q:=hC.cellS HGD.o.c HGD.o.ne;go_simp;try with_reducible rfl));(refine lq 3 HSS.o ?_ (hr:=by intro w' hC;have q:=hC.cellS HGD.o.c HGD.o.ne;go_simp;try with_reducible rfl));(refine lq 4 HSS.o ?_ (hr:=by intro w' hC;have q:=hC.cellS HGD.o.c HGD.o.ne;go_simp;try with_reducible rfl));(refine lq 5 HSS.o ?_);refine tJ (i:=1) kR rfl rfl 106 #[.pointer (some ⟨pg,0,none⟩),.int .i64 3] (λv w''=>∃(k:Nat) (r1:List Int),numG 3 Z=some ((k:Int),r1)/\v=.int .i64 k/\k<=3/\GetSt pg gb w'' r1/\Chg (·=pg) wd w'') (by go_simp) ?_ ?_
 .refine (zFh wd HGD.o.g).mono ?_
  rintro e w1 ⟨hc,⟨h1,rfl⟩|⟨k,r1,h1,rfl,hk,hg⟩⟩
  .exact .inr ⟨_,rfl,rfl,(HC0.o.trans HCD.o).any.trans hc,.inl ⟨by simp only[lsG,h1],rfl⟩⟩
  .exact .inl ⟨_,rfl,λ_=>hc,k,r1,h1,rfl,hk,hg,hc⟩
 rintro v w1-⟨k,r1,h1,rfl,hk,hg,hc⟩ K hK;(try go_simp)
 refine hK _ ?_;clear hK K;have H1:=jh h1;have HC1:=jh hc;have HG1:=jh hg;clear h1 hc hg HSS;have HSS:Hd (Chg (·=pg) wd w1):=HC1;have hwr:IntKind.u8.wrap (k:Int)=(k:Int):=by rw[IntKind.wrap_u8];omega
 (refine lq 2 HSS.o ?_);refine tJ (i:=6) kR rfl rfl 147 #[.pointer (some ⟨pg,0,none⟩),.func (.func 139) #[.pointer (some ⟨pg,0,none⟩)] #[]] (λv w''=>∃(L r2:List Int) (a:Option Addr),lsG Z=some (((k:Int),L),r2)/\v=.slice a L.length L.length/\intE.InS w'' (λk=>w1.heap.size<=k) (a,L.length,L.length) L/\GetSt pg gb w'' r2/\Chg (·=pg) wd w'') (by go_simp) ?_ ?_
 .refine (zA8 w1 _ HG1.o).mono ?_
  rintro e w2 ⟨hc,⟨h2,rfl⟩|⟨L,r2,a,h2,rfl,hL,hg,hl⟩⟩
  .exact .inr ⟨_,rfl,rfl,(HC0.o.trans HCD.o).any.trans (HC1.o.trans hc),.inl ⟨by simp only[lsG,H1.o,h2],rfl⟩⟩
  .exact .inl ⟨_,rfl,λ_=>HC1.o.trans hc,L,r2,a,by simp only[lsG,H1.o,h2],rfl,hL.to,hg,HC1.o.trans hc⟩
 rintro v w2-⟨L,r2,a,h2,rfl,hL,hg,hc⟩ K hK;(try go_simp)
 refine hK _ ?_;clear hK K;(refine lt 7 (λ_=>hc) ?_);obtain⟨c0,c1,c2,cz⟩:=HCL.o (·=pg) w2 (HCD.o.any.trans hc) (by have:=HPG.o;show ¬w.heap.size=pg;omega);have hz0:=cz 0;have hz1:=cz 1;have hz2:=cz 2;obtain⟨s0,s1,s2,sc⟩:=eL (.int .u8 k) (.slice a L.length L.length) (.slice none 0 0) c0 c1 c2;have HG3:=jh (hg.chg sc (by have:=HPG.o;show ¬pg=w.heap.size;omega) (by have:=HPG.o;show ¬gb=w.heap.size;omega));have HC4:Hd (Chg (·=pg) w _):=jh (((HC0.o.trans HCD.o).any.trans hc).trans2 sc (λj hj e=>absurd e (Nat.ne_of_lt hj)));have hkb:U8 (k:Int):=⟨oM,oM⟩;have HR:Hd (ls2R ((((w2.setCell ⟨w.heap.size,0,none⟩ (.int .u8 k)).setCell ⟨w.heap.size,1,none⟩ (.slice a L.length L.length)).setCell ⟨w.heap.size,2,none⟩ (.slice none 0 0))) (λk=>w.heap.size<=k) ((k:Int),(a,L.length,L.length),(none,0,0)) ((k:Int),L)):=jh
  ⟨rfl,hkb,(hL.chg sc (λg hg e=>by have:=HC1.o.size;have:=HWD.o;omega)).mono (λg _ hg=>by have:=HC1.o.size;have:=HWD.o;show w.heap.size<=g;omega),rfl⟩
 have HF:=jh h2;have HKB:=jh hkb;clear hg hc hL h2 cz sc hkb;(refine ld 8 ?_);refine yA kR ?_ _;go_wp2;exact bodyPost_ret (v:=.agg #[.int .u8 k,.slice a L.length L.length,.slice none 0 0]) (by simp[results,Tryz.results149,go_sem,s0,s1,s2]) rfl ⟨HC4.o,.inr ⟨_,_,((k:Int),(a,L.length,L.length),(none,0,0)),HF.o,rfl,HKB.o,HR.o,HG3.o⟩⟩
end Go.Proofs.YtgnpmceimpjheaaGreat
namespace Go.Proofs.YtgnpmceimpjheaaGreat
open Go.RowKit
structure TokSt (pg gb bx tb:Nat) (w0:World) (w:World) (acc:List (Str×Bool)) (Z:List Int):Prop where
 g:GetSb pg gb bx w Z
 lt:pg<tb/\gb<tb/\bx<tb
 f:∃v,Fld aA tb 2 w v (acc.map (·.2))
 o:∀j u,j≠2->w0.cell? ⟨tb,j,none⟩=some u->w.cell? ⟨tb,j,none⟩=some u
 z:∀j,w.frozen? ⟨tb,j,none⟩=false
def Tt (pg gb bx tb:Nat):World->Nat->Prop:=λw k=>k=pg\/k=gb\/k=bx\/k=tb\/∃v,w.cell? ⟨tb,2,none⟩=some v/\v.ownBlock=some k
def Ct (pg tb:Nat):World->Nat->Prop:=λw k=>k=pg\/k=tb\/∃v,w.cell? ⟨tb,2,none⟩=some v/\v.ownBlock=some k
theorem zTs (pg gb bx tb:Nat) (w0:World):Side pg gb (Ct pg tb) (Tt pg gb bx tb) (TokSt pg gb bx tb w0) where
 get:=λh=>h.g.g
 pgC:=λ_=>.inl rfl
 sub:=λh=>by
  rcases h with h|h|h
  .exact .inl h
  .exact .inr (.inr (.inr (.inl h)))
  .exact .inr (.inr (.inr (.inr h)))
 lt:=λ{w acc Z k} h ht=>by
  obtain⟨v,hv⟩:=h.f;rcases ht with rfl|rfl|rfl|rfl|⟨u,hu,hk⟩
  .exact h.g.g.lt
  .exact h.g.g.lb
  .exact h.g.lt
  .exact hv.lt
  .rw[hv.c]at hu
   obtain rfl:=Az3 hu;exact (hv.own.blk hk).2
 keep:=λ{S w w' acc Z} h hc hs=>by
  obtain⟨v,hv⟩:=h.f;have hc2:w'.cell? ⟨tb,2,none⟩=some v:=hc.cellS hv.c (λe=>hs _ e (.inr (.inr (.inr (.inl rfl)))));have htb:¬S tb:=λe=>hs _ e (.inr (.inr (.inr (.inl rfl))))
  refine⟨⟨h.g.chg hc (λe=>hs _ e (.inl rfl)) (λe=>hs _ e (.inr (.inl rfl))) (λe=>hs _ e (.inr (.inr (.inl rfl)))),h.lt,⟨v,hc2,(hc.frozen (p:=⟨tb,2,none⟩) hv.lt htb).trans hv.z,hv.own.chgB hc (λg hg e=>hs _ e (.inr (.inr (.inr (.inr ⟨v,hv.c,hg⟩)))))⟩,λj u hj hu=>hc.cellS (h.o j u hj hu) htb,λj=>(hc.frozen (p:=⟨tb,j,none⟩) hv.lt htb).trans (h.z j)⟩,λk hk=>?_,λk hk=>?_⟩
  .rcases hk with h1|h1|h1|h1|⟨u,hu,hk⟩
   .exact .inl h1
   .exact .inr (.inl h1)
   .exact .inr (.inr (.inl h1))
   .exact .inr (.inr (.inr (.inl h1)))
   .rw[hc2]at hu
    obtain rfl:=Az3 hu;exact .inr (.inr (.inr (.inr ⟨v,hv.c,hk⟩)))
  .rcases hk with h1|h1|⟨u,hu,hk⟩
   .exact .inl h1
   .exact .inr (.inl h1)
   .rw[hc2]at hu
    obtain rfl:=Az3 hu;exact .inr (.inr ⟨v,hv.c,hk⟩)
 move:=λ{w w' acc Z r} h hg hc=>by
  obtain⟨v,hv⟩:=h.f;have htb:¬tb=pg:=by have:=h.lt;omega
  have hc2:w'.cell? ⟨tb,2,none⟩=some v:=hc.cellS hv.c htb;refine⟨⟨h.g.go hg hc,h.lt,⟨v,hc2,(hc.frozen (p:=⟨tb,2,none⟩) hv.lt htb).trans hv.z,hv.own.chg hc (λg hg _ e=>by have:=h.lt;omega)⟩,λj u hj hu=>hc.cellS (h.o j u hj hu) htb,λj=>(hc.frozen (p:=⟨tb,j,none⟩) hv.lt htb).trans (h.z j)⟩,λk hk=>?_,λk hk=>?_⟩
  .rcases hk with h1|h1|h1|h1|⟨u,hu,hk⟩
   .exact .inl h1
   .exact .inr (.inl h1)
   .exact .inr (.inr (.inl h1))
   .exact .inr (.inr (.inr (.inl h1)))
   .rw[hc2]at hu
    obtain rfl:=Az3 hu;exact .inr (.inr (.inr (.inr ⟨v,hv.c,hk⟩)))
  .rcases hk with h1|h1|⟨u,hu,hk⟩
   .exact .inl h1
   .exact .inr (.inl h1)
   .rw[hc2]at hu
    obtain rfl:=Az3 hu;exact .inr (.inr ⟨v,hv.c,hk⟩)
def tokR:Rp Str (Str×Bool):=λ_ _ x d=>x=d.1
theorem tokR.good:Good tokR:=⟨λh _ _=>h,λh _=>h⟩
theorem TokSt.fin {pg gb bx tb:Nat}{w0 w w3 w4:World}{acc:List (Str×Bool)}{Z r:List Int}{v v':Value}{s:Str}{b:Bool}(h:TokSt pg gb bx tb w0 w acc Z) (hv:Fld aA tb 2 w v (acc.map (·.2))) (hg:GetSt pg gb w3 r) (hc:Chg (·=pg) w w3)
  (ho:aA.Own w4 (tb+1) v' (acc.map (·.2)++[b])) (hb:Chg (λk=>v.ownBlock=some k) w3 w4) (hb2:v'.ownBlock=v.ownBlock\/∃k,v'.ownBlock=some k/\w3.heap.size<=k) :
  (w4.cell? ⟨tb,2,none⟩=some v/\w4.frozen? ⟨tb,2,none⟩=false)/\TokSt pg gb bx tb w0 (w4.setCell ⟨tb,2,none⟩ v') (acc++[(s,b)]) r/\Chg (Ct pg tb w) w (w4.setCell ⟨tb,2,none⟩ v') /\
   (∀k,Tt pg gb bx tb (w4.setCell ⟨tb,2,none⟩ v') k->Tt pg gb bx tb w k\/w.heap.size<=k)/\∀k,Ct pg tb (w4.setCell ⟨tb,2,none⟩ v') k->Ct pg tb w k\/w.heap.size<=k:=by
 have hlt:=h.lt;have hob:∀k,v.ownBlock=some k->tb+1<=k:=λk hk=>(hv.own.blk hk).1
 have c3:=hc.cellS hv.c (show ¬tb=pg by omega);have c4:=hb.cellS c3 (λe=>by have:=hob _ e;simp only at this;omega);have l3:tb<w3.heap.size:=Az6 _ _ c3;have z4:∀j,w4.frozen? ⟨tb,j,none⟩=false:=λj =>
  (hb.frozen (p:=⟨tb,j,none⟩) l3 (λe=>by have:=hob _ e;simp only at this;omega)).trans ((hc.frozen (p:=⟨tb,j,none⟩) hv.lt (show ¬tb=pg by omega)).trans (h.z j))
 have hs:=zA w4 tb 2 v';have c5:(w4.setCell ⟨tb,2,none⟩ v').cell? ⟨tb,2,none⟩=some v':=Az9 _ _ _ c4;have h35:Chg (λk=>k=tb\/v.ownBlock=some k) w3 (w4.setCell ⟨tb,2,none⟩ v'):=(hb.mono (λk _ e=>.inr e)).trans (hs.mono (λk _ e=>.inl e));have hnew:∀k,v'.ownBlock=some k->v.ownBlock=some k\/w.heap.size<=k:=λk hk=>by
  rcases hb2 with e|⟨j,e,hj⟩
  .exact .inl (by rw[<-e];exact hk)
  .rw[e]at hk
   injection hk with hk;exact .inr (by have:=hc.size;omega)
 refine⟨⟨c4,z4 2⟩,⟨⟨hg.chg h35 (λe=>by rcases e with e|e;omega;have:=hob _ e;omega) (λe=>by rcases e with e|e;omega;have:=hob _ e;omega),h35.cellS (hc.cellS h.g.c h.g.ne) (λe=>by rcases e with e|e;(simp only at e;omega);have:=hob _ e;simp only at this;omega),h.g.ne⟩,h.lt,⟨v',c5,(Az4 _ _ _ _).trans (z4 2),?_⟩,λj u hj hu=>?_,λj=>(Az4 _ _ _ _).trans (z4 j)⟩,(hc.mono (λk _ e=>.inl e)).trans2 (h35.mono (T:=Ct pg tb w) (λk _ e=>?_)) (λk _ e=>e),λk hk=>?_,λk hk=>?_⟩
 .rw[List.map_append]
  exact ho.chg hs (λg hg _ e=>oM)
 .rw[Ay0 _ _ _ _ (by intro e;injection e with _ e;exact hj e.symm)]
  exact hb.cellS (hc.cellS (h.o j u hj hu) (show ¬tb=pg by omega)) (λe=>by have:=hob _ e;simp only at this;omega)
 .rcases e with e|e
  .exact .inr (.inl e)
  .exact .inr (.inr ⟨v,hv.c,e⟩)
 .rcases hk with h1|h1|h1|h1|⟨u,hu,hk⟩
  .exact .inl (.inl h1)
  .exact .inl (.inr (.inl h1))
  .exact .inl (.inr (.inr (.inl h1)))
  .exact .inl (.inr (.inr (.inr (.inl h1))))
  .rw[c5]at hu
   obtain rfl:=Az3 hu;rcases hnew k hk with h1|h1
   .exact .inl (.inr (.inr (.inr (.inr ⟨v,hv.c,h1⟩))))
   .exact .inr h1
 .rcases hk with h1|h1|⟨u,hu,hk⟩
  .exact .inl (.inl h1)
  .exact .inl (.inr (.inl h1))
  .rw[c5]at hu
   obtain rfl:=Az3 hu;rcases hnew k hk with h1|h1
   .exact .inl (.inr (.inr ⟨v,hv.c,h1⟩))
   .exact .inr h1
def zN9 (pg gb bx tb:Nat) (w0 w:World) (acc:List (Str×Bool)) (Z:List Int) (e:Ending) (w':World):Prop :=
 Chg (Ct pg tb w) w w'/\((tokG Z=none/\e=tL)\/∃s b r,tokG Z=some ((s,b),r)/\e=.returned (.string s)/\TokSt pg gb bx tb w0 w' (acc++[(s,b)]) r/\(∀k,Tt pg gb bx tb w' k->Tt pg gb bx tb w k\/w.heap.size<=k)/\∀k,Ct pg tb w' k->Ct pg tb w k\/w.heap.size<=k)
theorem zLw {pg gb bx tb:Nat}{w0:World}(w:World) (acc:List (Str×Bool)) (Z:List Int) (h:TokSt pg gb bx tb w0 w acc Z) (hl:acc.length<=16777215):Calls Tryz.prog 105 #[.pointer (some ⟨bx,0,none⟩),.pointer (some ⟨tb,0,none⟩)] w (zN9 pg gb bx tb w0 w acc Z):=by
 have HG:=jh h;have q0:=h.g.c;have HAL:Hd ((acc.map (·.2)).length<=16777215):=jh (by simpa using hl);clear h hl;go_enter Tryz.func105,Tryz.ntmps105
 go_wp2_with fail
 refine (zF3 w Z HG.o.g.g).mono ?_;rintro e w1 ⟨hc,⟨h1,rfl⟩|⟨_,r1,s,h1,rfl,-,rfl,hg⟩⟩
 .exact⟨rfl,hc.mono (λk _ e=>.inl e),.inl ⟨by simp only[tokG,h1],rfl⟩⟩
 simp only[dG];have H1:=jh h1;have HC1:=jh hc;have HG1:=jh hg;clear h1 hc hg q0;go_upto_region 2 with (fail)
 obtain⟨v,hv⟩:=HG.o.f;obtain⟨va,vn,vc,rfl⟩:=hv.own.shape3;have HV:=jh hv;clear hv;have HLT:=jh HG.o.lt;obtain⟨wd,hwd⟩:∃W,w1.drew=W:=⟨_,rfl⟩;have HCD:Hd (Cf w1 wd):=jh (by rw[<-hwd];exact (Chg.refl _ _).drew);have HGD:=jh (HG1.o.fresh HCD.o);have HC1D:Hd (Chg (·=pg) w wd):=jh (HC1.o.trans HCD.o.any);refine zC (λx=>Chg (·=pg) w x) (λi=>decide (6<=i)) kR ?_;show yN _ _ _ _ _ _ 9 (Array.replicate 9 false) _ w1.drew;rw[hwd];clear hwd;have HSS:Hd (Chg (·=pg) w wd):=HC1D;(refine lq 0 HSS.o ?_);(refine lq 1 HSS.o ?_ (hr:=by intro w' hC;have q:=hC.cellS HV.o.c (by have:=HLT.o;show ¬tb=pg;omega);go_simp;try with_reducible rfl));(refine lq 2 HSS.o ?_ (hr:=by intro w' hC;have q:=hC.cellS HG.o.g.c HG.o.g.ne;go_simp;try with_reducible rfl));refine tJ (i:=3) kR rfl rfl 106 #[.pointer (some ⟨pg,0,none⟩),.int .i64 1] (λv w''=>∃(k:Nat) (r2:List Int),numG 1 r1=some ((k:Int),r2)/\v=.int .i64 k/\k<=1/\GetSt pg gb w'' r2/\Chg (·=pg) w w'') (by go_simp) ?_ ?_
 .refine (zFh wd HGD.o).mono ?_
  rintro e w2 ⟨hc,⟨h2,rfl⟩|⟨k,r2,h2,rfl,hk,hg⟩⟩
  .exact .inr ⟨_,rfl,rfl,(HC1D.o.trans hc).mono (λk _ e=>.inl e),.inl ⟨by simp only[tokG,H1.o,h2],rfl⟩⟩
  .exact .inl ⟨_,rfl,λ_=>HC1D.o.trans hc,k,r2,h2,rfl,hk,hg,HC1D.o.trans hc⟩
 rintro v w2-⟨k,r2,h2,rfl,hk,hg,hc⟩ K hK;(try go_simp)
 refine hK _ ?_;clear hK K;have HG2:=jh hg;have HC2:=jh hc;have H2:=jh h2;clear h2 hg hc HSS;have HSS:Hd (Chg (·=pg) w w2):=HC2;obtain⟨b,hb⟩:∃b,decide ((k:Int)=1)=b:=⟨_,rfl⟩;have HF:Hd (tokG Z=some ((s,b),r2)):=jh (by simp only[tokG,H1.o,H2.o,hb]);have hb2:((k:Int) == 1)=b:=hb;have hb3:(k == 1)=b:=by rw[<-hb];rcases (by omega:k=0\/k=1) with rfl|rfl <;> rfl
 have hb4:decide (k=1)=b:=hb3;clear hb;(refine lq 4 HSS.o ?_);clear hb2 hb3 hb4;(refine lt 5 (λ_=>HC2.o.alloc _) ?_);obtain⟨w3,hw3⟩:∃W,W=w2.alloc (.cells #[.bool b] 4):=⟨_,rfl⟩;have HC3:Hd (Cf w2 w3):=jh (by rw[hw3];exact (Chg.refl _ _).alloc _);have HSRC:Hd (Src Tryz.prog aA.sz aA.sl (.slice (some ⟨w2.heap.size,0,none⟩) 1 1) 1 (aA.encs [b]) w3):=jh (by rw[hw3];exact aA.srcLit (Y:=[b]) 1 (λ_ _=>trivial));rw[<-hw3];clear hw3;have HO3:Hd (aA.Own w3 (tb+1) (.slice va vn vc) (acc.map (·.2))):=jh ((HV.o.own.chg HC2.o (λg hg _ e=>by have:=HLT.o;omega)).chg HC3.o (λ_ _ _ h=>h));have HB3:Hd (tb+1<=w3.heap.size):=jh (by have:=HV.o.lt;have:=HC2.o.size;have:=HC3.o.size;omega);refine xE (i:=6) kR rfl rfl (.tmp 7) (.tmp 11) 23 23 rfl (.slice va vn vc) (.slice (some ⟨w2.heap.size,0,none⟩) 1 1) rfl rfl (λv' w4=>aA.Own w4 (tb+1) v' (acc.map (·.2)++[b])/\Chg (λk=>(Value.slice va vn vc).ownBlock=some k) w3 w4/\(v'.ownBlock=(Value.slice va vn vc).ownBlock\/v'.ownBlock=some w3.heap.size)/\∃a n c,v'=.slice a n c) ?_ ?_
 .obtain⟨v',w4,hrun,h1,h2,⟨h3,h4⟩,-⟩:=HO3.o.append HB3.o 23 (.slice (some ⟨w2.heap.size,0,none⟩) 1 1) [b] HSRC.o (λ_ _=>trivial) (by have:=HAL.o;simp at this ⊢;omega) 23
  exact⟨v',w4,hrun,(λh=>absurd h dE),h1,h3,h4,h1.shape3⟩
 rintro v' w4-⟨o1,o2,o3,na,nn,nc,rfl⟩ K hK;obtain⟨⟨k1,k2⟩,hst,hchg,hT,hCC⟩:=TokSt.fin (s:=s) HG.o HV.o (HG2.o.fresh HC3.o) (HC2.o.trans HC3.o.any) o1 o2 (by rcases o3 with o3|o3;exact .inl o3;exact .inr ⟨_,o3,Ay _⟩);have HFIN:Hd (zN9 pg gb bx tb w0 w acc Z (.returned (.string s)) (w4.setCell ⟨tb,2,none⟩ (.slice na nn nc))):=jh ⟨hchg,.inr ⟨s,b,r2,HF.o,rfl,hst,hT,hCC⟩⟩;clear hst hchg hT hCC o1 o2 o3;(try go_simp)
 refine hK _ ?_;clear hK K;(refine lt 7 (λh=>absurd h dE) ?_);(refine ld 8 ?_);refine yA kR ?_ _;clear k1 k2;go_wp2;go_ret
 exact HFIN.o
theorem zPm {pg gb bx tb:Nat}(w:World) (Z:List Int) (h:TokSt pg gb bx tb w w [] Z):Calls Tryz.prog 103 #[.pointer (some ⟨pg,0,none⟩),.func (.func 105) #[] #[.pointer (some ⟨bx,0,none⟩),.pointer (some ⟨tb,0,none⟩)]] w (eJ tokG strE tokR (Ct pg tb) (Tt pg gb bx tb) (TokSt pg gb bx tb w) w Z):=by
 have eg:=enters_of Tryz.func105 kR rfl;refine zRb tokR.good (zTs pg gb bx tb w) _ #[] #[.pointer (some ⟨bx,0,none⟩),.pointer (some ⟨tb,0,none⟩)] tokG eg ?_ w Z h;rw[Array.empty_append];intro w1 acc Z1 hst hl;refine⟨λhn=>(zLw w1 acc Z1 hst hl).mono ?_,λx r hs=>(zLw w1 acc Z1 hst hl).mono ?_⟩
 .rintro e w' ⟨hc,⟨_,rfl⟩|⟨s,b,r,h1,_⟩⟩
  .exact⟨rfl,hc⟩
  .rw[hn]at h1;cases h1
 .rintro e w' ⟨hc,⟨h1,_⟩|⟨s,b,r',h1,rfl,h2,h3,h4⟩⟩
  .rw[hs]at h1;cases h1
  .rw[hs]at h1
   injection h1 with h1;injection h1 with e1 e2;subst e1 e2;exact⟨s,rfl,trivial,rfl,h2,hc,h3,h4⟩
theorem zJ.get3 {β δ:Type}{E:Elt β}{R:Rp β δ}{w:World}{S:Nat->Prop}{a:Option Addr}{n c:Nat}{L:List δ}(h:zJ E R w S (a,n,c) L) (hz:E.sz=3) {k:Nat}(hk:k<L.length) {f:β->List Value}(hf:E.enc=f) :
  ∃(x:β) (d:δ) (g o:Nat),L[k]?=some d/\R w S x d/\a=some ⟨g,o,none⟩/\S g/\g<w.heap.size/\E.ok x/\∀u0 u1 u2,f x=[u0,u1,u2]->w.cell? ⟨g,o+k * 3,none⟩=some u0/\w.cell? ⟨g,o+k * 3+1,none⟩=some u1/\w.cell? ⟨g,o+k * 3+2,none⟩=some u2:=by
 obtain⟨x,d,g,o,h1,h2,h3,h4,h5,h6,h7⟩:=h.get hk;refine⟨x,d,g,o,h1,h2,h3,h4,h5,h6,λu0 u1 u2 he=>?_⟩;rw[<-hf]at he;have c0:=h7 0 u0 (by rw[he];rfl);have c1:=h7 1 u1 (by rw[he];rfl);have c2:=h7 2 u2 (by rw[he];rfl);rw[hz]at c0 c1 c2;exact⟨by simpa using c0,by rw[Av8];exact c1,by rw[Av8];exact c2⟩
theorem Elt.Own.clip {α:Type}{E:Elt α}{w:World}{B:Nat}{v:Value}{X:List α}(h:E.Own w B v X):∃a c,v=.slice a X.length c/\X.length<=c/\E.Own w B (.slice a X.length X.length) X:=by
 rcases h with ⟨rfl,rfl⟩|⟨g,C,rfl,h2,h3,h4,h5⟩
 .exact⟨none,0,rfl,Ay _,.nil _ _⟩
 .refine⟨_,_,rfl,h4.length_le,.inr ⟨g,X,rfl,h2,⟨λj u hj=>?_,h3.z,h3.lt,λx hx=>h3.ok x (h4.subset hx)⟩,Aw6 _,Ay4 h4.length_le h5⟩⟩
  have:=(h3.at' h4).c j u hj;rwa [Ax0]at this
theorem kL:∀(X:List StD) (s:StD) (k:Nat),yL k (X++[s])=yL k X++(if 0<s.2.2.length then [((k+X.length:Nat):Int)] else [])
 | [],s,k=>by
  simp only[Aw7,yL,Aw5,Nat.add_zero]
 | x :: X,s,k=>by
  have h:=kL X s (k+1);rw[Au9];simp only[yL,Ax2];rw[h,show k+1+X.length=k+(X.length+1) by omega]
  split <;> simp
theorem tS:∀(X:List StD) (k:Nat),(yL k X).length<=X.length
 | [],k=>Ay _
 | x :: X,k=>by
  have h:=tS X (k+1);simp only[yL]
  split <;> simp <;> omega
theorem zG0 {L:List StD}{k:Nat}{s:StD}(h:L[k]?=some s):yL 0 (L.take (k+1))=yL 0 (L.take k)++(if 0<s.2.2.length then [(k:Int)] else []):=by
 have hk:=(Az1.1 h).1;rw[Ay1,h,Option.toList_some,kL,Ax1,Nat.min_eq_left oM,Ax0]
structure NLp (b:Nat) (w4 wr:World) (s0 s1 s2 s3 v:Value) (X:List Int):Prop where
 c0:wr.cell? ⟨b,0,none⟩=some s0
 c1:wr.cell? ⟨b,1,none⟩=some s1
 c2:wr.cell? ⟨b,2,none⟩=some s2
 c3:wr.cell? ⟨b,3,none⟩=some s3
 f:Fld intE b 4 wr v X
 chg:Chg (λk=>b<=k) w4 wr
theorem NLp.fresh {b:Nat}{w4 wr w':World}{s0 s1 s2 s3 v:Value}{X:List Int}(h:NLp b w4 wr s0 s1 s2 s3 v X) (hc:Cf wr w'):NLp b w4 w' s0 s1 s2 s3 v X :=
 ⟨hc.cellS h.c0 iD,hc.cellS h.c1 iD,hc.cellS h.c2 iD,hc.cellS h.c3 iD,h.f.chg hc (λ_ _ _ h=>h),h.chg.trans hc.any⟩
theorem NLp.step {b:Nat}{w4 wr w1:World}{s0 s1 s2 s3 v v':Value}{X Y:List Int}(h:NLp b w4 wr s0 s1 s2 s3 v X) (ho:intE.Own w1 (b+1) v' Y) (hc:Chg (λk=>b+1<=k) wr w1) :
  (w1.cell? ⟨b,4,none⟩=some v/\w1.frozen? ⟨b,4,none⟩=false)/\NLp b w4 (w1.setCell ⟨b,4,none⟩ v') s0 s1 s2 s3 v' Y:=by
 obtain⟨h1,h2,h3,h4⟩:=h.f.step ho hc;exact⟨h1,⟨h4 0 _ dE h.c0,h4 1 _ dE h.c1,h4 2 _ dE h.c2,h4 3 _ dE h.c3,h2,h.chg.trans h3⟩⟩
def zPe (pg gb:Nat) (w:World) (Z:List Int) (e:Ending) (w':World):Prop :=
 Chg (·=pg) w w'/\((netG Z=none/\e=tL)\/∃n r m,netG Z=some (n,r)/\e=.returned (netV m)/\NetIn w' (λk=>w.heap.size<=k) m n/\GetSt pg gb w' r/\n.d.length<=16777215)
theorem zRv {pg gb:Nat}(w:World) (Z:List Int) (h:GetSt pg gb w Z):Calls Tryz.prog 108 #[.pointer (some ⟨pg,0,none⟩)] w (zPe pg gb w Z):=by
 have HG:=jh h;clear h;have hmf:=mkfn;go_enter Tryz.func108,Tryz.ntmps108
 go_upto_region 1 with (fail)
 obtain⟨w0,hw0⟩:∃W,W=w.alloc (.cells #[.slice none 0 0,.slice none 0 0,.slice none 0 0,.slice none 0 0,.slice none 0 0] 31):=⟨_,rfl⟩;rw[<-hw0];have HCL:Hd (∀S w',Chg S w0 w'->¬S w.heap.size->∀j,j<5->w'.cell? ⟨w.heap.size,j,none⟩=some (.slice none 0 0)/\w'.frozen? ⟨w.heap.size,j,none⟩=false) :=
  jh λS w' hc hs j hj=>by
   subst hw0;refine⟨hc.cellS (p:=⟨w.heap.size,j,none⟩) ?_ hs,(hc.frozen (p:=⟨w.heap.size,j,none⟩) sI hs).trans (Az8 _ _ _ _)⟩;rw[Az7];rcases (by omega:j=0\/j=1\/j=2\/j=3\/j=4) with rfl|rfl|rfl|rfl|rfl <;> rfl
 have HC0:Hd (Cf w w0):=jh (by rw[hw0];exact (Chg.refl _ w).alloc _);have HW0:Hd (w0.heap.size=w.heap.size+1):=jh (by rw[hw0];simp);have HPG:Hd (pg<w.heap.size/\gb<w.heap.size):=jh ⟨HG.o.lt,HG.o.lb⟩;clear hw0;go_wp2_with fail
 refine (zJ8 w0 Z (HG.o.fresh HC0.o)).mono ?_;rintro e w1 ⟨hc1,⟨h1,rfl⟩|⟨L,r1,a1,h1,rfl,hL,hg1,hl1⟩⟩
 .exact⟨rfl,HC0.o.any.trans hc1,.inl ⟨by simp only[netG,h1],rfl⟩⟩
 have H1:=jh h1;have HC1:=jh hc1;have HL:=jh hL;have HLL:=jh hl1;clear h1 hc1 hL hl1;go_wp2_with fail
 refine (zA8 w1 _ hg1).mono ?_;rintro e w2 ⟨hc2,⟨h2,rfl⟩|⟨M1,r2,a2,h2,rfl,hM1,hg2,-⟩⟩
 .exact⟨rfl,HC0.o.any.trans (HC1.o.trans hc2),.inl ⟨by simp only[netG,H1.o,h2],rfl⟩⟩
 have H2:=jh h2;have HC2:=jh hc2;have HM1:=jh hM1.to;clear h2 hc2 hM1 hg1;go_wp2_with fail
 refine (zA8 w2 _ hg2).mono ?_;rintro e w3 ⟨hc3,⟨h3,rfl⟩|⟨M2,r3,a3,h3,rfl,hM2,hg3,-⟩⟩
 .exact⟨rfl,HC0.o.any.trans (HC1.o.trans (HC2.o.trans hc3)),.inl ⟨by simp only[netG,H1.o,H2.o,h3],rfl⟩⟩
 have H3:=jh h3;have HC3:=jh hc3;have HM2:=jh hM2.to;clear h3 hc3 hM2 hg2;go_wp2_with fail
 refine (zA8 w3 _ hg3).mono ?_;rintro e w4 ⟨hc4,⟨h4,rfl⟩|⟨M3,r4,a4,h4,rfl,hM3,hg4,-⟩⟩
 .exact⟨rfl,HC0.o.any.trans (HC1.o.trans (HC2.o.trans (HC3.o.trans hc4))),.inl ⟨by simp only[netG,H1.o,H2.o,H3.o,h4],rfl⟩⟩
 have HF:Hd (netG Z=some (⟨L,M1,M2,M3,qE L⟩,r4)):=jh (by simp only[netG,H1.o,H2.o,H3.o,h4]);have HC04:Hd (Chg (·=pg) w0 w4):=jh (HC1.o.trans (HC2.o.trans (HC3.o.trans hc4)));have HSZ:Hd (w.heap.size+1<=w1.heap.size/\w1.heap.size<=w2.heap.size/\w2.heap.size<=w3.heap.size/\w3.heap.size<=w4.heap.size):=jh ⟨by have:=HC1.o.size;have:=HW0.o;omega,HC2.o.size,HC3.o.size,hc4.size⟩;have HNI:Hd (NetIn w4 (λk=>w.heap.size+1<=k/\k<w4.heap.size) ⟨(a1,L.length,L.length),(a2,M1.length,M1.length),(a3,M2.length,M2.length),(a4,M3.length,M3.length),(none,0,0)⟩ ⟨L,M1,M2,M3,[]⟩):=jh (by
  have hp:=HPG.o;have hs:=HSZ.o;have hw:=HW0.o;refine⟨(zJ.good stR.good).mono ((zJ.good stR.good).chg HL.o (HC2.o.trans (HC3.o.trans hc4)) (λg hg e=>oM)) (λg hg hs=>⟨oM,hg⟩),((HM1.o.chg (HC3.o.trans hc4) (λg hg e=>oM)).mono (λg hg hs=>⟨oM,hg⟩)),((HM2.o.chg hc4 (λg hg e=>oM)).mono (λg hg hs=>⟨oM,hg⟩)),(hM3.to.mono (λg hg hs=>⟨oM,hg⟩)),.nil _ _ _⟩)
 have HG4:=jh hg4;clear hc4 h4 hM3 hg3 hg4 HL HM1 HM2;obtain⟨wb,hwb⟩:∃W,W=w4.alloc (.cells #[.slice a1 L.length L.length,.slice a2 M1.length M1.length,.slice a3 M2.length M2.length,.slice a4 M3.length M3.length,.slice none 0 0] 31):=⟨_,rfl⟩;have HLP0:Hd (NLp w4.heap.size w4 wb (.slice a1 L.length L.length) (.slice a2 M1.length M1.length) (.slice a3 M2.length M2.length) (.slice a4 M3.length M3.length) (.slice none 0 0) []):=jh (by
  rw[hwb];refine⟨?_,?_,?_,?_,⟨?_,Az8 _ _ _ _,.nil _ _⟩,(Chg.refl _ w4).alloc _⟩ <;> · rw[Az7];rfl)
 have q0:=HLP0.o.c0;go_upto_region 2 with (fail)
 rw[<-hwb];clear hwb;go_wp2;clear q0
 go_loopw [26] (λq wr=>∃(k:Nat) (v:Value),k<=L.length/\q=.int .i64 k/\NLp w4.heap.size w4 wr (.slice a1 L.length L.length) (.slice a2 M1.length M1.length) (.slice a3 M2.length M2.length) (.slice a4 M3.length M3.length) v (yL 0 (L.take k))) (λq _=>L.length-(intOf q).toNat)
 case atStart=>exact⟨0,_,oM,rfl,HLP0.o⟩
 case round =>
  clear HLP0;obtain⟨k,v,hk,rfl,hlp⟩:=hrel;obtain⟨va,vn,vc,rfl⟩:=hlp.f.own.shape3;have HLP:=jh hlp;by_cases hkl:k<L.length
  .have b9:decide ((k:Int)<(L.length:Int))=true:=by simp;omega
   have hkb:k<16777215:=(by have:=HLL.o;omega);have HIN:=jh ((zJ.good stR.good).chg HNI.o.st hlp.chg (λg hg e=>oM));clear hlp;obtain⟨x,d,g,o,hd,hx,ha,hS,hgl,-,hcells⟩:=HIN.o.get3 (f:=jA) rfl hkl rfl;obtain⟨xr,⟨ea,en,ec⟩,⟨da,dn,dc⟩⟩:=x;obtain⟨dr,de,dd⟩:=d;obtain⟨x0,x1,x2⟩:=hcells _ _ _ rfl;obtain⟨-,-,-,hdd⟩:=hx;obtain⟨rfl,hdc⟩:=hdd.len;simp only at hdc x2;subst ha;unfold slV at x1 x2;simp only at x1 x2;have HDT:Hd (yL 0 (L.take (k+1))=yL 0 (L.take k)++(if 0<dd.length then [(k:Int)] else [])):=jh (zG0 hd);have HW:Hd (NLp w4.heap.size w4 (wr.alloc (.cells #[.int .i64 xr,.slice ea en ec,.slice da dd.length dc] 74)) (.slice (some ⟨g,o,none⟩) L.length L.length) (.slice a2 M1.length M1.length) (.slice a3 M2.length M2.length) (.slice a4 M3.length M3.length) (.slice va vn vc) (yL 0 (L.take k))):=jh (HLP.o.fresh ((Chg.refl _ _).alloc _));clear hd hdd HLP;by_cases hdl:0<dd.length
   .have b2:decide (0<dd.length)=true:=decide_eq_true hdl
    rw[if_pos hdl]at HDT;have HXL:Hd ((yL 0 (L.take k)).length<=16777215):=jh (by have:=tS (L.take k) 0;rw[Ax1]at this;have:=HLL.o;omega);have HY:Hd (∀x∈[(k:Int)],intE.ok x):=jh (λa ha=>by rw[Ay3]at ha;rw[ha];have:=HLL.o;exact⟨oM,oM⟩);obtain⟨w5,hw5⟩:∃W,W=wr.alloc (.cells #[.int .i64 xr,.slice ea en ec,.slice da dd.length dc] 74):=⟨_,rfl⟩;have HSRC:Hd (Src Tryz.prog intE.sz intE.sl (.slice (some ⟨w5.heap.size,0,none⟩) 1 1) 1 (intE.encs [(k:Int)]) (w5.alloc (.cells #[.int .i64 k] 3))):=jh (intE.srcLit (Y:=[(k:Int)]) 1 HY.o);have q5:w5.cell? ⟨w4.heap.size,4,none⟩=some (.slice va vn vc):=(by rw[hw5];exact HW.o.f.c);rw[<-hw5]at HW;have HSW:Hd (w4.heap.size+1<=w5.heap.size):=jh (by have:=HW.o.f.lt;omega);go_upto_region 6 with (fail)
    rw[<-hw5];clear hw5;go_wp2_with (at_builtin;refine Elt.wpList_append intE rfl _ _ 25 25 rfl rfl (w4.heap.size+1) (.slice va vn vc) (yL 0 (L.take k)) [(k:Int)] (.slice (some ⟨w5.heap.size,0,none⟩) 1 1) rfl rfl (HW.o.f.own.chg ((Chg.refl (λ_=>False) _).alloc _) (λ_ _ _ h=>h)) (by have:=HSW.o;simp;omega) HSRC.o HY.o (by have:=HXL.o;simp;omega) ?_;intro v' w6 HO6 HC6 HN6;clear HN6;obtain⟨na,nn,nc,rfl⟩:=HO6.o.shape3;obtain⟨⟨k1,k2⟩,hn⟩:=HW.o.step HO6.o (((Chg.refl _ w5).alloc _).trans HC6.o);have HN:=jh hn;clear hn)
    rw[<-HDT.o]at HN;go_roundw
    case rel=>exact⟨k+1,_,oM,by go_num,HN.o⟩
    case measure=>simp[intOf];omega
   .have b2:decide (0<dd.length)=false:=decide_eq_false hdl
    rw[if_neg hdl,Av4]at HDT;rw[<-HDT.o]at HW;go_wp2;go_roundw
    case rel=>exact⟨k+1,_,oM,by go_num,HW.o⟩
    case measure=>simp[intOf];omega
  .obtain rfl:k=L.length:=oM
   have b9:decide ((L.length:Int)<(L.length:Int))=false:=sI;rw[Ay5]at HLP hlp;obtain⟨a',c',hv,hac,hcl⟩:∃a c,Value.slice va vn vc=.slice a (yL 0 L).length c/\(yL 0 L).length<=c/\intE.Own wr (w4.heap.size+1) (.slice a (yL 0 L).length (yL 0 L).length) (yL 0 L):=HLP.o.f.own.clip;injection hv with e1 e2 e3;subst e1 e2 e3;have q4:=hlp.f.c;have z4:=hlp.f.z;obtain⟨hcl1,HS5⟩:=hlp.step hcl cR;have HS:=jh HS5;clear hlp hcl1;have HCW:Hd (Chg (λk=>k=pg\/w4.heap.size<=k) w0 (wr.setCell ⟨w4.heap.size,4,none⟩ (.slice va (yL 0 L).length (yL 0 L).length))):=jh ((HC04.o.mono (λk _ e=>.inl e)).trans (HS5.chg.mono (λk _ e=>.inr e)));have HDL:Hd ((yL 0 L).length<=16777215):=jh (by have:=tS L 0;have:=HLL.o;omega);obtain⟨D,hD⟩:∃D,yL 0 L=D:=⟨_,rfl⟩;have HD:=jh hD;rw[hD]at hac HS HCW HDL HLP q4 hcl HS5;clear hD HLP HS5;go_wp2_with fail
   refine (zBf wr va D.length vc hac).mono ?_;rintro e w5 ⟨rfl,rfl⟩;go_upto_region 9 with (fail)
   obtain⟨w6,hw6⟩:∃W,W=wr.setCell ⟨w4.heap.size,4,none⟩ (.slice va D.length D.length):=⟨_,rfl⟩;rw[<-hw6]at HS HCW ⊢;clear hw6 q4 z4;obtain⟨p0,p1,p2,p3,⟨p4,pz,ho⟩,hch⟩:=HS.o;have HR:=HCL.o _ w6 HCW.o (by have:=HPG.o;have:=HSZ.o;show ¬(w.heap.size=pg\/w4.heap.size<=w.heap.size);omega);have r0:=(HR 0 oM).1;have r1':=(HR 1 oM).1;have r2':=(HR 2 oM).1;have r3':=(HR 3 oM).1;have r4':=(HR 4 oM).1;have y0:=(HR 0 oM).2;have y1:=(HR 1 oM).2;have y2:=(HR 2 oM).2;have y3:=(HR 3 oM).2;have y4:=(HR 4 oM).2;obtain⟨k1,-,k3,-⟩:=uC w.heap.size [.slice a1 L.length L.length,.slice a2 M1.length M1.length,.slice a3 M2.length M2.length,.slice a4 M3.length M3.length,.slice va D.length D.length] 0 w6 (λj hj=>by
    rw[Ax0,(HR j (by simpa using hj)).1];rfl)
   have s0:=k1 0 _ rfl;have s1:=k1 1 _ rfl;have s2:=k1 2 _ rfl;have s3:=k1 3 _ rfl;have s4:=k1 4 _ rfl;have hcall:=HCW.o;have HFIN:Hd (zPe pg gb w Z (.returned (netV ⟨(a1,L.length,L.length),(a2,M1.length,M1.length),(a3,M2.length,M2.length),(a4,M3.length,M3.length),(va,D.length,D.length)⟩)) (xQ w.heap.size 0 [.slice a1 L.length L.length,.slice a2 M1.length M1.length,.slice a3 M2.length M2.length,.slice a4 M3.length M3.length,.slice va D.length D.length] w6)):=jh (by
    have hs:=HSZ.o;have hp:=HPG.o;have hw:=HW0.o;refine⟨(HC0.o.any.trans2 hcall (λk hk e=>by rcases e with e|e;exact e;omega)).trans2 k3 (λk hk e=>oM),.inr ⟨_,_,_,HF.o,rfl,?_,(HG4.o.chg hch oM oM).chg k3 oM oM,?_⟩⟩
    .have h1:=NetIn.good.mono (NetIn.good.chg (NetIn.good.chg HNI.o hch (λg hg e=>oM)) k3 (λg hg e=>oM)) (S':=λk=>w.heap.size<=k) (λg _ hg=>by show w.heap.size<=g;omega)
     refine⟨h1.st,h1.s,h1.p,h1.q,?_⟩;have h2:=(ho.chg k3 (λg hg _ e=>oM)).in' (c':=D.length) (Ay _);rw[show qE L=D from HD.o];exact (Elt.In.inS h2).mono (λg _ hg=>by show w.heap.size<=g;omega)
    .rw[show qE L=D from HD.o];exact HDL.o)
   simp only[xQ,Ax0]at s0 s1 s2 s3 s4 HFIN;clear k1 k3 HR hcall ho hch;go_wp2;exact bodyPost_ret (v:=.agg #[.slice a1 L.length L.length,.slice a2 M1.length M1.length,.slice a3 M2.length M2.length,.slice a4 M3.length M3.length,.slice va D.length D.length]) (by simp[results,Tryz.results108,go_sem,s0,s1,s2,s3,s4]) rfl HFIN.o
end Go.Proofs.YtgnpmceimpjheaaGreat
namespace Go.Proofs.YtgnpmceimpjheaaGreat
section
variable {P:Program}{ops:Array Oper}{Q:Exit->Act->World->Prop}{md:Region.Mode}{S:World->Prop}
theorem kG {i:Nat}{oi:Oper}{fuel:Nat}{listed:Array Bool}{a:Act}{w:World}(hi:ops[i]?=some oi)
  (hs:Region.noSelect ops=true) (hf:Region.free md ops listed i=true) (hr:(Region.ready md ops listed).contains i=true)
  (hQ:∀v c a w,Q (.panic c) (a.put oi.dst v) w->Q (.panic c) a w) (hw:Region.wanted oi (yielded ops a.tmps)=true) (hS:S w)
  (h:∀K:Act->Prop,(∀a,wpAnyH P md ops Q S fuel (listed.setIfInBounds i true) a w->K a)->∃v,(∀w',S w'->(execOp a.eval oi).run P w'=.ok (.value v) w')/\K (a.put oi.dst v)) :
  wpAnyH P md ops Q S (fuel+1) listed a w:=by
 obtain⟨v,hrun,hK⟩:=h _ iE;exact wpAnyH_take hi hs hf hr (hQ v) (.inl ⟨hw,hrun⟩) hS hK
theorem zJ0 {i:Nat}{oi:Oper}{a:Act}{w:World}{v:Value}{K:Act->World->Prop}(hi:ops[i]?=some oi) (hw:Region.wanted oi (yielded ops a.tmps)=true)
  (hrun:(execOp a.eval oi).run P w=.ok (.value v) w) (h:K (a.put oi.dst v) w):wpOp P ops Q i K a w:=by
 unfold Go.wpOp;simp only[hi,hw,if_true,Oper.wp,hrun,Oper.upon];exact .inl h
theorem zJp {i:Nat}{oi:Oper}{fuel:Nat}{listed:Array Bool}{a:Act}{w:World}(hr:Region.ready md ops listed=[i]) (hi:ops[i]?=some oi)
  (hw:Region.wanted oi (yielded ops a.tmps)=true) (hS:S w)
  (h:∀K:Act->Prop,(∀a,wpAnyH P md ops Q S fuel (listed.setIfInBounds i true) a w->K a)->∃v,(execOp a.eval oi).run P w=.ok (.value v) w/\K (a.put oi.dst v)) :
  wpAnyH P md ops Q S (fuel+1) listed a w:=by
 obtain⟨v,hrun,hK⟩:=h _ iE;exact wpAnyH_all hr sI (λj hj=>by
  obtain rfl:j=i:=by simpa using hj
  exact zJ0 hi hw hrun ⟨hS,hK⟩)
theorem zCw {i:Nat}{oi:Oper}{fuel:Nat}{listed:Array Bool}{a:Act}{w:World}(hr:Region.ready md ops listed=[i]) (hi:ops[i]?=some oi)
  (hw:Region.wanted oi (yielded ops a.tmps)=true) (f:FuncId) (args:Array Value) (R:Value->World->Prop) (hrun:(execOp a.eval oi).run P w=.ok (.enter f args) w)
  (hcall:Calls P f args w (λe w''=>∃v,e=.returned v/\S w''/\R v w''))
  (h:∀v w'',S w''->R v w''->∀K:Act->Prop,(∀a,wpAnyH P md ops Q S fuel (listed.setIfInBounds i true) a w''->K a)->K (a.put oi.dst v)) :
  wpAnyH P md ops Q S (fuel+1) listed a w :=
 wpAnyH_all hr sI (λj hj=>by
  obtain rfl:j=i:=by simpa using hj
  unfold Go.wpOp;simp only[hi,hw,if_true,Oper.wp,hrun,Oper.upon];refine .inl (hcall.mono λe w'' ⟨v,he,hS,hR⟩=>?_);subst he;exact⟨hS,h v w'' hS hR _ iE⟩)
end
end Go.Proofs.YtgnpmceimpjheaaGreat
namespace Go.Proofs.YtgnpmceimpjheaaGreat
open Go.RowKit
structure RdAt (w:World) (b:Nat) (v:Value) (s:Rd):Prop where
 c0:w.cell? ⟨b,0,none⟩=some v
 c1:w.cell? ⟨b,1,none⟩=some (.int .i64 s.1)
 c2:w.cell? ⟨b,2,none⟩=some (.bool s.2)
 z:∀j,w.frozen? ⟨b,j,none⟩=false
theorem RdAt.lt {w:World}{b:Nat}{v:Value}{s:Rd}(h:RdAt w b v s):b<w.heap.size:=Az6 _ _ h.c0
theorem RdAt.chg {S:Nat->Prop}{w w':World}{b:Nat}{v:Value}{s:Rd}(h:RdAt w b v s) (hc:Chg S w w') (hs:¬S b):RdAt w' b v s :=
 ⟨hc.cellS h.c0 hs,hc.cellS h.c1 hs,hc.cellS h.c2 hs,λj=>(hc.frozen (p:=⟨b,j,none⟩) h.lt hs).trans (h.z j)⟩
theorem RdAt.bad {w:World}{b:Nat}{v:Value}{s:Rd}(h:RdAt w b v s):RdAt (w.setCell ⟨b,2,none⟩ (.bool true)) b v (s.1,true) :=
 ⟨Chg.cellNe h.c0 (by intro e;injection e with _ e;cases e),Chg.cellNe h.c1 (by intro e;injection e with _ e;cases e),Az9 _ _ _ h.c2,λj=>(Az4 _ _ _ _).trans (h.z j)⟩
theorem RdAt.step {w:World}{b:Nat}{v:Value}{s:Rd}(h:RdAt w b v s) (n:Nat):RdAt (w.setCell ⟨b,1,none⟩ (.int .i64 n)) b v (n,s.2) :=
 ⟨Chg.cellNe h.c0 (by intro e;injection e with _ e;cases e),Az9 _ _ _ h.c1,Chg.cellNe h.c2 (by intro e;injection e with _ e;cases e),λj=>(Az4 _ _ _ _).trans (h.z j)⟩
theorem zE9 {Z:List Int}{m:Nat}{s:Rd}(h:Z.length<=s.1):numP Z m s=(0,s.1,true):=by
 unfold numP;rw[List.drop_eq_nil_of_le h]
 rfl
theorem BytesAt.drop {w:World}{g o k:Nat}{Z:List Int}(h:BytesAt w g o Z):BytesAt w g (o+k) (Z.drop k) :=
 ⟨λj a hj=>by
  rw[List.getElem?_drop]at hj;have:=h.c (k+j) a hj;rwa [<-Av8]at this,λhne=>h.lt (by intro e;rw[e]at hne;simp at hne)⟩
theorem zP4 (Z:List Int) (g o c b m:Nat) (s:Rd) (w:World) (hz:BytesAt w g o Z) (hc:s.1<c) (hcz:Z.length<=c) (hl:Z.length<=100000000) (hs:s.1<=Z.length) (hm:m<4294967296) (hr:RdAt w b (.slice (some ⟨g,o,none⟩) Z.length c) s) :
  Calls Tryz.prog 186 #[.pointer (some ⟨b,0,none⟩),.int .i64 m] w λe w'=>e=.returned (.int .i64 (numP Z m s).1)/\RdAt w' b (.slice (some ⟨g,o,none⟩) Z.length c) (numP Z m s).2/\Chg (λj=>j=b) w w':=by
 obtain⟨at',wr⟩:=s;have HZ:=jh hz;have HR:=jh hr;simp only at hc hs;have hwm:IntKind.u32.wrap (m:Int)=m:=by simp[IntKind.wrap,IntKind.bits,IntKind.signed];omega
 cases hT:sY 0 0 (Z.drop at') with
 | none =>
  have HNP:Hd (numP Z m (at',wr)=(0,at',true)):=jh (by unfold numP;simp only[hT]);have HTK:Hd (∀w',Cf w w'->Calls Tryz.prog 141 #[.slice (some ⟨g,o+at',none⟩) (Z.length-at') (c-at')] w' λe w''=>e=.returned (.tuple #[.int .u32 0,.int .i64 0,.int .i64 4])/\Cf w' w''):=jh (λw' hc'=>by
   have:=gW (Z.drop at') (some ⟨g,o+at',none⟩) g (o+at') (c-at') w' (HZ.o.drop.chg hc' iE) (λ_=>rfl) (by rw[Av6];omega) (by rw[Av6];omega);rw[hT]at this;rwa [Av6]at this)
  have hi8:(at':Int)<=(Z.length:Int):=oM
  have hi9:¬c=at':=oM
  have HSZ:=jh hs;clear hz hr;clear hT;go_enter Tryz.func186,Tryz.ntmps186
  go_upto_region 1 with (fail)
  refine ws (λw'=>Cf w w') ?_;(iterate 3 (refine rq ?_));(refine rq ?_ (by intro _ w' _ hC;have q:=hC.cellS HR.o.c0 iD;go_simp;try with_reducible rfl));(iterate 3 (refine rq ?_));(refine rq ?_ (by intro _ w' _ hC;have q:=hC.cellS HR.o.c1 iD;go_simp;try with_reducible rfl));(refine rq ?_)
  refine yS rfl (.tuple #[.int .u32 0,.int .i64 0,.int .i64 4] )  141  ( #[.slice (some ⟨g,o+at',none⟩) (Z.length-at') (c-at')]) (λw'=>by go_simp) (λ_ w' _ hC=>?_) (λK hK=>?_)
  .refine (HTK.o w' hC).mono ?_
   rintro e w1 ⟨rfl,h2⟩;exact⟨rfl,hC.trans h2⟩
  ((try go_simp);refine hK _ ?_;clear hK K)
  iterate 7 (refine rq ?_)
  refine zQ ?_;intro w1 hC1;have HC1:=jh hC1;have HR1:=jh (HR.o.chg hC1 iD);have c0:=HR1.o.c0;have c1:=HR1.o.c1;have c2:=HR1.o.c2;have z1:=HR1.o.z 1;have z2:=HR1.o.z 2;clear hC1;go_wp2;go_ret
  rw[HNP.o];exact⟨rfl,HR1.o.bad,HC1.o.any.trans (zA _ _ _ _)⟩
 | some p =>
  obtain⟨n,k⟩:=p;have h9:=bA hT;rw[Av6]at h9;obtain⟨h91,h92,h93⟩:=h9;have HTK:Hd (∀w',Cf w w'->Calls Tryz.prog 141 #[.slice (some ⟨g,o+at',none⟩) (Z.length-at') (c-at')] w' λe w''=>e=.returned (.tuple #[.int .u32 n,.int .i64 k,.int .i64 0])/\Cf w' w''):=jh (λw' hc'=>by
   have:=gW (Z.drop at') (some ⟨g,o+at',none⟩) g (o+at') (c-at') w' (HZ.o.drop.chg hc' iE) (λ_=>rfl) (by rw[Av6];omega) (by rw[Av6];omega);rw[hT]at this;rwa [Av6]at this)
  by_cases hnm:n<=m
  .have HNP:Hd (numP Z m (at',wr)=(n,at'+k,wr)):=jh (by unfold numP;simp only[hT];rw[if_pos hnm])
   have b28:decide ((m:Int)<(n:Int))=false:=sO;have hi8:(at':Int)<=(Z.length:Int):=oM;have hi9:¬c=at':=oM;have HSZ:=jh hs;clear hz hr;clear hT;go_enter Tryz.func186,Tryz.ntmps186
   go_upto_region 1 with (fail)
   refine ws (λw'=>Cf w w') ?_;(iterate 3 (refine rq ?_));(refine rq ?_ (by intro _ w' _ hC;have q:=hC.cellS HR.o.c0 iD;go_simp;try with_reducible rfl));(iterate 3 (refine rq ?_));(refine rq ?_ (by intro _ w' _ hC;have q:=hC.cellS HR.o.c1 iD;go_simp;try with_reducible rfl));(refine rq ?_)
   refine yS rfl (.tuple #[.int .u32 n,.int .i64 k,.int .i64 0] )  141  ( #[.slice (some ⟨g,o+at',none⟩) (Z.length-at') (c-at')]) (λw'=>by go_simp) (λ_ w' _ hC=>?_) (λK hK=>?_)
   .refine (HTK.o w' hC).mono ?_
    rintro e w1 ⟨rfl,h2⟩;exact⟨rfl,hC.trans h2⟩
   ((try go_simp);refine hK _ ?_;clear hK K)
   iterate 7 (refine rq ?_)
   refine zQ ?_;intro w1 hC1;have HC1:=jh hC1;have HR1:=jh (HR.o.chg hC1 iD);have c0:=HR1.o.c0;have c1:=HR1.o.c1;have c2:=HR1.o.c2;have z1:=HR1.o.z 1;have z2:=HR1.o.z 2;clear hC1;go_wp2;go_ret
   rw[HNP.o];exact⟨by go_num,by have:=HR1.o.step (at'+k);simpa using this,HC1.o.any.trans (by have:=zA w1 b 1 (.int .i64 ((at'+k:Nat):Int));simpa using this)⟩
  .have HNP:Hd (numP Z m (at',wr)=(0,at',true)):=jh (by unfold numP;simp only[hT];rw[if_neg hnm])
   have b28:decide ((m:Int)<(n:Int))=true:=sO;have hi8:(at':Int)<=(Z.length:Int):=oM;have hi9:¬c=at':=oM;have HSZ:=jh hs;clear hz hr;clear hT;go_enter Tryz.func186,Tryz.ntmps186
   go_upto_region 1 with (fail)
   refine ws (λw'=>Cf w w') ?_;(iterate 3 (refine rq ?_));(refine rq ?_ (by intro _ w' _ hC;have q:=hC.cellS HR.o.c0 iD;go_simp;try with_reducible rfl));(iterate 3 (refine rq ?_));(refine rq ?_ (by intro _ w' _ hC;have q:=hC.cellS HR.o.c1 iD;go_simp;try with_reducible rfl));(refine rq ?_)
   refine yS rfl (.tuple #[.int .u32 n,.int .i64 k,.int .i64 0] )  141  ( #[.slice (some ⟨g,o+at',none⟩) (Z.length-at') (c-at')]) (λw'=>by go_simp) (λ_ w' _ hC=>?_) (λK hK=>?_)
   .refine (HTK.o w' hC).mono ?_
    rintro e w1 ⟨rfl,h2⟩;exact⟨rfl,hC.trans h2⟩
   ((try go_simp);refine hK _ ?_;clear hK K)
   iterate 7 (refine rq ?_)
   refine zQ ?_;intro w1 hC1;have HC1:=jh hC1;have HR1:=jh (HR.o.chg hC1 iD);have c0:=HR1.o.c0;have c1:=HR1.o.c1;have c2:=HR1.o.c2;have z1:=HR1.o.z 1;have z2:=HR1.o.z 2;clear hC1;go_wp2;go_ret
   rw[HNP.o];exact⟨rfl,HR1.o.bad,HC1.o.any.trans (zA _ _ _ _)⟩
theorem zJm (Z:List Int) (g o c b m:Nat) (sp) (s:Rd) (w:World) (hc:c=s.1/\s.1=Z.length) (_hl:Z.length<=100000000) (hs:s.1<=Z.length) (hm:m<4294967296) (hr:RdAt w b (.slice (some ⟨g,o,sp⟩) Z.length c) s) :
  Calls Tryz.prog 186 #[.pointer (some ⟨b,0,none⟩),.int .i64 m] w λe w'=>e=.returned (.int .i64 (numP Z m s).1)/\RdAt w' b (.slice (some ⟨g,o,sp⟩) Z.length c) (numP Z m s).2/\Chg (λj=>j=b) w w':=by
 obtain⟨at',wr⟩:=s;simp only at hc hs;obtain⟨rfl,rfl⟩:=hc;have HR:=jh hr;have hwm:IntKind.u32.wrap (m:Int)=m:=by simp[IntKind.wrap,IntKind.bits,IntKind.signed];omega
 have HTK:Hd (∀w',Cf w w'->Calls Tryz.prog 141 #[.slice (some ⟨g,o,sp⟩) 0 0] w' λe w''=>e=.returned (.tuple #[.int .u32 0,.int .i64 0,.int .i64 4])/\Cf w' w''):=jh (λw' hc'=>by
  have:=gW [] (some ⟨g,o,sp⟩) 0 0 0 w' ⟨λk a hk=>by simp at hk,λh=>absurd rfl h⟩ (λh=>absurd h sI) (Av _) (Av _);exact this)
 have HNP:Hd (numP Z m (Z.length,wr)=(0,Z.length,true)):=jh (zE9 (Ay _));clear hr;go_enter Tryz.func186,Tryz.ntmps186
 go_upto_region 1 with (fail)
 refine ws (λw'=>Cf w w') ?_;(iterate 3 (refine rq ?_));(refine rq ?_ (by intro _ w' _ hC;have q:=hC.cellS HR.o.c0 iD;go_simp;try with_reducible rfl));(iterate 3 (refine rq ?_));(refine rq ?_ (by intro _ w' _ hC;have q:=hC.cellS HR.o.c1 iD;go_simp;try with_reducible rfl));(refine rq ?_)
 refine yS rfl (.tuple #[.int .u32 0,.int .i64 0,.int .i64 4] )  141  ( #[.slice (some ⟨g,o,sp⟩) 0 0]) (λw'=>by go_simp) (λ_ w' _ hC=>?_) (λK hK=>?_)
 .refine (HTK.o w' hC).mono ?_
  rintro e w1 ⟨rfl,h2⟩;exact⟨rfl,hC.trans h2⟩
 ((try go_simp);refine hK _ ?_;clear hK K)
 iterate 7 (refine rq ?_)
 refine zQ ?_;intro w1 hC1;have HC1:=jh hC1;have HR1:=jh (HR.o.chg hC1 iD);have c0:=HR1.o.c0;have c1:=HR1.o.c1;have c2:=HR1.o.c2;have z1:=HR1.o.z 1;have z2:=HR1.o.z 2;clear hC1;go_wp2;go_ret
 rw[HNP.o];exact⟨rfl,HR1.o.bad,HC1.o.any.trans (zA _ _ _ _)⟩
theorem zP2 (Z:List Int) (g o c b m:Nat) (sp) (s:Rd) (w:World) (hc:Z=[]/\s.1=0/\0<c) (_hl:Z.length<=100000000) (hs:s.1<=Z.length) (hm:m<4294967296) (hr:RdAt w b (.slice (some ⟨g,o,sp⟩) Z.length c) s) :
  Calls Tryz.prog 186 #[.pointer (some ⟨b,0,none⟩),.int .i64 m] w λe w'=>e=.returned (.int .i64 (numP Z m s).1)/\RdAt w' b (.slice (some ⟨g,o,sp⟩) Z.length c) (numP Z m s).2/\Chg (λj=>j=b) w w':=by
 obtain⟨at',wr⟩:=s;simp only at hc hs;obtain⟨rfl,rfl,hc⟩:=hc;have hi9:¬c=0:=oM
 have HR:=jh hr;have hwm:IntKind.u32.wrap (m:Int)=m:=by simp[IntKind.wrap,IntKind.bits,IntKind.signed];omega
 have HTK:Hd (∀w',Cf w w'->Calls Tryz.prog 141 #[.slice (some ⟨g,o,sp⟩) 0 c] w' λe w''=>e=.returned (.tuple #[.int .u32 0,.int .i64 0,.int .i64 4])/\Cf w' w''):=jh (λw' hc'=>by
  have:=gW [] (some ⟨g,o,sp⟩) 0 0 c w' ⟨λk a hk=>by simp at hk,λh=>absurd rfl h⟩ (λh=>absurd h sI) (Av _) (Av _);exact this)
 have HNP:Hd (numP [] m (0,wr)=(0,0,true)):=jh (zE9 (Ay _));clear hr;go_enter Tryz.func186,Tryz.ntmps186
 go_upto_region 1 with (fail)
 refine ws (λw'=>Cf w w') ?_;(iterate 3 (refine rq ?_));(refine rq ?_ (by intro _ w' _ hC;have q:=hC.cellS HR.o.c0 iD;go_simp;try with_reducible rfl));(iterate 3 (refine rq ?_));(refine rq ?_ (by intro _ w' _ hC;have q:=hC.cellS HR.o.c1 iD;go_simp;try with_reducible rfl));(refine rq ?_)
 refine yS rfl (.tuple #[.int .u32 0,.int .i64 0,.int .i64 4] )  141  ( #[.slice (some ⟨g,o,sp⟩) 0 c]) (λw'=>by go_simp) (λ_ w' _ hC=>?_) (λK hK=>?_)
 .refine (HTK.o w' hC).mono ?_
  rintro e w1 ⟨rfl,h2⟩;exact⟨rfl,hC.trans h2⟩
 ((try go_simp);refine hK _ ?_;clear hK K)
 iterate 7 (refine rq ?_)
 refine zQ ?_;intro w1 hC1;have HC1:=jh hC1;have HR1:=jh (HR.o.chg hC1 iD);have c0:=HR1.o.c0;have c1:=HR1.o.c1;have c2:=HR1.o.c2;have z1:=HR1.o.z 1;have z2:=HR1.o.z 2;clear hC1;go_wp2;go_ret
 rw[HNP.o];exact⟨rfl,HR1.o.bad,HC1.o.any.trans (zA _ _ _ _)⟩
theorem zP3 (Z:List Int) (_g _o c b m:Nat) (s:Rd) (w:World) (hc:Z=[]/\s.1=0/\c=0) (_hl:Z.length<=100000000) (hs:s.1<=Z.length) (hm:m<4294967296) (hr:RdAt w b (.slice none Z.length c) s) :
  Calls Tryz.prog 186 #[.pointer (some ⟨b,0,none⟩),.int .i64 m] w λe w'=>e=.returned (.int .i64 (numP Z m s).1)/\RdAt w' b (.slice none Z.length c) (numP Z m s).2/\Chg (λj=>j=b) w w':=by
 obtain⟨at',wr⟩:=s;simp only at hc hs;obtain⟨rfl,rfl,rfl⟩:=hc;have HR:=jh hr;have hwm:IntKind.u32.wrap (m:Int)=m:=by simp[IntKind.wrap,IntKind.bits,IntKind.signed];omega
 have HTK:Hd (∀w',Cf w w'->Calls Tryz.prog 141 #[.slice none 0 0] w' λe w''=>e=.returned (.tuple #[.int .u32 0,.int .i64 0,.int .i64 4])/\Cf w' w''):=jh (λw' hc'=>by
  have:=gW [] none 0 0 0 w' ⟨λk a hk=>by simp at hk,λh=>absurd rfl h⟩ (λh=>absurd h sI) (Av _) (Av _);exact this)
 have HNP:Hd (numP [] m (0,wr)=(0,0,true)):=jh (zE9 (Ay _));clear hr;go_enter Tryz.func186,Tryz.ntmps186
 go_upto_region 1 with (fail)
 refine ws (λw'=>Cf w w') ?_;(iterate 3 (refine rq ?_));(refine rq ?_ (by intro _ w' _ hC;have q:=hC.cellS HR.o.c0 iD;go_simp;try with_reducible rfl));(iterate 3 (refine rq ?_));(refine rq ?_ (by intro _ w' _ hC;have q:=hC.cellS HR.o.c1 iD;go_simp;try with_reducible rfl));(refine rq ?_)
 refine yS rfl (.tuple #[.int .u32 0,.int .i64 0,.int .i64 4] )  141  ( #[.slice none 0 0]) (λw'=>by go_simp) (λ_ w' _ hC=>?_) (λK hK=>?_)
 .refine (HTK.o w' hC).mono ?_
  rintro e w1 ⟨rfl,h2⟩;exact⟨rfl,hC.trans h2⟩
 ((try go_simp);refine hK _ ?_;clear hK K)
 iterate 7 (refine rq ?_)
 refine zQ ?_;intro w1 hC1;have HC1:=jh hC1;have HR1:=jh (HR.o.chg hC1 iD);have c0:=HR1.o.c0;have c1:=HR1.o.c1;have c2:=HR1.o.c2;have z1:=HR1.o.z 1;have z2:=HR1.o.z 2;clear hC1;go_wp2;go_ret
 rw[HNP.o];exact⟨rfl,HR1.o.bad,HC1.o.any.trans (zA _ _ _ _)⟩
theorem zE8 (Z:List Int) (a:Option Addr) (g o c b m:Nat) (s:Rd) (w:World) (hz:BytesAt w g o Z) (ha:0<Z.length->a=some ⟨g,o,none⟩) (hcz:Z.length<=c) (hn:a=none->c=0) (hl:Z.length<=100000000) (hs:s.1<=Z.length) (hm:m<4294967296) (hr:RdAt w b (.slice a Z.length c) s) :
  Calls Tryz.prog 186 #[.pointer (some ⟨b,0,none⟩),.int .i64 m] w λe w'=>e=.returned (.int .i64 (numP Z m s).1)/\RdAt w' b (.slice a Z.length c) (numP Z m s).2/\Chg (λj=>j=b) w w':=by
 cases a with
 | none =>
  have h0:Z=[]:=by
   cases Z with
   | nil=>rfl
   | cons z Z=>have:=ha sI;cases this
  subst h0;exact zP3 [] 0 0 c b m s w ⟨rfl,by simpa using hs,hn rfl⟩ hl hs hm hr
 | some p =>
  obtain⟨g',o',sp⟩:=p;by_cases h0:Z=[]
  .subst h0
   have h1:s.1=0:=(by simpa using hs);by_cases h2:c=0
   .exact zJm [] g' o' c b m sp s w ⟨oM,by simpa using h1⟩ hl hs hm hr
   .exact zP2 [] g' o' c b m sp s w ⟨rfl,h1,oM⟩ hl hs hm hr
  .have h1:0<Z.length:=by
    cases Z with
    | nil=>exact absurd rfl h0
    | cons z Z=>simp
   have h2:=ha h1;injection h2 with h2;injection h2 with h3 h4 h5;subst h3 h4 h5;by_cases h6:s.1<c
   .exact zP4 Z g' o' c b m s w hz h6 hcz hl hs hm hr
   .exact zJm Z g' o' c b m none s w ⟨oM,oM⟩ hl hs hm hr
theorem zG4 {Z:List Int}{ms mv:Nat}:∀{k:Nat}{s:Rd}{x:Int}{acc:List (Int×Int)},s.1<=Z.length->(rJ Z ms mv k s x acc).2.1<=Z.length
 | 0,s,x,acc,h=>h
 | k+1,s,x,acc,h=>by
  cases hs:s.2 with
  | true=>rw[nN (.inl hs)];exact h
  | false=>rw[qQ hs];exact zG4 (vC (vC h).1).1
theorem zMc {Z:List Int}{mw mv:Nat}{s:Rd}(h:s.1<=Z.length):(rowP Z mw mv s).2.1<=Z.length:=zG4 (vC (vC h).1).1
theorem zJh {Z:List Int}{mw mv:Nat}{s:Rd}(h:s.1<=Z.length):I.Byte (rowP Z mw mv s).1.1:=by
 have:=(vC (m:=mv) h).2.2.1;show I.Byte (((numP Z mv s).1:Int)-1);exact⟨oM,oM⟩
structure CellSt (E:Elt (Int×Int)) (b br:Nat) (sl:Value) (wr:World) (d:Int) (s:Rd) (acc:List (Int×Int)) (v:Value):Prop where
 f:Fld E br 1 wr v acc
 c:wr.cell? ⟨br,0,none⟩=some (.int .i64 d)
 r:RdAt wr b sl s
 lt:b<br
theorem CellSt.start (E:Elt (Int×Int)) {b:Nat}{sl:Value}{w:World}{s:Rd}(h:RdAt w b sl s) (d:Int) (e:TypeId):CellSt E b w.heap.size sl (w.alloc (.cells #[.int .i64 d,.slice none 0 0] e)) d s [] (.slice none 0 0) :=
 ⟨⟨by rw[Az7];rfl,Az8 _ _ _ _,.nil _ _⟩,by rw[Az7];rfl,h.chg ((Chg.refl (λ_=>False) w).alloc _) iD,h.lt⟩
theorem CellSt.read {E:Elt (Int×Int)}{b br:Nat}{sl:Value}{w w':World}{d:Int}{s s':Rd}{acc:List (Int×Int)}{v:Value}(h:CellSt E b br sl w d s acc v) (hr:RdAt w' b sl s') (hc:Chg (λj=>j=b) w w'):CellSt E b br sl w' d s' acc v :=
 ⟨h.f.chg hc (λg hg _ e=>by have:=h.lt;omega),hc.cellS h.c (by have:=h.lt;show ¬br=b;omega),hr,h.lt⟩
theorem CellSt.same {E:Elt (Int×Int)}{b br:Nat}{sl:Value}{w w':World}{d:Int}{s:Rd}{acc:List (Int×Int)}{v:Value}(h:CellSt E b br sl w d s acc v) (hc:Cf w w'):CellSt E b br sl w' d s acc v :=
 ⟨h.f.chg hc (λ_ _ _ h=>h),hc.cellS h.c iD,h.r.chg hc iD,h.lt⟩
theorem CellSt.add {E:Elt (Int×Int)}{b br:Nat}{sl:Value}{w w1:World}{d:Int}{s:Rd}{acc acc':List (Int×Int)}{v v':Value}(h:CellSt E b br sl w d s acc v) (ho:E.Own w1 (br+1) v' acc') (hc:Chg (λk=>br+1<=k) w w1) :
  (w1.cell? ⟨br,1,none⟩=some v/\w1.frozen? ⟨br,1,none⟩=false)/\CellSt E b br sl (w1.setCell ⟨br,1,none⟩ v') d s acc' v'/\Chg (λk=>br<=k) w (w1.setCell ⟨br,1,none⟩ v'):=by
 obtain⟨k1,k2,k3,k4⟩:=h.f.step ho hc;exact⟨k1,⟨k2,k4 0 _ oM h.c,h.r.chg k3 (by have:=h.lt;omega),h.lt⟩,k3⟩
theorem zL9 (Z:List Int) (a:Option Addr) (g o c b mw:Nat) (s:Rd) (w:World) (hz:BytesAt w g o Z) (ha:0<Z.length->a=some ⟨g,o,none⟩) (hcz:Z.length<=c) (hn:a=none->c=0) (hl:Z.length<=100000000) (hs:s.1<=Z.length) (hm:mw<=65536) (hgb:Z≠[]->g≠b) (hr:RdAt w b (.slice a Z.length c) s) :
  Calls Tryz.prog 187 #[.pointer (some ⟨b,0,none⟩),.int .i64 mw] w λe w'=>∃xa,e=.returned (.agg #[.int .i64 (rowP Z mw 16777216 s).1.1,.slice xa (rowP Z mw 16777216 s).1.2.length (rowP Z mw 16777216 s).1.2.length]) /\
   vN.In w' w.heap.size (xa,(rowP Z mw 16777216 s).1.2.length,(rowP Z mw 16777216 s).1.2.length) (rowP Z mw 16777216 s).1.2/\RdAt w' b (.slice a Z.length c) (rowP Z mw 16777216 s).2/\Chg (λj=>j=b) w w':=by
 have hbl:=hr.lt;have HN1:Hd (∀(s:Rd) (wx:World),s.1<=Z.length->Chg (λj=>j=b\/w.heap.size<=j) w wx->RdAt wx b (.slice a Z.length c) s->Calls Tryz.prog 186 #[.pointer (some ⟨b,0,none⟩),.int .i64 16777216] wx λe w'=>e=.returned (.int .i64 (numP Z 16777216 s).1)/\RdAt w' b (.slice a Z.length c) (numP Z 16777216 s).2/\Chg (λj=>j=b) wx w'):=jh (λs wx h1 h2 h3 =>
  zE8 Z a g o c b 16777216 s wx (hz.chg h2 (λhne e=>by have:=hz.lt hne;have:=hgb hne;omega)) ha hcz hn hl h1 oM h3)
 have HN2:Hd (∀(s:Rd) (wx:World),s.1<=Z.length->Chg (λj=>j=b\/w.heap.size<=j) w wx->RdAt wx b (.slice a Z.length c) s->Calls Tryz.prog 186 #[.pointer (some ⟨b,0,none⟩),.int .i64 mw] wx λe w'=>e=.returned (.int .i64 (numP Z mw s).1)/\RdAt w' b (.slice a Z.length c) (numP Z mw s).2/\Chg (λj=>j=b) wx w'):=jh (λs wx h1 h2 h3 =>
  zE8 Z a g o c b mw s wx (hz.chg h2 (λhne e=>by have:=hz.lt hne;have:=hgb hne;omega)) ha hcz hn hl h1 oM h3)
 obtain⟨wz,hwz⟩:∃x,x=w.alloc (.cells #[.int .i64 0,.slice none 0 0] 241):=⟨_,rfl⟩;have HCZ:Hd (Cf w wz):=jh (by rw[hwz];exact (Chg.refl _ _).alloc _);have hszz:wz.heap.size=w.heap.size+1:=by rw[hwz];simp
 have HZS:=jh hszz;have HBZ:Hd (∀wx,Chg (λj=>j=b\/wz.heap.size<=j) wz wx->(wx.cell? ⟨w.heap.size,0,none⟩=some (.int .i64 0)/\wx.cell? ⟨w.heap.size,1,none⟩=some (.slice none 0 0))/\∀j,wx.frozen? ⟨w.heap.size,j,none⟩=false):=jh (λwx hx=>by
  have hne:¬(w.heap.size=b\/wz.heap.size<=w.heap.size):=oM
  subst hwz;exact⟨⟨hx.cellS sI hne,hx.cellS sI hne⟩,λj=>(hx.frozen (p:=⟨w.heap.size,j,none⟩) sI hne).trans (Az8 _ _ _ _)⟩)
 have HR:=jh (hr.chg HCZ.o iD);have HS:=jh hs;have HWZ:=jh hwz;obtain⟨P,hP⟩:∃x,numP Z 16777216 s=x:=⟨_,rfl⟩;obtain⟨Q,hQ⟩:∃x,numP Z mw P.2=x:=⟨_,rfl⟩;obtain⟨T,hT⟩:∃x,rJ Z mw 16777216 Q.1 Q.2 0 []=x:=⟨_,rfl⟩;have hrow:rowP Z mw 16777216 s=(((P.1:Int)-1,T.1),T.2):=by
  unfold rowP;rw[hP,hQ,hT]
 have hPl:=vC (m:=16777216) hs;rw[hP]at hPl;have hQl:=vC (m:=mw) hPl.1;rw[hQ]at hQl;have HPL:=jh hPl;have HQL:=jh hQl;have hP1:=hPl.2.1;have HT:=jh hT;have HP:=jh hP;have HQ:=jh hQ;rw[hrow];simp only;clear hz ha hcz hn hs hgb hr hwz hszz hPl hQl hT hP hQ hrow;go_enter Tryz.func187,Tryz.ntmps187
 go_upto_region 1 with (fail)
 rw[<-HWZ.o];go_wp2_with fail
 refine (HN1.o s wz HS.o HCZ.o.any HR.o).mono ?_;rw[HP.o];rintro e w1 ⟨rfl,hr1,hc1⟩;have HC1:=jh hc1;have hb1:w.heap.size<w1.heap.size:=by have:=hc1.size;have:=HZS.o;omega
 have HST:=jh (CellSt.start vN hr1 ((P.1:Int)-1) 241);have HC2:Hd (Chg (λj=>j=b\/w1.heap.size<=j) w1 (w1.alloc (.cells #[.int .i64 ((P.1:Int)-1),.slice none 0 0] 241))):=jh ((Chg.refl _ _).alloc _);have HUP:Hd (∀wx,Chg (λj=>j=b\/w1.heap.size<=j) w1 wx->Chg (λj=>j=b\/w.heap.size<=j) w wx):=jh (λwx hx=>(HCZ.o.any.trans (HC1.o.mono (λk _ e=>.inl e))).trans (hx.mono (λk _ e=>oM)));clear hr1 hc1;go_wp2_with fail
 refine (HN2.o P.2 _ HPL.o.1 (HUP.o _ HC2.o) HST.o.r).mono ?_;rw[HQ.o];rintro e w3 ⟨rfl,hr3,hc3⟩;have HS3:=jh (HST.o.read hr3 hc3);have HC3:=jh (HC2.o.trans (hc3.mono (λk _ e=>.inl e)));clear hr3 hc3 HST HC2;go_wp2
 go_loopw [6,7] (λq6 q wr=>∃(K:Nat) (s:Rd) (X:Int) (acc:List (Int×Int)) (v:Value),q6=.int .i64 X/\q=.int .i64 K/\CellSt vN b w1.heap.size (.slice a Z.length c) wr ((P.1:Int)-1) s acc v/\s.1<=Z.length/\(0<=X/\X<=(acc.length:Int) * 65536/\acc.length+K<=65536)/\rJ Z mw 16777216 K s X acc=T/\Chg (λj=>j=b\/w1.heap.size<=j) w1 wr) (λ_ q _=>(intOf q).toNat)
 case atStart=>exact⟨Q.1,Q.2,0,[],_,rfl,rfl,HS3.o,HQL.o.1,⟨oM,sI,by have:=HQL.o.2.1;simp;omega⟩,HT.o,HC3.o⟩
 case round =>
  clear HS3 HC3 HT;obtain⟨K,s,X,acc,v,rfl,rfl,hst,hs,⟨hX0,hX1,hKa⟩,hT,hc⟩:=hrel;have HST:=jh hst;have HSL:=jh hs;have HT:=jh hT;have HC:=jh hc;obtain⟨va,vl,vc,rfl⟩:=hst.f.own.shape3;obtain⟨sp,sb⟩:=s;have c2:=hst.r.c2;simp only at c2;clear hst hs hT hc;by_cases hgo:0<K/\sb=false
  .obtain⟨hK,rfl⟩:=hgo
   obtain⟨m,rfl⟩:∃m,K=m+1:=⟨K-1,oM⟩;have b16:decide (0<m+1)=true:=sI;have e25:((m+1:Nat):Int)-1=(m:Int):=oM;obtain⟨N,hN⟩:∃x,numP Z mw (sp,false)=x:=⟨_,rfl⟩;obtain⟨M,hM⟩:∃x,numP Z 16777216 N.2=x:=⟨_,rfl⟩;have hNl:=vC (m:=mw) HSL.o;rw[hN]at hNl;have hMl:=vC (m:=16777216) hNl.1;rw[hM]at hMl;have HNL:=jh hNl;have HML:=jh hMl;have hN1:=hNl.2.1;have hM1:=hMl.2.1;have HTN:Hd (rJ Z mw 16777216 m M.2 (X+N.1) (acc++[(X+N.1,(M.1:Int)-1)])=T):=jh (by
    rw[<-HT.o,qQ rfl,hN,hM])
   have hwM:IntKind.i64.wrap ((M.1:Int)-1)=(M.1:Int)-1:=(by rw[IntKind.wrap_i64];omega);have HN:=jh hN;have HM:=jh hM;clear hNl hMl hN hM;go_wp2_with fail
   refine (HN2.o (sp,false) wr HSL.o (HUP.o _ HC.o) HST.o.r).mono ?_;rw[HN.o];rintro e w5 ⟨rfl,hr5,hc5⟩;have HST5:=jh (HST.o.read hr5 hc5);have HC5:=jh (HC.o.trans (hc5.mono (T:=λj=>j=b\/w1.heap.size<=j) (λk _ e=>.inl e)));clear hr5 hc5 HST HC c2;go_upto_region 7 with (fail)
   obtain⟨wd,hwd⟩:∃wd,wd=w5.drew:=⟨_,rfl⟩;have HWE:Hd (w5.drew=wd):=jh hwd.symm;have HWD:Hd (Cf w5 wd):=jh (by rw[hwd];exact (Chg.refl _ _).drew);have HST6:=jh (HST5.o.same HWD.o);have HC6:=jh (HC5.o.trans HWD.o.any);clear hwd;refine zC (λx=>Chg (λj=>j=b\/w1.heap.size+1<=j) wd x) (λi=>decide (i=10)) kR ?_;show yN _ _ _ _ _ _ 11 (Array.replicate 11 false) _ w5.drew;rw[HWE.o];have HSS:Hd (Chg (λj=>j=b\/w1.heap.size+1<=j) wd wd):=jh cR;have hneg:¬(w1.heap.size=b\/w1.heap.size+1<=w1.heap.size):=oM;(refine lq 0 HSS.o ?_);(refine lq 1 HSS.o ?_ (hr:=by intro w' hC;have q:=hC.cellS HST6.o.f.c hneg;go_simp;try with_reducible rfl));(refine lq 2 HSS.o ?_);(refine lq 3 HSS.o ?_);refine yE (i:=4) kR rfl rfl 186 #[.pointer (some ⟨b,0,none⟩),.int .i64 16777216] (λu w''=>u=.int .i64 M.1/\RdAt w'' b (.slice a Z.length c) M.2/\Chg (λj=>j=b) wd w'') (by go_simp) ?_ ?_
   .refine (HN1.o N.2 wd HNL.o.1 (HUP.o _ HC6.o) HST6.o.r).mono ?_
    rw[HM.o];rintro e w6 ⟨rfl,h1,h2⟩;exact⟨_,rfl,λ_=>HSS.o.trans (h2.mono (λk _ e=>.inl e)),rfl,h1,h2⟩
   rintro u w6 hs6 ⟨rfl,hr6,hc6⟩ K hK;have HSS:=jh (hs6 dE);have HST7:=jh (HST6.o.read hr6 hc6);have HC7:=jh (HC6.o.trans (hc6.mono (T:=λj=>j=b\/w1.heap.size<=j) (λk _ e=>.inl e)));clear hs6 hr6 hc6;(try go_simp)
   refine hK _ ?_;clear hK K;have HSTA:=jh (HST7.o.same ((Chg.refl (λ_=>False) w6).alloc (.cells #[.int .i64 (X+N.1),.int .i64 ((M.1:Int)-1)] 246)));have HBS:Hd (w1.heap.size+1<=(w6.alloc (.cells #[.int .i64 (X+N.1),.int .i64 ((M.1:Int)-1)] 246)).heap.size):=jh (by have:=HSTA.o.f.lt;omega);have HOK:Hd (∀x∈[(X+(N.1:Int),(M.1:Int)-1)],vN.ok x):=jh (by
    intro x hx;rw[Ay3]at hx;subst hx;exact⟨⟨by show -9223372036854775808<=X+(N.1:Int);omega,by show X+(N.1:Int)<=9223372036854775807;omega⟩,⟨by show -9223372036854775808<=(M.1:Int)-1;omega,by show (M.1:Int)-1<=9223372036854775807;omega⟩⟩)
   (refine lq 5 HSS.o ?_);(refine lq 6 HSS.o ?_);(refine lt 7 (λ_=>HSS.o.alloc _) ?_);refine xE (i:=8) kR rfl rfl (.tmp 32) (.tmp 38) 239 239 rfl (.slice va vl vc) (.slice (some ⟨w6.heap.size,0,none⟩) 1 1) rfl rfl (λv' w9=>vN.Own w9 (w1.heap.size+1) v' (acc++[(X+(N.1:Int),(M.1:Int)-1)])/\Chg (λj=>w1.heap.size+1<=j) (w6.alloc (.cells #[.int .i64 (X+N.1),.int .i64 ((M.1:Int)-1)] 246)) w9) ?_ ?_
   .obtain⟨v',w9,hrun,h1,h2,-⟩:=HSTA.o.f.own.append HBS.o 239 (.slice (some ⟨w6.heap.size,0,none⟩) 1 1) [(X+(N.1:Int),(M.1:Int)-1)] (vN.srcLit 1 HOK.o) HOK.o sO 239
    exact⟨v',w9,hrun,λ_=>(HSS.o.alloc _).trans (h2.mono (λk _ e=>.inr e)),h1,h2⟩
   rintro v' w9 hs ⟨h1,h2⟩ K hK;obtain⟨va',vl',vc',hv'⟩:=h1.shape3;subst hv';obtain⟨⟨k1,k2⟩,hf,hcf⟩:=HSTA.o.add h1 h2;have HFF:=jh hf;have HCF:=jh (HC7.o.trans ((((Chg.refl (λk=>w1.heap.size<=k) w6).alloc (.cells #[.int .i64 (X+N.1),.int .i64 ((M.1:Int)-1)] 246)).trans hcf).mono (T:=λj=>j=b\/w1.heap.size<=j) (λk _ e=>.inr e)));have HSL9:=jh (hs dE);clear hf h1 h2 hs hcf;(try go_simp)
   refine hK _ ?_;clear hK K;(refine lt 9 (λ_=>HSL9.o) ?_);(refine ld 10 ?_);refine yA kR ?_ _;go_wp2;go_roundw
   case rel=>exact⟨m,M.2,X+N.1,_,_,rfl,by go_num,HFF.o,HML.o.1,⟨oM,sO,sO⟩,HTN.o,HCF.o⟩
   case measure=>simp[intOf]
  .have hex:decide (0<K)=false\/(decide (0<K)=true/\sb=true):=by
    rcases Aw4 K with h|h
    .exact .inl (by simp[h])
    .exact .inr ⟨by simpa using h,by cases sb;exact absurd ⟨h,rfl⟩ hgo;rfl⟩
   have HTE:Hd (T=(acc,sp,sb)):=jh (by
    rw[<-HT.o]
    apply nN
    rcases Aw4 K with h|h
    .exact .inr h
    .exact .inl (by cases sb;exact absurd ⟨h,rfl⟩ hgo;rfl))
   clear hgo;rcases hex with b16|⟨b16,rfl⟩
   all_goals
    go_upto_region 8 with (fail)
    have c1:=HST.o.f.c;have z1:=HST.o.f.z;have c0:=HST.o.c;obtain⟨⟨r0,r1⟩,hz⟩:=HBZ.o wr ((HC1.o.mono (T:=λj=>j=b\/wz.heap.size<=j) (λk _ e=>.inl e)).trans (HC.o.mono (λk _ e=>by have:=HC1.o.size;omega)));have r2:=hz 0;have r3:=hz 1;obtain⟨va',vg,vc',hv',hle,-,-⟩:=HST.o.f.own.at';injection hv' with e1 e2 e3;subst e1 e2 e3;have hne:w.heap.size≠w1.heap.size:=oM;clear hz;go_wp2_with fail
    refine (zJs _ va _ vc hle).mono ?_;rintro e w5 ⟨rfl,rfl⟩;go_wp2;have hcs:=zA wr w1.heap.size 1 (.slice va acc.length acc.length);obtain⟨f0,f1,f2⟩:=zCc (.int .i64 ((P.1:Int)-1)) (.slice va acc.length acc.length) (hcs.cellS r0 hne) (hcs.cellS r1 hne);have hcc:=(hcs.mono (T:=λk=>k=w1.heap.size\/k=w.heap.size) (λk _ e=>.inl e)).trans (f2.mono (λk _ e=>.inr e));have h3:=((HST.o.f.own.chg hcc (λg hg _ e=>oM)).in' (Ay _)).lower (B':=w.heap.size) oM;have h4:=((HUP.o wr HC.o).trans (hcc.mono (T:=λj=>j=b\/w.heap.size<=j) (λk _ e=>oM))).mono (T:=λj=>j=b) (λk hk e=>oM);have h5:=HST.o.r.chg hcc oM;clear f2 hcc hcs
    generalize ((wr.setCell ⟨w1.heap.size,1,none⟩ (.slice va acc.length acc.length)).setCell ⟨w.heap.size,0,none⟩ (.int .i64 ((P.1:Int)-1))).setCell ⟨w.heap.size,1,none⟩ (.slice va acc.length acc.length)=W at *
    rw[HTE.o];exact bodyPost_ret (v:=.agg #[.int .i64 ((P.1:Int)-1),.slice va acc.length acc.length]) (by simp[results,Tryz.results187,go_sem,f0,f1]) rfl ⟨va,rfl,h3,h5,h4⟩
structure TakSt (E:Elt (Int×Int)) (F:Elt (Int×Sl)) (bt lo:Nat) (w:World) (W:Int) (R:List RowD) (O:List Int) (v u:Value):Prop where
 c0:w.cell? ⟨bt,0,none⟩=some (.int .i64 W)
 c1:w.cell? ⟨bt,1,none⟩=some v
 z1:w.frozen? ⟨bt,1,none⟩=false
 c2:w.cell? ⟨bt,2,none⟩=some u
 z2:w.frozen? ⟨bt,2,none⟩=false
 rows:∃X:List (Int×Sl),F.Own w lo v X/\X.length=R.length/\∀(j:Nat) x r,X[j]?=some x->R[j]?=some r->kS E w lo x r/\(0<r.2.length->∀g o,x.2.1=some ⟨g,o,none⟩->v.ownBlock≠some g/\u.ownBlock≠some g/\lo<=g)
 of:intE.Own w lo u O
 apart:∀g,v.ownBlock=some g->u.ownBlock≠some g
 blo:bt<lo
theorem TakSt.lt {E:Elt (Int×Int)}{F:Elt (Int×Sl)}{bt lo:Nat}{w:World}{W:Int}{R:List RowD}{O:List Int}{v u:Value}(h:TakSt E F bt lo w W R O v u):bt<w.heap.size:=Az6 _ _ h.c0
theorem TakSt.same {E:Elt (Int×Int)}{F:Elt (Int×Sl)}{bt lo:Nat}{w w':World}{W:Int}{R:List RowD}{O:List Int}{v u:Value}(h:TakSt E F bt lo w W R O v u) (hc:Cf w w'):TakSt E F bt lo w' W R O v u:=by
 obtain⟨X,h1,h2,h3⟩:=h.rows;exact⟨hc.cellS h.c0 iD,hc.cellS h.c1 iD,(hc.frozen (p:=⟨bt,1,none⟩) h.lt iD).trans h.z1,hc.cellS h.c2 iD,(hc.frozen (p:=⟨bt,2,none⟩) h.lt iD).trans h.z2,
  ⟨X,h1.chg hc (λ_ _ _ h=>h),h2,λj x r hx hr=>⟨(h3 j x r hx hr).1.same hc,(h3 j x r hx hr).2⟩⟩,h.of.chg hc (λ_ _ _ h=>h),h.apart,h.blo⟩
theorem TakSt.rowsIn {E:Elt (Int×Int)}{F:Elt (Int×Sl)}{bt lo:Nat}{w:World}{W:Int}{R:List RowD}{O:List Int}{u:Value}{a:Option Addr}{n c:Nat}(h:TakSt E F bt lo w W R O (.slice a n c) u):uN E F w lo (a,n,c) R/\n=R.length/\n<=c:=by
 obtain⟨X,h1,h2,h3⟩:=h.rows;obtain⟨a',g,c',hv,hle,-⟩:=h1.at';injection hv with e1 e2 e3;subst e1 e2 e3;exact⟨⟨X,h1.in' hle,h2,λj x r hx hr=>(h3 j x r hx hr).1⟩,h2,hle⟩
theorem TakSt.addRow {E:Elt (Int×Int)}{F:Elt (Int×Sl)}{bt lo:Nat}{w w1:World}{W:Int}{R:List RowD}{O:List Int}{v v' u:Value}(h:TakSt E F bt lo w W R O v u) {x:Int×Sl}{r:RowD}(hx:kS E w lo x r) (hxa:0<r.2.length->∀g o,x.2.1=some ⟨g,o,none⟩->v.ownBlock≠some g/\u.ownBlock≠some g/\lo<=g)
  (ho:∀X,F.Own w lo v X->X.length=R.length->F.Own w1 lo v' (X++[x])) (hc:Chg (λk=>v.ownBlock=some k) w w1) (hv:v'.ownBlock=v.ownBlock\/v'.ownBlock=some w.heap.size\/v'.ownBlock=some (w.heap.size+1)) :
  (w1.cell? ⟨bt,1,none⟩=some v/\w1.frozen? ⟨bt,1,none⟩=false)/\TakSt E F bt lo (w1.setCell ⟨bt,1,none⟩ v') W (R++[r]) O v' u/\Chg (λk=>bt<=k) w (w1.setCell ⟨bt,1,none⟩ v'):=by
 obtain⟨X,h1,h2,h3⟩:=h.rows;have hlt:=h.lt;have hblo:=h.blo;have hbl:∀g,v.ownBlock=some g->lo<=g/\g<w.heap.size:=λg hg=>h1.blk hg
 have hnb:¬v.ownBlock=some bt:=λe=>by have:=(hbl bt e).1;omega
 have c1:=hc.cellS h.c1 hnb;have z1:=(hc.frozen (p:=⟨bt,1,none⟩) hlt hnb).trans h.z1;have hs:=zA w1 bt 1 v';have hgt:∀g,g<w.heap.size->v.ownBlock≠some g->v'.ownBlock≠some g:=λg hg hne e=>by
  rcases hv with hv|hv|hv
  .rw[hv]at e;exact hne e
  .rw[hv]at e;obtain rfl:=Az3 e;omega
  .rw[hv]at e;obtain rfl:=Az3 e;omega
 have hcs:Chg (λk=>v.ownBlock=some k\/k=bt) w (w1.setCell ⟨bt,1,none⟩ v'):=(hc.mono (λk _ e=>.inl e)).trans (hs.mono (λk _ e=>.inr e));have keep:∀(y:Int×Sl) (q:RowD),kS E w lo y q->(0<q.2.length->∀g o,y.2.1=some ⟨g,o,none⟩->v.ownBlock≠some g/\u.ownBlock≠some g/\lo<=g) ->
  kS E (w1.setCell ⟨bt,1,none⟩ v') lo y q/\(0<q.2.length->∀g o,y.2.1=some ⟨g,o,none⟩->v'.ownBlock≠some g/\u.ownBlock≠some g/\lo<=g):=λy q hy hya=>by
  refine⟨hy.chg0 hcs (λhp g o hg e=>?_),λhp g o hg=>?_⟩
  .obtain⟨k1,k2,k3⟩:=hya hp g o hg
   rcases e with e|e
   .exact k1 e
   .omega
  .obtain⟨k1,k2,k3⟩:=hya hp g o hg
   obtain⟨_,_,g',o',k4,k5⟩:=hy.2.2;have hlt:g<w.heap.size:=by
    have h6:=(k5 hp).1;rw[hg]at h6;injection h6 with h6;injection h6 with h6;subst h6;exact k4.lt (by intro e;rw[e]at hp;simp at hp)
   exact⟨hgt g hlt k1,k2,k3⟩
 refine⟨⟨c1,z1⟩,⟨Chg.cellNe (hc.cellS h.c0 hnb) (by intro e;injection e with _ e;cases e),Az9 _ _ _ c1,(Az4 _ _ _ _).trans z1,Chg.cellNe (hc.cellS h.c2 hnb) (by intro e;injection e with _ e;cases e),(Az4 _ _ _ _).trans ((hc.frozen (p:=⟨bt,2,none⟩) hlt hnb).trans h.z2),
  ⟨X++[x],(ho X h1 h2).chg hs (λg hg _ e=>oM),by simp[h2],λj y q hy hq=>?_⟩,?_,λg hg hu=>?_,h.blo⟩,hcs.mono (λk _ e=>by
   rcases e with e|e
   .have:=(hbl k e).1;omega
   .omega)⟩
 .by_cases hj:j<X.length
  .rw[Ay8 hj]at hy
   rw[Ay8 oM]at hq;exact keep y q (h3 j y q hy hq).1 (h3 j y q hy hq).2
  .have hjl:=(Az1.1 hy).1
   simp at hjl
   obtain rfl:j=X.length:=oM;rw[Ax4 (Ay _),Au0]at hy;rw[h2,Ax4 (Ay _),Au0]at hq;obtain rfl:=Az3 hy;obtain rfl:=Az3 hq;exact keep _ _ hx hxa
 .refine (h.of.chgB hc (λg hg e=>h.apart g e hg)).chg hs (λg hg _ e=>oM)
 .have:=(h.of.blk hu)
  rcases hv with hv|hv|hv
  .rw[hv]at hg;exact h.apart g hg hu
  .rw[hv]at hg;obtain rfl:=Az3 hg;omega
  .rw[hv]at hg;obtain rfl:=Az3 hg;omega
theorem TakSt.addOf {E:Elt (Int×Int)}{F:Elt (Int×Sl)}{bt lo:Nat}{w w1:World}{W:Int}{R:List RowD}{O:List Int}{v u u':Value}{i:Int}(h:TakSt E F bt lo w W R O v u)
  (ho:intE.Own w1 lo u' (O++[i])) (hc:Chg (λk=>u.ownBlock=some k) w w1) (hu:u'.ownBlock=u.ownBlock\/u'.ownBlock=some w.heap.size\/u'.ownBlock=some (w.heap.size+1)) :
  (w1.cell? ⟨bt,2,none⟩=some u/\w1.frozen? ⟨bt,2,none⟩=false)/\TakSt E F bt lo (w1.setCell ⟨bt,2,none⟩ u') W R (O++[i]) v u'/\Chg (λk=>bt<=k) w (w1.setCell ⟨bt,2,none⟩ u'):=by
 obtain⟨X,h1,h2,h3⟩:=h.rows;have hlt:=h.lt;have hblo:=h.blo;have hbl:∀g,u.ownBlock=some g->lo<=g/\g<w.heap.size:=λg hg=>h.of.blk hg
 have hnb:¬u.ownBlock=some bt:=λe=>by have:=(hbl bt e).1;omega
 have c2:=hc.cellS h.c2 hnb;have z2:=(hc.frozen (p:=⟨bt,2,none⟩) hlt hnb).trans h.z2;have hs:=zA w1 bt 2 u';have hgt:∀g,g<w.heap.size->u.ownBlock≠some g->u'.ownBlock≠some g:=λg hg hne e=>by
  rcases hu with hv|hv|hv
  .rw[hv]at e;exact hne e
  .rw[hv]at e;obtain rfl:=Az3 e;omega
  .rw[hv]at e;obtain rfl:=Az3 e;omega
 have hcs:Chg (λk=>u.ownBlock=some k\/k=bt) w (w1.setCell ⟨bt,2,none⟩ u'):=(hc.mono (λk _ e=>.inl e)).trans (hs.mono (λk _ e=>.inr e));refine⟨⟨c2,z2⟩,⟨Chg.cellNe (hc.cellS h.c0 hnb) (by intro e;injection e with _ e;cases e),Chg.cellNe (hc.cellS h.c1 hnb) (by intro e;injection e with _ e;cases e),(Az4 _ _ _ _).trans ((hc.frozen (p:=⟨bt,1,none⟩) hlt hnb).trans h.z1),Az9 _ _ _ c2,(Az4 _ _ _ _).trans z2,
  ⟨X,(h1.chgB hc (λg hg e=>h.apart g hg e)).chg hs (λg hg _ e=>oM),h2,λj y q hy hq=>?_⟩,ho.chg hs (λg hg _ e=>oM),λg hg hu'=>?_,h.blo⟩,hcs.mono (λk _ e=>by
   rcases e with e|e
   .have:=(hbl k e).1;omega
   .omega)⟩
 .obtain⟨hy1,hya⟩:=h3 j y q hy hq
  refine⟨hy1.chg0 hcs (λhp g o hg e=>?_),λhp g o hg=>?_⟩
  .obtain⟨k1,k2,k3⟩:=hya hp g o hg
   rcases e with e|e
   .exact k2 e
   .omega
  .obtain⟨k1,k2,k3⟩:=hya hp g o hg
   obtain⟨_,_,g',o',k4,k5⟩:=hy1.2.2;have hlt:g<w.heap.size:=by
    have h6:=(k5 hp).1;rw[hg]at h6;injection h6 with h6;injection h6 with h6;subst h6;exact k4.lt (by intro e;rw[e]at hp;simp at hp)
   exact⟨k1,hgt g hlt k2,k3⟩
 .exact hgt g (h1.blk hg).2 (λe=>h.apart g hg e) hu'
theorem TakSt.final {E:Elt (Int×Int)}{F:Elt (Int×Sl)}{bt lo:Nat}{w w':World}{W:Int}{R:List RowD}{O:List Int}{a ua:Option Addr}{n c m uc:Nat}(h:TakSt E F bt lo w W R O (.slice a n c) (.slice ua m uc)) (hc:Chg (λk=>k<lo) w w') :
  uN E F w' lo (a,n,n) R/\OfIn w' lo ua O/\n=R.length/\m=O.length/\n<=c/\m<=uc:=by
 obtain⟨X,h1,h2,h3⟩:=h.rows;have h1':=h1.chg hc (λg hg _ e=>oM);obtain⟨a',g,c',hv,hle,-⟩:=h1.at';injection hv with e1 e2 e3;subst e1 e2 e3;refine⟨⟨X,h1'.in' (Ay _),h2,λj x r hx hr=>(h3 j x r hx hr).1.chg0 hc (λhp g o hg e=>by have:=((h3 j x r hx hr).2 hp g o hg).2.2;omega)⟩,?_,h2,?_,hle,?_⟩
 .rcases h.of with ⟨e,rfl⟩|⟨g,C,e,hB,hR,hp,_⟩
  .injection e with e1 e2 e3
   exact .inl ⟨rfl,e1⟩
  .injection e with e1 e2 e3
   have hr2:=(hR.chg hc (show ¬g<lo by omega));refine .inr ⟨g,e1,cG.1 ⟨λk u hk=>?_,hr2.z,hr2.lt,λx hx=>hr2.ok x (hp.subset hx)⟩,hB⟩;have:=(hr2.at' hp).c k u hk;rwa [Ax0]at this
 .rcases h.of with ⟨e,rfl⟩|⟨g,C,e,hB,hR,hp,_⟩
  .injection e
  .injection e
 .rcases h.of with ⟨e,rfl⟩|⟨g,C,e,hB,hR,hp,_⟩
  .injection e with e1 e2 e3
   subst e2 e3;exact Ay _
  .injection e with e1 e2 e3
   subst e2 e3;exact hp.length_le
end Go.Proofs.YtgnpmceimpjheaaGreat
