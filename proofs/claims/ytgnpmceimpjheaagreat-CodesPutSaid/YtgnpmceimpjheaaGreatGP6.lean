/- A part of the proof: TakeTab BackP CodB CodX. -/
import Derived.Test.YtgnpmceimpjheaaGreatGP5
import Derived.Test.YtgnpmceimpjheaaGreatGP4
set_option maxRecDepth 100000
set_option maxHeartbeats 16000000
namespace Go.Proofs.YtgnpmceimpjheaaGreat
open Go.RowKit
theorem TakSt.chg {E:Elt (Int×Int)}{F:Elt (Int×Sl)}{S:Nat->Prop}{bt lo:Nat}{w w':World}{W:Int}{R:List RowD}{O:List Int}{v u:Value}(h:TakSt E F bt lo w W R O v u) (hc:Chg S w w') (hs:∀g,S g->g≠bt/\g<lo):TakSt E F bt lo w' W R O v u:=by
 obtain⟨X,h1,h2,h3⟩:=h.rows;have hb:¬S bt:=λe=>(hs bt e).1 rfl
 exact⟨hc.cellS h.c0 hb,hc.cellS h.c1 hb,(hc.frozen (p:=⟨bt,1,none⟩) h.lt hb).trans h.z1,hc.cellS h.c2 hb,(hc.frozen (p:=⟨bt,2,none⟩) h.lt hb).trans h.z2,
  ⟨X,h1.chg hc (λg hg _ e=>by have:=(hs g e).2;omega),h2,λj x r hx hr=>⟨(h3 j x r hx hr).1.chg0 hc (λhp g o hg e=>by have:=(hs g e).2;have:=((h3 j x r hx hr).2 hp g o hg).2.2;omega),(h3 j x r hx hr).2⟩⟩,h.of.chg hc (λg hg _ e=>by have:=(hs g e).2;omega),h.apart,h.blo⟩
structure TkSt (E:Elt (Int×Int)) (F:Elt (Int×Sl)) (b bt lo:Nat) (sl:Value) (w:World) (s:Rd) (W:Int) (R:List RowD) (O:List Int) (v u:Value):Prop where
 t:TakSt E F bt lo w W R O v u
 r:RdAt w b sl s
 z0:w.frozen? ⟨bt,0,none⟩=false
 ne:b≠bt
 lo:b<lo
theorem TkSt.read {E:Elt (Int×Int)}{F:Elt (Int×Sl)}{b bt lo:Nat}{sl:Value}{w w':World}{s s':Rd}{W:Int}{R:List RowD}{O:List Int}{v u:Value}(h:TkSt E F b bt lo sl w s W R O v u) (hr:RdAt w' b sl s') (hc:Chg (λj=>j=b) w w'):TkSt E F b bt lo sl w' s' W R O v u :=
 ⟨h.t.chg hc (λg e=>by subst e;exact⟨h.ne,h.lo⟩),hr,(hc.frozen (p:=⟨bt,0,none⟩) h.t.lt (Ne.symm h.ne)).trans h.z0,h.ne,h.lo⟩
theorem TkSt.same {E:Elt (Int×Int)}{F:Elt (Int×Sl)}{b bt lo:Nat}{sl:Value}{w w':World}{s:Rd}{W:Int}{R:List RowD}{O:List Int}{v u:Value}(h:TkSt E F b bt lo sl w s W R O v u) (hc:Cf w w'):TkSt E F b bt lo sl w' s W R O v u :=
 ⟨h.t.same hc,h.r.chg hc iD,(hc.frozen (p:=⟨bt,0,none⟩) h.t.lt iD).trans h.z0,h.ne,h.lo⟩
theorem TkSt.width {E:Elt (Int×Int)}{F:Elt (Int×Sl)}{b bt lo:Nat}{sl:Value}{w:World}{s:Rd}{W:Int}{R:List RowD}{O:List Int}{v u:Value}(h:TkSt E F b bt lo sl w s W R O v u) (W':Int):TkSt E F b bt lo sl (w.setCell ⟨bt,0,none⟩ (.int .i64 W')) s W' R O v u:=by
 have hs:=zA w bt 0 (.int .i64 W');have hblo:=h.t.blo;obtain⟨X,h1,h2,h3⟩:=h.t.rows;refine⟨⟨Az9 _ _ _ h.t.c0,Chg.cellNe h.t.c1 (by intro e;injection e with _ e;cases e),(Az4 _ _ _ _).trans h.t.z1,Chg.cellNe h.t.c2 (by intro e;injection e with _ e;cases e),(Az4 _ _ _ _).trans h.t.z2,
  ⟨X,h1.chg hs (λg hg _ e=>oM),h2,λj x r hx hr=>⟨(h3 j x r hx hr).1.chg0 hs (λhp g o hg e=>by have:=((h3 j x r hx hr).2 hp g o hg).2.2;omega),(h3 j x r hx hr).2⟩⟩,h.t.of.chg hs (λg hg _ e=>oM),h.t.apart,h.t.blo⟩,h.r.chg hs h.ne,(Az4 _ _ _ _).trans h.z0,h.ne,h.lo⟩
theorem TkSt.store {E:Elt (Int×Int)}{F:Elt (Int×Sl)}{b bt lo:Nat}{sl:Value}{w w':World}{s:Rd}{W:Int}{R R':List RowD}{O O':List Int}{v v' u u':Value}(h:TkSt E F b bt lo sl w s W R O v u) (ht:TakSt E F bt lo w' W R' O' v' u') (hr:RdAt w' b sl s) (hz:w'.frozen? ⟨bt,0,none⟩=false):TkSt E F b bt lo sl w' s W R' O' v' u' :=
 ⟨ht,hr,hz,h.ne,h.lo⟩
theorem TkSt.start (E:Elt (Int×Int)) (F:Elt (Int×Sl)) (sl:Value) (w:World) (W:Int) (e e':TypeId) :
  TkSt E F (w.heap.size+1) w.heap.size (w.heap.size+2) sl ((w.alloc (.cells #[.int .i64 W,.slice none 0 0,.slice none 0 0] e)).alloc (.cells #[sl,.int .i64 0,.bool false] e')) (0,false) W [] [] (.slice none 0 0) (.slice none 0 0):=by
 have h1:(w.alloc (.cells #[.int .i64 W,.slice none 0 0,.slice none 0 0] e)).heap.size=w.heap.size+1:=sI
 have hc:=(Chg.refl (λ_=>False) (w.alloc (.cells #[.int .i64 W,.slice none 0 0,.slice none 0 0] e))).alloc (.cells #[sl,.int .i64 0,.bool false] e');refine⟨⟨hc.cellS sI iD,hc.cellS sI iD,(hc.frozen (p:=⟨w.heap.size,1,none⟩) sI iD).trans (Az8 _ _ _ _),hc.cellS sI iD,(hc.frozen (p:=⟨w.heap.size,2,none⟩) sI iD).trans (Az8 _ _ _ _),
  ⟨[],.nil _ _,rfl,λj x r hx=>by simp at hx⟩,.nil _ _,λg hg=>(by cases hg),oM⟩,?_,(hc.frozen (p:=⟨w.heap.size,0,none⟩) sI iD).trans (Az8 _ _ _ _),oM,oM⟩
 rw[<-h1];exact⟨by rw[Az7];rfl,by rw[Az7];rfl,by rw[Az7];rfl,λj=>Az8 _ _ _ _⟩
theorem OfIn.bytes {w:World}{B:Nat}{a:Option Addr}{O:List Int}(h:OfIn w B a O):∃g,I.BytesAt w g 0 O/\(0<O.length->a=some ⟨g,0,none⟩):=by
 rcases h with ⟨rfl,rfl⟩|⟨g,rfl,h2,_⟩
 .exact⟨0,⟨λk a hk=>by simp at hk,λh=>absurd rfl h⟩,λh=>absurd h sI⟩
 .exact⟨g,h2.bytes (Aw6 _),λ_=>rfl⟩
theorem zLs {P:Program}{ops:Array Oper}{md:Region.Mode}{C:Cls}{L:Act->Prop}{o:Oper}{rest:List Oper}{i:Nat}{a:Act}(hw:Region.wanted o (yielded ops a.tmps)=true)
  (hrun:∀listed w,i∈Region.ready md ops listed->C listed w->∃w',(execOp a.eval o).run P w=.ok .skip w'/\C (listed.setIfInBounds i true) w')
  (h:∀K:Act->Prop,(∀a,wpC P ops md C L rest (i+1) a->K a)->K (a.put o.dst undef)):wpC P ops md C L (o :: rest) i a :=
 ⟨undef,.inl ⟨hw,λlisted w hi hc=>by obtain⟨w',h1,h2⟩:=hrun listed w hi hc;rw[h1];exact⟨rfl,h2⟩⟩,h _ iE⟩
def zPg (R:List RowD):Prop:=∀r∈R,r.2.length<=65536
theorem zPg.add {R:List RowD}{r:RowD}(h:zPg R) (hr:r.2.length<=65536):zPg (R++[r]):=λx hx=>by
 rcases Av2.1 hx with hx|hx
 .exact h x hx
 .rw[Ay3]at hx;subst hx;exact hr
theorem zEm {Z:List Int}{ms mv:Nat}:∀{k:Nat}{s:Rd}{x:Int}{acc:List (Int×Int)},(rJ Z ms mv k s x acc).1.length<=acc.length+k
 | 0,s,x,acc=>Ay _
 | k+1,s,x,acc=>by
  cases hs:s.2 with
  | true=>rw[nN (.inl hs)];exact Nat.le_add_right _ _
  | false =>
   rw[qQ hs];refine Ay4 zEm ?_;simp
   omega
theorem zJf {Z:List Int}{mw mv:Nat}{s:Rd}(h:s.1<=Z.length):(rowP Z mw mv s).1.2.length<=mw:=by
 refine Ay4 (zEm (Z:=Z) (ms:=mw) (mv:=mv)) ?_;have:=(vC (m:=mw) (vC (m:=mv) h).1).2.1;simpa using this
theorem zEx (Z:List Int) (a:Option Addr) (g o c:Nat) (w:World) (hz:BytesAt w g o Z) (ha:0<Z.length->a=some ⟨g,o,none⟩) (hcz:Z.length<=c) (hn:a=none->c=0) (hl:Z.length<=100000000) (hv0:(vS Z vL).2.2=false) :
  Calls Tryz.prog 167 #[.slice a Z.length c] w λe w'=>(mW Z vL=true/\∃ra oa,e=.returned (.tuple #[.agg #[.int .i64 (vS Z vL).1.1,.slice ra (vS Z vL).1.2.1.length (vS Z vL).1.2.1.length,.slice oa (vS Z vL).1.2.2.length (vS Z vL).1.2.2.length],.int .i64 (vS Z vL).2.1,.int .i64 0]) /\
   uN vN rowE w' w.heap.size (ra,(vS Z vL).1.2.1.length,(vS Z vL).1.2.1.length) (vS Z vL).1.2.1/\OfIn w' w.heap.size oa (vS Z vL).1.2.2/\Cf w w') \/
   (mW Z vL=false/\e=.returned (.tuple #[.agg #[.int .i64 0,.slice none 0 0,.slice none 0 0],.int .i64 0,.int .i64 4])/\Cf w w'):=by
 have HN:Hd (∀(s:Rd) (wx:World),s.1<=Z.length->Chg (λj=>w.heap.size<=j) w wx->RdAt wx (w.heap.size+1) (.slice a Z.length c) s->Calls Tryz.prog 186 #[.pointer (some ⟨w.heap.size+1,0,none⟩),.int .i64 65536] wx λe w'=>e=.returned (.int .i64 (numP Z 65536 s).1)/\RdAt w' (w.heap.size+1) (.slice a Z.length c) (numP Z 65536 s).2/\Chg (λj=>j=w.heap.size+1) wx w'):=jh (λs wx h1 h2 h3 =>
  zE8 Z a g o c (w.heap.size+1) 65536 s wx (hz.chg h2 (λhne e=>by have:=hz.lt hne;omega)) ha hcz hn oM h1 oM h3)
 have HROW:Hd (∀(mw:Nat) (s:Rd) (wx:World),mw<=65536->s.1<=Z.length->Chg (λj=>w.heap.size<=j) w wx->RdAt wx (w.heap.size+1) (.slice a Z.length c) s->Calls Tryz.prog 187 #[.pointer (some ⟨w.heap.size+1,0,none⟩),.int .i64 mw] wx λe w'=>∃xa,e=.returned (.agg #[.int .i64 (rowP Z mw 16777216 s).1.1,.slice xa (rowP Z mw 16777216 s).1.2.length (rowP Z mw 16777216 s).1.2.length]) /\
  vN.In w' wx.heap.size (xa,(rowP Z mw 16777216 s).1.2.length,(rowP Z mw 16777216 s).1.2.length) (rowP Z mw 16777216 s).1.2/\RdAt w' (w.heap.size+1) (.slice a Z.length c) (rowP Z mw 16777216 s).2/\Chg (λj=>j=w.heap.size+1) wx w'):=jh (λmw s wx h0 h1 h2 h3 =>
  zL9 Z a g o c (w.heap.size+1) mw s wx (hz.chg h2 (λhne e=>by have:=hz.lt hne;omega)) ha hcz hn oM h1 h0 (λhne=>by have:=hz.lt hne;omega) h3)
 obtain⟨wt,hwt⟩:∃x,x=w.alloc (.cells #[.int .i64 0,.slice none 0 0,.slice none 0 0] 201):=⟨_,rfl⟩;obtain⟨wb,hwb⟩:∃x,x=wt.alloc (.cells #[.slice a Z.length c,.int .i64 0,.bool false] 274):=⟨_,rfl⟩;have HST:=jh (TkSt.start vN rowE (.slice a Z.length c) w 0 201 274);rw[<-hwt,<-hwb]at HST;have HCB:Hd (Chg (λj=>w.heap.size<=j) w wb):=jh (by rw[hwb,hwt];exact ((Chg.refl _ _).alloc _).alloc _);have hst:wt.heap.size=w.heap.size+1:=by rw[hwt];simp
 obtain⟨P,hP⟩:∃x,numP Z 65536 (0,false)=x:=⟨_,rfl⟩;obtain⟨Q,hQ⟩:∃x,numP Z 65536 P.2=x:=⟨_,rfl⟩;obtain⟨RR,hRR⟩:∃x,kW Z P.1 16777216 Q.1 Q.2 []=x:=⟨_,rfl⟩;obtain⟨U,hU⟩:∃x,numP Z 65536 RR.2=x:=⟨_,rfl⟩;obtain⟨V,hV⟩:∃x,ofP Z 65536 U.1 U.2 []=x:=⟨_,rfl⟩;have htk:vS Z vL=(((P.1:Int),RR.1,V.1),V.2):=by
  unfold vS;simp only[vL,id];rw[hP,hQ,hRR,hU,hV]
 have hV2:V.2.2=false:=by rw[htk]at hv0;exact hv0
 have hR2:RR.2.2=false:=dW (m:=65536) (Z:=Z) (by rw[hU];exact zBz (Z:=Z) (mm:=65536) (k:=U.1) (acc:=[]) (by rw[hV];exact hV2));have HR2:=jh hR2;clear hR2;have HV2:=jh hV2;clear hV2 hv0;have hPl:=vC (Z:=Z) (m:=65536) (s:=(0,false)) (Av _);rw[hP]at hPl;have hQl:=vC (m:=65536) hPl.1;rw[hQ]at hQl;have HPL:=jh hPl;have HQL:=jh hQl;have hP1:=hPl.2.1;have HP:=jh hP;have HQ:=jh hQ;have HRR:=jh hRR;have HU:=jh hU;have HV:=jh hV;have HWT:=jh hwt;have HWB:=jh hwb;unfold mW;rw[htk];simp only;clear hz ha hcz hn hwt hwb hP hQ hRR hU hV htk hPl hQl;go_enter Tryz.func167,Tryz.ntmps167
 go_upto_region 1 with (fail)
 rw[<-HWT.o];go_upto_region 2 with (fail)
 rw[<-HWB.o];clear hst;go_wp2_with fail
 have HN0:=jh (HN.o (0,false) wb (Av _) HCB.o HST.o.r);rw[HP.o]at HN0;refine HN0.o.mono ?_;rintro e w1 ⟨rfl,hr1,hc1⟩;have HST1:=jh (HST.o.read hr1 hc1);have HC1:=jh (HCB.o.trans (hc1.mono (T:=λj=>w.heap.size<=j) (λk _ e=>oM)));have c0:=HST1.o.t.c0;have z0:=HST1.o.z0;clear hr1 hc1 HST HCB;have HSTW:=jh (HST1.o.width (P.1:Int));have HCW:=jh (HC1.o.trans ((zA w1 w.heap.size 0 (.int .i64 P.1)).mono (T:=λj=>w.heap.size<=j) (λk _ e=>oM)));obtain⟨w2,hw2⟩:∃x,x=w1.setCell ⟨w.heap.size,0,none⟩ (.int .i64 P.1):=⟨_,rfl⟩;rw[<-hw2]at HSTW HCW;have HW2:=jh hw2;clear hw2;go_upto_region 3 with (fail)
 rw[<-HW2.o];clear c0 z0;go_wp2_with fail
 refine (HN.o P.2 w2 HPL.o.1 HCW.o HSTW.o.r).mono ?_;rw[HQ.o];rintro e w3 ⟨rfl,hr3,hc3⟩;have HST3:=jh (HSTW.o.read hr3 hc3);have HC3:=jh (HCW.o.trans (hc3.mono (T:=λj=>w.heap.size<=j) (λk _ e=>oM)));clear hr3 hc3 HSTW HCW HST1 HC1;go_wp2
 go_loopw [6] (λq wr=>∃(K:Nat) (s:Rd) (R:List RowD) (v:Value),q=.int .i64 K/\TkSt vN rowE (w.heap.size+1) w.heap.size (w.heap.size+2) (.slice a Z.length c) wr s P.1 R [] v (.slice none 0 0)/\s.1<=Z.length/\(R.length+K<=65536/\zPg R)/\kW Z P.1 16777216 K s R=RR/\Chg (λj=>w.heap.size<=j) w wr) (λq _=>(intOf q).toNat)
 case atStart=>exact⟨Q.1,Q.2,[],_,rfl,HST3.o,HQL.o.1,⟨by have:=HQL.o.2.1;simpa using this,λr hr=>by cases hr⟩,HRR.o,HC3.o⟩
 case round =>
  clear HST3 HC3 HRR;obtain⟨K,s,R,v,rfl,hst,hs,⟨hRK,hlt⟩,hT,hc⟩:=hrel;have HLT:=jh hlt;have HST:=jh hst;have HSL:=jh hs;have HRR:=jh hT;have HC:=jh hc;obtain⟨va,vl,vc,rfl⟩:∃a n c,v=.slice a n c:=by obtain⟨X,h1,_⟩:=hst.t.rows;exact h1.shape3
  obtain⟨sp,sb⟩:=s;have c2:=hst.r.c2;simp only at c2;clear hst hs hT hc hlt;by_cases hgo:0<K/\sb=false
  .obtain⟨hK,rfl⟩:=hgo
   obtain⟨m,rfl⟩:∃m,K=m+1:=⟨K-1,oM⟩;have b17:decide (0<m+1)=true:=sI;have e25:((m+1:Nat):Int)-1=(m:Int):=oM;obtain⟨N,hN⟩:∃x,rowP Z P.1 16777216 (sp,false)=x:=⟨_,rfl⟩;have hNl:=zMc (mw:=P.1) (mv:=16777216) HSL.o;have hNi:=zJh (mw:=P.1) (mv:=16777216) HSL.o;have hNn:=zJf (mw:=P.1) (mv:=16777216) HSL.o;rw[hN]at hNl hNi hNn;have HNL:=jh hNl;have HNI:=jh hNi;have HLN:=jh (HLT.o.add (r:=N.1) oM);have HTN:Hd (kW Z P.1 16777216 m N.2 (R++[N.1])=RR):=jh (by
    rw[<-HRR.o,mN rfl,hN])
   have HN':=jh hN;clear hNl hNi hN hNn;go_upto_region 6 with (fail)
   obtain⟨wd,hwd⟩:∃wd,wd=wr.drew:=⟨_,rfl⟩;have HWE:Hd (wr.drew=wd):=jh hwd.symm;have HWD:Hd (Cf wr wd):=jh (by rw[hwd];exact (Chg.refl _ _).drew);have HST6:=jh (HST.o.same HWD.o);have HC6:=jh (HC.o.trans HWD.o.any);have hlo:w.heap.size+2<=wd.heap.size:=(by have:=HST6.o.r.lt;omega);clear hwd c2;refine zC (λx=>Chg (λj=>j=w.heap.size+1\/w.heap.size+2<=j) wd x) (λi=>decide (i=9)) kR ?_;show yN _ _ _ _ _ _ 10 (Array.replicate 10 false) _ wr.drew;rw[HWE.o];have HSS:Hd (Chg (λj=>j=w.heap.size+1\/w.heap.size+2<=j) wd wd):=jh cR;have hneg:¬(w.heap.size=w.heap.size+1\/w.heap.size+2<=w.heap.size):=oM;(refine lq 0 HSS.o ?_);(refine lq 1 HSS.o ?_ (hr:=by intro w' hC;have q:=hC.cellS HST6.o.t.c1 hneg;go_simp;try with_reducible rfl));(refine lq 2 HSS.o ?_);(refine lq 3 HSS.o ?_);(refine lq 4 HSS.o ?_ (hr:=by intro w' hC;have q:=hC.cellS HST6.o.t.c0 hneg;go_simp;try with_reducible rfl));refine yE (i:=5) kR rfl rfl 187 #[.pointer (some ⟨w.heap.size+1,0,none⟩),.int .i64 P.1] (λu w''=>∃xa,u=.agg #[.int .i64 N.1.1,.slice xa N.1.2.length N.1.2.length]/\vN.In w'' wd.heap.size (xa,N.1.2.length,N.1.2.length) N.1.2/\RdAt w'' (w.heap.size+1) (.slice a Z.length c) N.2/\Chg (λj=>j=w.heap.size+1) wd w'') (by go_simp) ?_ ?_
   .refine (HROW.o P.1 (sp,false) wd hP1 HSL.o HC6.o HST6.o.r).mono ?_
    rw[HN'.o];rintro e w6 ⟨xa,rfl,h1,h2,h3⟩;exact⟨_,rfl,λ_=>HSS.o.trans (h3.mono (λk _ e=>.inl e)),xa,rfl,h1,h2,h3⟩
   rintro u w6 hs6 ⟨xa,rfl,hin,hr6,hc6⟩ K hK;have HSS:=jh (hs6 dE);have HIN:=jh hin;have HST7:=jh (HST6.o.read hr6 hc6);have HC7:=jh (HC6.o.trans (hc6.mono (T:=λj=>w.heap.size<=j) (λk _ e=>oM)));have HC67:=jh hc6;clear hs6 hr6 hc6 hin;(try go_simp)
   refine hK _ ?_;clear hK K;have HSTA:=jh (HST7.o.same ((Chg.refl (λ_=>False) w6).alloc (.cells #[.int .i64 N.1.1,.slice xa N.1.2.length N.1.2.length] 241)));have HXE:Hd (kS vN (w6.alloc (.cells #[.int .i64 N.1.1,.slice xa N.1.2.length N.1.2.length] 241)) (w.heap.size+2) (N.1.1,xa,N.1.2.length,N.1.2.length) N.1):=jh ⟨rfl,HNI.o,(HIN.o.lower hlo).same ((Chg.refl _ _).alloc _)⟩;have HXA:Hd (0<N.1.2.length->∀g o,xa=some ⟨g,o,none⟩->(Value.slice va vl vc).ownBlock≠some g/\(Value.slice none 0 0).ownBlock≠some g/\w.heap.size+2<=g):=jh (λhp g o hg=>by
    obtain⟨_,_,g',o',-,h4⟩:=HIN.o;obtain⟨h5,h6⟩:=h4 hp;simp only at h5;rw[hg]at h5;injection h5 with h5;injection h5 with h5;subst h5;obtain⟨X,h7,_⟩:=HST6.o.t.rows;exact⟨λe=>by have:=(h7.blk e).2;omega,(λe=>by cases e),oM⟩)
   obtain⟨XX,hXX,hXl,-⟩:=HSTA.o.t.rows;have HXX:=jh hXX;have HXL:=jh hXl;have HOKR:Hd (∀y∈[(N.1.1,xa,N.1.2.length,N.1.2.length)],rowE.ok y):=jh (by intro y hy;rw[Ay3]at hy;subst hy;exact HNI.o);have HBR:Hd (w.heap.size+2<=(w6.alloc (.cells #[.int .i64 N.1.1,.slice xa N.1.2.length N.1.2.length] 241)).heap.size):=jh (by have:=HSTA.o.r.lt;omega);clear hXX hXl;(refine lt 6 (λ_=>HSS.o.alloc _) ?_);refine xE (i:=7) kR rfl rfl (.tmp 28) (.tmp 33) 199 199 rfl (.slice va vl vc) (.slice (some ⟨w6.heap.size,0,none⟩) 1 1) rfl rfl (λv' w9=>rowE.Own w9 (w.heap.size+2) v' (XX++[(N.1.1,xa,N.1.2.length,N.1.2.length)])/\Chg (λk=>(Value.slice va vl vc).ownBlock=some k) (w6.alloc (.cells #[.int .i64 N.1.1,.slice xa N.1.2.length N.1.2.length] 241)) w9/\(v'.ownBlock=(Value.slice va vl vc).ownBlock\/v'.ownBlock=some (w6.alloc (.cells #[.int .i64 N.1.1,.slice xa N.1.2.length N.1.2.length] 241)).heap.size)) ?_ ?_
   .obtain⟨v',w9,hrun,h1,h2,⟨h3,h4⟩,-⟩:=HXX.o.append HBR.o 199 (.slice (some ⟨w6.heap.size,0,none⟩) 1 1) [(N.1.1,xa,N.1.2.length,N.1.2.length)] (rowE.srcLit 1 HOKR.o) HOKR.o (by have:=HXL.o;simp;omega) 199
    exact⟨v',w9,hrun,λ_=>(HSS.o.alloc _).trans (h2.mono (λk _ e=>.inr e)),h1,h3,h4⟩
   rintro v' w9 hs ⟨h1,h2,h3⟩ K hK;obtain⟨va',vl',vc',hv'⟩:=h1.shape3;subst hv';obtain⟨⟨k1,k2⟩,hf,hcf⟩:=HSTA.o.t.addRow HXE.o HXA.o (λX' hX' _=>(by rw[fG hX' HXX.o];exact h1)) h2 (h3.imp id Or.inl);have HCH:Hd (Chg (λk=>k=w.heap.size\/w.heap.size+2<=k) (w6.alloc (.cells #[.int .i64 N.1.1,.slice xa N.1.2.length N.1.2.length] 241)) (w9.setCell ⟨w.heap.size,1,none⟩ (.slice va' vl' vc'))):=jh ((h2.mono (λk _ e=>.inr ((HXX.o.blk e).1))).trans ((zA w9 w.heap.size 1 _).mono (λk _ e=>.inl e)));have hz9:w9.frozen? ⟨w.heap.size,0,none⟩=false:=(h2.frozen (p:=⟨w.heap.size,0,none⟩) HSTA.o.t.lt (λe=>by have h:w.heap.size+2<=w.heap.size:=(HXX.o.blk e).1;omega)).trans HSTA.o.z0;have HFF:=jh (HSTA.o.store hf (HSTA.o.r.chg HCH.o oM) ((Az4 _ _ _ _).trans hz9));have HCF:=jh ((HC7.o.alloc (.cells #[.int .i64 N.1.1,.slice xa N.1.2.length N.1.2.length] 241)).trans (HCH.o.mono (T:=λj=>w.heap.size<=j) (λk _ e=>oM)));have HSL9:=jh (hs dE);clear hf h1 h2 h3 hs hcf hz9;(try go_simp)
   refine hK _ ?_;clear hK K;(refine lt 8 (λ_=>HSL9.o) ?_);(refine ld 9 ?_);refine yA kR ?_ _;go_wp2;go_roundw
   case rel=>exact⟨m,N.2,R++[N.1],_,by go_num,HFF.o,HNL.o,⟨sO,HLN.o⟩,HTN.o,HCF.o⟩
   case measure=>simp[intOf]
  .have hex:decide (0<K)=false\/(decide (0<K)=true/\sb=true):=by
    rcases Aw4 K with h|h
    .exact .inl (by simp[h])
    .exact .inr ⟨by simpa using h,by cases sb;exact absurd ⟨h,rfl⟩ hgo;rfl⟩
   have HRE:Hd (RR=(R,sp,sb)):=jh (by
    rw[<-HRR.o]
    apply fE
    rcases Aw4 K with h|h
    .exact .inr h
    .exact .inl (by cases sb;exact absurd ⟨h,rfl⟩ hgo;rfl))
   clear hgo;have b17:decide (0<K)=false:=by
    rcases hex with h|⟨_,h⟩
    .exact h
    .have h2:=HR2.o
     rw[HRE.o,h]at h2;cases h2
   clear hex
   all_goals
    go_upto_region 7 with (fail)
    have hb17:=jh b17;clear c2 b17;have HST2:Hd (TkSt vN rowE (w.heap.size+1) w.heap.size (w.heap.size+2) (.slice a Z.length c) wr RR.2 P.1 RR.1 [] (.slice va vl vc) (.slice none 0 0)):=jh (by rw[HRE.o];exact HST.o);have HSL2:Hd (RR.2.1<=Z.length):=jh (by rw[HRE.o];exact HSL.o);have hRl:RR.1.length<=65536:=(by rw[HRE.o];show R.length<=_;omega);have HLR:Hd (∀r∈RR.1,r.2.length<=1000000000):=jh (by rw[HRE.o];intro r hr;have:=HLT.o r hr;omega);have hUl:=vC (m:=65536) HSL2.o;rw[HU.o]at hUl;have HUL:=jh hUl;have HN7:=jh (HN.o RR.2 wr HSL2.o HC.o HST2.o.r);rw[HU.o]at HN7;clear hUl;go_wp2_with fail
    refine HN7.o.mono ?_;rintro e w7 ⟨rfl,hr7,hc7⟩;have HST7:=jh (HST2.o.read hr7 hc7);have HC7:=jh (HC.o.trans (hc7.mono (T:=λj=>w.heap.size<=j) (λk _ e=>oM)));clear hr7 hc7 HN7 HST2 HST HC;go_wp2
    go_loopw [7] (λq wr=>∃(K:Nat) (s:Rd) (O:List Int) (u:Value),q=.int .i64 K/\TkSt vN rowE (w.heap.size+1) w.heap.size (w.heap.size+2) (.slice a Z.length c) wr s P.1 RR.1 O (.slice va vl vc) u/\s.1<=Z.length/\O.length+K<=65536/\ofP Z 65536 K s O=V/\Chg (λj=>w.heap.size<=j) w wr) (λq _=>(intOf q).toNat)
    case atStart=>exact⟨U.1,U.2,[],_,rfl,HST7.o,HUL.o.1,by have:=HUL.o.2.1;simpa using this,HV.o,HC7.o⟩
    case round =>
     clear HST7 HC7 HV;obtain⟨K,s,O,u,rfl,hst,hs,hOK,hT,hc⟩:=hrel;have HST:=jh hst;have HSL:=jh hs;have HV:=jh hT;have HC:=jh hc;obtain⟨ua,ul,uc,rfl⟩:=hst.t.of.shape3;obtain⟨sp,sb⟩:=s;have c2:=hst.r.c2;simp only at c2;clear hst hs hT hc;by_cases hgo:0<K/\sb=false
     .obtain⟨hK,rfl⟩:=hgo
      obtain⟨m,rfl⟩:∃m,K=m+1:=⟨K-1,oM⟩;have b39:decide (0<m+1)=true:=sI;have e47:((m+1:Nat):Int)-1=(m:Int):=oM;obtain⟨N,hN⟩:∃x,numP Z 65536 (sp,false)=x:=⟨_,rfl⟩;have hNl:=vC (m:=65536) HSL.o;rw[hN]at hNl;have HNL:=jh hNl;have hN1:=hNl.2.1;have HTN:Hd (ofP Z 65536 m N.2 (O++[(N.1:Int)])=V):=jh (by
       rw[<-HV.o,bC rfl,hN])
      have HN':=jh hN;clear hNl hN;go_upto_region 10 with (fail)
      obtain⟨wd,hwd⟩:∃wd,wd=wr.drew:=⟨_,rfl⟩;have HWE:Hd (wr.drew=wd):=jh hwd.symm;have HWD:Hd (Cf wr wd):=jh (by rw[hwd];exact (Chg.refl _ _).drew);have HST6:=jh (HST.o.same HWD.o);have HC6:=jh (HC.o.trans HWD.o.any);clear hwd c2;refine zC (λx=>Chg (λj=>j=w.heap.size+1\/w.heap.size+2<=j) wd x) (λi=>decide (i=7)) kR ?_;show yN _ _ _ _ _ _ 8 (Array.replicate 8 false) _ wr.drew;rw[HWE.o];have HSS:Hd (Chg (λj=>j=w.heap.size+1\/w.heap.size+2<=j) wd wd):=jh cR;have hneg:¬(w.heap.size=w.heap.size+1\/w.heap.size+2<=w.heap.size):=oM;have HN10:=jh (HN.o (sp,false) wd HSL.o HC6.o HST6.o.r);rw[HN'.o]at HN10;(refine lq 0 HSS.o ?_);(refine lq 1 HSS.o ?_ (hr:=by intro w' hC;have q:=hC.cellS HST6.o.t.c2 hneg;go_simp;try with_reducible rfl));(refine lq 2 HSS.o ?_);refine yE (i:=3) kR rfl rfl 186 #[.pointer (some ⟨w.heap.size+1,0,none⟩),.int .i64 65536] (λq w''=>q=.int .i64 N.1/\RdAt w'' (w.heap.size+1) (.slice a Z.length c) N.2/\Chg (λj=>j=w.heap.size+1) wd w'') (by go_simp) ?_ ?_
      .refine HN10.o.mono ?_
       rintro e w6 ⟨rfl,h1,h2⟩;exact⟨_,rfl,λ_=>HSS.o.trans (h2.mono (λk _ e=>.inl e)),rfl,h1,h2⟩
      rintro q w6 hs6 ⟨rfl,hr6,hc6⟩ K hK;have HSS:=jh (hs6 dE);have HST7:=jh (HST6.o.read hr6 hc6);have HC7:=jh (HC6.o.trans (hc6.mono (T:=λj=>w.heap.size<=j) (λk _ e=>oM)));clear hs6 hr6 hc6 HN10;(try go_simp)
      refine hK _ ?_;clear hK K;have HSTA:=jh (HST7.o.same ((Chg.refl (λ_=>False) w6).alloc (.cells #[.int .i64 N.1] 3)));have HOKI:Hd (∀y∈[(N.1:Int)],intE.ok y):=jh (by intro y hy;rw[Ay3]at hy;subst hy;exact⟨oM,oM⟩);have HBR:Hd (w.heap.size+2<=(w6.alloc (.cells #[.int .i64 N.1] 3)).heap.size):=jh (by have:=HSTA.o.r.lt;omega);(refine lt 4 (λ_=>HSS.o.alloc _) ?_);refine xE (i:=5) kR rfl rfl (.tmp 50) (.tmp 53) 25 25 rfl (.slice ua ul uc) (.slice (some ⟨w6.heap.size,0,none⟩) 1 1) rfl rfl (λv' w9=>intE.Own w9 (w.heap.size+2) v' (O++[(N.1:Int)])/\Chg (λk=>(Value.slice ua ul uc).ownBlock=some k) (w6.alloc (.cells #[.int .i64 N.1] 3)) w9/\(v'.ownBlock=(Value.slice ua ul uc).ownBlock\/v'.ownBlock=some (w6.alloc (.cells #[.int .i64 N.1] 3)).heap.size)) ?_ ?_
      .obtain⟨v',w9,hrun,h1,h2,⟨h3,h4⟩,-⟩:=HSTA.o.t.of.append HBR.o 25 (.slice (some ⟨w6.heap.size,0,none⟩) 1 1) [(N.1:Int)] (intE.srcLit 1 HOKI.o) HOKI.o sO 25
       exact⟨v',w9,hrun,λ_=>(HSS.o.alloc _).trans (h2.mono (λk _ e=>.inr e)),h1,h3,h4⟩
      rintro v' w9 hs ⟨h1,h2,h3⟩ K hK;obtain⟨va',vl',vc',hv'⟩:=h1.shape3;subst hv';obtain⟨⟨k1,k2⟩,hf,hcf⟩:=HSTA.o.t.addOf h1 h2 (h3.imp id Or.inl);have HCH:Hd (Chg (λk=>k=w.heap.size\/w.heap.size+2<=k) (w6.alloc (.cells #[.int .i64 N.1] 3)) (w9.setCell ⟨w.heap.size,2,none⟩ (.slice va' vl' vc'))):=jh ((h2.mono (λk _ e=>.inr ((HSTA.o.t.of.blk e).1))).trans ((zA w9 w.heap.size 2 _).mono (λk _ e=>.inl e)));have hz9:w9.frozen? ⟨w.heap.size,0,none⟩=false:=(h2.frozen (p:=⟨w.heap.size,0,none⟩) HSTA.o.t.lt (λe=>by have h:w.heap.size+2<=w.heap.size:=(HSTA.o.t.of.blk e).1;omega)).trans HSTA.o.z0;have HFF:=jh (HSTA.o.store hf (HSTA.o.r.chg HCH.o oM) ((Az4 _ _ _ _).trans hz9));have HCF:=jh ((HC7.o.alloc (.cells #[.int .i64 N.1] 3)).trans (HCH.o.mono (T:=λj=>w.heap.size<=j) (λk _ e=>oM)));have HSL9:=jh (hs dE);clear hf h1 h2 h3 hs hcf hz9;(try go_simp)
      refine hK _ ?_;clear hK K;(refine lt 6 (λ_=>HSL9.o) ?_);(refine ld 7 ?_);refine yA kR ?_ _;go_wp2;go_roundw
      case rel=>exact⟨m,N.2,O++[(N.1:Int)],_,by go_num,HFF.o,HNL.o.1,sO,HTN.o,HCF.o⟩
      case measure=>simp[intOf]
     .have hex:decide (0<K)=false\/(decide (0<K)=true/\sb=true):=by
       rcases Aw4 K with h|h
       .exact .inl (by simp[h])
       .exact .inr ⟨by simpa using h,by cases sb;exact absurd ⟨h,rfl⟩ hgo;rfl⟩
      have HVE:Hd (V=(O,sp,sb)):=jh (by
       rw[<-HV.o]
       apply zAq
       rcases Aw4 K with h|h
       .exact .inr h
       .exact .inl (by cases sb;exact absurd ⟨h,rfl⟩ hgo;rfl))
      clear hgo;have b39:decide (0<K)=false:=by
       rcases hex with h|⟨_,h⟩
       .exact h
       .have h2:=HV2.o
        rw[HVE.o,h]at h2;cases h2
      clear hex
      all_goals
       go_upto_region 11 with (fail)
       clear c2 b39;have HSTV:Hd (TkSt vN rowE (w.heap.size+1) w.heap.size (w.heap.size+2) (.slice a Z.length c) wr V.2 P.1 RR.1 V.1 (.slice va vl vc) (.slice ua ul uc)):=jh (by rw[HVE.o];exact HST.o);have hOl:V.1.length<=65536:=(by rw[HVE.o];show O.length<=_;omega);obtain⟨-,hvl,hle1⟩:=HSTV.o.t.rowsIn;obtain⟨-,hof,-,hul,-,hle2⟩:=HSTV.o.t.final cR;subst hvl hul;have HRI:=jh HSTV.o.t.rowsIn.1;obtain⟨gq,hoat,hop⟩:=hof.bytes;have HMAY:=jh (zHs P.1 RR.1 V.1 va ua vc uc _ gq 0 wr ⟨oM,oM⟩ HRI.o oM HLR.o hoat hop oM);obtain⟨M,hM⟩:∃x,mayL ((P.1:Int),RR.1,V.1)=x:=⟨_,rfl⟩;rw[hM]at HMAY;have c2:=HSTV.o.r.c2;have HM:=jh hM;clear hoat hop hof hM HST HSL HRI;by_cases hbad:V.2.2=true\/M=false
       .have HRES:Hd ((!V.2.2 && mayL ((P.1:Int),RR.1,V.1))=false):=jh (by
         rw[HM.o];rcases hbad with h|h
         .rw[h];rfl
         .rw[h];exact Av1 _)
        by_cases hv:V.2.2=true
        .rw[HV2.o]at hv;cases hv
        .have hm:M=false:=hbad.resolve_left hv
         have hv:V.2.2=false:=(by simpa using hv);rw[hv]at c2;rw[hm]at HMAY;have c0:=HSTV.o.t.c0;have c1:=HSTV.o.t.c1;have c3:=HSTV.o.t.c2;clear hbad hv hm;go_wp2_with fail
         refine HMAY.o.mono ?_;rintro e w8 ⟨rfl,hc8⟩;have HST8:=jh (HSTV.o.same hc8);have HC8:=jh (HC.o.trans hc8.any);clear hc8 c0 c1 c2 c3;have c0:=HST8.o.t.c0;have c1:=HST8.o.t.c1;have c3:=HST8.o.t.c2;have z0:=HST8.o.z0;have z1:=HST8.o.t.z1;have z2:=HST8.o.t.z2;go_wp2;obtain⟨f0,f1,f2,f3⟩:=eL (.int .i64 0) (.slice none 0 0) (.slice none 0 0) c0 c1 c3;have h4:=(HC8.o.trans (f3.mono (T:=λj=>w.heap.size<=j) (λk _ e=>oM))).fresh;clear f3
         generalize ((w8.setCell ⟨w.heap.size,0,none⟩ (.int .i64 0)).setCell ⟨w.heap.size,1,none⟩ (.slice none 0 0)).setCell ⟨w.heap.size,2,none⟩ (.slice none 0 0)=WW at *
         exact bodyPost_ret (v:=.tuple #[.agg #[.int .i64 0,.slice none 0 0,.slice none 0 0],.int .i64 0,.int .i64 4]) (by simp[results,Tryz.results167,go_sem,f0,f1,f2]) rfl (.inr ⟨HRES.o,rfl,h4⟩)
       .have hv:V.2.2=false:=by
         cases h:V.2.2 with
         | false=>rfl
         | true=>exact absurd (.inl h) hbad
        have hm:M=true:=by
         cases M with
         | true=>rfl
         | false=>exact absurd (.inr rfl) hbad
        have HRES:Hd (V.2.2=false/\mayL ((P.1:Int),RR.1,V.1)=true):=jh ⟨hv,by rw[HM.o,hm]⟩;rw[hv]at c2;rw[hm]at HMAY;have c0:=HSTV.o.t.c0;have c1:=HSTV.o.t.c1;have c3:=HSTV.o.t.c2;clear hbad hv hm;go_wp2_with fail
        refine HMAY.o.mono ?_;rintro e w8 ⟨rfl,hc8⟩;have HST8:=jh (HSTV.o.same hc8);have HC8:=jh (HC.o.trans hc8.any);clear hc8 c0 c1 c2 c3;go_upto_region 13 with (fail)
        obtain⟨we,hwe⟩:∃we,we=w8.drew:=⟨_,rfl⟩;have HWE2:Hd (w8.drew=we):=jh hwe.symm;have HWF:Hd (Cf w8 we):=jh (by rw[hwe];exact (Chg.refl _ _).drew);have HTE:=jh (HST8.o.same HWF.o);have HCE:=jh (HC8.o.trans HWF.o.any);clear hwe;refine zC (λx=>x=we) (λi=>decide (7<=i)) kR ?_;show yN _ _ _ _ _ _ 10 (Array.replicate 10 false) _ w8.drew;rw[HWE2.o];have HSS:Hd (we=we):=jh rfl;(refine lq 0 HSS.o ?_);(refine lq 1 HSS.o ?_ (hr:=by intro w' hC;subst hC;have q:=HTE.o.t.c1;go_simp;try with_reducible rfl));(refine lq 3 HSS.o ?_);(refine lq 4 HSS.o ?_ (hr:=by intro w' hC;subst hC;have q:=HTE.o.t.c2;go_simp;try with_reducible rfl));refine yE (i:=2) kR rfl rfl 156 #[.slice va RR.1.length vc] (λq w''=>q=.slice va RR.1.length RR.1.length/\we=w'') (by go_simp) ?_ ?_
        .refine (zNz we va _ vc hle1).mono ?_
         rintro e w2 ⟨rfl,rfl⟩;exact⟨_,rfl,λ_=>rfl,rfl,rfl⟩
        rintro q w''-⟨rfl,rfl⟩ K hK;(try go_simp)
        refine hK _ ?_;clear hK K;(refine lq 6 HSS.o ?_);refine yE (i:=5) kR rfl rfl 144 #[.slice ua V.1.length uc] (λq w''=>q=.slice ua V.1.length V.1.length/\we=w'') (by go_simp) ?_ ?_
        .refine (zBf we ua _ uc hle2).mono ?_
         rintro e w2 ⟨rfl,rfl⟩;exact⟨_,rfl,λ_=>rfl,rfl,rfl⟩
        rintro q w''-⟨rfl,rfl⟩ K hK;(try go_simp)
        refine hK _ ?_;clear hK K;have c1:=HTE.o.t.c1;have y1:=HTE.o.t.z1;have c0:=HTE.o.t.c0;have s1:=zA we w.heap.size 1 (.slice va RR.1.length RR.1.length);have c2:(we.setCell ⟨w.heap.size,1,none⟩ (.slice va RR.1.length RR.1.length)).cell? ⟨w.heap.size,2,none⟩=some (.slice ua V.1.length uc):=Chg.cellNe HTE.o.t.c2 (by intro e;injection e with _ e;cases e);have y2:(we.setCell ⟨w.heap.size,1,none⟩ (.slice va RR.1.length RR.1.length)).frozen? ⟨w.heap.size,2,none⟩=false:=(Az4 _ _ _ _).trans HTE.o.t.z2;(refine ld 7 ?_);(refine lt 8 (λh=>absurd h dE) ?_);(refine ld 9 ?_);refine yA kR ?_ _;obtain⟨wg,hwg⟩:∃wg,wg=(we.setCell ⟨w.heap.size,1,none⟩ (.slice va RR.1.length RR.1.length)).setCell ⟨w.heap.size,2,none⟩ (.slice ua V.1.length V.1.length):=⟨_,rfl⟩;rw[<-hwg];have s2:Chg (λk=>k=w.heap.size) we wg:=(by rw[hwg];exact s1.trans (zA _ _ _ _));have g0:wg.cell? ⟨w.heap.size,0,none⟩=some (.int .i64 P.1):=(by rw[hwg];exact Chg.cellNe (Chg.cellNe c0 (by intro e;injection e with _ e;cases e)) (by intro e;injection e with _ e;cases e));have g1:wg.cell? ⟨w.heap.size,1,none⟩=some (.slice va RR.1.length RR.1.length):=(by rw[hwg];exact Chg.cellNe (Az9 _ _ _ c1) (by intro e;injection e with _ e;cases e));have g2:wg.cell? ⟨w.heap.size,2,none⟩=some (.slice ua V.1.length V.1.length):=(by rw[hwg];exact Az9 _ _ _ c2);have y0:wg.frozen? ⟨w.heap.size,0,none⟩=false:=(by rw[hwg];exact (Az4 _ _ _ _).trans ((Az4 _ _ _ _).trans HTE.o.z0));have y1':wg.frozen? ⟨w.heap.size,1,none⟩=false:=(by rw[hwg];exact (Az4 _ _ _ _).trans ((Az4 _ _ _ _).trans y1));have y2':wg.frozen? ⟨w.heap.size,2,none⟩=false:=(by rw[hwg];exact (Az4 _ _ _ _).trans y2);have HRG:=jh (HTE.o.r.chg s2 oM);have HS2:=jh s2;clear hwg s2 s1 c0 c1 c2 y1 y2;go_upto_region 14 with (fail)
        have hlt:w.heap.size<wg.heap.size:=Az6 _ _ g0;have HCG:Hd (∀x,Cf wg x->((x.cell? ⟨w.heap.size,0,none⟩=some (.int .i64 P.1)/\x.cell? ⟨w.heap.size,1,none⟩=some (.slice va RR.1.length RR.1.length)/\x.cell? ⟨w.heap.size,2,none⟩=some (.slice ua V.1.length V.1.length))/\x.cell? ⟨w.heap.size+1,1,none⟩=some (.int .i64 V.2.1)/\x.frozen? ⟨w.heap.size,0,none⟩=false/\x.frozen? ⟨w.heap.size,1,none⟩=false/\x.frozen? ⟨w.heap.size,2,none⟩=false)):=jh (λx hx =>
         ⟨⟨hx.cellS g0 iD,hx.cellS g1 iD,hx.cellS g2 iD⟩,hx.cellS HRG.o.c1 iD,(hx.frozen (p:=⟨w.heap.size,0,none⟩) hlt iD).trans y0,(hx.frozen (p:=⟨w.heap.size,1,none⟩) hlt iD).trans y1',(hx.frozen (p:=⟨w.heap.size,2,none⟩) hlt iD).trans y2'⟩)
        clear g0 g1 g2 y0 y1' y2' hlt;refine zW (λx=>((x.cell? ⟨w.heap.size,0,none⟩=some (.int .i64 P.1)/\x.cell? ⟨w.heap.size,1,none⟩=some (.slice va RR.1.length RR.1.length)/\x.cell? ⟨w.heap.size,2,none⟩=some (.slice ua V.1.length V.1.length))/\x.cell? ⟨w.heap.size+1,1,none⟩=some (.int .i64 V.2.1)/\x.frozen? ⟨w.heap.size,0,none⟩=false/\x.frozen? ⟨w.heap.size,1,none⟩=false/\x.frozen? ⟨w.heap.size,2,none⟩=false)/\Chg (λk=>k=w.heap.size) wg x) kR kR ?_ ?_
        .exact⟨HCG.o _ (Chg.refl _ _).drew,(Chg.refl _ _).drew⟩
        (iterate 5 (refine rq ?_ (by intro _ w' _ hC;obtain⟨⟨⟨q0,q1,q2⟩,q3,x0,x1,x2⟩,hh⟩:=hC;go_simp;try with_reducible rfl)))
        refine zLs rfl (λ_ w' _ hC=>?_) (λK hK=>?_)
        .obtain⟨⟨⟨q0,q1,q2⟩,q3,x0,x1,x2⟩,hh⟩:=hC
         obtain⟨f0,f1,f2,f3⟩:=eL (.int .i64 P.1) (.slice va RR.1.length RR.1.length) (.slice ua V.1.length V.1.length) q0 q1 q2;refine⟨((w'.setCell ⟨w.heap.size,0,none⟩ (.int .i64 P.1)).setCell ⟨w.heap.size,1,none⟩ (.slice va RR.1.length RR.1.length)).setCell ⟨w.heap.size,2,none⟩ (.slice ua V.1.length V.1.length),?_,⟨⟨f0,f1,f2⟩,f3.cellS q3 (by show ¬w.heap.size+1=w.heap.size;omega),(Az4 _ _ _ _).trans ((Az4 _ _ _ _).trans ((Az4 _ _ _ _).trans x0)),(Az4 _ _ _ _).trans ((Az4 _ _ _ _).trans ((Az4 _ _ _ _).trans x1)),(Az4 _ _ _ _).trans ((Az4 _ _ _ _).trans ((Az4 _ _ _ _).trans x2))⟩,hh.trans f3⟩;clear f0 f1 f2 f3 hh;go_simp
        ((try go_simp);refine hK _ ?_;clear hK K)
        (iterate 2 (refine rq ?_))
        refine zQ ?_;rintro WW ⟨⟨⟨f0,f1,f2⟩,-⟩,hcw⟩;have h3:=HS2.o.trans hcw;obtain⟨h5,h6,-⟩:=HTE.o.t.final (h3.mono (T:=λk=>k<w.heap.size+2) (λk _ e=>oM));have h7:=(HCE.o.trans (h3.mono (T:=λj=>w.heap.size<=j) (λk _ e=>oM))).fresh;clear h3 hcw;go_wp2;exact bodyPost_ret (v:=.tuple #[.agg #[.int .i64 P.1,.slice va RR.1.length RR.1.length,.slice ua V.1.length V.1.length],.int .i64 V.2.1,.int .i64 0]) (by simp[results,Tryz.results167,go_sem,f0,f1,f2]) rfl (.inl ⟨by first|exact HRES.o|(simp only[HRES.o.1,HRES.o.2];rfl),va,ua,rfl,h5.lower oM,h6.lower oM,h7⟩)
theorem zEw (Z:List Int) (a:Option Addr) (g o c:Nat) (w:World) (hz:BytesAt w g o Z) (ha:0<Z.length->a=some ⟨g,o,none⟩) (hcz:Z.length<=c) (hn:a=none->c=0) (hl:Z.length<=100000000) (hv0:(vS Z vL).2.2=true) :
  Calls Tryz.prog 167 #[.slice a Z.length c] w λe w'=>(mW Z vL=true/\∃ra oa,e=.returned (.tuple #[.agg #[.int .i64 (vS Z vL).1.1,.slice ra (vS Z vL).1.2.1.length (vS Z vL).1.2.1.length,.slice oa (vS Z vL).1.2.2.length (vS Z vL).1.2.2.length],.int .i64 (vS Z vL).2.1,.int .i64 0]) /\
   uN vN rowE w' w.heap.size (ra,(vS Z vL).1.2.1.length,(vS Z vL).1.2.1.length) (vS Z vL).1.2.1/\OfIn w' w.heap.size oa (vS Z vL).1.2.2/\Cf w w') \/
   (mW Z vL=false/\e=.returned (.tuple #[.agg #[.int .i64 0,.slice none 0 0,.slice none 0 0],.int .i64 0,.int .i64 4])/\Cf w w'):=by
 have HN:Hd (∀(s:Rd) (wx:World),s.1<=Z.length->Chg (λj=>w.heap.size<=j) w wx->RdAt wx (w.heap.size+1) (.slice a Z.length c) s->Calls Tryz.prog 186 #[.pointer (some ⟨w.heap.size+1,0,none⟩),.int .i64 65536] wx λe w'=>e=.returned (.int .i64 (numP Z 65536 s).1)/\RdAt w' (w.heap.size+1) (.slice a Z.length c) (numP Z 65536 s).2/\Chg (λj=>j=w.heap.size+1) wx w'):=jh (λs wx h1 h2 h3 =>
  zE8 Z a g o c (w.heap.size+1) 65536 s wx (hz.chg h2 (λhne e=>by have:=hz.lt hne;omega)) ha hcz hn oM h1 oM h3)
 have HROW:Hd (∀(mw:Nat) (s:Rd) (wx:World),mw<=65536->s.1<=Z.length->Chg (λj=>w.heap.size<=j) w wx->RdAt wx (w.heap.size+1) (.slice a Z.length c) s->Calls Tryz.prog 187 #[.pointer (some ⟨w.heap.size+1,0,none⟩),.int .i64 mw] wx λe w'=>∃xa,e=.returned (.agg #[.int .i64 (rowP Z mw 16777216 s).1.1,.slice xa (rowP Z mw 16777216 s).1.2.length (rowP Z mw 16777216 s).1.2.length]) /\
  vN.In w' wx.heap.size (xa,(rowP Z mw 16777216 s).1.2.length,(rowP Z mw 16777216 s).1.2.length) (rowP Z mw 16777216 s).1.2/\RdAt w' (w.heap.size+1) (.slice a Z.length c) (rowP Z mw 16777216 s).2/\Chg (λj=>j=w.heap.size+1) wx w'):=jh (λmw s wx h0 h1 h2 h3 =>
  zL9 Z a g o c (w.heap.size+1) mw s wx (hz.chg h2 (λhne e=>by have:=hz.lt hne;omega)) ha hcz hn oM h1 h0 (λhne=>by have:=hz.lt hne;omega) h3)
 obtain⟨wt,hwt⟩:∃x,x=w.alloc (.cells #[.int .i64 0,.slice none 0 0,.slice none 0 0] 201):=⟨_,rfl⟩;obtain⟨wb,hwb⟩:∃x,x=wt.alloc (.cells #[.slice a Z.length c,.int .i64 0,.bool false] 274):=⟨_,rfl⟩;have HST:=jh (TkSt.start vN rowE (.slice a Z.length c) w 0 201 274);rw[<-hwt,<-hwb]at HST;have HCB:Hd (Chg (λj=>w.heap.size<=j) w wb):=jh (by rw[hwb,hwt];exact ((Chg.refl _ _).alloc _).alloc _);have hst:wt.heap.size=w.heap.size+1:=by rw[hwt];simp
 obtain⟨P,hP⟩:∃x,numP Z 65536 (0,false)=x:=⟨_,rfl⟩;obtain⟨Q,hQ⟩:∃x,numP Z 65536 P.2=x:=⟨_,rfl⟩;obtain⟨RR,hRR⟩:∃x,kW Z P.1 16777216 Q.1 Q.2 []=x:=⟨_,rfl⟩;obtain⟨U,hU⟩:∃x,numP Z 65536 RR.2=x:=⟨_,rfl⟩;obtain⟨V,hV⟩:∃x,ofP Z 65536 U.1 U.2 []=x:=⟨_,rfl⟩;have htk:vS Z vL=(((P.1:Int),RR.1,V.1),V.2):=by
  unfold vS;simp only[vL,id];rw[hP,hQ,hRR,hU,hV]
 have hV2:V.2.2=true:=by rw[htk]at hv0;exact hv0
 have HV2:=jh hV2;clear hV2 hv0;have hPl:=vC (Z:=Z) (m:=65536) (s:=(0,false)) (Av _);rw[hP]at hPl;have hQl:=vC (m:=65536) hPl.1;rw[hQ]at hQl;have HPL:=jh hPl;have HQL:=jh hQl;have hP1:=hPl.2.1;have HP:=jh hP;have HQ:=jh hQ;have HRR:=jh hRR;have HU:=jh hU;have HV:=jh hV;have HWT:=jh hwt;have HWB:=jh hwb;unfold mW;rw[htk];simp only;clear hz ha hcz hn hwt hwb hP hQ hRR hU hV htk hPl hQl;go_enter Tryz.func167,Tryz.ntmps167
 go_upto_region 1 with (fail)
 rw[<-HWT.o];go_upto_region 2 with (fail)
 rw[<-HWB.o];clear hst;go_wp2_with fail
 have HN0:=jh (HN.o (0,false) wb (Av _) HCB.o HST.o.r);rw[HP.o]at HN0;refine HN0.o.mono ?_;rintro e w1 ⟨rfl,hr1,hc1⟩;have HST1:=jh (HST.o.read hr1 hc1);have HC1:=jh (HCB.o.trans (hc1.mono (T:=λj=>w.heap.size<=j) (λk _ e=>oM)));have c0:=HST1.o.t.c0;have z0:=HST1.o.z0;clear hr1 hc1 HST HCB;have HSTW:=jh (HST1.o.width (P.1:Int));have HCW:=jh (HC1.o.trans ((zA w1 w.heap.size 0 (.int .i64 P.1)).mono (T:=λj=>w.heap.size<=j) (λk _ e=>oM)));obtain⟨w2,hw2⟩:∃x,x=w1.setCell ⟨w.heap.size,0,none⟩ (.int .i64 P.1):=⟨_,rfl⟩;rw[<-hw2]at HSTW HCW;have HW2:=jh hw2;clear hw2;go_upto_region 3 with (fail)
 rw[<-HW2.o];clear c0 z0;go_wp2_with fail
 refine (HN.o P.2 w2 HPL.o.1 HCW.o HSTW.o.r).mono ?_;rw[HQ.o];rintro e w3 ⟨rfl,hr3,hc3⟩;have HST3:=jh (HSTW.o.read hr3 hc3);have HC3:=jh (HCW.o.trans (hc3.mono (T:=λj=>w.heap.size<=j) (λk _ e=>oM)));clear hr3 hc3 HSTW HCW HST1 HC1;go_wp2
 go_loopw [6] (λq wr=>∃(K:Nat) (s:Rd) (R:List RowD) (v:Value),q=.int .i64 K/\TkSt vN rowE (w.heap.size+1) w.heap.size (w.heap.size+2) (.slice a Z.length c) wr s P.1 R [] v (.slice none 0 0)/\s.1<=Z.length/\(R.length+K<=65536/\zPg R)/\kW Z P.1 16777216 K s R=RR/\Chg (λj=>w.heap.size<=j) w wr) (λq _=>(intOf q).toNat)
 case atStart=>exact⟨Q.1,Q.2,[],_,rfl,HST3.o,HQL.o.1,⟨by have:=HQL.o.2.1;simpa using this,λr hr=>by cases hr⟩,HRR.o,HC3.o⟩
 case round =>
  clear HST3 HC3 HRR;obtain⟨K,s,R,v,rfl,hst,hs,⟨hRK,hlt⟩,hT,hc⟩:=hrel;have HLT:=jh hlt;have HST:=jh hst;have HSL:=jh hs;have HRR:=jh hT;have HC:=jh hc;obtain⟨va,vl,vc,rfl⟩:∃a n c,v=.slice a n c:=by obtain⟨X,h1,_⟩:=hst.t.rows;exact h1.shape3
  obtain⟨sp,sb⟩:=s;have c2:=hst.r.c2;simp only at c2;clear hst hs hT hc hlt;by_cases hgo:0<K/\sb=false
  .obtain⟨hK,rfl⟩:=hgo
   obtain⟨m,rfl⟩:∃m,K=m+1:=⟨K-1,oM⟩;have b17:decide (0<m+1)=true:=sI;have e25:((m+1:Nat):Int)-1=(m:Int):=oM;obtain⟨N,hN⟩:∃x,rowP Z P.1 16777216 (sp,false)=x:=⟨_,rfl⟩;have hNl:=zMc (mw:=P.1) (mv:=16777216) HSL.o;have hNi:=zJh (mw:=P.1) (mv:=16777216) HSL.o;have hNn:=zJf (mw:=P.1) (mv:=16777216) HSL.o;rw[hN]at hNl hNi hNn;have HNL:=jh hNl;have HNI:=jh hNi;have HLN:=jh (HLT.o.add (r:=N.1) oM);have HTN:Hd (kW Z P.1 16777216 m N.2 (R++[N.1])=RR):=jh (by
    rw[<-HRR.o,mN rfl,hN])
   have HN':=jh hN;clear hNl hNi hN hNn;go_upto_region 6 with (fail)
   obtain⟨wd,hwd⟩:∃wd,wd=wr.drew:=⟨_,rfl⟩;have HWE:Hd (wr.drew=wd):=jh hwd.symm;have HWD:Hd (Cf wr wd):=jh (by rw[hwd];exact (Chg.refl _ _).drew);have HST6:=jh (HST.o.same HWD.o);have HC6:=jh (HC.o.trans HWD.o.any);have hlo:w.heap.size+2<=wd.heap.size:=(by have:=HST6.o.r.lt;omega);clear hwd c2;refine zC (λx=>Chg (λj=>j=w.heap.size+1\/w.heap.size+2<=j) wd x) (λi=>decide (i=9)) kR ?_;show yN _ _ _ _ _ _ 10 (Array.replicate 10 false) _ wr.drew;rw[HWE.o];have HSS:Hd (Chg (λj=>j=w.heap.size+1\/w.heap.size+2<=j) wd wd):=jh cR;have hneg:¬(w.heap.size=w.heap.size+1\/w.heap.size+2<=w.heap.size):=oM;(refine lq 0 HSS.o ?_);(refine lq 1 HSS.o ?_ (hr:=by intro w' hC;have q:=hC.cellS HST6.o.t.c1 hneg;go_simp;try with_reducible rfl));(refine lq 2 HSS.o ?_);(refine lq 3 HSS.o ?_);(refine lq 4 HSS.o ?_ (hr:=by intro w' hC;have q:=hC.cellS HST6.o.t.c0 hneg;go_simp;try with_reducible rfl));refine yE (i:=5) kR rfl rfl 187 #[.pointer (some ⟨w.heap.size+1,0,none⟩),.int .i64 P.1] (λu w''=>∃xa,u=.agg #[.int .i64 N.1.1,.slice xa N.1.2.length N.1.2.length]/\vN.In w'' wd.heap.size (xa,N.1.2.length,N.1.2.length) N.1.2/\RdAt w'' (w.heap.size+1) (.slice a Z.length c) N.2/\Chg (λj=>j=w.heap.size+1) wd w'') (by go_simp) ?_ ?_
   .refine (HROW.o P.1 (sp,false) wd hP1 HSL.o HC6.o HST6.o.r).mono ?_
    rw[HN'.o];rintro e w6 ⟨xa,rfl,h1,h2,h3⟩;exact⟨_,rfl,λ_=>HSS.o.trans (h3.mono (λk _ e=>.inl e)),xa,rfl,h1,h2,h3⟩
   rintro u w6 hs6 ⟨xa,rfl,hin,hr6,hc6⟩ K hK;have HSS:=jh (hs6 dE);have HIN:=jh hin;have HST7:=jh (HST6.o.read hr6 hc6);have HC7:=jh (HC6.o.trans (hc6.mono (T:=λj=>w.heap.size<=j) (λk _ e=>oM)));have HC67:=jh hc6;clear hs6 hr6 hc6 hin;(try go_simp)
   refine hK _ ?_;clear hK K;have HSTA:=jh (HST7.o.same ((Chg.refl (λ_=>False) w6).alloc (.cells #[.int .i64 N.1.1,.slice xa N.1.2.length N.1.2.length] 241)));have HXE:Hd (kS vN (w6.alloc (.cells #[.int .i64 N.1.1,.slice xa N.1.2.length N.1.2.length] 241)) (w.heap.size+2) (N.1.1,xa,N.1.2.length,N.1.2.length) N.1):=jh ⟨rfl,HNI.o,(HIN.o.lower hlo).same ((Chg.refl _ _).alloc _)⟩;have HXA:Hd (0<N.1.2.length->∀g o,xa=some ⟨g,o,none⟩->(Value.slice va vl vc).ownBlock≠some g/\(Value.slice none 0 0).ownBlock≠some g/\w.heap.size+2<=g):=jh (λhp g o hg=>by
    obtain⟨_,_,g',o',-,h4⟩:=HIN.o;obtain⟨h5,h6⟩:=h4 hp;simp only at h5;rw[hg]at h5;injection h5 with h5;injection h5 with h5;subst h5;obtain⟨X,h7,_⟩:=HST6.o.t.rows;exact⟨λe=>by have:=(h7.blk e).2;omega,(λe=>by cases e),oM⟩)
   obtain⟨XX,hXX,hXl,-⟩:=HSTA.o.t.rows;have HXX:=jh hXX;have HXL:=jh hXl;have HOKR:Hd (∀y∈[(N.1.1,xa,N.1.2.length,N.1.2.length)],rowE.ok y):=jh (by intro y hy;rw[Ay3]at hy;subst hy;exact HNI.o);have HBR:Hd (w.heap.size+2<=(w6.alloc (.cells #[.int .i64 N.1.1,.slice xa N.1.2.length N.1.2.length] 241)).heap.size):=jh (by have:=HSTA.o.r.lt;omega);clear hXX hXl;(refine lt 6 (λ_=>HSS.o.alloc _) ?_);refine xE (i:=7) kR rfl rfl (.tmp 28) (.tmp 33) 199 199 rfl (.slice va vl vc) (.slice (some ⟨w6.heap.size,0,none⟩) 1 1) rfl rfl (λv' w9=>rowE.Own w9 (w.heap.size+2) v' (XX++[(N.1.1,xa,N.1.2.length,N.1.2.length)])/\Chg (λk=>(Value.slice va vl vc).ownBlock=some k) (w6.alloc (.cells #[.int .i64 N.1.1,.slice xa N.1.2.length N.1.2.length] 241)) w9/\(v'.ownBlock=(Value.slice va vl vc).ownBlock\/v'.ownBlock=some (w6.alloc (.cells #[.int .i64 N.1.1,.slice xa N.1.2.length N.1.2.length] 241)).heap.size)) ?_ ?_
   .obtain⟨v',w9,hrun,h1,h2,⟨h3,h4⟩,-⟩:=HXX.o.append HBR.o 199 (.slice (some ⟨w6.heap.size,0,none⟩) 1 1) [(N.1.1,xa,N.1.2.length,N.1.2.length)] (rowE.srcLit 1 HOKR.o) HOKR.o (by have:=HXL.o;simp;omega) 199
    exact⟨v',w9,hrun,λ_=>(HSS.o.alloc _).trans (h2.mono (λk _ e=>.inr e)),h1,h3,h4⟩
   rintro v' w9 hs ⟨h1,h2,h3⟩ K hK;obtain⟨va',vl',vc',hv'⟩:=h1.shape3;subst hv';obtain⟨⟨k1,k2⟩,hf,hcf⟩:=HSTA.o.t.addRow HXE.o HXA.o (λX' hX' _=>(by rw[fG hX' HXX.o];exact h1)) h2 (h3.imp id Or.inl);have HCH:Hd (Chg (λk=>k=w.heap.size\/w.heap.size+2<=k) (w6.alloc (.cells #[.int .i64 N.1.1,.slice xa N.1.2.length N.1.2.length] 241)) (w9.setCell ⟨w.heap.size,1,none⟩ (.slice va' vl' vc'))):=jh ((h2.mono (λk _ e=>.inr ((HXX.o.blk e).1))).trans ((zA w9 w.heap.size 1 _).mono (λk _ e=>.inl e)));have hz9:w9.frozen? ⟨w.heap.size,0,none⟩=false:=(h2.frozen (p:=⟨w.heap.size,0,none⟩) HSTA.o.t.lt (λe=>by have h:w.heap.size+2<=w.heap.size:=(HXX.o.blk e).1;omega)).trans HSTA.o.z0;have HFF:=jh (HSTA.o.store hf (HSTA.o.r.chg HCH.o oM) ((Az4 _ _ _ _).trans hz9));have HCF:=jh ((HC7.o.alloc (.cells #[.int .i64 N.1.1,.slice xa N.1.2.length N.1.2.length] 241)).trans (HCH.o.mono (T:=λj=>w.heap.size<=j) (λk _ e=>oM)));have HSL9:=jh (hs dE);clear hf h1 h2 h3 hs hcf hz9;(try go_simp)
   refine hK _ ?_;clear hK K;(refine lt 8 (λ_=>HSL9.o) ?_);(refine ld 9 ?_);refine yA kR ?_ _;go_wp2;go_roundw
   case rel=>exact⟨m,N.2,R++[N.1],_,by go_num,HFF.o,HNL.o,⟨sO,HLN.o⟩,HTN.o,HCF.o⟩
   case measure=>simp[intOf]
  .have hex:decide (0<K)=false\/(decide (0<K)=true/\sb=true):=by
    rcases Aw4 K with h|h
    .exact .inl (by simp[h])
    .exact .inr ⟨by simpa using h,by cases sb;exact absurd ⟨h,rfl⟩ hgo;rfl⟩
   have HRE:Hd (RR=(R,sp,sb)):=jh (by
    rw[<-HRR.o]
    apply fE
    rcases Aw4 K with h|h
    .exact .inr h
    .exact .inl (by cases sb;exact absurd ⟨h,rfl⟩ hgo;rfl))
   clear hgo;rcases hex with b17|⟨b17,rfl⟩
   all_goals
    go_upto_region 7 with (fail)
    have hb17:=jh b17;clear c2 b17;have HST2:Hd (TkSt vN rowE (w.heap.size+1) w.heap.size (w.heap.size+2) (.slice a Z.length c) wr RR.2 P.1 RR.1 [] (.slice va vl vc) (.slice none 0 0)):=jh (by rw[HRE.o];exact HST.o);have HSL2:Hd (RR.2.1<=Z.length):=jh (by rw[HRE.o];exact HSL.o);have hRl:RR.1.length<=65536:=(by rw[HRE.o];show R.length<=_;omega);have HLR:Hd (∀r∈RR.1,r.2.length<=1000000000):=jh (by rw[HRE.o];intro r hr;have:=HLT.o r hr;omega);have hUl:=vC (m:=65536) HSL2.o;rw[HU.o]at hUl;have HUL:=jh hUl;have HN7:=jh (HN.o RR.2 wr HSL2.o HC.o HST2.o.r);rw[HU.o]at HN7;clear hUl;go_wp2_with fail
    refine HN7.o.mono ?_;rintro e w7 ⟨rfl,hr7,hc7⟩;have HST7:=jh (HST2.o.read hr7 hc7);have HC7:=jh (HC.o.trans (hc7.mono (T:=λj=>w.heap.size<=j) (λk _ e=>oM)));clear hr7 hc7 HN7 HST2 HST HC;go_wp2
    go_loopw [7] (λq wr=>∃(K:Nat) (s:Rd) (O:List Int) (u:Value),q=.int .i64 K/\TkSt vN rowE (w.heap.size+1) w.heap.size (w.heap.size+2) (.slice a Z.length c) wr s P.1 RR.1 O (.slice va vl vc) u/\s.1<=Z.length/\O.length+K<=65536/\ofP Z 65536 K s O=V/\Chg (λj=>w.heap.size<=j) w wr) (λq _=>(intOf q).toNat)
    case atStart=>exact⟨U.1,U.2,[],_,rfl,HST7.o,HUL.o.1,by have:=HUL.o.2.1;simpa using this,HV.o,HC7.o⟩
    case round =>
     clear HST7 HC7 HV;obtain⟨K,s,O,u,rfl,hst,hs,hOK,hT,hc⟩:=hrel;have HST:=jh hst;have HSL:=jh hs;have HV:=jh hT;have HC:=jh hc;obtain⟨ua,ul,uc,rfl⟩:=hst.t.of.shape3;obtain⟨sp,sb⟩:=s;have c2:=hst.r.c2;simp only at c2;clear hst hs hT hc;by_cases hgo:0<K/\sb=false
     .obtain⟨hK,rfl⟩:=hgo
      obtain⟨m,rfl⟩:∃m,K=m+1:=⟨K-1,oM⟩;have b39:decide (0<m+1)=true:=sI;have e47:((m+1:Nat):Int)-1=(m:Int):=oM;obtain⟨N,hN⟩:∃x,numP Z 65536 (sp,false)=x:=⟨_,rfl⟩;have hNl:=vC (m:=65536) HSL.o;rw[hN]at hNl;have HNL:=jh hNl;have hN1:=hNl.2.1;have HTN:Hd (ofP Z 65536 m N.2 (O++[(N.1:Int)])=V):=jh (by
       rw[<-HV.o,bC rfl,hN])
      have HN':=jh hN;clear hNl hN;go_upto_region 10 with (fail)
      obtain⟨wd,hwd⟩:∃wd,wd=wr.drew:=⟨_,rfl⟩;have HWE:Hd (wr.drew=wd):=jh hwd.symm;have HWD:Hd (Cf wr wd):=jh (by rw[hwd];exact (Chg.refl _ _).drew);have HST6:=jh (HST.o.same HWD.o);have HC6:=jh (HC.o.trans HWD.o.any);clear hwd c2;refine zC (λx=>Chg (λj=>j=w.heap.size+1\/w.heap.size+2<=j) wd x) (λi=>decide (i=7)) kR ?_;show yN _ _ _ _ _ _ 8 (Array.replicate 8 false) _ wr.drew;rw[HWE.o];have HSS:Hd (Chg (λj=>j=w.heap.size+1\/w.heap.size+2<=j) wd wd):=jh cR;have hneg:¬(w.heap.size=w.heap.size+1\/w.heap.size+2<=w.heap.size):=oM;have HN10:=jh (HN.o (sp,false) wd HSL.o HC6.o HST6.o.r);rw[HN'.o]at HN10;(refine lq 0 HSS.o ?_);(refine lq 1 HSS.o ?_ (hr:=by intro w' hC;have q:=hC.cellS HST6.o.t.c2 hneg;go_simp;try with_reducible rfl));(refine lq 2 HSS.o ?_);refine yE (i:=3) kR rfl rfl 186 #[.pointer (some ⟨w.heap.size+1,0,none⟩),.int .i64 65536] (λq w''=>q=.int .i64 N.1/\RdAt w'' (w.heap.size+1) (.slice a Z.length c) N.2/\Chg (λj=>j=w.heap.size+1) wd w'') (by go_simp) ?_ ?_
      .refine HN10.o.mono ?_
       rintro e w6 ⟨rfl,h1,h2⟩;exact⟨_,rfl,λ_=>HSS.o.trans (h2.mono (λk _ e=>.inl e)),rfl,h1,h2⟩
      rintro q w6 hs6 ⟨rfl,hr6,hc6⟩ K hK;have HSS:=jh (hs6 dE);have HST7:=jh (HST6.o.read hr6 hc6);have HC7:=jh (HC6.o.trans (hc6.mono (T:=λj=>w.heap.size<=j) (λk _ e=>oM)));clear hs6 hr6 hc6 HN10;(try go_simp)
      refine hK _ ?_;clear hK K;have HSTA:=jh (HST7.o.same ((Chg.refl (λ_=>False) w6).alloc (.cells #[.int .i64 N.1] 3)));have HOKI:Hd (∀y∈[(N.1:Int)],intE.ok y):=jh (by intro y hy;rw[Ay3]at hy;subst hy;exact⟨oM,oM⟩);have HBR:Hd (w.heap.size+2<=(w6.alloc (.cells #[.int .i64 N.1] 3)).heap.size):=jh (by have:=HSTA.o.r.lt;omega);(refine lt 4 (λ_=>HSS.o.alloc _) ?_);refine xE (i:=5) kR rfl rfl (.tmp 50) (.tmp 53) 25 25 rfl (.slice ua ul uc) (.slice (some ⟨w6.heap.size,0,none⟩) 1 1) rfl rfl (λv' w9=>intE.Own w9 (w.heap.size+2) v' (O++[(N.1:Int)])/\Chg (λk=>(Value.slice ua ul uc).ownBlock=some k) (w6.alloc (.cells #[.int .i64 N.1] 3)) w9/\(v'.ownBlock=(Value.slice ua ul uc).ownBlock\/v'.ownBlock=some (w6.alloc (.cells #[.int .i64 N.1] 3)).heap.size)) ?_ ?_
      .obtain⟨v',w9,hrun,h1,h2,⟨h3,h4⟩,-⟩:=HSTA.o.t.of.append HBR.o 25 (.slice (some ⟨w6.heap.size,0,none⟩) 1 1) [(N.1:Int)] (intE.srcLit 1 HOKI.o) HOKI.o sO 25
       exact⟨v',w9,hrun,λ_=>(HSS.o.alloc _).trans (h2.mono (λk _ e=>.inr e)),h1,h3,h4⟩
      rintro v' w9 hs ⟨h1,h2,h3⟩ K hK;obtain⟨va',vl',vc',hv'⟩:=h1.shape3;subst hv';obtain⟨⟨k1,k2⟩,hf,hcf⟩:=HSTA.o.t.addOf h1 h2 (h3.imp id Or.inl);have HCH:Hd (Chg (λk=>k=w.heap.size\/w.heap.size+2<=k) (w6.alloc (.cells #[.int .i64 N.1] 3)) (w9.setCell ⟨w.heap.size,2,none⟩ (.slice va' vl' vc'))):=jh ((h2.mono (λk _ e=>.inr ((HSTA.o.t.of.blk e).1))).trans ((zA w9 w.heap.size 2 _).mono (λk _ e=>.inl e)));have hz9:w9.frozen? ⟨w.heap.size,0,none⟩=false:=(h2.frozen (p:=⟨w.heap.size,0,none⟩) HSTA.o.t.lt (λe=>by have h:w.heap.size+2<=w.heap.size:=(HSTA.o.t.of.blk e).1;omega)).trans HSTA.o.z0;have HFF:=jh (HSTA.o.store hf (HSTA.o.r.chg HCH.o oM) ((Az4 _ _ _ _).trans hz9));have HCF:=jh ((HC7.o.alloc (.cells #[.int .i64 N.1] 3)).trans (HCH.o.mono (T:=λj=>w.heap.size<=j) (λk _ e=>oM)));have HSL9:=jh (hs dE);clear hf h1 h2 h3 hs hcf hz9;(try go_simp)
      refine hK _ ?_;clear hK K;(refine lt 6 (λ_=>HSL9.o) ?_);(refine ld 7 ?_);refine yA kR ?_ _;go_wp2;go_roundw
      case rel=>exact⟨m,N.2,O++[(N.1:Int)],_,by go_num,HFF.o,HNL.o.1,sO,HTN.o,HCF.o⟩
      case measure=>simp[intOf]
     .have hex:decide (0<K)=false\/(decide (0<K)=true/\sb=true):=by
       rcases Aw4 K with h|h
       .exact .inl (by simp[h])
       .exact .inr ⟨by simpa using h,by cases sb;exact absurd ⟨h,rfl⟩ hgo;rfl⟩
      have HVE:Hd (V=(O,sp,sb)):=jh (by
       rw[<-HV.o]
       apply zAq
       rcases Aw4 K with h|h
       .exact .inr h
       .exact .inl (by cases sb;exact absurd ⟨h,rfl⟩ hgo;rfl))
      clear hgo;rcases hex with b39|⟨b39,rfl⟩
      all_goals
       go_upto_region 11 with (fail)
       clear c2 b39;have HSTV:Hd (TkSt vN rowE (w.heap.size+1) w.heap.size (w.heap.size+2) (.slice a Z.length c) wr V.2 P.1 RR.1 V.1 (.slice va vl vc) (.slice ua ul uc)):=jh (by rw[HVE.o];exact HST.o);have hOl:V.1.length<=65536:=(by rw[HVE.o];show O.length<=_;omega);obtain⟨-,hvl,hle1⟩:=HSTV.o.t.rowsIn;obtain⟨-,hof,-,hul,-,hle2⟩:=HSTV.o.t.final cR;subst hvl hul;have HRI:=jh HSTV.o.t.rowsIn.1;obtain⟨gq,hoat,hop⟩:=hof.bytes;have HMAY:=jh (zHs P.1 RR.1 V.1 va ua vc uc _ gq 0 wr ⟨oM,oM⟩ HRI.o oM HLR.o hoat hop oM);obtain⟨M,hM⟩:∃x,mayL ((P.1:Int),RR.1,V.1)=x:=⟨_,rfl⟩;rw[hM]at HMAY;have c2:=HSTV.o.r.c2;have HM:=jh hM;clear hoat hop hof hM HST HSL HRI;by_cases hbad:V.2.2=true\/M=false
       .have HRES:Hd ((!V.2.2 && mayL ((P.1:Int),RR.1,V.1))=false):=jh (by
         rw[HM.o];rcases hbad with h|h
         .rw[h];rfl
         .rw[h];exact Av1 _)
        by_cases hv:V.2.2=true
        .rw[hv]at c2
         clear hbad hv;have c0:=HSTV.o.t.c0;have c1:=HSTV.o.t.c1;have c3:=HSTV.o.t.c2;have z0:=HSTV.o.z0;have z1:=HSTV.o.t.z1;have z2:=HSTV.o.t.z2;go_wp2;obtain⟨f0,f1,f2,f3⟩:=eL (.int .i64 0) (.slice none 0 0) (.slice none 0 0) c0 c1 c3;have h4:=(HC.o.trans (f3.mono (T:=λj=>w.heap.size<=j) (λk _ e=>oM))).fresh;clear f3
         generalize ((wr.setCell ⟨w.heap.size,0,none⟩ (.int .i64 0)).setCell ⟨w.heap.size,1,none⟩ (.slice none 0 0)).setCell ⟨w.heap.size,2,none⟩ (.slice none 0 0)=WW at *
         exact bodyPost_ret (v:=.tuple #[.agg #[.int .i64 0,.slice none 0 0,.slice none 0 0],.int .i64 0,.int .i64 4]) (by simp[results,Tryz.results167,go_sem,f0,f1,f2]) rfl (.inr ⟨HRES.o,rfl,h4⟩)
        .exact absurd HV2.o hv
       .exact absurd (.inl HV2.o) hbad
theorem zHf (Z:List Int) (a:Option Addr) (g o c:Nat) (w:World) (hz:BytesAt w g o Z) (ha:0<Z.length->a=some ⟨g,o,none⟩) (hcz:Z.length<=c) (hn:a=none->c=0) (hl:Z.length<=100000000) :
  Calls Tryz.prog 167 #[.slice a Z.length c] w λe w'=>(mW Z vL=true/\∃ra oa,e=.returned (.tuple #[.agg #[.int .i64 (vS Z vL).1.1,.slice ra (vS Z vL).1.2.1.length (vS Z vL).1.2.1.length,.slice oa (vS Z vL).1.2.2.length (vS Z vL).1.2.2.length],.int .i64 (vS Z vL).2.1,.int .i64 0]) /\
   uN vN rowE w' w.heap.size (ra,(vS Z vL).1.2.1.length,(vS Z vL).1.2.1.length) (vS Z vL).1.2.1/\OfIn w' w.heap.size oa (vS Z vL).1.2.2/\Cf w w') \/
   (mW Z vL=false/\e=.returned (.tuple #[.agg #[.int .i64 0,.slice none 0 0,.slice none 0 0],.int .i64 0,.int .i64 4])/\Cf w w'):=by
 cases h:(vS Z vL).2.2 with
 | false=>exact zEx Z a g o c w hz ha hcz hn hl h
 | true=>exact zEw Z a g o c w hz ha hcz hn hl h
-- more bytes behind
theorem zDt:∀{X:List Int}{i acc:Nat}{r:Nat×Nat}(M:List Int),sY i acc X=some r->sY i acc (X++M)=some r
 | [],i,acc,r,M,h=>by simp[sY]at h
 | c :: l,i,acc,r,M,h=>by
  rw[Au9];unfold sY at h ⊢
  split at h
  .cases h
  rename_i h1;rw[if_neg h1]
  split at h
  .rename_i h2
   rw[if_pos h2];exact zDt M h
  .rename_i h2
   rw[if_neg h2];exact h
theorem nE {Z M:List Int}{m:Nat}{s:Rd}(hs:s.1<=Z.length) (h:(numP Z m s).2.2=false):numP (Z++M) m s=numP Z m s:=by
 rcases zCj Z m s with ⟨n,k,h0,h1,h2,h3,h4,e⟩|e
 .have h5:=zDt M h0
  rw[e];unfold numP;rw[List.drop_append_of_le_length hs,h5];simp only;rw[if_pos h1]
 .rw[e]at h;cases h
theorem zC6 {Z M:List Int}{ms mv:Nat}:∀{k:Nat}{s:Rd}{x:Int}{acc:List (Int×Int)},s.1<=Z.length->(rJ Z ms mv k s x acc).2.2=false->rJ (Z++M) ms mv k s x acc=rJ Z ms mv k s x acc
 | 0,s,x,acc,_,h=>rfl
 | k+1,s,x,acc,hl,h=>by
  have hs:=zAc h;rw[qQ hs]at h ⊢;have h3:=zAc h;have l1:=(vC (m:=ms) hl).1;have e1:=nE (M:=M) hl (dW h3);have e2:=nE (M:=M) l1 h3;rw[qQ hs,e1,e2];exact zC6 (vC l1).1 h
theorem zEn {Z:List Int}{ms mv:Nat}:∀{k:Nat}{s:Rd}{x:Int}{acc:List (Int×Int)},s.1<=Z.length->(rJ Z ms mv k s x acc).2.1<=Z.length
 | 0,s,x,acc,h=>h
 | k+1,s,x,acc,h=>by
  cases hs:s.2 with
  | true=>rw[nN (.inl hs)];exact h
  | false=>rw[qQ hs];exact zEn (vC (vC h).1).1
theorem zJg {Z:List Int}{mw mv:Nat}{s:Rd}(h:s.1<=Z.length):(rowP Z mw mv s).2.1<=Z.length:=zEn (vC (vC h).1).1
theorem zMb {Z M:List Int}{mw mv:Nat}{s:Rd}(hl:s.1<=Z.length) (h:(rowP Z mw mv s).2.2=false):rowP (Z++M) mw mv s=rowP Z mw mv s:=by
 have h3:=zAc (show (rJ Z mw mv (numP Z mw (numP Z mv s).2).1 (numP Z mw (numP Z mv s).2).2 0 []).2.2=false from h);have l1:=(vC (m:=mv) hl).1;have e1:=nE (M:=M) hl (dW h3);have e2:=nE (M:=M) l1 h3;unfold rowP;rw[e1,e2,zC6 (vC l1).1 h]
theorem zGb {Z:List Int}{mw mv:Nat}:∀{k:Nat}{s:Rd}{acc:List RowD},s.1<=Z.length->(kW Z mw mv k s acc).2.1<=Z.length
 | 0,s,acc,h=>h
 | k+1,s,acc,h=>by
  cases hs:s.2 with
  | true=>rw[fE (.inl hs)];exact h
  | false=>rw[mN hs];exact zGb (zJg h)
theorem zDy {Z M:List Int}{mw mv:Nat}:∀{k:Nat}{s:Rd}{acc:List RowD},s.1<=Z.length->(kW Z mw mv k s acc).2.2=false->kW (Z++M) mw mv k s acc=kW Z mw mv k s acc
 | 0,s,acc,_,h=>rfl
 | k+1,s,acc,hl,h=>by
  have hs:=zBb h;rw[mN hs]at h ⊢;rw[mN hs,zMb hl (zBb h)];exact zDy (zJg hl) h
theorem zMu {Z:List Int}{mm:Nat}:∀{k:Nat}{s:Rd}{acc:List Int},s.1<=Z.length->(ofP Z mm k s acc).2.1<=Z.length
 | 0,s,acc,h=>h
 | k+1,s,acc,h=>by
  cases hs:s.2 with
  | true=>rw[zAq (.inl hs)];exact h
  | false=>rw[bC hs];exact zMu (vC h).1
theorem zJk {Z M:List Int}{mm:Nat}:∀{k:Nat}{s:Rd}{acc:List Int},s.1<=Z.length->(ofP Z mm k s acc).2.2=false->ofP (Z++M) mm k s acc=ofP Z mm k s acc
 | 0,s,acc,_,h=>rfl
 | k+1,s,acc,hl,h=>by
  have hs:=zBz h;rw[bC hs]at h ⊢;rw[bC hs,nE hl (zBz h)];exact zJk (vC hl).1 h
theorem zJ3 {Z M:List Int}{B:Most}(h:(vS Z B).2.2=false):vS (Z++M) B=vS Z B/\(vS Z B).2.1<=Z.length:=by
 have h5:(ofP Z B.mm (numP Z B.mm (kW Z (B.mw (numP Z B.mm (0,false)).1) B.mv (numP Z B.mm (numP Z B.mm (0,false)).2).1 (numP Z B.mm (numP Z B.mm (0,false)).2).2 []).2).1 (numP Z B.mm (kW Z (B.mw (numP Z B.mm (0,false)).1) B.mv (numP Z B.mm (numP Z B.mm (0,false)).2).1 (numP Z B.mm (numP Z B.mm (0,false)).2).2 []).2).2 []).2.2=false:=h;have h4:=zBz h5;have h3:=dW h4;have h2:=zBb h3;have h1:=dW h2;have l1:=(vC (Z:=Z) (m:=B.mm) (s:=(0,false)) (Av _)).1;have l2:=(vC (m:=B.mm) l1).1;have l3:=zGb (mw:=B.mw (numP Z B.mm (0,false)).1) (mv:=B.mv) (k:=(numP Z B.mm (numP Z B.mm (0,false)).2).1) (acc:=[]) l2;have l4:=(vC (m:=B.mm) l3).1;have e1:=nE (M:=M) (Av _) h1;have e2:=nE (M:=M) l1 h2;have e3:=zDy (M:=M) l2 h3;have e4:=nE (M:=M) l3 h4;have e5:=zJk (M:=M) l4 h5;refine⟨?_,zMu l4⟩;unfold vS;simp only;rw[e1,e2,e3,e4,e5]
-- numbers that were put
theorem jG {Z X R:List Int}{p m:Nat}{n:Int}{f:Bool}(h:Z.drop p=bytesOf (n :: X)++R) (h0:0<=n) (h1:n<4294967296) (h2:n<=m) :
  numP Z m (p,f)=(n.toNat,p+(putL n.toNat).length,f)/\Z.drop (p+(putL n.toNat).length)=bytesOf X++R:=by
 have e:bytesOf (n :: X)=putL n.toNat++bytesOf X:=rfl;rw[e,Az5]at h
 constructor
 .unfold numP
  rw[h,zCa oM];simp only;rw[if_pos oM]
 .rw[<-List.drop_drop,h,List.drop_left]
theorem tY (n:Int) (X:List Int):(bytesOf (n :: X)).length=(putL n.toNat).length+(bytesOf X).length:=by
 have e:bytesOf (n :: X)=putL n.toNat++bytesOf X:=rfl;rw[e,Az0]
theorem zEk {Z X R:List Int}{W:Nat}{d:Int}(hW:W<=65536):∀(cs:List (Int×Int)) (p:Nat) (lf x:Int) (acc:List (Int×Int)),yQ W d lf cs=true->x<=lf+1->0<=x->Z.drop p=bytesOf (zY x cs++X)++R ->
  rJ Z W 16777216 cs.length (p,false) x acc=(acc++cs,p+(bytesOf (zY x cs)).length,false)/\Z.drop (p+(bytesOf (zY x cs)).length)=bytesOf X++R
 | [],p,lf,x,acc,_,_,_,h=>⟨by simp[rJ,zY,bytesOf],by simpa [zY,bytesOf] using h⟩
 | c :: cs,p,lf,x,acc,hf,h1,h2,h=>by
  simp only[yQ,Ay2,decide_eq_true_eq]at hf;obtain⟨⟨⟨⟨g1,g2⟩,g3⟩,-⟩,g5⟩:=hf;obtain⟨c0,c1⟩:=c;simp only at g1 g2 g3 g5;have h':Z.drop p=bytesOf ((c0-x) :: ((c1+1) :: (zY c0 cs++X)))++R:=h;obtain⟨a1,a2⟩:=jG (m:=W) (f:=false) h' oM oM oM;obtain⟨b1,b2⟩:=jG (m:=16777216) (f:=false) a2 (by have:=g3.1;omega) (by have:=g3.2;omega) (by have:=g3.2;omega);obtain⟨e1,e2⟩:=zEk hW cs _ c0 c0 (acc++[(c0,c1)]) g5 oM oM b2;have hx:x+((c0-x).toNat:Int)=c0:=oM
  have hv:(((c1+1).toNat:Nat):Int)-1=c1:=by have:=g3.1;omega
  have hlen:(bytesOf (zY x ((c0,c1) :: cs))).length=(putL (c0-x).toNat).length+((putL (c1+1).toNat).length+(bytesOf (zY c0 cs)).length):=by
   have e:zY x ((c0,c1) :: cs)=(c0-x) :: (c1+1) :: zY c0 cs:=rfl;rw[e,tY,tY]
  refine⟨?_,?_⟩
  .rw[Ax2,qQ rfl,a1,b1]
   simp only;rw[hx,hv,e1,hlen,Az5];simp only[Au9,Aw7,Av8]
  .rw[hlen,<-Av8,<-Av8]
   exact e2
theorem zPs {Z X R:List Int}{W p:Nat}{r:RowD}(hW:W<=65536) (hf:vU W r=true) (h:Z.drop p=bytesOf (xG r++X)++R) :
  rowP Z W 16777216 (p,false)=(r,p+(bytesOf (xG r)).length,false)/\Z.drop (p+(bytesOf (xG r)).length)=bytesOf X++R:=by
 obtain⟨h1,h2,h3⟩:=kJ hW hf;obtain⟨d,cs⟩:=r;simp only at h1 h2;have h':Z.drop p=bytesOf ((d+1) :: ((cs.length:Int) :: (zY 0 cs++X)))++R:=h;obtain⟨a1,a2⟩:=jG (m:=16777216) (f:=false) h' (by have:=h1.1;omega) (by have:=h1.2;omega) (by have:=h1.2;omega);obtain⟨b1,b2⟩:=jG (m:=W) (f:=false) a2 oM oM oM;have hlen:(bytesOf (xG (d,cs))).length=(putL (d+1).toNat).length+((putL cs.length).length+(bytesOf (zY 0 cs)).length):=by
  have e:xG (d,cs)=(d+1) :: (cs.length:Int) :: zY 0 cs:=rfl;rw[e,tY,tY,Ay6]
 rw[Ay6]at b1 b2;have hc:rJ Z W 16777216 cs.length (p+(putL (d+1).toNat).length+(putL cs.length).length,false) 0 []=([]++cs,p+(putL (d+1).toNat).length+(putL cs.length).length+(bytesOf (zY 0 cs)).length,false)/\Z.drop (p+(putL (d+1).toNat).length+(putL cs.length).length+(bytesOf (zY 0 cs)).length)=bytesOf X++R:=by
  by_cases h0:W=0
  .subst h0
   simp only[vU,if_true,Ay2,decide_eq_true_eq]at hf;obtain⟨-,rfl⟩:=hf;exact⟨by simp[rJ,zY,bytesOf],by simpa [zY,bytesOf] using b2⟩
  .simp only[vU,if_neg h0,Ay2,decide_eq_true_eq]at hf
   exact zEk hW cs _ (-1) 0 [] hf.1.1.1 oM oM b2
 refine⟨?_,?_⟩
 .unfold rowP
  rw[a1];simp only;rw[b1];simp only;rw[hc.1,hlen];simp only[Aw7,Av8];have:(((d+1).toNat:Nat):Int)-1=d:=by have:=h1.1;omega
  rw[this]
 .rw[hlen,<-Av8,<-Av8]
  exact hc.2
theorem zAe (X Y:List Int):(bytesOf (X++Y)).length=(bytesOf X).length+(bytesOf Y).length:=by rw[zDm,Az0]
theorem zGa {Z X R:List Int}{W:Nat}(hW:W<=65536):∀(rs:List RowD) (p:Nat) (acc:List RowD),(∀r∈rs,vU W r=true)->Z.drop p=bytesOf (rs.flatMap xG++X)++R ->
  kW Z W 16777216 rs.length (p,false) acc=(acc++rs,p+(bytesOf (rs.flatMap xG)).length,false)/\Z.drop (p+(bytesOf (rs.flatMap xG)).length)=bytesOf X++R
 | [],p,acc,_,h=>⟨by simp[kW,bytesOf],by simpa [bytesOf] using h⟩
 | r :: rs,p,acc,hf,h=>by
  have e:(r :: rs).flatMap xG=xG r++rs.flatMap xG:=rfl;rw[e]at h ⊢;rw[Az5]at h;obtain⟨a1,a2⟩:=zPs hW (hf r (List.mem_cons_self)) h;obtain⟨e1,e2⟩:=zGa hW rs _ (acc++[r]) (λx hx=>hf x (List.mem_cons_of_mem _ hx)) a2;refine⟨?_,?_⟩
  .rw[Ax2,mN rfl,a1,e1,zAe,Az5,Av8]
   rfl
  .rw[zAe,<-Av8]
   exact e2
theorem zMt {Z R:List Int}:∀(os:List Int) (p:Nat) (acc:List Int),(∀n∈os,0<=n/\n<=65536)->Z.drop p=bytesOf os++R ->
  ofP Z 65536 os.length (p,false) acc=(acc++os,p+(bytesOf os).length,false)
 | [],p,acc,_,h=>by simp[ofP,bytesOf]
 | n :: os,p,acc,hf,h=>by
  obtain⟨h0,h1⟩:=hf n (List.mem_cons_self);obtain⟨a1,a2⟩:=jG (m:=65536) (f:=false) h h0 oM oM;have e1:=zMt os _ (acc++[n]) (λx hx=>hf x (List.mem_cons_of_mem _ hx)) a2;rw[Ax2,bC rfl,a1];simp only;rw[Int.toNat_of_nonneg h0,e1,tY,Az5,Av8]
  rfl
theorem zJa {W:Int}{R:List RowD}{O:List Int}(h:mayL (W,R,O)=true) (M:List Int):vS (mC (W,R,O)++M) vL=((W,R,O),(mC (W,R,O)).length,false):=by
 obtain⟨⟨w0,w1,w2⟩,h2,h3,-⟩:=gE h;have hle:=(jY h).2;have hz:(mC (W,R,O)++M).drop 0=bytesOf (W :: ((R.length:Int) :: (R.flatMap xG++(O.length:Int) :: O)))++M:=rfl;obtain⟨a1,a2⟩:=jG (m:=65536) (f:=false) hz w0 oM oM;obtain⟨b1,b2⟩:=jG (m:=65536) (f:=false) a2 oM oM oM;obtain⟨c1,c2⟩:=zGa (W:=W.toNat) oM R _ [] h3 b2;obtain⟨d1,d2⟩:=jG (m:=65536) (f:=false) c2 oM oM oM;have e1:=zMt O _ [] (λn hn=>by have:=zCk O 0 R.length _ h2 n hn;omega) d2;simp only[Ay6]at b1 c1 d1 e1;have hlen:(mC (W,R,O)).length=(putL W.toNat).length+((putL R.length).length+((bytesOf (R.flatMap xG)).length+((putL O.length).length+(bytesOf O).length))):=by
  have e:mC (W,R,O)=bytesOf (W :: ((R.length:Int) :: (R.flatMap xG++(O.length:Int) :: O))):=rfl;rw[e,tY,tY,zAe,tY,Ay6,Ay6]
 unfold vS;simp only[vL,id];rw[a1];simp only;rw[b1];simp only;rw[c1];simp only;rw[d1];simp only;rw[e1,hlen,Int.toNat_of_nonneg w0];simp only[Aw7,Ax0,Av8]
theorem zJ4 {W:Int}{R:List RowD}{O:List Int}(h:mayL (W,R,O)=true) (M:List Int):mW (mC (W,R,O)++M) vL=true:=by
 unfold mW;rw[zJa h M];simp[h]
theorem OfIn.at {w:World}{B:Nat}{a:Option Addr}{O:List Int}(h:OfIn w B a O):∃g,I.BytesAt w g 0 O/\(0<O.length->a=some ⟨g,0,none⟩/\B<=g):=by
 rcases h with ⟨rfl,_⟩|⟨g,h1,h2,h3⟩
 .exact⟨0,⟨λj u hj=>by simp at hj,λh=>(h rfl).elim⟩,λh=>absurd h sI⟩
 .exact⟨g,h2.bytes (Aw6 _),λ_=>⟨h1,h3⟩⟩
theorem zAu (t:TabD):(qY t).length=t.2.2.length:=by simp[qY]
theorem zKz (t:TabD) {k:Nat}(hk:k<t.2.2.length):(qY t)[k]?=some ((List.range t.1.toNat).map (λ(j:Nat)=>zAf t k j)):=by simp[qY,hk]
theorem zB9 {Z:List Int}(h:mW Z vL=true):∃(m sz:Nat) (R:List RowD) (O:List Int),vS Z vL=(((m:Int),R,O),sz,false)/\mayL ((m:Int),R,O)=true/\m<=65536/\O.length<=65536/\sz<=Z.length:=by
 unfold mW at h;rw[Ay2,Ax8]at h;obtain⟨h1,h2⟩:=h;have h3:=(zJ3 (M:=[]) h1).2
 generalize hp:vS Z vL=p at h1 h2 h3
 obtain⟨⟨W,R,O⟩,sz,f⟩:=p;simp only at h1 h2 h3;obtain⟨⟨w0,w1,w2⟩,-⟩:=gE h2;refine⟨W.toNat,sz,R,O,?_,?_,oM,w2,h3⟩
 .rw[Int.toNat_of_nonneg w0,<-h1]
 .rw[Int.toNat_of_nonneg w0];exact h2
theorem uN.chgB {E:Elt (Int×Int)}{F:Elt (Int×Sl)}{S:Nat->Prop}{w w':World}{B:Nat}{s:Sl}{R:List RowD}(h:uN E F w B s R) (hc:Chg S w w') (hs:∀g,B<=g->¬S g):uN E F w' B s R:=by
 obtain⟨X,h1,h2,h3⟩:=h;exact⟨X,h1.chgB hc hs,h2,λj x r hx hr=>⟨(h3 j x r hx hr).1,(h3 j x r hx hr).2.1,(h3 j x r hx hr).2.2.chgB hc hs⟩⟩
theorem zA2 {W d:Int}:∀{cs:List (Int×Int)}{l:Int},yQ W d l cs=true->∀c∈cs,kE c.2
 | [],_,_,c,hc=>by cases hc
 | x :: cs,l,h,c,hc=>by
  simp only[yQ,Ay2,decide_eq_true_eq]at h;rcases Ax3.1 hc with rfl|hc
  .exact h.1.1.2
  .exact zA2 h.2 c hc
theorem zNq {W:Nat}{r:RowD}(hW:W<=65536) (h:vU W r=true) (i:Int):kE (zC8 r i):=by
 have hd:=(kJ hW h).1;have hc:∀c∈r.2,kE c.2:=by
  by_cases h0:W=0
  .subst h0
   simp only[vU,if_true,Ay2,decide_eq_true_eq]at h;rw[h.2];intro c hc;cases hc
  .simp only[vU,if_neg h0,Ay2,decide_eq_true_eq]at h
   exact zA2 h.1.1.1
 unfold zC8
 split
 .rename_i c hf
  exact hc c (List.mem_of_find?_eq_some hf)
 .exact hd
theorem zN5 {m:Nat}{R:List RowD}{O:List Int}(h:mayL ((m:Int),R,O)=true) (l i:Int):kE (zAf ((m:Int),R,O) l i):=by
 obtain⟨⟨w0,w1,w2⟩,-,h3,-⟩:=gE h;have hm:kE (-1):=dE
 simp only[zAf]
 split
 .exact hm
 split
 .exact hm
 split
 .exact hm
 split
 .exact hm
 .rename_i r hr
  exact zNq oM (h3 r (Az2 hr)) i
def zG9 (pg gb:Nat) (w:World) (Z:List Int) (e:Ending) (w':World):Prop :=
 Chg (·=pg) w w'/\((mY Z=none/\e=tL)\/∃(LL:List (List Int)) (m:Nat) (r:List Int) (a:Option Addr),mY Z=some ((LL,(m:Int)),r)/\e=.returned (.tuple #[.slice a LL.length LL.length,.int .i64 m])/\zJ nW (inR intE) w' (λk=>w.heap.size<=k) (a,LL.length,LL.length) LL/\GetSt pg gb w' r/\LL.length<=65536/\m<=65536/\∀l∈LL,l.length=m)
structure TVar (b:Nat) (w:World) (m:Nat) (R:List RowD) (O:List Int) (ra oa:Option Addr) (B g:Nat):Prop where
 c0:w.cell? ⟨b,0,none⟩=some (.int .i64 m)
 c1:w.cell? ⟨b,1,none⟩=some (.slice ra R.length R.length)
 c2:w.cell? ⟨b,2,none⟩=some (.slice oa O.length O.length)
 r:uN vN rowE w B (ra,R.length,R.length) R
 o:I.BytesAt w g 0 O
theorem TVar.fresh {b:Nat}{w w':World}{m:Nat}{R:List RowD}{O:List Int}{ra oa:Option Addr}{B g:Nat}(h:TVar b w m R O ra oa B g) (hc:Cf w w'):TVar b w' m R O ra oa B g :=
 ⟨hc.cellS h.c0 iD,hc.cellS h.c1 iD,hc.cellS h.c2 iD,h.r.same hc,h.o.chg hc iE⟩
theorem zF7 {pg gb:Nat}(w:World) (Z:List Int) (h:GetSt pg gb w Z):Calls Tryz.prog 142 #[.pointer (some ⟨pg,0,none⟩)] w (zG9 pg gb w Z):=by
 obtain⟨o,cc,h1,h2,h3⟩:=h.c;have HT:=jh (zHf Z (some ⟨gb,o,none⟩) gb o cc w h3 (λ_=>rfl) h2 (λh=>by cases h) (by have:=h.len;omega));have HG:=jh h;cases hok:mW Z vL with
 | false =>
  have HF:Hd (mY Z=none):=jh (by unfold mY;rw[hok];rfl);rw[hok]at HT;clear h2 h3 hok h;go_enter Tryz.func142,Tryz.ntmps142
  go_wp2_with fail
  refine HT.o.mono ?_;rintro e w1 (⟨hk,_⟩|⟨-,rfl,hc⟩)
  .cases hk
  have HC:=jh hc;clear hc h1 HT;go_wp2_with fail
  refine (nU _).mono ?_;rintro e w3 ⟨rfl,rfl⟩;exact⟨rfl,HC.o.any.trans ((Chg.refl _ _).alloc _),.inl ⟨HF.o,rfl⟩⟩
 | true =>
  obtain⟨m,sz,R,O,hp,hm,hm2,ho2,hsz⟩:=zB9 hok;have HTG:Hd (mY Z=if (O.length:Int) * (m:Int)<=4194304 then some ((qY ((m:Int),R,O),(m:Int)),Z.drop sz) else none):=jh (by unfold mY;rw[hok,hp];rfl);rw[hok,hp]at HT;have HM:=jh hm;have HCUT:Hd (∀w2,Cf w w2->w2.cell? ⟨pg,0,none⟩=some (.slice (some ⟨gb,o,none⟩) Z.length cc)/\w2.frozen? ⟨pg,0,none⟩=false/\GetSt pg gb (w2.setCell ⟨pg,0,none⟩ (cutV gb o cc Z.length sz)) (Z.drop sz)) :=
   jh λw2 hc=>⟨hc.cellS h1 iD,(hc.frozen (p:=⟨pg,0,none⟩) h.lt iD).trans h.z,(h.fresh hc).cut (hc.cellS h1 iD) h2 (h3.chg hc iE) hsz⟩
  have HLE:Hd (Z.length<=cc):=jh h2;have hszb:sz<=10000000:=by have:=h.len;omega
  have HSZ:=jh hsz;clear h2 h3 hok h hp hm hsz;go_enter Tryz.func142,Tryz.ntmps142
  go_wp2_with fail
  refine HT.o.mono ?_;rintro e w1 (⟨-,ra,oa,rfl,hrows,hof,hc⟩|⟨hk,_⟩)
  rotate_left
  .cases hk
  obtain⟨og,hO,hOa⟩:=hof.at;obtain⟨w2,hw2⟩:∃W,W=w1.alloc (.cells #[.int .i64 m,.slice ra R.length R.length,.slice oa O.length O.length] 201):=⟨_,rfl⟩;have hcw:Cf w1 w2:=by rw[hw2];exact (Chg.refl _ _).alloc _
  have HTV:Hd (TVar w1.heap.size w2 m R O ra oa w.heap.size og):=jh (by
   refine⟨?_,?_,?_,hrows.same hcw,hO.chg hcw iE⟩ <;> · rw[hw2,Az7];rfl)
  have HOA:=jh hOa;have HW2:Hd (w.heap.size<=w1.heap.size/\w2.heap.size=w1.heap.size+1):=jh ⟨hc.size,by rw[hw2];simp⟩;have HC2:=jh (hc.trans hcw);clear hrows hof hO hOa hc hcw HT h1;simp only at *;go_wp2_with fail
  rw[<-hw2];clear hw2;refine (cC _).mono ?_;rintro e w3 ⟨rfl,rfl⟩;by_cases hck:cc=sz
  all_goals
   have hcut:=HCUT.o w3 HC2.o;have hzk:cc=sz->Z.length-sz=0:=λe=>by have:=HLE.o;omega
   first|rw[cutV,if_pos hck]at hcut|rw[cutV,if_neg hck]at hcut
   obtain⟨p1,z1,hg⟩:=hcut;obtain⟨w5,hg5,hc5,htv5,hw5⟩:∃W,GetSt pg gb W (Z.drop sz)/\Chg (·=pg) w W/\TVar w1.heap.size W m R O ra oa w.heap.size og/\W=_:=⟨_,hg,HC2.o.any.trans (zA _ _ _ _),by
    have hsc:=zA w3 pg 0 (cutV gb o cc Z.length sz)
    first|rw[cutV,if_pos hck]at hsc|rw[cutV,if_neg hck]at hsc
    have hlt:=HG.o.lt;have hw2:=HW2.o;have htv:=HTV.o;refine⟨hsc.cellS htv.c0 (by show ¬w1.heap.size=pg;omega),hsc.cellS htv.c1 (by show ¬w1.heap.size=pg;omega),hsc.cellS htv.c2 (by show ¬w1.heap.size=pg;omega),?_,?_⟩
    .exact htv.r.chgB hsc (λg hg e=>oM)
    .refine htv.o.chg hsc (λhne e=>?_)
     have:=(HOA.o (List.length_pos_iff.2 hne)).2;omega,rfl⟩
   first|have hzk:=hzk hck|skip
   go_upto_region 4 with (fail)
   rw[<-hw5];clear hck hw5 hg p1 z1 hzk;have HG5:=jh hg5;have HC5:=jh hc5;have HT5:=jh htv5;have q0:=htv5.c0;have q1:=htv5.c1;have q2:=htv5.c2;clear hg5 hc5 htv5 HTV HCUT HC2;have hpn:O.length * m<=4294967296:=Nat.mul_le_mul ho2 hm2;have hwr:wrap64 ((O.length:Int) * (m:Int))=(O.length:Int) * (m:Int):=by
    rw[<-Int.natCast_mul]
    generalize O.length * m=P at hpn
    simp only[wrap64];omega
   clear hpn;by_cases hle:(O.length:Int) * (m:Int)<=4194304
   .rw[if_pos hle]at HTG
    have d1:decide ((O.length:Int) * (m:Int)<=4194304)=true:=decide_eq_true hle;clear hle;go_wp2_with fail
    refine (cC _).mono ?_;rintro e w6 ⟨rfl,rfl⟩;have HL0:Hd (LSt nW (inR intE) (C0 pg) (T0 pg gb) (S0 (List Int) pg gb) w w6 (.slice none 0 0) [] (Z.drop sz) []):=jh (LSt.start (zKb pg gb) (show S0 (List Int) pg gb w [] Z from HG.o) HG5.o HC5.o);clear d1 hwr;go_wp2;clear q0 q1 q2
    go_loopw [2,42] (λv q wr=>∃(k:Nat) (v0:Value) (X:List Sl),v0=v/\k<=O.length/\q=.int .i64 k/\LSt nW (inR intE) (C0 pg) (T0 pg gb) (S0 (List Int) pg gb) w wr v0 ((qY ((m:Int),R,O)).take k) (Z.drop sz) X/\Cf w6 wr/\∀g,v0.ownBlock=some g->w6.heap.size<=g) (λ_ q _=>O.length-(intOf q).toNat)
    case atStart=>exact⟨0,_,[],rfl,oM,rfl,HL0.o,Chg.refl _ _,λg hg=>by cases hg⟩
    case round =>
     clear HL0;obtain⟨k,v,X,rfl,hk,rfl,hl,hcr,hob⟩:=hrel;have HL:=jh hl;have HCR:=jh hcr;have HOB:=jh hob;have HTR:=jh (HT5.o.fresh hcr);clear hcr hob;by_cases hkl:k<O.length
     .have b9:decide ((k:Int)<(O.length:Int))=true:=by simp;omega
      have hkb:k<65536:=oM;have HROW:Hd ((qY ((m:Int),R,O))[k]?=some ((List.range m).map (λ(j:Nat)=>zAf ((m:Int),R,O) k j))):=jh (zKz ((m:Int),R,O) hkl);obtain⟨row,hrow⟩:∃row,(List.range m).map (λ(j:Nat)=>zAf ((m:Int),R,O) k j)=row:=⟨_,rfl⟩;have HRG:Hd (∀j,j<m->row[j]?=some (zAf ((m:Int),R,O) k j)):=jh (λj hj=>by rw[<-hrow];simp[hj]);have HRL:Hd (row.length=m):=jh (by rw[<-hrow];simp);rw[hrow]at HROW;clear hrow hl;have q0:=HTR.o.c0;go_wp2_with (at_make;refine intE.wpList_make rfl _ _ _ rfl rfl _ _ _ _ m m rfl rfl rfl oM oM oM ?_;intro w7 HR7 HC7)
      obtain⟨wo,rfl⟩:∃wo,wo=wr:=⟨_,rfl⟩;have HO7:Hd (intE.Own w7 wo.heap.size (.slice (some ⟨wo.heap.size,0,none⟩) m m) (List.replicate m 0)):=jh (.inr ⟨wo.heap.size,List.replicate m 0,sI,Ay _,HR7.o,Aw6 _,by simp[maxLen];omega⟩);clear HR7 q0
      go_loopw [50] (λq wr=>∃(j:Nat) (Y:List Int),j<=m/\q=.int .i64 j/\Y.length=m/\(∀i,i<j->Y[i]?=row[i]?)/\intE.Own wr wo.heap.size (.slice (some ⟨wo.heap.size,0,none⟩) m m) Y/\Cf wo wr) (λq _=>m-(intOf q).toNat)
      case atStart=>exact⟨0,_,oM,rfl,sI,λi hi=>absurd hi (Ax _),HO7.o,HC7.o⟩
      case round =>
       clear HO7 HC7;obtain⟨j,Y,hj,rfl,hyl,hye,hyo,hcq⟩:=hrel;have HYL:=jh hyl;have HYE:=jh hye;have HYO:=jh hyo;have HCQ:=jh hcq;have HTQ:=jh (HTR.o.fresh hcq);clear hyl hye hyo hcq;by_cases hjm:j<m
       .have b8:decide ((j:Int)<(m:Int))=true:=by simp;omega
        have hjb:j<65536:=oM;have q0:=HTQ.o.c0;have q1:=HTQ.o.c1;have q2:=HTQ.o.c2;obtain⟨x,hx⟩:∃x,zAf ((m:Int),R,O) k j=x:=⟨_,rfl⟩;have hat:=zN7 (m:Int) (k:Int) (j:Int) R O ra oa R.length O.length w.heap.size og 0 wr ⟨oM,oM⟩ ⟨oM,oM⟩ ⟨oM,oM⟩ HTQ.o.r (λr hr=>by have:=(kJ oM ((gE HM.o).2.2.1 r hr)).2.1;omega) HTQ.o.o (λh=>(HOA.o h).1) oM;rw[hx]at hat;have HAT:=jh hat;have HX:=jh hx;clear hat hx;go_wp2_with fail
        refine HAT.o.mono ?_;rintro e w8 ⟨rfl,hc8⟩;have HO8:=jh (HYO.o.chg hc8 (λ_ _ _ h=>h));obtain⟨g',x',-,-,hg',-,e0,ez,-⟩:=sL HO8.o (k:=j) (by rw[HYL.o];exact hjm);injection hg' with hg';injection hg' with hg';subst hg';have hxv:=zN5 HM.o (k:Int) (j:Int);rw[HX.o]at hxv;have hxb:I.Byte x:=⟨by have:=hxv.1;omega,by have:=hxv.2;omega⟩;have HOS:=jh (zBd HO8.o (k:=j) (by rw[HYL.o];exact hjm) hxb);have HC8:=jh ((HCQ.o.trans hc8).trans2 (zA w8 wo.heap.size j (.int .i64 x)) (λg hg e=>absurd e (Nat.ne_of_lt hg)));have HYE2:Hd (∀i,i<j+1->(Y.set j x)[i]?=row[i]?):=jh (λi hi=>by
         by_cases hij:i=j
         .subst hij
          rw[Av5 (by rw[HYL.o];exact hjm),HRG.o i hjm,HX.o]
         .rw[Au3 (Ne.symm hij)]
          exact HYE.o i oM)
        clear hc8 hxb;go_wp2;go_roundw
        case rel=>exact⟨j+1,_,oM,by go_num,by rw[Au4];exact HYL.o,HYE2.o,HOS.o,HC8.o⟩
        case measure=>simp[intOf];omega
       .obtain rfl:j=m:=oM
        have b8:decide ((j:Int)<(j:Int))=false:=sI;have hYR:Y=row:=List.ext_getElem? (λi=>by
         by_cases hi:i<j
         .exact HYE.o i hi
         .rw[List.getElem?_eq_none (by rw[HYL.o];omega),List.getElem?_eq_none (by rw[HRL.o];omega)])
        subst hYR;have HW7:Hd (wo.heap.size<=wr.heap.size/\w.heap.size<=wo.heap.size):=jh ⟨HCQ.o.size,HL.o.chg.size⟩;have HOV:Hd (nW.Own wr w.heap.size v X):=jh (HL.o.own.chg HCQ.o (λ_ _ _ h=>h));have HXL:Hd (X.length<=65536):=jh (by rw[HL.o.len,Ax1];omega);have HRY:Hd (inR intE wr (λg=>wo.heap.size<=g/\¬T0 pg gb wr g) (some ⟨wo.heap.size,0,none⟩,j,j) Y):=jh (by
         have h1:=Elt.In.inS (HYO.o.in' (c':=j) (Ay _));refine h1.mono (λg _ hg=>⟨hg,λht=>?_⟩);have h2:=HG.o.lt;have h3:=HG.o.lb;have h4:=HW7.o;rcases ht with rfl|rfl <;> omega)
        have HST:Hd (S0 (List Int) pg gb wr ((qY ((j:Int),R,O)).take k++[Y]) (Z.drop sz)):=jh (HL.o.st.fresh HCQ.o);have HTK:Hd ((qY ((j:Int),R,O)).take (k+1)=(qY ((j:Int),R,O)).take k++[Y]):=jh (by rw[Ay1,HROW.o];rfl);have HY1:Hd (∀x∈[((some ⟨wo.heap.size,0,none⟩,j,j):Sl)],nW.ok x):=jh (λ_ _=>trivial);have HC69:Hd (Cf w6 wr):=jh (HCR.o.trans HCQ.o);clear HYE HYO;go_wp2_with (at_builtin;refine Elt.wpList_append2 nW rfl _ _ 26 26 rfl rfl w.heap.size v X [(some ⟨wo.heap.size,0,none⟩,j,j)] (.slice (some ⟨wr.heap.size,0,none⟩) 1 1) rfl rfl (HOV.o.chg ((Chg.refl (λ_=>False) _).alloc _) (λ_ _ _ h=>h)) (by have:=HW7.o;simp;omega) (nW.srcLit (Y:=[(some ⟨wo.heap.size,0,none⟩,j,j)]) 1 HY1.o) HY1.o (by have:=HXL.o;simp;omega) ?_;intro v' w9 HO9 HC9 HB9)
        have HL9:=jh (LSt.step inR.good (zKb pg gb) _ HL.o HRY.o HST.o HCQ.o.any (λg hg=>.inl hg) (λg hg=>.inl hg) HO9.o HB9.o);have HC9':Hd (Cf w6 w9):=jh ((HC69.o.alloc _).trans2 HB9.o.1 (λg hg e=>absurd (HOB.o g e) (Nat.not_le.2 hg)));have HOB9:Hd (∀g,v'.ownBlock=some g->w6.heap.size<=g):=jh (λg hg=>by
         rcases HB9.o.2 with e|e
         .rw[e]at hg;exact HOB.o g hg
         .rw[e]at hg;injection hg with hg;have:=HC69.o.size;simp at hg;omega)
        rw[<-HTK.o]at HL9;go_roundw
        case rel=>exact⟨k+1,_,_,rfl,oM,by go_num,HL9.o,HC9'.o,HOB9.o⟩
        case measure=>simp[intOf];omega
     .obtain rfl:k=O.length:=oM
      have b9:decide ((O.length:Int)<(O.length:Int))=false:=sI;have HTK:Hd ((qY ((m:Int),R,O)).take O.length=qY ((m:Int),R,O)):=jh (Ax6 (by rw[zAu];exact Ay _));rw[HTK.o]at hl HL;obtain⟨a,c,hv,hac,hfin⟩:=hl.final inR.good;subst hv;have HFIN:=jh hfin;obtain⟨n,hn⟩:∃n,(qY ((m:Int),R,O)).length=n:=⟨_,rfl⟩;have HN:=jh hn;rw[hn]at hac HFIN;have q0:=HTR.o.c0;clear hfin hl;go_upto_region 16 with (fail)
      simp only[hn];clear hn;obtain⟨wd,hwd⟩:∃W,wr.drew=W:=⟨_,rfl⟩;have HCD:Hd (Cf wr wd):=jh (by rw[<-hwd];exact (Chg.refl _ _).drew);refine zC (λx=>x=wd) (λ_=>false) kR ?_;show yN _ _ _ _ _ _ 6 (Array.replicate 6 false) _ wr.drew;rw[hwd];clear hwd;have q0:=HCD.o.cellS HTR.o.c0 iD;have HSS:Hd (wd=wd):=jh rfl;(refine lq 0 HSS.o ?_);(refine lq 2 HSS.o ?_);(refine lq 3 HSS.o ?_ (hr:=by intro w' hC;subst hC;go_simp;try with_reducible rfl));refine yE (i:=1) kR rfl rfl 169 #[.slice a n c] (λq w''=>q=.slice a n n/\wd=w'') (by go_simp) ?_ ?_
      .refine (zQr wd a n c hac).mono ?_
       rintro e w2 ⟨rfl,rfl⟩;exact⟨_,rfl,λ_=>rfl,rfl,rfl⟩
      rintro q w''-⟨rfl,rfl⟩ K hK;(try go_simp)
      refine hK _ ?_;clear hK K;(refine lq 4 HSS.o ?_);(refine lq 5 HSS.o ?_);refine yA kR ?_ _;have HP:Hd (zG9 pg gb w Z (.returned (.tuple #[.slice a n n,.int .i64 m])) wd):=jh (by
       refine⟨HL.o.chg.trans HCD.o.any,.inr ⟨_,m,Z.drop sz,a,HTG.o,by rw[HN.o],?_,HL.o.st.fresh HCD.o,by rw[HN.o,<-HN.o,zAu];exact ho2,hm2,λl hl=>?_⟩⟩
       .rw[HN.o]
        exact (zJ.good inR.good).mono ((zJ.good inR.good).chg HFIN.o HCD.o iF) (λg _ hg=>hg.1)
       .simp only[qY,At0,Ay6]at hl
        obtain⟨i,_,rfl⟩:=hl;simp)
      go_wp2;exact bodyPost_ret (v:=.tuple #[.slice a n n,.int .i64 m]) (by simp[results,Tryz.results142,go_sem]) rfl HP.o
   .rw[if_neg hle]at HTG
    have d1:decide ((O.length:Int) * (m:Int)<=4194304)=false:=decide_eq_false hle;clear hle;go_wp2_with fail
    refine (nU _).mono ?_;rintro e w6 ⟨rfl,rfl⟩;exact⟨rfl,HC5.o,.inl ⟨HTG.o,rfl⟩⟩
def maxI:List Int->Int
 | []=>0
 | x :: l=>l.foldl max x
theorem zM7 {Z:List Int}(c:Int) (h:Z≠[]):maxI (Z++[c])=max (maxI Z) c:=by
 cases Z with
 | nil=>exact absurd rfl h
 | cons x l=>simp[maxI,List.foldl_append]
theorem zM6 {Z:List Int}{k:Nat}{c:Int}(h:Z[k]?=some c) (hk:0<k):maxI (Z.take (k+1))=max (maxI (Z.take k)) c:=by
 rw[Ay1,h,Option.toList_some];refine zM7 c (λe=>?_);have h1:=(Az1.1 h).1;have h2:min k Z.length=0:=by have:=congrArg List.length e;rwa [Ax1]at this
 omega
theorem zAz:∀(l:List Int) (x:Int),(l.foldl max x=x\/l.foldl max x∈l)/\x<=l.foldl max x/\∀c∈l,c<=l.foldl max x
 | [],x=>⟨.inl rfl,Int.le_refl _,λ_ h=>by cases h⟩
 | y :: l,x=>by
  obtain⟨h1,h2,h3⟩:=zAz l (max x y);simp only[List.foldl_cons];refine⟨?_,oM,λc hc=>?_⟩
  .rcases h1 with h1|h1
   .rw[h1]
    rcases Int.le_total x y with h|h
    .rw[Int.max_eq_right h];exact .inr (List.mem_cons_self)
    .rw[Int.max_eq_left h];exact .inl rfl
   .exact .inr (List.mem_cons_of_mem _ h1)
  .rcases Ax3.1 hc with rfl|hc
   .omega
   .exact h3 c hc
theorem zAs {Z:List Int}(h:Z≠[]):maxI Z∈Z/\∀c∈Z,c<=maxI Z:=by
 cases Z with
 | nil=>exact absurd rfl h
 | cons x l =>
  obtain⟨h1,h2,h3⟩:=zAz l x;refine⟨?_,λc hc=>?_⟩
  .rcases h1 with h1|h1
   .show l.foldl max x∈x :: l
    rw[h1];exact List.mem_cons_self
   .exact List.mem_cons_of_mem _ h1
  .rcases Ax3.1 hc with rfl|hc
   .exact h2
   .exact h3 c hc
theorem zNy {Z:List Int}(h:Z≠[]) (h0:∀c∈Z,0<=c):xS Z=maxI Z+1:=by
 obtain⟨h1,h2⟩:=zAs h;have h3:=zNx h1;have h4:=fY (m:=maxI Z+1) (by have:=h0 _ h1;omega) (λc hc=>by have:=h2 c hc;omega);omega
theorem zM5 (Z:List Int) (a:Option Addr) (c B:Nat) (w:World) (h:intE.In w B (a,Z.length,c) Z) (hl:Z.length<=1000000000) (hp:0<Z.length) :
  Calls Tryz.prog 86 #[.slice a Z.length c] w λe w'=>e=.returned (.int .i64 (maxI Z))/\w'=w:=by
 have HL:=jh h;obtain⟨x0,g0,o0,hx0,rfl,c0,-,-,-,-⟩:=h.getI hp;rw[Nat.add_zero]at c0;have b1:decide (Z.length<1)=false:=decide_eq_false oM;have b1':decide ((Z.length:Int)<1)=false:=decide_eq_false oM;have H0:Hd (maxI (Z.take 1)=x0):=jh (by rw[Ay1,hx0];simp[maxI]);clear h hx0;go_enter Tryz.func86,Tryz.ntmps86
 go_wp2
 go_loopw [3,4] (λm q wr=>∃(k:Nat) (m0:Int),0<k/\k<=Z.length/\q=.int .i64 k/\m=.int .i64 m0/\maxI (Z.take k)=m0/\wr=w) (λ_ q _=>Z.length-(intOf q).toNat)
 case atStart=>exact⟨1,_,oM,oM,rfl,rfl,H0.o,rfl⟩
 case round =>
  clear H0 c0 b1 b1';obtain⟨k,m0,hk0,hk,rfl,rfl,hm,rfl⟩:=hrel;have HM:=jh hm;clear hm;by_cases hkl:k<Z.length
  .have b9:decide ((k:Int)<(Z.length:Int))=true:=by simp;omega
   obtain⟨x,g,o,hx,hga,c1,-,-,-,-⟩:=HL.o.getI hkl;injection hga with hga;injection hga with e1 e2;subst e1 e2;have HN:Hd (maxI (Z.take (k+1))=if m0<x then x else m0):=jh (by rw[zM6 hx hk0,HM.o];split <;> omega);clear hx;go_wp2;go_roundw
   case rel=>exact⟨k+1,_,oM,oM,by go_num,rfl,HN.o,by trivial⟩
   case measure=>simp[intOf];omega
  .obtain rfl:k=Z.length:=oM
   have b9:decide ((Z.length:Int)<(Z.length:Int))=false:=sI;rw[Ay5]at HM;have hm:=HM.o;subst hm;go_wp2;go_ret
   exact⟨rfl,rfl⟩
theorem zAa (Z:List Int) (ra na ea ca:Option Addr) (rn rc nn nc en ec cc B:Nat) (w:World) (h:intE.In w B (ca,Z.length,cc) Z) (hl:Z.length<=1000000000) (h0:∀c∈Z,0<=c/\c<=1000000000) :
  Calls Tryz.prog 64 #[.agg #[.slice ra rn rc,.slice ca Z.length cc,.slice na nn nc,.slice ea en ec]] w λe w'=>e=.returned (.int .i64 (xS Z))/\Cf w w':=by
 by_cases hz:Z=[]
 .subst hz
  go_enter Tryz.func64,Tryz.ntmps64
  go_wp2;go_ret
  exact⟨rfl,(Chg.refl _ w).alloc _⟩
 .have hp:0<Z.length:=List.length_pos_iff.2 hz
  have b1:((Z.length:Int) == 0)=false:=by simp;omega
  have b2:(Z.length == 0)=false:=by simp;omega
  have HH:=jh h;obtain⟨h1,-⟩:=zAs hz;obtain⟨h2,h3⟩:=h0 _ h1;have HF:Hd (xS Z=maxI Z+1):=jh (zNy hz (λc hc=>(h0 c hc).1));clear h h1 h0;have hz2:¬Z=[]:=hz;go_enter Tryz.func64,Tryz.ntmps64
  go_wp2_with fail
  refine (zM5 Z ca cc B _ (HH.o.same ((Chg.refl _ _).alloc _)) hl hp).mono ?_;rintro e w1 ⟨rfl,rfl⟩;obtain⟨M,hM⟩:∃M,maxI Z=M:=⟨_,rfl⟩;rw[hM]at h2 h3 HF ⊢;clear hM;go_wp2;go_ret
  exact⟨by rw[HF.o];rfl,(Chg.refl _ w).alloc _⟩
end Go.Proofs.YtgnpmceimpjheaaGreat
