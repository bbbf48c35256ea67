/- A part of the proof: RefPut DocE RMa RMl BdA BdB RMc. -/
import Derived.Test.YtgnpmceimpjheaaGreatGP11
import Derived.Test.YtgnpmceimpjheaaGreatGP4
import Derived.Test.YtgnpmceimpjheaaGreatGP3
import Derived.Test.YtgnpmceimpjheaaGreatGP8
import Derived.Test.YtgnpmceimpjheaaGreatGP5
import Derived.Test.YtgnpmceimpjheaaGreatGP7
import Derived.Test.YtgnpmceimpjheaaGreatGP9
import Derived.Test.YtgnpmceimpjheaaGreatGP10
set_option maxRecDepth 100000
set_option maxHeartbeats 16000000
namespace Go.Proofs.YtgnpmceimpjheaaGreat
open Go.RowKit
structure NumSt (w0 w:World) (v:Value) (N:List Int):Prop where
 own:intE.Own w w0.heap.size v N
 chg:Chg (λk=>w0.heap.size<=k) w0 w
theorem NumSt.same {w0 w w':World}{v:Value}{N:List Int}(h:NumSt w0 w v N) (hc:Cf w w'):NumSt w0 w' v N :=
 ⟨h.own.chg hc (λ_ _ _ h=>h),h.chg.trans hc.any⟩
theorem NumSt.add {w0 w w':World}{v v':Value}{N Y:List Int}(h:NumSt w0 w v N) (ho:intE.Own w' w0.heap.size v' (N++Y)) (hc:Chg (λk=>w0.heap.size<=k) w w'):NumSt w0 w' v' (N++Y):=⟨ho,h.chg.trans hc⟩
structure ApB (w:World) (v:Value) (b:Nat):Prop where
 lt:b<w.heap.size
 out:v.ownBlock≠some b
theorem ApB.next {w w':World}{v v':Value}{b:Nat}(h:ApB w v b) (hc:Chg (λk=>v.ownBlock=some k) w w') (hb:v'.ownBlock=v.ownBlock\/v'.ownBlock=some w.heap.size):ApB w' v' b :=
 ⟨Ay9 h.lt hc.size,λe=>by
  rcases hb with hb|hb
  .rw[hb]at e;exact h.out e
  .rw[hb]at e;have:=h.lt;injection e with e;omega⟩
theorem ApB.same {w w':World}{v:Value}{b:Nat}(h:ApB w v b) (hc:Cf w w'):ApB w' v b:=⟨Ay9 h.lt hc.size,h.out⟩
theorem ApB.keep {w w':World}{v:Value}{b:Nat}(h:ApB w v b) (hc:Chg (λk=>v.ownBlock=some k) w w') {j:Nat}{u:Value}(hu:w.cell? ⟨b,j,none⟩=some u):w'.cell? ⟨b,j,none⟩=some u:=hc.cellS hu h.out
theorem zRn {w:World}{B:Nat}{v:Value}{N:List Int}(h:intE.Own w B v N):∃a c g,v=.slice a N.length c/\I.BytesAt w g 0 N/\(0<N.length->a=some ⟨g,0,none⟩)/\(0<N.length->B<=g/\g<w.heap.size):=by
 rcases h with ⟨rfl,rfl⟩|⟨g,C,h1,h2,h3,h4,h5⟩
 .exact⟨none,0,0,rfl,⟨λk a hk=>by simp at hk,λh=>(h rfl).elim⟩,λh=>by simp at h,λh=>by simp at h⟩
 .exact⟨_,_,g,h1,(cG.1 h3).bytes h4,λ_=>rfl,λ_=>⟨h2,h3.lt⟩⟩
theorem zGc (Z:List Int) (W:Int) (R:List RowD) (O:List Int) (ra oa ab:Option Addr) (rc oc cb gb ob B g o:Nat) (w:World) (hW:I.Byte W) (hR:uN kQ rowR w B (ra,R.length,rc) R) (hrl:R.length<=100000000) (hcl:∀r∈R,r.2.length<=1000000000)
  (hO:I.BytesAt w g o O) (ha:0<O.length->oa=some ⟨g,o,none⟩) (hol:O.length<=100000000) (hm:mayL (W,R,O)=true)
  (hb:BytesAt w gb ob Z) (hab:0<Z.length->ab=some ⟨gb,ob,none⟩) (hzl:Z.length<=1000000) (hN:(xU (W,R,O)).length<=10000000) :
  Calls Tryz.prog 123 #[.slice ab Z.length cb,.agg #[.int .i64 W,.slice ra R.length rc,.slice oa O.length oc]] w λe w'=>∃v,e=.returned (.tuple #[v,.int .i64 0])/\Own w' w.heap.size v (Z++mC (W,R,O))/\Cf w w':=by
 have HC0:=jh ((Chg.refl (λ_=>False) w).alloc (.cells #[.int .i64 W,.slice ra R.length rc,.slice oa O.length oc] 194));have HB0:Hd (∀wr,Cf (w.alloc (.cells #[.int .i64 W,.slice ra R.length rc,.slice oa O.length oc] 194)) wr->wr.cell? ⟨w.heap.size,0,none⟩=some (.int .i64 W)/\wr.cell? ⟨w.heap.size,1,none⟩=some (.slice ra R.length rc)/\wr.cell? ⟨w.heap.size,2,none⟩=some (.slice oa O.length oc)/\w.heap.size<wr.heap.size):=jh λwr hc =>
  ⟨hc.cellS sI iD,hc.cellS sI iD,hc.cellS sI iD,by have:=hc.size;simp at this;omega⟩
 have HR:=jh hR;have HO:=jh hO;have HA:=jh ha;have HCL:=jh hcl;have HM:=jh hm;have HBZ:=jh hb;have HAB:=jh hab;have HT:=jh (jY hm).1;have HNL:=jh hN;have HFB:Hd (∀r∈R,kE r.1/\∀n∈xG r,0<=n/\n<4294967296):=jh (λr hr=>by
  obtain⟨q1,-,q3,-⟩:=gE hm;have:=kJ oM (q3 r hr);exact⟨this.1,this.2.2⟩)
 have HRT:=jh (HT.o R.length (by simp[xU]));have HOT:=jh (HT.o O.length (by simp[xU]));have HWT:=jh (HT.o W (by simp[xU]));have HOI:Hd (∀n∈xU (W,R,O),I.Byte n):=jh (λn hn=>by have:=HT.o n hn;exact⟨oM,oM⟩);clear hR hO ha hcl hm hb hab hN;go_enter Tryz.func123,Tryz.ntmps123
 go_wp2_with fail
 refine (zKf W R O ra oa rc oc B g o _ hW (HR.o.same HC0.o) hrl HCL.o (HO.o.chg HC0.o iE) HA.o hol).mono ?_;rintro e w2 ⟨rfl,hc2⟩;rw[HM.o];obtain⟨b0,b1,b2,hb3⟩:=HB0.o w2 hc2;have HC2:=jh (HC0.o.trans hc2);have HBB:Hd (∀wr,Chg (λk=>w2.heap.size<=k) w2 wr->wr.cell? ⟨w.heap.size,0,none⟩=some (.int .i64 W)/\wr.cell? ⟨w.heap.size,1,none⟩=some (.slice ra R.length rc)/\wr.cell? ⟨w.heap.size,2,none⟩=some (.slice oa O.length oc)):=jh λwr hc =>
  ⟨hc.cellS b0 (by show ¬w2.heap.size<=w.heap.size;omega),hc.cellS b1 (by show ¬w2.heap.size<=w.heap.size;omega),hc.cellS b2 (by show ¬w2.heap.size<=w.heap.size;omega)⟩
 have HS0:Hd (NumSt w2 (w2.alloc (.cells #[.int .i64 W,.int .i64 R.length] 3)) (.slice (some ⟨w2.heap.size,0,none⟩) 2 2) ([W,(R.length:Int)]++(R.take 0).flatMap xG)):=jh ⟨.inr ⟨w2.heap.size,[W,(R.length:Int)],rfl,Ay _,cG.2 (I.Row.alloc w2 [W,(R.length:Int)] 3 (by
  intro x hx;rcases Ax3.1 hx with rfl|hx
  .exact⟨by have:=HWT.o;omega,by have:=HWT.o;omega⟩
  .rcases Ax3.1 hx with rfl|hx
   .exact⟨by have:=HRT.o;omega,by have:=HRT.o;omega⟩
   .cases hx)),sI,by show (2:Nat)<=maxLen;decide⟩,(Chg.refl _ _).alloc _⟩
 clear hc2 HB0;go_wp2
 go_loopw [6,7] (λv q wr=>∃k:Nat,k<=R.length/\q=.int .i64 k/\NumSt w2 wr v ([W,(R.length:Int)]++(R.take k).flatMap xG)) (λ_ q _=>R.length-(intOf q).toNat)
 case atStart=>exact⟨0,oM,rfl,HS0.o⟩
 case round =>
  clear HS0 b0 b1 b2;obtain⟨k,hk,rfl,hs⟩:=hrel;have HS:=jh hs;obtain⟨b0,b1,b2⟩:=HBB.o wr hs.chg;have HCW:=jh (HC2.o.trans hs.chg.fresh);obtain⟨va,vn,vc,hva⟩:=hs.own.shape3;subst hva;clear hs;by_cases hkl:k<R.length
  .have b26:decide ((k:Int)<(R.length:Int))=true:=by simp;omega
   obtain⟨r,g',o',xa,xc,hr,rfl,c0,c1,hrb,hin,-,-⟩:=HR.o.get rfl (λ_=>rfl) hkl;obtain⟨rd,rl⟩:=r;simp only at c0 c1 hin hrb;have c0:=HCW.o.cellS c0 iD;have c1:=HCW.o.cellS c1 iD;obtain⟨hv,hrn⟩:=HFB.o _ (Az2 hr);simp only at hv;have HRN:=jh hrn;have HRL:Hd (rl.length<=1000000000):=jh (HCL.o _ (Az2 hr));have HTK:Hd (([W,(R.length:Int)]++(R.take (k+1)).flatMap xG)=([W,(R.length:Int)]++(R.take k).flatMap xG)++xG (rd,rl)):=jh (by rw[Ay1,hr];simp);have HSP:=jh (zJe (W:=W) (O:=O) hr);obtain⟨P,hP⟩:∃P,[W,(R.length:Int)]++(R.take k).flatMap xG=P:=⟨_,rfl⟩;have HPL:Hd (P.length+(xG (rd,rl)).length<=10000000):=jh (by
    have h1:=congrArg List.length HSP.o;have h2:=HNL.o;have h3:=congrArg List.length hP;simp only[Az0,Ax2,Aw5]at h1 h3;omega)
   rw[hP]at HTK HS;obtain⟨bb,hbb⟩:∃n,n=wr.heap.size:=⟨_,rfl⟩;obtain⟨wb,hwb⟩:∃x,x=wr.alloc (.cells #[.int .i64 rd,.slice xa rl.length xc] 236):=⟨_,rfl⟩;have HWRB:Hd (Cf wr wb):=jh (by rw[hwb];exact (Chg.refl _ _).alloc _);have HIN:=jh hin;have HXX:Hd (wb.cell? ⟨bb,0,none⟩=some (.int .i64 rd)/\wb.cell? ⟨bb,1,none⟩=some (.slice xa rl.length xc)):=jh (by rw[hwb,hbb];exact⟨sI,sI⟩);have HWB:=jh hwb;have HBE:=jh hbb;have HSB:=jh (HS.o.same HWRB.o);have HAP:Hd (ApB wb (.slice va vn vc) bb):=jh ⟨by rw[hwb,hbb];simp,λe=>by have:=(HS.o.own.blk e).2;omega⟩;have hrl9:=HRL.o;clear hr hin hrb hwb hrn hP hbb;go_upto_region 8 with (fail)
   rw[<-HWB.o]
   try rw[<-HBE.o]
   clear c0 c1 b0 b1 b2;obtain⟨x0,x1⟩:=HXX.o;have HSL:=jh (HSB.o.same ((Chg.refl (λ_=>False) wb).alloc (.cells #[.int .i64 (rd+1),.int .i64 rl.length] 3)));have HAL:=jh (HAP.o.same ((Chg.refl (λ_=>False) wb).alloc (.cells #[.int .i64 (rd+1),.int .i64 rl.length] 3)));have HXL:Hd ((wb.alloc (.cells #[.int .i64 (rd+1),.int .i64 rl.length] 3)).cell? ⟨bb,0,none⟩=some (.int .i64 rd)/\(wb.alloc (.cells #[.int .i64 (rd+1),.int .i64 rl.length] 3)).cell? ⟨bb,1,none⟩=some (.slice xa rl.length xc)):=jh ⟨((Chg.refl (λ_=>False) wb).alloc _).cellS x0 iD,((Chg.refl (λ_=>False) wb).alloc _).cellS x1 iD⟩;have HOKI:Hd (∀x∈[rd+1,(rl.length:Int)],intE.ok x):=jh (by
    intro x hx
    have:=HRN.o x (by simp only[xG,Ax3];rcases Ax3.1 hx with h|h;· exact .inl h
                      .exact .inr (.inl (Ay3.1 h)))
    exact⟨oM,oM⟩)
   have HBL:Hd (w2.heap.size<=(wb.alloc (.cells #[.int .i64 (rd+1),.int .i64 rl.length] 3)).heap.size):=jh HSL.o.chg.size;have HPX:Hd (P.length+2<=1000000000000):=jh (by have:=HPL.o;omega);go_upto_region 9 with (at_builtin;refine Elt.wpList_append2 intE rfl (.tmp 34) (.tmp 41) 25 25 rfl rfl w2.heap.size (.slice va vn vc) P [rd+1,(rl.length:Int)] (.slice (some ⟨wb.heap.size,0,none⟩) 2 2) rfl rfl HSL.o.own HBL.o (intE.srcLit 2 HOKI.o) HOKI.o HPX.o ?_;intro v3 w3 H1 H2 H3)
   obtain⟨va3,vn3,vc3,hv3⟩:=H1.o.shape3;subst hv3;have HS3:=jh (HSL.o.add H1.o H2.o);have HA3:=jh (HAL.o.next H3.o.1 H3.o.2);have HX3:Hd (w3.cell? ⟨bb,0,none⟩=some (.int .i64 rd)/\w3.cell? ⟨bb,1,none⟩=some (.slice xa rl.length xc)):=jh ⟨HAL.o.keep H3.o.1 HXL.o.1,HAL.o.keep H3.o.1 HXL.o.2⟩;have HP0:Hd (P++[rd+1,(rl.length:Int)]=P++([rd+1,(rl.length:Int)]++zY 0 (rl.take 0))):=jh (by simp[zY]);rw[HP0.o]at HS3;clear x0 x1 HSL HAL HXL HSB HAP HXX HP0 H1 H2 H3 HS;go_wp2
   go_loopw [6,9] (λv q wx=>∃j:Nat,j<=rl.length/\q=.int .i64 j/\NumSt w2 wx v (P++([rd+1,(rl.length:Int)]++zY 0 (rl.take j)))/\ApB wx v bb/\(wx.cell? ⟨bb,0,none⟩=some (.int .i64 rd)/\wx.cell? ⟨bb,1,none⟩=some (.slice xa rl.length xc))) (λ_ q _=>rl.length-(intOf q).toNat)
   case atStart=>exact⟨0,oM,rfl,HS3.o,HA3.o,HX3.o⟩
   case round =>
    clear HS3 HA3 HX3;obtain⟨j,hj,rfl,hs,hap,x0,x1⟩:=hrel;have HS:=jh hs;have HAP:=jh hap;have HXX:=jh (And.intro x0 x1);have HCX:=jh (HC2.o.trans hs.chg.fresh);obtain⟨va,vn,vc,hva⟩:=hs.own.shape3;subst hva;clear hs hap;by_cases hjl:j<rl.length
    .have b47:decide ((j:Int)<(rl.length:Int))=true:=by simp;omega
     obtain⟨p,g5,o5,u,v,hp,rfl,he,c0,c1,hpb,-,-⟩:=(HIN.o.same HCX.o).get2 rfl hjl;obtain⟨rfl,rfl⟩:=zAn he;obtain⟨p0,p1⟩:=p;simp only at c0 c1 hpb;have HTJ:Hd (zY 0 (rl.take (j+1))=zY 0 (rl.take j)++[p0-mE 0 (rl.take j),p1+1]):=jh (by rw[Ay1,hp];exact eA _ _ _);have HCS:=jh (zG5 (d:=rd) hp);have hpx:=HRN.o (p0-mE 0 (rl.take j)) (by rw[HCS.o];simp);have hpy:=HRN.o (p1+1) (by rw[HCS.o];simp);have HPX:Hd ((P++([rd+1,(rl.length:Int)]++zY 0 (rl.take j))).length+2<=1000000000000):=jh (by
      have h1:=congrArg List.length HCS.o;have h2:=HPL.o;simp only[Az0,Ax2,Aw5]at h1 ⊢;omega)
     clear hp he;rcases Aw4 j with h0|h0
     .have HLA:Hd (p0-mE 0 (rl.take j)=p0):=jh (by rw[h0];simp[mE])
      rw[HLA.o]at hpx;have b57:decide (0<j)=false:=sO;clear h0
      have HOKI:Hd (∀x∈[p0,p1+1],intE.ok x):=jh (by
       intro x hx;rcases Ax3.1 hx with rfl|h
       .exact⟨oM,oM⟩
       .rw[Ay3.1 h];exact⟨oM,oM⟩)
      have HSL:=jh (HS.o.same ((Chg.refl (λ_=>False) wr).alloc (.cells #[.int .i64 (p0),.int .i64 (p1+1)] 3)));have HAL:=jh (HAP.o.same ((Chg.refl (λ_=>False) wr).alloc (.cells #[.int .i64 (p0),.int .i64 (p1+1)] 3)));have HXL:Hd ((wr.alloc (.cells #[.int .i64 (p0),.int .i64 (p1+1)] 3)).cell? ⟨bb,0,none⟩=some (.int .i64 rd)/\(wr.alloc (.cells #[.int .i64 (p0),.int .i64 (p1+1)] 3)).cell? ⟨bb,1,none⟩=some (.slice (some ⟨g5,o5,none⟩) rl.length xc)):=jh ⟨((Chg.refl (λ_=>False) wr).alloc _).cellS x0 iD,((Chg.refl (λ_=>False) wr).alloc _).cellS x1 iD⟩;have HBL:Hd (w2.heap.size<=(wr.alloc (.cells #[.int .i64 (p0),.int .i64 (p1+1)] 3)).heap.size):=jh HSL.o.chg.size;go_wp2_with (at_builtin;refine Elt.wpList_append2 intE rfl (.tmp 67) (.tmp 76) 25 25 rfl rfl w2.heap.size (.slice va vn vc) (P++([rd+1,(rl.length:Int)]++zY 0 (rl.take j))) [p0,p1+1] (.slice (some ⟨wr.heap.size,0,none⟩) 2 2) rfl rfl HSL.o.own HBL.o (intE.srcLit 2 HOKI.o) HOKI.o HPX.o ?_;intro v3 w3 H1 H2 H3;obtain⟨va3,vn3,vc3,hv3⟩:=H1.o.shape3;subst hv3;have HS3:Hd (NumSt w2 w3 (.slice va3 vn3 vc3) (P++([rd+1,(rl.length:Int)]++zY 0 (rl.take (j+1))))):=jh (by have:=HSL.o.add H1.o H2.o;rw[HTJ.o,HLA.o,<-Az5 [rd+1,(rl.length:Int)],<-Az5 P];exact this);have HA3:=jh (HAL.o.next H3.o.1 H3.o.2);have HX3:Hd (w3.cell? ⟨bb,0,none⟩=some (.int .i64 rd)/\w3.cell? ⟨bb,1,none⟩=some (.slice (some ⟨g5,o5,none⟩) rl.length xc)):=jh ⟨HAL.o.keep H3.o.1 HXL.o.1,HAL.o.keep H3.o.1 HXL.o.2⟩;clear H1 H2 H3)
      go_roundw
      case rel=>exact⟨j+1,oM,by go_num,HS3.o,HA3.o,HX3.o⟩
      case measure=>simp[intOf];omega
     .obtain⟨m,hm⟩:∃m,j=m+1:=⟨j-1,oM⟩
      obtain⟨q,g6,o6,u,v,hq,e6,he,d0,d1,hqb,-,-⟩:=(HIN.o.same HCX.o).get2 rfl (show m<rl.length by omega);obtain⟨rfl,rfl⟩:=zAn he;injection e6 with e6;injection e6 with e6 e7;subst e6 e7;obtain⟨q0,q1⟩:=q;simp only at d0 d1 hqb;have HLA:Hd (p0-mE 0 (rl.take j)=p0-q0):=jh (by rw[hm,Ay1,hq];simp[mE]);rw[HLA.o]at hpx;have b57:decide (0<j)=true:=sO;have hjm:wrap64 ((j:Int)-1)=(m:Int):=(by unfold wrap64;omega);have hml:m<rl.length:=oM;have hjm2:(j:Int)-1=(m:Int):=oM;clear hq he d1 hm h0;have HOKI:Hd (∀x∈[p0-q0,p1+1],intE.ok x):=jh (by
       intro x hx;rcases Ax3.1 hx with rfl|h
       .exact⟨oM,oM⟩
       .rw[Ay3.1 h];exact⟨oM,oM⟩)
      have HSL:=jh (HS.o.same ((Chg.refl (λ_=>False) wr).alloc (.cells #[.int .i64 (p0-q0),.int .i64 (p1+1)] 3)));have HAL:=jh (HAP.o.same ((Chg.refl (λ_=>False) wr).alloc (.cells #[.int .i64 (p0-q0),.int .i64 (p1+1)] 3)));have HXL:Hd ((wr.alloc (.cells #[.int .i64 (p0-q0),.int .i64 (p1+1)] 3)).cell? ⟨bb,0,none⟩=some (.int .i64 rd)/\(wr.alloc (.cells #[.int .i64 (p0-q0),.int .i64 (p1+1)] 3)).cell? ⟨bb,1,none⟩=some (.slice (some ⟨g5,o5,none⟩) rl.length xc)):=jh ⟨((Chg.refl (λ_=>False) wr).alloc _).cellS x0 iD,((Chg.refl (λ_=>False) wr).alloc _).cellS x1 iD⟩;have HBL:Hd (w2.heap.size<=(wr.alloc (.cells #[.int .i64 (p0-q0),.int .i64 (p1+1)] 3)).heap.size):=jh HSL.o.chg.size;go_wp2_with (at_builtin;refine Elt.wpList_append2 intE rfl (.tmp 67) (.tmp 76) 25 25 rfl rfl w2.heap.size (.slice va vn vc) (P++([rd+1,(rl.length:Int)]++zY 0 (rl.take j))) [p0-q0,p1+1] (.slice (some ⟨wr.heap.size,0,none⟩) 2 2) rfl rfl HSL.o.own HBL.o (intE.srcLit 2 HOKI.o) HOKI.o HPX.o ?_;intro v3 w3 H1 H2 H3;obtain⟨va3,vn3,vc3,hv3⟩:=H1.o.shape3;subst hv3;have HS3:Hd (NumSt w2 w3 (.slice va3 vn3 vc3) (P++([rd+1,(rl.length:Int)]++zY 0 (rl.take (j+1))))):=jh (by have:=HSL.o.add H1.o H2.o;rw[HTJ.o,HLA.o,<-Az5 [rd+1,(rl.length:Int)],<-Az5 P];exact this);have HA3:=jh (HAL.o.next H3.o.1 H3.o.2);have HX3:Hd (w3.cell? ⟨bb,0,none⟩=some (.int .i64 rd)/\w3.cell? ⟨bb,1,none⟩=some (.slice (some ⟨g5,o5,none⟩) rl.length xc)):=jh ⟨HAL.o.keep H3.o.1 HXL.o.1,HAL.o.keep H3.o.1 HXL.o.2⟩;clear H1 H2 H3)
      go_roundw
      case rel=>exact⟨j+1,oM,by go_num,HS3.o,HA3.o,HX3.o⟩
      case measure=>simp[intOf];omega
    .obtain rfl:j=rl.length:=oM
     have b47:decide ((rl.length:Int)<(rl.length:Int))=false:=sI;have HSN:Hd (NumSt w2 wr (.slice va vn vc) (([W,(R.length:Int)]++(R.take (k+1)).flatMap xG))):=jh (by rw[HTK.o];have:=HS.o;rw[Ay5]at this;exact this);clear x0 x1;obtain⟨x0,x1⟩:=HXX.o;clear HS HAP HXX HIN;go_wp2;go_roundw
     case rel=>exact⟨k+1,oM,by go_num,HSN.o⟩
     case measure=>simp[intOf];omega
  .obtain rfl:k=R.length:=oM
   have b26:decide ((R.length:Int)<(R.length:Int))=false:=sI;obtain⟨P,hP⟩:∃P,[W,(R.length:Int)]++R.flatMap xG=P:=⟨_,rfl⟩;have HPT:Hd (P++[(O.length:Int)]++O=xU (W,R,O)):=jh (by rw[<-hP];simp[xU]);have HSP:Hd (NumSt w2 wr (.slice va vn vc) P):=jh (by have:=HS.o;rw[Ay5,hP]at this;exact this);have HPX:Hd (P.length+1+O.length<=10000000):=jh (by
    have h1:=congrArg List.length HPT.o;have h2:=HNL.o;simp only[Az0,Ax2,Aw5]at h1;omega)
   have HOKI:Hd (∀x∈[(O.length:Int)],intE.ok x):=jh (by intro x hx;rw[Ay3]at hx;subst hx;exact⟨oM,oM⟩);have HSL:=jh (HSP.o.same ((Chg.refl (λ_=>False) wr).alloc (.cells #[.int .i64 O.length] 3)));have HBL:Hd (w2.heap.size<=(wr.alloc (.cells #[.int .i64 O.length] 3)).heap.size):=jh HSL.o.chg.size;have HPY:Hd (P.length+1<=1000000000000):=jh (by have:=HPX.o;omega);clear hP HS;go_upto_region 17 with (at_builtin;refine Elt.wpList_append2 intE rfl (.tmp 78) (.tmp 82) 25 25 rfl rfl w2.heap.size (.slice va vn vc) P [(O.length:Int)] (.slice (some ⟨wr.heap.size,0,none⟩) 1 1) rfl rfl HSL.o.own HBL.o (intE.srcLit 1 HOKI.o) HOKI.o HPY.o ?_;intro v3 w3 H1 H2 H3;obtain⟨va3,vn3,vc3,hv3⟩:=H1.o.shape3;subst hv3;have HS3:=jh (HSL.o.add H1.o H2.o);clear H1 H2 H3)
   have HC3:=jh (HC2.o.trans HS3.o.chg.fresh);clear b0 b1 b2;obtain⟨b0,b1,b2⟩:=HBB.o w3 HS3.o.chg;have HO3:=jh (HO.o.chg HC3.o iE);have HOK4:Hd (∀x∈O,intE.ok x):=jh (λx hx=>HOI.o x (by simp[xU,hx]));have HB4:Hd (w2.heap.size<=w3.heap.size):=jh HS3.o.chg.size;have HP4:Hd ((P++[(O.length:Int)]).length+O.length<=1000000000000):=jh (by have:=HPX.o;simp;omega);have HSRC:Hd (Src Tryz.prog intE.sz 25 (.slice oa O.length oc) O.length (intE.encs O) w3):=jh (by rw[zCu];exact I.tN HO3.o HA.o);clear HSL HBL;go_upto_region 18 with (at_builtin;refine Elt.wpList_append2 intE rfl (.tmp 84) (.tmp 86) 25 25 rfl rfl w2.heap.size (.slice va3 vn3 vc3) (P++[(O.length:Int)]) O (.slice oa O.length oc) rfl rfl HS3.o.own HB4.o HSRC.o HOK4.o HP4.o ?_;intro v4 w4 H1 H2 H3;have HS4:=jh (HS3.o.add H1.o H2.o);clear H1 H2 H3)
   have HC4:=jh (HC2.o.trans HS4.o.chg.fresh);rw[HPT.o]at HS4;obtain⟨N,hNN⟩:∃N,xU (W,R,O)=N:=⟨_,rfl⟩;have HTB:Hd (Z++mC (W,R,O)=Z++bytesOf N):=jh (by rw[<-hNN];rfl);rw[hNN]at HS4 HT HNL;obtain⟨na,nc,ng,hv4,hnb,hna,hng⟩:=zRn HS4.o.own;subst hv4;have HNB:=jh hnb;have HNA:=jh hna;have HNG:=jh hng;have HNLT:Hd (0<N.length->ng<w4.heap.size):=jh (λh=>(hng h).2);have HZ4:=jh (HBZ.o.chg HC4.o iE);have HZS:Hd (Src Tryz.prog eY.sz 45 (.slice ab Z.length cb) Z.length (eY.encs Z) w4):=jh (by rw[eC];exact tN HZ4.o HAB.o);have HZO:Hd (∀x∈Z,eY.ok x):=jh (λx hx=>HBZ.o.byte x hx);have HO0:Hd (eY.Own w4 w4.heap.size (.slice none 0 0) []):=jh (.inl ⟨rfl,rfl⟩);have HZ9:Hd (([]:List Int).length+Z.length<=1000000000000):=jh sO;have hnl:=HNL.o;clear hnb hna hng hNN HS3 HSRC HPT;go_upto_region 19 with (at_builtin;refine Elt.wpList_append2 eY rfl (.const (.slice none 0 0)) (.tmp 88) 45 45 rfl rfl w4.heap.size (.slice none 0 0) [] Z (.slice ab Z.length cb) rfl rfl HO0.o (Ay _) HZS.o HZO.o HZ9.o ?_;intro v5 w5 H1 H2 H3;have HQ5:Hd (eY.Own w5 w4.heap.size v5 (Z++bytesOf (N.take 0))/\Chg (λk=>w4.heap.size<=k) w4 w5):=jh ⟨by have:=H1.o;rwa [show Z++bytesOf (N.take 0)=[]++Z by simp[bytesOf]],H2.o⟩;clear H1 H2 H3)
   clear b0 b1 b2;go_wp2
   go_loopw [11,12] (λv q wr=>∃k:Nat,k<=N.length/\q=.int .i64 k/\(eY.Own wr w4.heap.size v (Z++bytesOf (N.take k))/\Chg (λk=>w4.heap.size<=k) w4 wr)) (λ_ q _=>N.length-(intOf q).toNat)
   case atStart=>exact⟨0,oM,rfl,HQ5.o⟩
   case round =>
    clear HQ5;obtain⟨k,hk,rfl,hq⟩:=hrel;have HQ:=jh hq;obtain⟨va,vn,vc,hva⟩:=hq.1.shape3;subst hva;clear hq;by_cases hkl:k<N.length
    .have b93:decide ((k:Int)<(N.length:Int))=true:=by simp;omega
     obtain⟨n,hn,c0,n0,n1⟩:=(HNB.o.chg HQ.o.2 (λ_ h=>by have:=HNLT.o oM;omega)).get hkl;have e1:=HNA.o oM;subst e1;have hnt:=HT.o n (Az2 hn);obtain⟨m,rfl⟩:=Aw8 hnt.1;have hm:m<4294967296:=oM;have hw5:IntKind.u32.wrap (m:Int)=m:=(by rw[IntKind.wrap_u32];omega);have HTK:Hd (Z++bytesOf (N.take (k+1))=Z++bytesOf (N.take k)++putL m):=jh (by rw[Ay1,hn];show Z++bytesOf (N.take k++[(m:Int)])=_;rw[zBu,Ay6,Az5]);have HLEN:Hd ((Z++bytesOf (N.take k)).length<=100000000):=jh (by
      have:=zAd (N.take k) (λn hn=>HT.o n (At1 hn));rw[Az0];rw[Ax1]at this;omega)
     rw[Ax0]at c0;clear hn hnt;go_wp2_with fail
     refine (zD1 [] m none 0 0 0 wr ⟨λk a hk=>by simp at hk,λh=>(h rfl).elim⟩ (λh=>by simp at h) sI hm).mono ?_;rintro e w6 ⟨h,C,rfl,_,h2,h3⟩;rw[Aw7]at h2 ⊢;have HR:=jh h2;have HC6:=jh h3;obtain⟨PL,hPL⟩:∃PL,(putL m).length=PL:=⟨_,rfl⟩;have HPL:=jh hPL;rw[hPL];have HQ6:Hd (eY.Own w6 w4.heap.size (.slice va vn vc) (Z++bytesOf (N.take k))/\Chg (λk=>w4.heap.size<=k) w4 w6):=jh ⟨HQ.o.1.chg h3 (λ_ _ _ h=>h),HQ.o.2.trans h3.any⟩;have HB6:Hd (w4.heap.size<=w6.heap.size):=jh HQ6.o.2.size;have HS6:Hd (Src Tryz.prog eY.sz 45 (.slice (some ⟨h,0,none⟩) PL C) (putL m).length (eY.encs (putL m)) w6):=jh (by rw[eC,<-HPL.o];exact tN (HR.o.bytes (Aw6 _)) (λ_=>rfl));have HL6:Hd ((Z++bytesOf (N.take k)).length+(putL m).length<=1000000000000):=jh (by have:=HLEN.o;have:=sG hm;omega);have HY6:Hd (∀x∈putL m,eY.ok x):=jh (dQ m);clear h2 h3 hPL c0;go_wp2_with (at_builtin;refine Elt.wpList_append2 eY rfl (.tmp 96) (.tmp 102) 45 45 rfl rfl w4.heap.size (.slice va vn vc) (Z++bytesOf (N.take k)) (putL m) (.slice (some ⟨h,0,none⟩) PL C) rfl rfl HQ6.o.1 HB6.o HS6.o HY6.o HL6.o ?_;intro v7 w7 H1 H2 H3;have HQ7:Hd (eY.Own w7 w4.heap.size v7 (Z++bytesOf (N.take (k+1)))/\Chg (λk=>w4.heap.size<=k) w4 w7):=jh ⟨by rw[HTK.o];exact H1.o,HQ6.o.2.trans H2.o⟩;clear H1 H2 H3)
     go_roundw
     case rel=>exact⟨k+1,oM,by go_num,HQ7.o⟩
     case measure=>simp[intOf];omega
    .obtain rfl:k=N.length:=oM
     have b93:decide ((N.length:Int)<(N.length:Int))=false:=sI;have HQF:Hd (Own wr w.heap.size (.slice va vn vc) (Z++mC (W,R,O))/\Cf w wr):=jh ⟨by rw[HTB.o];have:=HQ.o.1;rw[Ay5]at this;exact jW.1 (this.lower HC4.o.size),HC4.o.trans HQ.o.2.fresh⟩;go_wp2;go_ret2
     exact⟨_,rfl,HQF.o⟩
def zLc (x:qS):List Value:=[.int .i64 x.1,.int .i64 x.2.1,.int .i64 x.2.2]
def cJ:Elt qS where
 enc:=zLc
 sz:=3
 bs:=24
 e:=123
 sl:=119
 z:=(0,0,0)
 zv:=.agg #[.int .i64 0,.int .i64 0,.int .i64 0]
 ok:=λx=>I.Byte x.1/\I.Byte x.2.1/\I.Byte x.2.2
 pos:=oM
 len:=λ_=>rfl
 one:=λa u hu=>by
  simp only[zLc,Ax3,Av0,or_false]at hu;rcases hu with rfl|rfl|rfl <;> rfl
 zok:=dE
 info:=kR
 zc:=rfl
 und:=kR
 bsl:=oM
def dStE:Elt (Int×Sl×Sl) where
 enc:=jA
 sz:=3
 bs:=56
 e:=121
 sl:=38
 z:=(0,(none,0,0),(none,0,0))
 zv:=.agg #[.int .i64 0,.slice none 0 0,.slice none 0 0]
 ok:=λx=>I.Byte x.1
 pos:=oM
 len:=λ_=>rfl
 one:=λa u hu=>by
  simp only[jA,Ax3,Av0,or_false]at hu;rcases hu with rfl|rfl|rfl <;> rfl
 zok:=dE
 info:=kR
 zc:=rfl
 und:=kR
 bsl:=oM
def dLeE:Elt (Int×Int) where
 enc:=uW
 sz:=2
 bs:=16
 e:=147
 sl:=143
 z:=(0,0)
 zv:=.agg #[.int .i64 0,.int .i64 0]
 ok:=zJj
 pos:=oM
 len:=λ_=>rfl
 one:=λa u hu=>by
  simp only[uW,Ax3,Av0,or_false]at hu;rcases hu with rfl|rfl <;> rfl
 zok:=dE
 info:=kR
 zc:=rfl
 und:=kR
 bsl:=oM
def dLsE:Elt (Int×Sl×Sl) where
 enc:=jA
 sz:=3
 bs:=56
 e:=145
 sl:=77
 z:=(0,(none,0,0),(none,0,0))
 zv:=.agg #[.int .i64 0,.slice none 0 0,.slice none 0 0]
 ok:=λx=>I.Byte x.1
 pos:=oM
 len:=λ_=>rfl
 one:=λa u hu=>by
  simp only[jA,Ax3,Av0,or_false]at hu;rcases hu with rfl|rfl|rfl <;> rfl
 zok:=dE
 info:=kR
 zc:=rfl
 und:=kR
 bsl:=oM
def zBs:Elt Sl where
 enc:=λs=>[slV s]
 sz:=1
 bs:=24
 e:=79
 sl:=41
 z:=(none,0,0)
 zv:=.agg #[.slice none 0 0]
 ok:=λ_=>True
 pos:=oM
 len:=λ_=>rfl
 one:=λa u hu=>by
  simp only[Ax3,Av0,or_false]at hu;subst hu;rfl
 zok:=trivial
 info:=kR
 zc:=rfl
 und:=kR
 bsl:=oM
def dStR:Rp (Int×Sl×Sl) StD:=λw S x d=>x.1=d.1/\I.Byte d.1/\cJ.InS w S x.2.1 d.2.1/\intE.InS w S x.2.2 d.2.2
theorem dStR.good:Good dStR:=⟨λh hc hs=>⟨h.1,h.2.1,h.2.2.1.chg hc hs,h.2.2.2.chg hc hs⟩,λh hs=>⟨h.1,h.2.1,h.2.2.1.mono hs,h.2.2.2.mono hs⟩⟩
def dLsR:Rp (Int×Sl×Sl) LsD:=λw S x d=>x.1=d.1/\I.Byte d.1/\intE.InS w S x.2.1 d.2.1/\dLeE.InS w S x.2.2 d.2.2
theorem dLsR.good:Good dLsR:=⟨λh hc hs=>⟨h.1,h.2.1,h.2.2.1.chg hc hs,h.2.2.2.chg hc hs⟩,λh hs=>⟨h.1,h.2.1,h.2.2.1.mono hs,h.2.2.2.mono hs⟩⟩
def sJ:Rp Sl (List LsD):=zJ dLsE dLsR
theorem sJ.good:Good sJ:=zJ.good dLsR.good
structure DNetIn (w:World) (S:Nat->Prop) (m:NetS) (n:NetD):Prop where
 st:zJ dStE dStR w S m.st n.st
 s:intE.InS w S m.s n.s
 p:intE.InS w S m.p n.p
 q:intE.InS w S m.q n.q
 d:intE.InS w S m.d n.d
theorem DNetIn.good:Good (λw S m n=>DNetIn w S m n) :=
 ⟨λh hc hs=>⟨(zJ.good dStR.good).chg h.st hc hs,h.s.chg hc hs,h.p.chg hc hs,h.q.chg hc hs,h.d.chg hc hs⟩,λh hs=>⟨(zJ.good dStR.good).mono h.st hs,h.s.mono hs,h.p.mono hs,h.q.mono hs,h.d.mono hs⟩⟩
structure DocIn (w:World) (S:Nat->Prop) (m:TabsS) (t:TabsD):Prop where
 rl:strE.InS w S m.rl t.rl
 tk:strE.InS w S m.tk t.tk
 dr:aA.InS w S m.dr t.dr
 lx:LexIn w S m.lx t.lx
 nt:DNetIn w S m.nt t.nt
 lk:zJ zBs sJ w S m.lk t.lk
theorem DocIn.good:Good (λw S m t=>DocIn w S m t) :=
 ⟨λh hc hs=>⟨h.rl.chg hc hs,h.tk.chg hc hs,h.dr.chg hc hs,LexIn.good.chg h.lx hc hs,DNetIn.good.chg h.nt hc hs,(zJ.good sJ.good).chg h.lk hc hs⟩,λh hs=>⟨h.rl.mono hs,h.tk.mono hs,h.dr.mono hs,LexIn.good.mono h.lx hs,DNetIn.good.mono h.nt hs,(zJ.good sJ.good).mono h.lk hs⟩⟩
theorem Elt.InS.srcS {α:Type}{E:Elt α}{w:World}{S:Nat->Prop}{a:Option Addr}{c:Nat}{L:List α}(h:E.InS w S (a,L.length,c) L):Src Tryz.prog E.sz E.sl (.slice a L.length c) L.length (E.encs L) w:=by
 obtain⟨-,-,g,o,h3,h4⟩:=h;exact h3.src (λhp=>(h4 hp).1)
structure RiseAt (l:List Int) (b most:Int) (k:Nat) (m:Int):Prop where
 lo:b<=m
 z:k=0->m=b
 s:∀p,k=p+1->l[p]?=some (m-1)
 e:xW (l.drop k) m most=xW l b most
theorem RiseAt.start (l:List Int) (b most:Int):RiseAt l b most 0 b:=⟨Int.le_refl _,λ_=>rfl,λ_ h=>oM,rfl⟩
theorem RiseAt.cons {l:List Int}{b most m x:Int}{k:Nat}(h:RiseAt l b most k m) (hx:l[k]?=some x):xW l b most=if x<m\/most<=x then false else xW (l.drop (k+1)) (x+1) most:=by
 obtain⟨hk,hv⟩:=Az1.1 hx;rw[<-h.e,Au2 hk,hv,xW]
theorem RiseAt.step {l:List Int}{b most m x:Int}{k:Nat}(h:RiseAt l b most k m) (hx:l[k]?=some x) (hn:¬(x<m\/most<=x)):RiseAt l b most (k+1) (x+1) :=
 ⟨by have:=h.lo;omega,λh=>oM,λp hp=>by obtain rfl:k=p:=oM
                                       rw[hx,show x+1-1=x by omega],by rw[h.cons hx,if_neg hn]⟩
theorem RiseAt.bad {l:List Int}{b most m x:Int}{k:Nat}(h:RiseAt l b most k m) (hx:l[k]?=some x) (hn:x<m\/most<=x):xW l b most=false:=by rw[h.cons hx,if_pos hn]
theorem RiseAt.done {l:List Int}{b most m:Int}(h:RiseAt l b most l.length m):xW l b most=true:=by rw[<-h.e,List.drop_length];rfl
def zLe (n tk m:Int) (e:Int×Int):Bool:=cW n e || decide (e.1<m\/tk<=e.1)
theorem zBx (A:List LsD) (a:Option Addr) (c alts tokens:Nat) (S:Nat->Prop) (w:World) (h:sJ w S (a,A.length,c) A) (hA:A.length<=1000000000) (hb:∀d∈A,lsB d) (_:alts<=1000000000) (h3:tokens<=1000000000) :
  Calls Tryz.prog 47 #[.agg #[.slice a A.length c],.int .i64 alts,.int .i64 tokens] w λe w'=>e=.returned (.bool (xN A alts tokens))/\Cf w w':=by
 have HL:=jh (zJ.bnd h hb);clear h hb;by_cases h4:A.length<1
 .have d1':decide ((A.length:Int)<1)=true:=decide_eq_true oM
  have d1:decide (A.length<1)=true:=decide_eq_true h4;have HF:Hd (xN A alts tokens=false):=jh (by simp only[xN,decide_eq_false (show ¬1<=A.length by omega),Aw0]);go_enter Tryz.func47,Tryz.ntmps47
  go_wp2;go_ret
  exact⟨by rw[HF.o];rfl,(Chg.refl _ w).alloc _⟩
 have d1:decide (A.length<1)=false:=decide_eq_false h4;have d1':decide ((A.length:Int)<1)=false:=decide_eq_false oM;by_cases h5:4096<A.length
 .have d2:decide (4096<A.length)=true:=decide_eq_true h5
  have d2':decide ((4096:Int)<(A.length:Int))=true:=decide_eq_true oM;have HF:Hd (xN A alts tokens=false):=jh (by simp only[xN,decide_eq_false (show ¬A.length<=4096 by omega),Av1,Aw0]);go_enter Tryz.func47,Tryz.ntmps47
  go_wp2;go_ret
  exact⟨by rw[HF.o];rfl,(Chg.refl _ w).alloc _⟩
 have d2:decide (4096<A.length)=false:=decide_eq_false h5;have d2':decide ((4096:Int)<(A.length:Int))=false:=decide_eq_false oM;have HMA:Hd (∀b,(A.any (λs=>!sU A.length alts tokens s))=b->xN A alts tokens=!b):=jh (λb hb=>by rw[xN,decide_eq_true (show 1<=A.length by omega),decide_eq_true (show A.length<=4096 by omega),hb];rfl);have HNO:Hd (∀d∈A,sU A.length alts tokens d=false->xN A alts tokens=false):=jh (λd hd hf=>HMA.o true (Au5.2 ⟨d,hd,by rw[hf];rfl⟩));obtain⟨w0,hw0⟩:∃W,W=w.alloc (.cells #[.slice a A.length c] 79):=⟨_,rfl⟩;have HC0:Hd (Cf w w0):=jh (by rw[hw0];exact (Chg.refl _ w).alloc _);have HA0:Hd (∀X,Cf w0 X->X.cell? ⟨w.heap.size,0,none⟩=some (.slice a A.length c)):=jh (λX hx=>hx.cellS (by rw[hw0];exact vW _ _ rfl) iD);have q0:=HA0.o w0 cR;go_enter Tryz.func47,Tryz.ntmps47
 go_upto_region 1 with (fail)
 rw[<-hw0];clear hw0;go_wp2
 go_loopw [8] (λq wr=>∃k:Nat,k<=A.length/\q=.int .i64 k/\(∀(j:Nat) d,j<k->A[j]?=some d->sU A.length alts tokens d=true)/\Cf w0 wr) (λq _=>A.length-(intOf q).toNat)
 case atStart=>exact⟨0,oM,rfl,λj d h=>absurd h (Ax _),Chg.refl _ _⟩
 case round =>
  clear q0;obtain⟨k,hk,rfl,hfi,hc⟩:=hrel;have HFI:=jh hfi;have HC:=jh hc;have q0:=HA0.o wr hc;clear hfi hc;by_cases hkl:k<A.length
  .have b9:decide ((k:Int)<(A.length:Int))=true:=by simp;omega
   obtain⟨⟨yk,⟨aa,an,ac⟩,⟨ea,en,ec⟩⟩,⟨kd,al,ed⟩,g,o,hd,⟨⟨hy1,hk8,hya,hye⟩,hb1,hb2⟩,rfl,-,hgl,-,hcells⟩:=((zJ.good (bR.good dLsR.good)).chg HL.o (HC0.o.trans HC.o) iF).get3 (f:=jA) rfl hkl rfl;simp only at hy1 hk8 hya hye hb1 hb2;subst hy1;obtain⟨rfl,-⟩:=hya.len;obtain⟨rfl,-⟩:=hye.len;obtain⟨c0,c1,c2⟩:=hcells _ _ _ rfl;simp only[slV]at c1 c2;obtain⟨z1,z2⟩:=hk8;have HD:=jh hd;have HNOd:Hd (sU A.length alts tokens (yk,al,ed)=false->xN A alts tokens=false):=jh (HNO.o _ (Az2 hd));have HYA:Hd (∀X,Cf wr X->intE.InS X S (aa,al.length,ac) al):=jh (λX hx=>hya.chg hx iF);have HYE:Hd (∀X,Cf wr X->zJ dLeE eqR X S (ea,ed.length,ec) ed):=jh (λX hx=>zJ.of (hye.chg hx iF));obtain⟨bs,hbs⟩:∃b,b=wr.heap.size:=⟨_,rfl⟩;obtain⟨w2,hw2⟩:∃W,W=wr.alloc (.cells #[.int .i64 yk,.slice aa al.length ac,.slice ea ed.length ec] 145):=⟨_,rfl⟩;have HC2:Hd (Cf wr w2):=jh (by rw[hw2];exact (Chg.refl _ _).alloc _);have HQ:Hd (∀X,Cf w2 X->X.cell? ⟨bs,0,none⟩=some (.int .i64 yk)/\X.cell? ⟨bs,1,none⟩=some (.slice aa al.length ac)/\X.cell? ⟨bs,2,none⟩=some (.slice ea ed.length ec)):=jh (λX hx=>by
    have h1:∀j v,(#[.int .i64 yk,.slice aa al.length ac,.slice ea ed.length ec]:Array Value)[j]?=some v->X.cell? ⟨bs,j,none⟩=some v:=λj v hv=>hx.cellS (by rw[hw2];exact zE _ hbs hv) iD
    exact⟨h1 0 _ rfl,h1 1 _ rfl,h1 2 _ rfl⟩)
   clear hd hya hye hcells;go_upto_region 8 with (fail)
   rw[<-hw2,<-hbs];clear hw2 hbs c0 c1 c2;have HCW:Hd (Cf w0 w2):=jh (HC.o.trans HC2.o);go_wp2_with fail
   go_loopw [10] (λq wx=>∃(i:Nat) (m:Int),i<=al.length/\q=.int .i64 i/\RiseAt al 0 alts i m/\Cf w2 wx) (λq _=>al.length-(intOf q).toNat)
   case atStart=>exact⟨0,0,oM,rfl,RiseAt.start _ _ _,Chg.refl _ _⟩
   case round =>
    obtain⟨i,m,hi,rfl,hri,hcx⟩:=hrel;obtain⟨wo,rfl⟩:∃x:World,x=wr:=⟨_,rfl⟩;have HRI:=jh hri;have HCX:=jh hcx;obtain⟨q0,q1,q2⟩:=HQ.o wo hcx;clear hri hcx;by_cases hil:i<al.length
    .have b10:decide ((i:Int)<(al.length:Int))=true:=by simp;omega
     obtain⟨x,gx,ox,hx,rfl,cx,x1,x2,-,-⟩:=(HYA.o wo (HC2.o.trans HCX.o)).getI hil;have HX:=jh hx;have hm0:=HRI.o.lo;have HM0:Hd (i=0->m=0):=jh HRI.o.z;have HMS:Hd (∀p,i=p+1->wo.cell? ⟨gx,ox+p,none⟩=some (.int .i64 (m-1))/\m-1<=9223372036854775807):=jh (λp hp=>by
      obtain⟨x',gx',ox',hx',he,cx',-,y2,-⟩:=(HYA.o wo (HC2.o.trans HCX.o)).getI (show p<al.length by omega);injection he with he;injection he with e1 e2;subst e1 e2;rw[HRI.o.s p hp]at hx';obtain rfl:=Az3 hx';exact⟨cx',y2⟩)
     have HCXX:=jh cx;clear hx cx;go_upto_region 11 with (fail)
     clear q0 q1 q2
     go_cut [72] from 33 to 72 (λv wx=>v=.bool (decide (x<m\/(alts:Int)<=x))/\Cf wo wx)
     case first=>as_aux_lemma =>
      obtain⟨b1,e1⟩:∃b,decide (x<0)=b:=⟨_,rfl⟩;obtain⟨b2,e2⟩:∃b,decide ((alts:Int)<=x)=b:=⟨_,rfl⟩;by_cases t3:i=0
      .have HB:Hd (decide (x<m\/(alts:Int)<=x)=(b1 || b2)):=jh (by rw[<-e1,<-e2,HM0.o t3,Bool.decide_or])
       have e3:decide ((0:Int)<(i:Int))=false:=decide_eq_false oM;have e3':decide (0<i)=false:=decide_eq_false oM;clear t3;have hb:b1=true\/b1=false/\b2=true\/b1=false/\b2=false:=(by cases b1 <;> cases b2 <;> simp);rcases hb with rfl|⟨rfl,rfl⟩|⟨rfl,rfl⟩ <;>
       ( (refine ws (λw'=>Cf wo w') ?_;(iterate 33 (first|(refine rq ?_ (by intro _ w' _ hC;obtain⟨q0,q1,q2⟩:=HQ.o _ (HCX.o.trans hC);have cx:=hC.cellS HCXX.o iD;go_simp;try with_reducible rfl))|(refine sq ?_)));refine zQ ?_;intro wy hCy)
         have HCY:=jh hCy;clear hCy;go_wp2_with fail
         go_meet
         exact⟨by rw[HB.o];rfl,HCY.o⟩ )
      .obtain⟨p,hp⟩:∃p,i=p+1:=⟨i-1,oM⟩
       obtain⟨hcp,hm9⟩:=HMS.o p hp;have HCP:=jh hcp;obtain⟨z,hz⟩:∃z,z=m-1:=⟨_,rfl⟩;rw[<-hz]at HCP hm9;have hz0:-1<=z:=oM;obtain⟨b6,e6⟩:∃b,decide (x<=z)=b:=⟨_,rfl⟩;have HB:Hd (decide (x<m\/(alts:Int)<=x)=(b1 || (b2 || b6))):=jh (by
        rw[<-e1,<-e2,<-e6,<-Bool.decide_or,<-Bool.decide_or];exact decide_eq_decide.2 oM)
       have e3:decide ((0:Int)<(i:Int))=true:=decide_eq_true oM;have e3':decide (0<i)=true:=decide_eq_true oM;have e4:(i:Int)-1=(p:Int):=oM;have e5:IntKind.i64.wrap (p:Int)=p:=IntWalk.i64_in _ oM;have hpl:p<al.length:=oM;have hi1:(1:Int)<=i:=oM;have HE4:=jh e4;have HE5:=jh e5;clear hcp hp hz t3 e4 e5;have hb:b1=true\/b1=false/\b2=true\/b1=false/\b2=false/\b6=true\/b1=false/\b2=false/\b6=false:=(by cases b1 <;> cases b2 <;> cases b6 <;> simp);rcases hb with rfl|⟨rfl,rfl⟩|⟨rfl,rfl,rfl⟩|⟨rfl,rfl,rfl⟩ <;>
       ( (refine ws (λw'=>Cf wo w') ?_;(iterate 33 (first|(refine rq ?_ (by intro _ w' _ hC;obtain⟨q0,q1,q2⟩:=HQ.o _ (HCX.o.trans hC);have cx:=hC.cellS HCXX.o iD;have cp:=hC.cellS HCP.o iD;have e4:=HE4.o;have e5:=HE5.o;go_simp;try with_reducible rfl))|(refine sq ?_)));refine zQ ?_;intro wy hCy)
         have HCY:=jh hCy;clear hCy;go_wp2_with fail
         go_meet
         exact⟨by rw[HB.o];rfl,HCY.o⟩ )
     case rest=>as_aux_lemma =>
      obtain⟨rfl,hcc⟩:=hcut;have HCZ:=jh (HCX.o.trans hcc);clear hcc;by_cases tb:x<m\/(alts:Int)<=x
      .rw[decide_eq_true tb]
       have HF:Hd (xN A alts tokens=false):=jh (HNOd.o (by simp[sU,HRI.o.bad HX.o tb]));clear tb;go_wp2;go_ret
       exact⟨by rw[HF.o];rfl,HC0.o.trans (HCW.o.trans HCZ.o)⟩
      .rw[decide_eq_false tb]
       have HNX:=jh (HRI.o.step HX.o tb);clear tb;go_wp2;go_roundw
       case rel=>first|exact⟨i+1,x+1,oM,by go_num,HNX.o,HCZ.o⟩|((repeat apply Ay7);exact⟨⟨i+1,x+1,oM,by go_num,HNX.o,HCZ.o⟩,rfl⟩)
       case measure=>simp[intOf];omega
    .obtain rfl:i=al.length:=oM
     have b10:decide ((al.length:Int)<(al.length:Int))=false:=sI;have HR1:=jh HRI.o.done;clear HRI;go_wp2_with fail
     obtain⟨wp,rfl⟩:∃x:World,x=wo:=⟨_,rfl⟩
     go_loopw [11] (λq wx=>∃(i:Nat) (m:Int),i<=ed.length/\q=.int .i64 i/\(∀(j:Nat) e,j<i->ed[j]?=some e->cW A.length e=false)/\RiseAt (ed.map (·.1)) (-1) tokens i m/\Cf w2 wx) (λq _=>ed.length-(intOf q).toNat)
     case atStart=>exact⟨0,-1,oM,rfl,λj e h=>absurd h (Ax _),RiseAt.start _ _ _,HCX.o⟩
     case round =>
      clear q0 q1 q2 HCX;obtain⟨i,m,hi,rfl,hbe,hri,hcx⟩:=hrel;obtain⟨wo,rfl⟩:∃x:World,x=wr:=⟨_,rfl⟩;have HRI:=jh hri;have HBE:=jh hbe;have HCX:=jh hcx;obtain⟨q0,q1,q2⟩:=HQ.o wo hcx;clear hri hcx hbe;by_cases hil:i<ed.length
      .have b10:decide ((i:Int)<(ed.length:Int))=true:=by simp;omega
       obtain⟨⟨tk,tv⟩,d',gx,ox,hx,hxd,rfl,-,hgx,⟨⟨y1,y2⟩,y3,y4⟩,hcx⟩:=(HYE.o wo (HC2.o.trans HCX.o)).get2 (f:=uW) rfl hil rfl;obtain rfl:(tk,tv)=d':=hxd;obtain⟨cx,cy⟩:=hcx _ _ rfl;simp only at cx cy y1 y2 y3 y4;have HX:Hd ((ed.map (·.1))[i]?=some tk):=jh (by rw[Aw,hx];rfl);have HXE:=jh hx;have hm0:=HRI.o.lo;have HM0:Hd (i=0->m=-1):=jh HRI.o.z;have HMS:Hd (∀p,i=p+1->wo.cell? ⟨gx,ox+p * 2,none⟩=some (.int .i64 (m-1))/\m-1<=9223372036854775807):=jh (λp hp=>by
        obtain⟨⟨tk',tv'⟩,d',gx',ox',hx',hxd',he,-,-,⟨⟨-,y2'⟩,-,-⟩,hcx'⟩:=(HYE.o wo (HC2.o.trans HCX.o)).get2 (f:=uW) rfl (show p<ed.length by omega) rfl;obtain rfl:(tk',tv')=d':=hxd';injection he with he;injection he with e1 e2;subst e1 e2;have h1:=HRI.o.s p hp;rw[Aw,hx']at h1;obtain rfl:tk'=m-1:=Az3 h1;exact⟨(hcx' _ _ rfl).1,y2'⟩)
       obtain⟨be,hbe⟩:∃b,b=wo.heap.size:=⟨_,rfl⟩;obtain⟨w4,hw4⟩:∃W,W=wo.alloc (.cells #[.int .i64 tk,.int .i64 tv] 147):=⟨_,rfl⟩;have HC4:Hd (Cf wo w4):=jh (by rw[hw4];exact (Chg.refl _ _).alloc _);have HQE:Hd (∀X,Cf w4 X->X.cell? ⟨be,0,none⟩=some (.int .i64 tk)/\X.cell? ⟨be,1,none⟩=some (.int .i64 tv)/\X.cell? ⟨bs,2,none⟩=some (.slice (some ⟨gx,ox,none⟩) ed.length ec)):=jh (λX hx=>by
        have h1:∀j v,(#[.int .i64 tk,.int .i64 tv]:Array Value)[j]?=some v->X.cell? ⟨be,j,none⟩=some v:=λj v hv=>hx.cellS (by rw[hw4];exact zE _ hbe hv) iD
        exact⟨h1 0 _ rfl,h1 1 _ rfl,(HQ.o X (HCX.o.trans (HC4.o.trans hx))).2.2⟩)
       clear hx hcx;go_upto_region 17 with (fail)
       rw[<-hw4,<-hbe];clear hw4 hbe cx cy q0 q1 q2
       go_cut [120] from 73 to 120 (λv wx=>v=.bool (zLe A.length tokens m (tk,tv))/\Cf w4 wx)
       case first=>as_aux_lemma =>
        obtain⟨b1,e1⟩:∃b,decide (tk < -1)=b:=⟨_,rfl⟩;obtain⟨b2,e2⟩:∃b,decide ((tokens:Int)<=tk)=b:=⟨_,rfl⟩;obtain⟨b3,e7⟩:∃b,decide (tv<0)=b:=⟨_,rfl⟩;obtain⟨b4,e8⟩:∃b,decide ((A.length:Int)<=tv)=b:=⟨_,rfl⟩;by_cases t3:i=0
        .have HB:Hd (zLe A.length tokens m (tk,tv)=(b1 || (b2 || (b3 || b4)))):=jh (by
          rw[<-e1,<-e2,<-e7,<-e8];show ((decide (tv<0) || decide ((A.length:Int)<=tv)) || decide (tk<m\/(tokens:Int)<=tk))=_;simp only[<-Bool.decide_or];exact decide_eq_decide.2 (by have:=HM0.o t3;omega))
         have e3:decide ((0:Int)<(i:Int))=false:=decide_eq_false oM;have e3':decide (0<i)=false:=decide_eq_false oM;clear t3;have hb:b1=true\/b1=false/\b2=true\/b1=false/\b2=false/\b3=true\/b1=false/\b2=false/\b3=false/\b4=true\/b1=false/\b2=false/\b3=false/\b4=false:=(by cases b1 <;> cases b2 <;> cases b3 <;> cases b4 <;> simp);rcases hb with rfl|⟨rfl,rfl⟩|⟨rfl,rfl,rfl⟩|⟨rfl,rfl,rfl,rfl⟩|⟨rfl,rfl,rfl,rfl⟩ <;>
         ( (refine ws (λw'=>Cf w4 w') ?_;(iterate 36 (first|(refine rf HQE.o ?_)|(refine sq ?_)));refine zQ ?_;intro wy hCy)
           have HCY:=jh hCy;clear hCy;go_wp2_with fail
           go_meet
           exact⟨by rw[HB.o];rfl,HCY.o⟩ )
        .obtain⟨p,hp⟩:∃p,i=p+1:=⟨i-1,oM⟩
         obtain⟨hcp,hm9⟩:=HMS.o p hp;have HCP:=jh hcp;obtain⟨z,hz⟩:∃z,z=m-1:=⟨_,rfl⟩;rw[<-hz]at HCP hm9;have hz0:-2<=z:=oM;obtain⟨b6,e6⟩:∃b,decide (tk<=z)=b:=⟨_,rfl⟩;have HB:Hd (zLe A.length tokens m (tk,tv)=(b1 || (b2 || (b3 || (b4 || b6))))):=jh (by
          rw[<-e1,<-e2,<-e7,<-e8,<-e6];show ((decide (tv<0) || decide ((A.length:Int)<=tv)) || decide (tk<m\/(tokens:Int)<=tk))=_;simp only[<-Bool.decide_or];exact decide_eq_decide.2 oM)
         have e3:decide ((0:Int)<(i:Int))=true:=decide_eq_true oM;have e3':decide (0<i)=true:=decide_eq_true oM;have e4:(i:Int)-1=(p:Int):=oM;have e5:IntKind.i64.wrap (p:Int)=p:=IntWalk.i64_in _ oM;have hpl:p<ed.length:=oM;have hi1:(1:Int)<=i:=oM;have HE4:=jh e4;have HE5:=jh e5;have HCP4:=jh (HC4.o.cellS HCP.o iD);clear hcp hp hz t3 e4 e5;have hb:b1=true\/b1=false/\b2=true\/b1=false/\b2=false/\b3=true\/b1=false/\b2=false/\b3=false/\b4=true\/b1=false/\b2=false/\b3=false/\b4=false/\b6=true\/b1=false/\b2=false/\b3=false/\b4=false/\b6=false:=(by cases b1 <;> cases b2 <;> cases b3 <;> cases b4 <;> cases b6 <;> simp);rcases hb with rfl|⟨rfl,rfl⟩|⟨rfl,rfl,rfl⟩|⟨rfl,rfl,rfl,rfl⟩|⟨rfl,rfl,rfl,rfl,rfl⟩|⟨rfl,rfl,rfl,rfl,rfl⟩ <;>
         ( (refine ws (λw'=>Cf w4 w') ?_;(iterate 36 (first|(refine rq ?_ (by intro _ w' _ hC;obtain⟨q0,q1,q2⟩:=HQE.o _ hC;have cp:=hC.cellS HCP4.o iD;have e4:=HE4.o;have e5:=HE5.o;go_simp;try with_reducible rfl))|(refine sq ?_)));refine zQ ?_;intro wy hCy)
           have HCY:=jh hCy;clear hCy;go_wp2_with fail
           go_meet
           exact⟨by rw[HB.o];rfl,HCY.o⟩ )
       case rest=>as_aux_lemma =>
        obtain⟨rfl,hcc⟩:=hcut;have HCZ:=jh (HCX.o.trans (HC4.o.trans hcc));clear hcc;obtain⟨b,hb⟩:∃b,zLe A.length tokens m (tk,tv)=b:=⟨_,rfl⟩;rw[hb];have HB:=jh hb;clear hb;cases b with
        | true =>
         have HF:Hd (xN A alts tokens=false):=jh (HNOd.o (by
          have hb:=HB.o;rw[zLe,At4]at hb;rcases hb with hb|hb
          .have:ed.any (cW A.length)=true:=Au5.2 ⟨_,Az2 HXE.o,hb⟩
           simp[sU,this]
          .simp[sU,HRI.o.bad HX.o (of_decide_eq_true hb)]))
         go_wp2;go_ret
         exact⟨by rw[HF.o];rfl,HC0.o.trans (HCW.o.trans HCZ.o)⟩
        | false =>
         have HNX:Hd (cW A.length (tk,tv)=false/\RiseAt (ed.map (·.1)) (-1) tokens (i+1) (tk+1)):=jh (by
          have hb:=HB.o;rw[zLe,Bool.or_eq_false_iff]at hb;exact⟨hb.1,HRI.o.step HX.o (of_decide_eq_false hb.2)⟩)
         have HBN:Hd (∀(j:Nat) e,j<i+1->ed[j]?=some e->cW A.length e=false):=jh (λj e hj he=>by
          by_cases hji:j=i
          .subst hji
           rw[HXE.o]at he;obtain rfl:=Az3 he;exact HNX.o.1
          .exact HBE.o j e oM he)
         go_wp2;go_roundw
         case rel=>first|exact⟨i+1,tk+1,oM,by go_num,HBN.o,HNX.o.2,HCZ.o⟩|((repeat apply Ay7);exact⟨⟨i+1,tk+1,oM,by go_num,HBN.o,HNX.o.2,HCZ.o⟩,rfl⟩)
         case measure=>simp[intOf];omega
      .obtain rfl:i=ed.length:=oM
       have b10:decide ((ed.length:Int)<(ed.length:Int))=false:=sI;have HR2:Hd (xW (ed.map (·.1)) (-1) tokens=true):=jh (by
        have h:=HRI.o;rw[show ed.length=(ed.map (·.1)).length by simp]at h;exact h.done)
       have HANY:Hd (ed.any (cW A.length)=false):=jh (by
        rw[Aw1];intro e he;obtain⟨j,hj⟩:=Ax7 he;rw[HBE.o j e (Az1.1 hj).1 hj];exact Au1)
       have HFF:Hd (sU A.length alts tokens (yk,al,ed)=zDh yk al.length ed.length):=jh (by simp[sU,HANY.o,HR1.o,HR2.o]);obtain⟨x0,x1,x2,y0,⟨p0,p0',p0''⟩,⟨p1,p1',p1''⟩,⟨p2,p2'⟩,⟨r0,r0',r0''⟩⟩:∃x0 x1 x2 y0:Bool,(((al.length:Int) == 0)=x0/\(al.length == 0)=x0/\decide (al.length=0)=x0)/\(((al.length:Int) == 1)=x1/\(al.length == 1)=x1/\decide (al.length=1)=x1)/\(decide ((1:Int)<(al.length:Int))=x2/\decide (1<al.length)=x2)/\(((ed.length:Int) == 0)=y0/\(ed.length == 0)=y0/\decide (ed.length=0)=y0):=by
        refine⟨_,_,_,_,⟨?_,?_,rfl⟩,⟨?_,?_,rfl⟩,⟨?_,rfl⟩,⟨?_,?_,rfl⟩⟩
        all_goals first|rfl|(rw[Au6];simp <;> omega)
       have HP:Hd (zDh yk al.length ed.length=if yk=0 then x0 else if yk=1 then x1 && y0 else if yk=3 then x2 && y0 else decide (yk=2) && x0 && y0):=jh (by rw[zDh,p0'',p1'',p2',r0'']);clear p0'' p1'' r0'' HRI HBE HANY HR1 HR2;obtain⟨k0,n0⟩:∃b,(yk == 0)=b:=⟨_,rfl⟩;obtain⟨k1,n1⟩:∃b,(yk == 1)=b:=⟨_,rfl⟩;obtain⟨k2,n2⟩:∃b,(yk == 2)=b:=⟨_,rfl⟩;obtain⟨k3,n3⟩:∃b,(yk == 3)=b:=⟨_,rfl⟩;have HKX:Hd (k1=false/\k2=false/\k3=false\/k1=true/\k2=false/\k3=false\/k1=false/\k2=true/\k3=false\/k1=false/\k2=false/\k3=true):=jh (by
        rw[<-n1,<-n2,<-n3];simp only[beq_eq_false_iff_ne,beq_iff_eq];omega)
       have HEX:Hd (sU A.length alts tokens (yk,al,ed)=((k0 && x0) || (y0 && ((k1 && x1) || ((k3 && x2) || (k2 && x0)))))):=jh (by
        rw[HFF.o,HP.o,<-n0,<-n1,<-n2,<-n3];by_cases h0:yk=0
        .subst h0;cases y0 <;> cases x0 <;> rfl
        by_cases h1:yk=1
        .subst h1;cases y0 <;> cases x1 <;> rfl
        by_cases h3:yk=3
        .subst h3;cases y0 <;> cases x2 <;> rfl
        by_cases h2:yk=2
        .subst h2;cases y0 <;> cases x0 <;> rfl
        .simp[h0,h1,h2,h3])
       clear HP HFF;have HFI2:Hd (sU A.length alts tokens (yk,al,ed)=true->∀(j:Nat) d,j<k+1->A[j]?=some d->sU A.length alts tokens d=true):=jh (λhf j d hj hd=>by
        by_cases hjk:j=k
        .subst hjk
         rw[HD.o]at hd;obtain rfl:=Az3 hd;exact hf
        .exact HFI.o j d oM hd)
       have HCZ:Hd (Cf w0 wo):=jh (HCW.o.trans HCX.o);go_upto_region 19 with (fail)
       go_cut [13] from 121 to 129 (λv wx=>v=.bool (k0 && x0)/\wx=wo)
       case first=>as_aux_lemma =>
        cases k0 <;> cases x0 <;> (go_wp2_with fail;go_meet;exact⟨rfl,rfl⟩)
       case rest=>as_aux_lemma =>
        obtain⟨rfl,rfl⟩:=hcut;obtain⟨f1,hf1⟩:∃b,(k0 && x0)=b:=⟨_,rfl⟩;rw[hf1]at HEX ⊢;clear hf1;cases y0 with
        | false =>
         cases f1 with
         | true =>
          have HNX:=jh (HFI2.o (by rw[HEX.o];rfl));go_wp2;go_roundw
          case rel=>first|exact⟨k+1,oM,by go_num,HNX.o,HCZ.o⟩|((repeat apply Ay7);exact⟨⟨k+1,oM,by go_num,HNX.o,HCZ.o⟩,rfl⟩)
          case measure=>simp[intOf];omega
         | false =>
          have HF:Hd (xN A alts tokens=false):=jh (HNOd.o (by rw[HEX.o];rfl));go_wp2;go_ret
          exact⟨by rw[HF.o];rfl,HC0.o.trans HCZ.o⟩
        | true =>
         go_upto_region 21 with (fail)
         go_cut [13] from 134 to 167 (λv wx=>v=.bool (f1 || ((k1 && x1) || ((k3 && x2) || (k2 && x0))))/\wx=wc)
         case first=>as_aux_lemma =>
          have hb:f1=true\/f1=false/\(k1=false/\k2=false/\k3=false\/k1=true/\k2=false/\k3=false/\x1=true\/k1=true/\k2=false/\k3=false/\x1=false\/k1=false/\k2=true/\k3=false/\x0=true\/k1=false/\k2=true/\k3=false/\x0=false\/k1=false/\k2=false/\k3=true/\x2=true\/k1=false/\k2=false/\k3=true/\x2=false):=by
           rcases HKX.o with ⟨rfl,rfl,rfl⟩|⟨rfl,rfl,rfl⟩|⟨rfl,rfl,rfl⟩|⟨rfl,rfl,rfl⟩ <;> cases f1 <;> cases x0 <;> cases x1 <;> cases x2 <;> simp
          rcases hb with rfl|⟨rfl,⟨rfl,rfl,rfl⟩|⟨rfl,rfl,rfl,rfl⟩|⟨rfl,rfl,rfl,rfl⟩|⟨rfl,rfl,rfl,rfl⟩|⟨rfl,rfl,rfl,rfl⟩|⟨rfl,rfl,rfl,rfl⟩|⟨rfl,rfl,rfl,rfl⟩⟩ <;> (go_wp2_with fail;go_meet;exact⟨rfl,rfl⟩)
         case rest=>as_aux_lemma =>
          obtain⟨rfl,rfl⟩:=hcut;have HEX2:Hd (sU A.length alts tokens (yk,al,ed)=(f1 || ((k1 && x1) || ((k3 && x2) || (k2 && x0))))):=jh (by rw[HEX.o,Av7]);obtain⟨b,hb⟩:∃b,(f1 || ((k1 && x1) || ((k3 && x2) || (k2 && x0))))=b:=⟨_,rfl⟩;rw[hb]at HEX2 ⊢;clear hb;cases b with
          | true =>
           have HNX:=jh (HFI2.o HEX2.o);go_wp2;go_roundw
           case rel=>first|exact⟨k+1,oM,by go_num,HNX.o,HCZ.o⟩|((repeat apply Ay7);exact⟨⟨k+1,oM,by go_num,HNX.o,HCZ.o⟩,rfl⟩)
           case measure=>simp[intOf];omega
          | false =>
           have HF:Hd (xN A alts tokens=false):=jh (HNOd.o HEX2.o);go_wp2;go_ret
           exact⟨by rw[HF.o];rfl,HC0.o.trans HCZ.o⟩
  .obtain rfl:k=A.length:=oM
   have b9:decide ((A.length:Int)<(A.length:Int))=false:=sI;have HF:Hd (xN A alts tokens=true):=jh (HMA.o false (by
    rw[Aw1];intro d hd;obtain⟨j,hj⟩:=Ax7 hd;rw[HFI.o j d (Az1.1 hj).1 hj];exact Au1))
   go_wp2;go_ret
   exact⟨by rw[HF.o];rfl,HC0.o.trans HC.o⟩
theorem lad2 (b1 b2:Bool):b1=true\/b1=false/\b2=true\/b1=false/\b2=false:=by cases b1 <;> cases b2 <;> simp
theorem lad3 (b1 b2 b3:Bool):b1=true\/b1=false/\b2=true\/b1=false/\b2=false/\b3=true\/b1=false/\b2=false/\b3=false:=by cases b1 <;> cases b2 <;> cases b3 <;> simp
theorem lad4 (b1 b2 b3 b4:Bool):b1=true\/b1=false/\b2=true\/b1=false/\b2=false/\b3=true\/b1=false/\b2=false/\b3=false/\b4=true\/b1=false/\b2=false/\b3=false/\b4=false:=by cases b1 <;> cases b2 <;> cases b3 <;> cases b4 <;> simp
theorem bneC (a b:Nat):(a != b)=((a:Int) != (b:Int)):=by rw[Au6,bne_iff_ne,bne_iff_ne];omega
theorem beqC (a b:Nat):(a == b)=((a:Int) == (b:Int)):=by rw[Au6,beq_iff_eq,beq_iff_eq];omega
theorem beqD (a b:Nat):((a:Int) == (b:Int))=decide (a=b):=by rw[Au6,beq_iff_eq,decide_eq_true_eq];omega
theorem bE (n:NetD):tQ n=true↔n.s.length=n.p.length/\(∀x∈n.s++n.p,xJ n.st.length x=true)/\(∀x∈n.q,rS n.st.length x=false)/\(∀s∈n.st,stOk n.st.length n.s.length n.q.length s=true)/\qE n.st=n.d:=by
 simp only[tQ,Ay2,decide_eq_true_eq,Ax8,Aw1,Bool.not_eq_true,Bool.not_eq_false,Ax5,and_assoc]
theorem zM4 {n:NetD}(h:tQ n=true->False):tQ n=false:=by
 cases hm:tQ n with
 | true=>exact (h hm).elim
 | false=>rfl
theorem zH2 {st:List StD}{i:Nat}{s:StD}(h:st[i]?=some s):qE (st.take (i+1))=qE (st.take i)++(if 0<s.2.2.length then [(i:Int)] else []):=by
 have hi:=(Az1.1 h).1;rw[qE,Ay1,h];show yL 0 (st.take i++[s])=_;rw[kL,Ax1,Nat.min_eq_left (Nat.le_of_lt hi),Ax0]
 rfl
theorem zBr:∀(X Y:List StD) (k:Nat),yL k (X++Y)=yL k X++yL (k+X.length) Y
 | [],Y,k=>by rw[Aw7,yL,Aw7,Aw5,Nat.add_zero]
 | x :: X,Y,k=>by
  have h:=zBr X Y (k+1);rw[Au9];simp only[yL,Ax2];rw[h,show k+1+X.length=k+(X.length+1) by omega]
  split <;> rfl
theorem zQn (st:List StD) (i:Nat):qE (st.take i) <+: qE st:=by
 have h:=zBr (st.take i) (st.drop i) 0;rw[List.take_append_drop]at h;exact⟨_,h.symm⟩
structure DecsAt (st:List StD) (ds:List Int) (i k:Nat):Prop where
 e:ds.take k=qE (st.take i)
 l:k<=ds.length
theorem DecsAt.start (st:List StD) (ds:List Int):DecsAt st ds 0 0:=⟨rfl,Av _⟩
theorem DecsAt.skip {st:List StD}{ds:List Int}{i k:Nat}{s:StD}(h:DecsAt st ds i k) (hs:st[i]?=some s) (h0:s.2.2.length=0):DecsAt st ds (i+1) k:=⟨by rw[zH2 hs,if_neg oM,Av4,h.e],h.l⟩
theorem DecsAt.next {st:List StD}{ds:List Int}{i k:Nat}{s:StD}(h:DecsAt st ds i k) (hs:st[i]?=some s) (h0:0<s.2.2.length) (hd:ds[k]?=some (i:Int)):DecsAt st ds (i+1) (k+1) :=
 ⟨by rw[zH2 hs,if_pos h0,Ay1,hd,h.e];rfl,(Az1.1 hd).1⟩
theorem DecsAt.no {st:List StD}{ds:List Int}{i k:Nat}{s:StD}(h:DecsAt st ds i k) (hs:st[i]?=some s) (h0:0<s.2.2.length) (hd:ds[k]?≠some (i:Int)):qE st≠ds:=by
 intro he;obtain⟨Z,hz⟩:=zQn st (i+1);rw[zH2 hs,if_pos h0,<-h.e,he]at hz
 apply hd
 rw[<-hz,Az5,Ax4 (by rw[Ax1];exact Nat.min_le_left _ _),Ax1,Nat.min_eq_left h.l,Au0]
 rfl
theorem DecsAt.done {st:List StD}{ds:List Int}{k:Nat}(h:DecsAt st ds st.length k):decide (k=ds.length)=decide (qE st=ds):=by
 have e:=h.e;rw[Ay5]at e;rw[decide_eq_decide,<-e]
 constructor
 .rintro rfl;exact Ay5
 .intro h2
  have:=congrArg List.length h2;rw[Ax1]at this;have:=h.l;omega
def kneB (ns nst np:Nat) (e:qS):Bool:=decide (3<e.1) || (decide (e.2.1<0) || (decide (e.2.2<0) || (decide ((ns:Int)<=e.2.2) || ((e.1 == 0) && (e.2.1 != 0) || ((e.1 == 2) && decide ((nst:Int)<=e.2.1) || (e.1 == 3) && decide ((np:Int)<=e.2.1))))))
theorem zGz {ns nst np:Nat}{e:qS}(h:0<=e.1):xY ns nst np e=kneB ns nst np e:=by
 obtain⟨k,wh,tv⟩:=e;have h:0<=k:=h;rw[Au6];simp only[xY,kneB,xJ,zCm,At4,Ay2,decide_eq_true_eq,Ax8,Bool.and_eq_false_iff,decide_eq_false_iff_not,beq_iff_eq,bne_iff_ne];rcases (by omega:k=0\/k=1\/k=2\/k=3\/3<k) with rfl|rfl|rfl|rfl|hk
 .simp <;> omega
 .simp <;> omega
 .simp <;> omega
 .simp <;> omega
 .simp[hk]
def Ap (B:Nat) (w:World) (v:Value) (X Y:List Int) (e:Ending) (w':World):Prop :=
 ∃v',e=.returned v'/\POwn w' B v' (X++Y)/\Chg (λk=>v.ownBlock=some k) w w'/\∀k,v'.ownBlock=some k->v.ownBlock=some k\/w.heap.size<=k
theorem Ap.trans {B:Nat}{w w1 w2:World}{v v1:Value}{X Y Z:List Int}{e:Ending}(h:Ap B w v X Y (.returned v1) w1) (k:Ap B w1 v1 (X++Y) Z e w2):Ap B w v X (Y++Z) e w2:=by
 obtain⟨_,e1,h2,h3,h4⟩:=h;obtain rfl:=Ending.returned.inj e1;obtain⟨v2,rfl,k2,k3,k4⟩:=k;exact⟨v2,rfl,by rw[<-Az5];exact k2,h3.trans2 k3 (λj hj hC=>(h4 j hC).resolve_right oM),λj hj=>by
  rcases k4 j hj with h5|h5
  .exact h4 j h5
  .exact .inr (Ay4 h3.size h5)⟩
theorem Ap.nil {B:Nat}{w:World}{v:Value}{X:List Int}(h:POwn w B v X):Ap B w v X [] (.returned v) w:=⟨v,rfl,by rw[Av4];exact h,Chg.refl _ _,λ_ h=>.inl h⟩
theorem Ap.own {B:Nat}{w w1:World}{v v1:Value}{X Y:List Int}(h:Ap B w v X Y (.returned v1) w1):POwn w1 B v1 (X++Y):=by
 obtain⟨_,e1,h2,-⟩:=h;obtain rfl:=Ending.returned.inj e1;exact h2
theorem Ap.fresh {B:Nat}{w w0 w1:World}{v:Value}{X Y:List Int}{e:Ending}(hc:Cf w w0) (h:Ap B w0 v X Y e w1):Ap B w v X Y e w1:=by
 obtain⟨v',h1,h2,h3,h4⟩:=h;exact⟨v',h1,h2,hc.any.trans h3,λk hk=>(h4 k hk).imp id (λh=>Ay4 hc.size h)⟩
theorem pE {z:Int}(h:0<=z/\z<4294967296):(zN z).length<=5:=sG oM
theorem xC {B:Nat}{X:List Int}(z:Int) (v:Value) (w:World) (h:POwn w B v X) (hB:B<=w.heap.size) (hz:0<=z/\z<4294967296) (hl:X.length<=1000000000) :
  Calls Tryz.prog 78 #[v,.int .i64 z] w (Ap B w v X (zN z)):=by
 obtain⟨n,rfl⟩:=Aw8 hz.1;have hn:n<4294967296:=oM
 rw[show zN (n:Int)=putL n by unfold zN;rw[Ay6]];clear hz;obtain⟨va,vl,vc,rfl⟩:=h.shape3;have HP:=jh h;have hw5:IntKind.u32.wrap (n:Int)=n:=by rw[IntKind.wrap_u32];omega
 have HPU:=jh (zD1 [] n none 0 0 0 w ⟨λk a hk=>by simp at hk,λh=>(h rfl).elim⟩ (λh=>by simp at h) sI hn);clear h;go_enter Tryz.func78,Tryz.ntmps78
 go_wp2_with fail
 refine HPU.o.mono ?_;rintro e w2 ⟨h,C,rfl,-,hr,hc⟩;rw[Aw7]at hr ⊢;have HR:=jh hr;have HC:=jh hc;have HF2:Hd (POwn w2 B (.slice va vl vc) X):=jh (HP.o.chgB hc iF);obtain⟨PL,hPL⟩:∃PL,(putL n).length=PL:=⟨_,rfl⟩;have HPL:=jh hPL;rw[hPL];clear hr hc hPL;have HSRC:=tN (c:=C) (HR.o.bytes (Aw6 _)) (λ_=>rfl);rw[HPL.o]at HSRC;have HSRC:=jh HSRC;have h5:=sG hn;go_wp2_with (at_builtin;refine rU rfl _ _ 45 rfl B (.slice va vl vc) X (putL n) (.slice (some ⟨h,0,none⟩) PL C) rfl rfl HF2.o (by have:=HC.o.size;omega) (by rw[HPL.o];exact HSRC.o) (dQ n) oM ?_;intro v' w1 HO1 HB1)
 go_wp2;go_ret
 exact⟨v',rfl,HO1.o,HC.o.any.trans HB1.o.1,λk hk=>by
  rcases HB1.o.2 with e|e
  .rw[e]at hk;exact .inl hk
  .rw[e]at hk;have:=Az3 hk;have:=HC.o.size;exact .inr oM⟩
theorem zCd {B:Nat}{X:List Int}(s:Str) (v:Value) (w:World) (h:POwn w B v X) (hB:B<=w.heap.size) (hs:s.size<=1000000) (hl:X.length<=1000000000) :
  Calls Tryz.prog 79 #[v,.string s] w (Ap B w v X (vG s)):=by
 have HN:=jh (xC (s.size:Int) v w h hB oM hl);obtain⟨va,vl,vc,rfl⟩:=h.shape3;have HSB:=jh (fC s);clear h;go_enter Tryz.func79,Tryz.ntmps79
 go_wp2_with fail
 refine HN.o.mono ?_;rintro e w2 hap;obtain⟨v1,rfl,h2,h3,h4⟩:=id hap;have HAP:=jh hap;have hsz:=h3.size;obtain⟨va',vl',vc',rfl⟩:=h2.shape3;have HO:=jh h2;have h5:=pE (z:=(s.size:Int)) oM;clear h2 h3 h4 hap;go_wp2_with (at_builtin;refine rU rfl _ _ 9 rfl B (.slice va' vl' vc') (X++zN (s.size:Int)) (strB s) (.string s) rfl rfl HO.o oM (by rw[<-zJb,HSB.o];exact Src.ofString w2 Tryz.underlying9 s) (zF8 s) (by have:=HSB.o;rw[Az0];omega) ?_;intro v' w1 HO1 HB1)
 go_wp2;go_ret
 have hk:Ap B w2 (.slice va' vl' vc') (X++zN (s.size:Int)) (strB s) (.returned v') w1:=⟨v',rfl,HO1.o,HB1.o.1,λk hk=>by
  rcases HB1.o.2 with e|e
  .rw[e]at hk;exact .inl hk
  .rw[e]at hk;have:=Az3 hk;exact .inr oM⟩
 have:=HAP.o.trans hk;unfold vG;unfold zN at this;rw[Ay6]at this;exact this
theorem nA {B:Nat}{X:List Int}(L:List Int) (a:Option Addr) (c:Nat) (v:Value) (w:World) (h:POwn w B v X) (hB:B<=w.heap.size) (hL:intE.InS w (·<B) (a,L.length,c) L) (hv:∀k,v.ownBlock=some k->B<=k) (hok:∀z∈L,U32 z) (hl:L.length<=100000000) (hx:X.length<=100000000) :
  Calls Tryz.prog 81 #[v,.slice a L.length c] w (Ap B w v X (zS zN L)):=by
 have HN:=jh (xC (L.length:Int) v w h hB oM oM);obtain⟨va,vl,vc,rfl⟩:=h.shape3;have HV:=jh hv;have HL:=jh hL;have HOK:=jh hok;clear h hL hok hv;go_enter Tryz.func81,Tryz.ntmps81
 go_wp2_with fail
 refine HN.o.mono ?_;rintro e w1 hap;obtain⟨v1,rfl,-⟩:=id hap;have HAP:=jh hap;clear hap HN;go_wp2_with fail
 go_loopw [0,5] (λsv q wr=>∃(k:Nat),k<=L.length/\q=.int .i64 k/\Ap B w (.slice va vl vc) X (putL L.length++(L.take k).flatMap zN) (.returned sv) wr) (λ_ q _=>L.length-(intOf q).toNat)
 case atStart=>exact⟨0,oM,rfl,by
  have h:=HAP.o;unfold zN at h;rw[Ay6]at h;rw[List.take_zero,List.flatMap_nil,Av4];exact h⟩
 case round =>
  clear HAP;obtain⟨k,hk,rfl,hap⟩:=hrel;obtain⟨wo,rfl⟩:∃x:World,x=wr:=⟨_,rfl⟩;obtain⟨v2,e2,h2,h3,h4⟩:=id hap;obtain rfl:=Ending.returned.inj e2;have HAP:=jh hap;have HO:=jh h2;have hsz:=h3.size;have HCW:Hd (Chg (λg=>B<=g) w wo):=jh (h3.mono (λg _ hg=>HV.o g hg));clear hap h2 h3 h4;by_cases hkl:k<L.length
  .have b9:decide ((k:Int)<(L.length:Int))=true:=by simp;omega
   obtain⟨x,g,o,hx1,rfl,cx,-,-,-,-⟩:=(HL.o.chg HCW.o (λg h1 h2=>oM)).getI hkl;have hxu:=HOK.o x (Az2 hx1);have HX:=jh hx1;have hlen:(putL L.length++(L.take k).flatMap zN).length<=500000010:=by
    have h1:=sG (n:=L.length) oM;have h2:∀(Q:List Int),(∀z∈Q,U32 z)->(Q.flatMap zN).length<=5 * Q.length:=by
     intro Q
     induction Q with
     | nil=>intro _;simp
     | cons q Q ih =>
      intro hq;rw[List.flatMap_cons,Az0,Ax2];have:=pE (hq q sI);have:=ih (λz hz=>hq z (by simp[hz]));omega
    have h3:=h2 (L.take k) (λz hz=>HOK.o z (At1 hz));rw[Ax1]at h3;rw[Az0];omega
   have HN:=jh (xC x _ wo HO.o oM hxu (by rw[Az0];omega));clear hx1;go_wp2_with fail
   refine HN.o.mono ?_;rintro e w2 hap2;obtain⟨v3,rfl,-⟩:=id hap2;have HAP2:=jh (HAP.o.trans hap2);clear hap2 HN;go_wp2;go_roundw
   case rel=>first|exact⟨k+1,oM,by go_num,by rw[zU HX.o,<-Az5];exact HAP2.o⟩|((repeat apply Ay7);exact⟨⟨k+1,oM,by go_num,by rw[zU HX.o,<-Az5];exact HAP2.o⟩,rfl⟩)
   case measure=>simp[intOf];omega
  .obtain rfl:k=L.length:=oM
   have b9:decide ((L.length:Int)<(L.length:Int))=false:=sI;go_wp2;go_ret
   have h:=HAP.o;rw[Ay5]at h;exact h
theorem zAh {B:Nat}{X:List Int}(W:Nat) (LL:List (List Int)) (a:Option Addr) (c:Nat) (v:Value) (w:World) (h:POwn w B v X) (hB:B<=w.heap.size) (hL:sC w 0 (a,LL.length,c) LL) (hW:W<=65536) (hn:LL.length<=65536) (hmk:uG W LL=true) (hpr:LL.length * W<=4194304)
  (hl:X.length+(vJ W LL).length<=1000000000) :
  Calls Tryz.prog 80 #[v,.int .i64 W,.slice a LL.length c] w (Ap B w v X (vJ W LL)):=by
 have hw:∀l∈LL,l.length=W:=λl hl=>by
  have:=Ax5.1 hmk l hl;simp only[pA,Ay2,decide_eq_true_eq]at this;omega
 have HMAY:=jh (zAt (W:=W) oM oM hn hmk);have HMK:=jh (zHm (W:Int) LL a c 0 w hL oM oM hn (λl hl=>by rw[hw l hl];exact hW));have HP:=jh h;have hOL:(yC LL).2.length<=65536:=by rw[(tC LL).2];exact hn
 have hRL:(yC LL).1.length<=65536:=Ay4 (tC LL).1 hn;have HCL:Hd (∀r∈(yC LL).1,r.2.length<=W):=jh (λr hr=>by
  obtain⟨l,hl,rfl⟩:=gG LL r hr;rw[<-hw l hl];exact uL _ _ _)
 have HNN:Hd ((xU ((W:Int),(yC LL).1,(yC LL).2)).length<=10000000):=jh (by
  have h1:=aS (O:=(yC LL).2) HCL.o;have h2:(yC LL).1.length * W<=LL.length * W:=Nat.mul_le_mul_right _ (tC LL).1;omega)
 have HPT:Hd (vJ W LL=mC ((W:Int),(yC LL).1,(yC LL).2)):=jh rfl;have HBY:Hd (∀a∈vJ W LL,Byte a):=jh (zBv _);obtain⟨PT,hPT⟩:∃P,vJ W LL=P:=⟨_,rfl⟩;rw[hPT]at hl HPT HBY ⊢;obtain⟨R,hR⟩:∃R,(yC LL).1=R:=⟨_,rfl⟩;obtain⟨O,hO⟩:∃O,(yC LL).2=O:=⟨_,rfl⟩;obtain⟨va,vl,vc,rfl⟩:=h.shape3;rw[hR]at hRL HCL;rw[hO]at hOL;rw[hR,hO]at HMAY HNN HPT;clear h hL hw hPT;go_enter Tryz.func80,Tryz.ntmps80
 go_wp2_with fail
 refine HMK.o.mono ?_;rintro e w1 (⟨hbad,-,-⟩|⟨-,ra,oa,rc,oc,rfl,hri,hoi,hoc,hc1⟩)
 .rw[hmk]at hbad;cases hbad
 rw[hR]at hri;rw[hO]at hoi hoc;simp only[hR,hO,tabV];have HRI:=jh hri;have HC1:=jh hc1;obtain⟨g,o,HOAT,HOAP⟩:∃(g o:Nat),Hd (I.BytesAt w1 g o O)/\Hd (0<O.length->oa=some ⟨g,o,none⟩):=by
  rcases hoi with ⟨rfl,-⟩|⟨g,hg,hrow,-⟩
  .exact⟨0,0,jh ⟨λk a hk=>by simp at hk,λh=>absurd rfl h⟩,jh (λh=>absurd h sI)⟩
  .exact⟨g,0,jh (hrow.bytes (Aw6 _)),jh (λ_=>hg)⟩
 clear hri hoi hc1 HMK hmk hoc;obtain⟨w2,hw2⟩:∃X,X=w1.alloc (.cells #[.int .i64 W,.slice ra R.length rc,.slice oa O.length oc] 194):=⟨_,rfl⟩;have HC2:Hd (Cf w1 w2):=jh (by rw[hw2];exact (Chg.refl _ _).alloc _);have k0:w2.cell? ⟨w1.heap.size,0,none⟩=some (.int .i64 W):=by rw[hw2,Az7];rfl
 have k1:w2.cell? ⟨w1.heap.size,1,none⟩=some (.slice ra R.length rc):=by rw[hw2,Az7];rfl
 have k2:w2.cell? ⟨w1.heap.size,2,none⟩=some (.slice oa O.length oc):=by rw[hw2,Az7];rfl
 have HPUT:=jh (zGc [] (W:Int) R O ra oa none rc oc 0 0 0 _ g o w2 ⟨oM,oM⟩ (HRI.o.same HC2.o) oM (λr hr=>Ay4 (HCL.o r hr) oM) (HOAT.o.chg HC2.o iE) HOAP.o oM HMAY.o ⟨λj a hj=>by simp at hj,λh=>absurd rfl h⟩ (λh=>absurd h sI) sI HNN.o);rw[Aw7,<-HPT.o]at HPUT;simp only[Aw5]at HPUT;go_upto_region 2 with (fail)
 rw[<-hw2];clear hw2;go_wp2_with fail
 refine HPUT.o.mono ?_;rintro e w3 ⟨u,rfl,ho3,hc3⟩;obtain⟨ua,uc,hu,-,-⟩:=(jW.2 ho3).clip;subst hu;have HSRC:Hd (Src Tryz.prog 1 45 (.slice ua PT.length uc) PT.length (zL PT) w3):=jh (by
  have h:=(jW.2 ho3).inC.inS;have h2:=h.srcS;rw[eC]at h2;exact h2)
 have HC3:=jh (HC1.o.trans (HC2.o.trans hc3));have HO3:Hd (POwn w3 B (.slice va vl vc) X):=jh (HP.o.chgB HC3.o iF);clear ho3 hc3 k0 k1 k2 HPUT;go_wp2_with (at_builtin;refine rU rfl _ _ 45 rfl B (.slice va vl vc) X PT (.slice ua PT.length uc) rfl rfl HO3.o (by have:=HC3.o.size;omega) HSRC.o HBY.o oM ?_;intro v' w4 HO4 HB4)
 go_wp2;go_ret
 exact⟨v',rfl,HO4.o,HC3.o.any.trans HB4.o.1,λk hk=>by
  rcases HB4.o.2 with e|e
  .rw[e]at hk;exact .inl hk
  .rw[e]at hk;have:=Az3 hk;have:=HC3.o.size;exact .inr oM⟩
theorem Ap.chg {B:Nat}{w w':World}{v:Value}{X Y:List Int}{e:Ending}(h:Ap B w v X Y e w'):Chg (λk=>v.ownBlock=some k) w w':=by
 obtain⟨_,_,_,h3,_⟩:=h;exact h3
theorem Ap.nx {B:Nat}{w w':World}{v v':Value}{X Y:List Int}(h:Ap B w v X Y (.returned v') w'):∀k,v'.ownBlock=some k->v.ownBlock=some k\/w.heap.size<=k:=by
 obtain⟨_,e,_,_,h4⟩:=h;obtain rfl:=Ending.returned.inj e;exact h4
theorem Ap.to {B:Nat}{w w':World}{v:Value}{X Y Y':List Int}{e:Ending}(h:Ap B w v X Y e w') (hy:Y=Y'):Ap B w v X Y' e w':=hy ▸ h
structure BdSt (B:Nat) (w0 w:World) (v:Value) (X:List Int):Prop where
 o:POwn w B v X
 c:Chg (λg=>B<=g) w0 w
 s:B<=w.heap.size
theorem BdSt.blk {B:Nat}{w0 w:World}{v:Value}{X:List Int}(h:BdSt B w0 w v X) {g:Nat}(hg:v.ownBlock=some g):B<=g/\g<w.heap.size:=h.o.blk hg
theorem BdSt.fresh {B:Nat}{w0 w w':World}{v:Value}{X:List Int}(h:BdSt B w0 w v X) (hc:Cf w w'):BdSt B w0 w' v X:=⟨h.o.chgB hc iF,h.c.trans hc.any,Ay4 h.s hc.size⟩
theorem BdSt.ap {B:Nat}{w0 w w':World}{v v':Value}{X Y:List Int}(h:BdSt B w0 w v X) (k:Ap B w v X Y (.returned v') w'):BdSt B w0 w' v' (X++Y) :=
 ⟨k.own,h.c.trans (k.chg.mono (λ_ _ hg=>(h.blk hg).1)),Ay4 h.s k.chg.size⟩
theorem BdSt.to {B:Nat}{w0 w:World}{v:Value}{X X':List Int}(h:BdSt B w0 w v X) (hx:X=X'):BdSt B w0 w v X':=hx ▸ h
theorem BdSt.all {B:Nat}{w0 w x:World}{v:Value}{X:List Int}(h:BdSt B w0 w v X) (hx:Chg (λk=>v.ownBlock=some k) w x):Chg (λg=>B<=g) w x:=hx.mono (λ_ _ e=>(h.blk e).1)
structure LkS (B:Nat) (w:World) (sv vl:Value) (LL:List (List Int)):Prop where
 ex:∃Y:List Sl,nW.Own w B vl Y/\Y.length=LL.length/\∀(j:Nat) y l,Y[j]?=some y->LL[j]?=some l->intE.InS w (λg=>B<=g/\sv.ownBlock≠some g/\vl.ownBlock≠some g) y l
 ap:∀g,vl.ownBlock=some g->sv.ownBlock≠some g
theorem LkS.start (B:Nat) (w:World) (sv:Value):LkS B w sv (.slice none 0 0) []:=⟨⟨[],.inl ⟨rfl,rfl⟩,rfl,λj y l h=>by simp at h⟩,λg h=>by cases h⟩
theorem LkS.bytes {B B0:Nat}{w w':World}{sv sv' vl:Value}{LL:List (List Int)}{X Z:List Int}(h:LkS B w sv vl LL) (k:Ap B0 w sv X Z (.returned sv') w'):LkS B w' sv' vl LL:=by
 obtain⟨Y,ho,hl,hr⟩:=h.ex;have hn:=k.nx;refine⟨⟨Y,ho.chgB k.chg (λg hg hs=>h.ap g hg hs),hl,λj y l hy hl=>?_⟩,λg hg e=>?_⟩
 .have h1:=(hr j y l hy hl).mono (S':=λg=>(B<=g/\sv.ownBlock≠some g/\vl.ownBlock≠some g)/\g<w.heap.size) (λg hlt hg=>⟨hg,hlt⟩)
  exact (h1.chg k.chg (λg hg e=>hg.1.2.1 e)).mono (λg _ hg=>⟨hg.1.1,λe=>(hn g e).elim hg.1.2.1 (λh=>oM),hg.1.2.2⟩)
 .rcases hn g e with h1|h1
  .exact h.ap g hg h1
  .have:=(ho.blk hg).2
   omega
theorem LkS.fresh {B:Nat}{w w':World}{sv vl:Value}{LL:List (List Int)}(h:LkS B w sv vl LL) (hc:Cf w w'):LkS B w' sv vl LL:=by
 obtain⟨Y,ho,hl,hr⟩:=h.ex;exact⟨⟨Y,ho.chg hc (λ_ _ _ h=>h),hl,λj y l hy hl=>(hr j y l hy hl).chg hc iF⟩,h.ap⟩
theorem LkS.push {B:Nat}{w wa wb:World}{sv vl vl':Value}{LL:List (List Int)}{Y:List Sl}{y:Sl}{l:List Int}(h:∀g,vl.ownBlock=some g->sv.ownBlock≠some g) (hsv:∀g,sv.ownBlock=some g->g<w.heap.size) (hl:Y.length=LL.length)
  (hr:∀(j:Nat) y l,Y[j]?=some y->LL[j]?=some l->intE.InS w (λg=>B<=g/\sv.ownBlock≠some g/\vl.ownBlock≠some g) y l) (hy:intE.InS w (λg=>B<=g/\sv.ownBlock≠some g/\vl.ownBlock≠some g) y l)
  (ha:Cf w wa) (ho:nW.Own wb B vl' (Y++[y])) (hc:Chg (λk=>vl.ownBlock=some k) wa wb) (hn:vl'.ownBlock=vl.ownBlock\/vl'.ownBlock=some wa.heap.size):LkS B wb sv vl' (LL++[l]):=by
 have step:∀{y:Sl}{l:List Int},intE.InS w (λg=>B<=g/\sv.ownBlock≠some g/\vl.ownBlock≠some g) y l->intE.InS wb (λg=>B<=g/\sv.ownBlock≠some g/\vl'.ownBlock≠some g) y l:=λ{y l} h1=>by
  have h2:=h1.mono (S':=λg=>(B<=g/\sv.ownBlock≠some g/\vl.ownBlock≠some g)/\g<w.heap.size) (λg hlt hg=>⟨hg,hlt⟩);refine ((h2.chg ha iF).chg hc (λg hg e=>hg.1.2.2 e)).mono (λg _ hg=>⟨hg.1.1,hg.1.2.1,λe=>?_⟩);rcases hn with hn|hn
  .rw[hn]at e;exact hg.1.2.2 e
  .rw[hn]at e
   have:=Az3 e;have:=ha.size;omega
 refine⟨⟨Y++[y],ho,by simp[hl],λj y' l' h1 h2=>?_⟩,λg hg e=>?_⟩
 .by_cases hj:j<Y.length
  .rw[Ay8 hj]at h1
   rw[Ay8 oM]at h2;exact step (hr j y' l' h1 h2)
  .obtain rfl:j=Y.length:=by
    have:=(Az1.1 h1).1;simp at this
    omega
   rw[Ax4 (Ay _),Au0]at h1;rw[hl,Ax4 (Ay _),Au0]at h2;obtain rfl:=Az3 h1;obtain rfl:=Az3 h2;exact step hy
 .rcases hn with hn|hn
  .rw[hn]at hg;exact h g hg e
  .rw[hn]at hg
   have h1:=hsv g e;have h2:=Az3 hg;have h3:=ha.size;omega
structure OkBd (t:TabsD):Prop where
 rl:t.rl.length<=64/\∀s∈t.rl,s.size<=1000000
 tk:t.tk.length<=64/\∀s∈t.tk,s.size<=1000000
 dr:t.dr.length=t.tk.length
 lx:OkLx t.lx
 nt:OkNt t.nt
 st:t.nt.st.length<=65536
 nl:t.nt.s.length<=64/\t.nt.p.length<=64/\t.nt.q.length<=1000000
 sl:∀s∈t.nt.st,s.2.1.length<=1000000/\s.2.2.length<=1000000
 ll:t.lk.length<=65536
 lk:∀A∈t.lk,(∀d∈A,OkL t.tk.length d/\d.2.1.length<=1000000)/\A.length<=4096/\uG ((t.tk.length:Int)+1) (A.map (λs=>yW t.tk.length s.2.2))=true
 l:(tA t).length<=19000000
theorem zCf (t:LexD) (m:LexS) (S:Nat->Prop) (w:World) (h:LexIn w S m t) (hcl:t.c.length<=1000000000) (hcb:∀c∈t.c,0<=c/\c<=1000000000) :
  Calls Tryz.prog 45 #[zHw m] w λe w'=>e=.returned (.int .i64 (xS t.c))/\Cf w w':=by
 obtain⟨⟨ra,rn,rc⟩,⟨ca,cn,cc⟩,⟨na,nn,nc⟩,⟨ea,en,ec⟩⟩:=m;obtain⟨h0,h1,h2,h3⟩:=h;obtain⟨rfl,-⟩:=h1.len;have HC:=jh h1;have HCB:=jh hcb
 clear h0 h1 h2 h3 hcb;show Calls Tryz.prog 45 #[.agg #[.slice ra rn rc,.slice ca t.c.length cc,.slice na nn nc,.slice ea en ec]] w _;obtain⟨w0,hw0⟩:∃W,W=w.alloc (.cells #[.slice ra rn rc,.slice ca t.c.length cc,.slice na nn nc,.slice ea en ec] 37):=⟨_,rfl⟩;have HC0:Hd (Cf w w0):=jh (by rw[hw0];exact (Chg.refl _ w).alloc _);have HA0:Hd (∀X,Cf w0 X->X.cell? ⟨w.heap.size,1,none⟩=some (.slice ca t.c.length cc)):=jh (λX hx=>hx.cellS (by rw[hw0];exact zE _ rfl rfl) iD);go_enter Tryz.func45,Tryz.ntmps45
 go_upto_region 1 with (fail)
 rw[<-hw0];clear hw0;go_wp2
 go_loopw [3,4] (λmv q wr=>∃k:Nat,k<=t.c.length/\q=.int .i64 k/\mv=.int .i64 (xS (t.c.take k))/\Cf w0 wr) (λ_ q _=>t.c.length-(intOf q).toNat)
 case atStart=>exact⟨0,oM,rfl,rfl,Chg.refl _ _⟩
 case round =>
  obtain⟨k,hk,rfl,hmv,hc⟩:=hrel;have HCW:=jh hc;clear hc;obtain⟨v,hv⟩:∃x,xS (t.c.take k)=x:=⟨_,rfl⟩;rw[hv]at hmv;subst hmv;have HV:=jh hv;have hv0:0<=v:=by rw[<-hv];exact tW _
  have hv1:v<=1000000001:=by
   rw[<-hv];refine fY oM (λc hc=>?_);have:=(HCB.o c (At1 hc)).2;omega
  clear hv;have q0:=HA0.o wr HCW.o;by_cases hkl:k<t.c.length
  .obtain⟨c,gc,oc,hxc,hca,c2,-,-,-,-⟩:=(HC.o.chg (HC0.o.trans HCW.o) iF).getI hkl
   subst hca;have b9:decide ((k:Int)<(t.c.length:Int))=true:=sO;have HNV:Hd (xS (t.c.take (k+1))=if v<c+1 then c+1 else v):=jh (by
    rw[bL hxc,HV.o];show max v (c+1)=_
    split <;> omega)
   obtain⟨z1,z2⟩:=HCB.o c (Az2 hxc);clear hxc HV;obtain⟨nv,hnv⟩:∃x,(if v<c+1 then c+1 else v)=x:=⟨_,rfl⟩;have HNX:Hd (xS (t.c.take (k+1))=nv):=jh (by rw[HNV.o,hnv]);clear HNV;have hnb:IntKind.i64.wrap (c+1)=c+1:=IntWalk.i64_in _ oM;go_wp2;go_roundw
   case rel=>first|exact⟨k+1,oM,by go_num,by rw[HNX.o,<-hnv],HCW.o⟩|((repeat apply Ay7);exact⟨⟨k+1,oM,by go_num,by rw[HNX.o,<-hnv],HCW.o⟩,rfl⟩)
   case measure=>simp[intOf];omega
  .obtain rfl:k=t.c.length:=oM
   have b9:decide ((t.c.length:Int)<(t.c.length:Int))=false:=sI;have HV2:Hd (xS t.c=v):=jh (by rw[<-HV.o,Ay5]);go_wp2;go_ret
   exact⟨by rw[HV2.o];rfl,HC0.o.trans HCW.o⟩
end Go.Proofs.YtgnpmceimpjheaaGreat
