/- A part of the proof: BdC SumsA SumsB SumsC SumsD Concat Seal. -/
import Derived.Test.YtgnpmceimpjheaaGreatGP12
import Derived.Test.YtgnpmceimpjheaaGreatGP3
import Derived.Tactics
import Derived.Tactics2
import Derived.Defers
import Derived.Laws.Pointers
import Derived.Laws.LoneSync
import Derived.RegionTactic
import Derived.RegionCalls
import Derived.ChangeAlike
import Derived.OpenShut
set_option maxRecDepth 100000
set_option maxHeartbeats 16000000
namespace Go.Proofs.YtgnpmceimpjheaaGreat
open Go.RowKit
theorem zSq {k n:Nat}(h:k<=64) (hn:n=k+1):wrap64 ((k:Int)+1)=(n:Int)/\IntKind.i64.wrap ((k:Int)+1)=(n:Int):=by
 subst hn;exact⟨by unfold wrap64;omega,by rw[show ((k+1:Nat):Int)=(k:Int)+1 by omega];exact IntWalk.i64_in _ oM⟩
theorem zSr {k:Nat}(h:k<=64):wrap64 ((k:Int)+1)=(k:Int)+1/\IntKind.i64.wrap ((k:Int)+1)=(k:Int)+1:=⟨by unfold wrap64;omega,IntWalk.i64_in _ oM⟩
theorem zQ4 {α β:Type}{L:List α}{M:List β}{k:Nat}{a:α}{b:β}(h1:L[k]?=some a) (h2:M[k]?=some b):(L.zip M)[k]?=some (a,b):=by
 rw[List.getElem?_zip_eq_some];exact⟨h1,h2⟩
theorem zT6 {t:LexD}(h:OkLx t):∃W:Nat,xS t.c=(W:Int)/\W<=65536/\t.n.length * W<=4194304:=by
 obtain⟨W,hW⟩:=Aw8 (tW t.c);have h1:=h.cw;have h2:=h.pr;rw[hW]at h1 h2;have h3:((t.n.length * W:Nat):Int)<=4194304:=by rw[Int.natCast_mul];exact h2
 exact⟨W,hW,oM,oM⟩
theorem zHn (t:TabsD) (m:TabsS) (S:Nat->Prop) (w:World) (h:DocIn w S m t) (hk:OkBd t) :
  Calls Tryz.prog 33 #[gY m] w λe w'=>∃v,e=.returned v/\POwn w' (w.heap.size+1) v (tA t)/\Cf w w':=by
 obtain⟨⟨a0,n0,c0⟩,⟨a1,n1,c1⟩,⟨a2,n2,c2⟩,⟨⟨a3,n3,c3⟩,⟨a4,n4,c4⟩,⟨a5,n5,c5⟩,⟨a6,n6,c6⟩⟩,⟨⟨a7,n7,c7⟩,⟨a8,n8,c8⟩,⟨a9,n9,c9⟩,⟨a10,n10,c10⟩,⟨a11,n11,c11⟩⟩,⟨a12,n12,c12⟩⟩:=m;have h:=DocIn.good.mono h (S':=(·<w.heap.size)) (λ_ hg _=>hg);have HT0:=jh h;have HK:=jh hk;obtain⟨h0,h1,h2,⟨h3,h4,h5,h6⟩,⟨h7,h8,h9,h10,h11⟩,h12⟩:=h;obtain⟨rfl,-⟩:=h0.len;obtain⟨rfl,-⟩:=h1.len;obtain⟨rfl,-⟩:=h2.len;obtain⟨rfl,-⟩:=h3.len;obtain⟨rfl,-⟩:=h4.len;obtain⟨rfl,-⟩:=h5.len;obtain⟨rfl,-⟩:=h6.len;obtain⟨rfl,-⟩:=h7.len;obtain⟨rfl,-⟩:=h8.len;obtain⟨rfl,-⟩:=h9.len;obtain⟨rfl,-⟩:=h10.len;obtain⟨rfl,-⟩:=h11.len;obtain⟨rfl,-⟩:=h12.len;clear h0 h1 h2 h3 h4 h5 h6 h7 h8 h9 h10 h11 h12;have l_rl:=hk.rl.1;have l_tk:=hk.tk.1;have l_lr:=hk.lx.rl;have l_le:=hk.lx.el;have l_ln:=hk.lx.nl;have l_st:=hk.st;have l_lk:=hk.ll;obtain⟨cw,hcw,hcw1,hcw2⟩:=zT6 hk.lx;have HDR:=jh hk.dr;have HCL:=jh hk.lx.cl;have HCE:=jh hcw;have HW2:=jh hcw2;obtain⟨X0,hX0⟩:∃X,X=qA:=⟨_,rfl⟩;obtain⟨X1,hX1⟩:∃X,X=X0++putL t.rl.length:=⟨_,rfl⟩;obtain⟨X2,hX2⟩:∃X,X=X1++t.rl.flatMap vG:=⟨_,rfl⟩;obtain⟨X3,hX3⟩:∃X,X=X2++putL t.tk.length:=⟨_,rfl⟩;obtain⟨X4,hX4⟩:∃X,X=X3++(t.tk.zip t.dr).flatMap qL:=⟨_,rfl⟩;obtain⟨X5,hX5⟩:∃X,X=X4++putL t.lx.r.length:=⟨_,rfl⟩;obtain⟨X6,hX6⟩:∃X,X=X5++(t.lx.r.zip t.lx.c).flatMap ptRc:=⟨_,rfl⟩;obtain⟨X7,hX7⟩:∃X,X=X6++vJ (xS t.lx.c) t.lx.n:=⟨_,rfl⟩;obtain⟨X8,hX8⟩:∃X,X=X7++t.lx.e.flatMap bW:=⟨_,rfl⟩;obtain⟨X9,hX9⟩:∃X,X=X8++putL t.nt.st.length:=⟨_,rfl⟩;obtain⟨X10,hX10⟩:∃X,X=X9++t.nt.st.flatMap vQ:=⟨_,rfl⟩;obtain⟨X11,hX11⟩:∃X,X=X10++(zS zN t.nt.s++(zS zN t.nt.p++zS zN t.nt.q)):=⟨_,rfl⟩;obtain⟨X12,hX12⟩:∃X,X=X11++t.lk.flatMap (tU t.tk.length):=⟨_,rfl⟩;have HXE:Hd (X12=tA t):=jh (by
  rw[hX12,hX11,hX10,hX9,hX8,hX7,hX6,hX5,hX4,hX3,hX2,hX1,hX0];unfold tA zAm dS aU zS;rw[Au7,Au7,HDR.o,HCL.o,Nat.min_self,Nat.min_self];simp only[Az5])
 have HLX:Hd (∀k,(X1++(t.rl.take k).flatMap vG).length<=19000000/\(X3++((t.tk.zip t.dr).take k).flatMap qL).length<=19000000/\(X5++((t.lx.r.zip t.lx.c).take k).flatMap ptRc).length<=19000000/\(X7++(t.lx.e.take k).flatMap bW).length<=19000000/\(X9++(t.nt.st.take k).flatMap vQ).length<=19000000/\(X11++(t.lk.take k).flatMap (tU t.tk.length)).length<=19000000):=jh (λk=>by
  have hl:=hk.l;rw[<-HXE.o]at hl;have p1:=yU (enc:=vG) (L:=t.rl) k;have p2:=yU (enc:=qL) (L:=t.tk.zip t.dr) k;have p3:=yU (enc:=ptRc) (L:=t.lx.r.zip t.lx.c) k;have p4:=yU (enc:=bW) (L:=t.lx.e) k;have p5:=yU (enc:=vQ) (L:=t.nt.st) k;have p6:=yU (enc:=tU t.tk.length) (L:=t.lk) k;have q1:=congrArg List.length hX1;have q2:=congrArg List.length hX2;have q3:=congrArg List.length hX3;have q4:=congrArg List.length hX4;have q5:=congrArg List.length hX5;have q6:=congrArg List.length hX6;have q7:=congrArg List.length hX7;have q8:=congrArg List.length hX8;have q9:=congrArg List.length hX9;have q10:=congrArg List.length hX10;have q11:=congrArg List.length hX11;have q12:=congrArg List.length hX12;simp only[Az0]at q1 q2 q3 q4 q5 q6 q7 q8 q9 q10 q11 q12 ⊢;omega)
 have hxl:X0.length<=19000000/\X1.length<=19000000/\X2.length<=19000000/\X3.length<=19000000/\X4.length<=19000000/\X5.length<=19000000/\X6.length<=19000000/\X7.length<=19000000/\X8.length<=19000000/\X9.length<=19000000/\X10.length<=19000000/\X11.length<=19000000/\X12.length<=19000000:=by
  have hl:=hk.l;rw[<-HXE.o]at hl;have q1:=congrArg List.length hX1;have q2:=congrArg List.length hX2;have q3:=congrArg List.length hX3;have q4:=congrArg List.length hX4;have q5:=congrArg List.length hX5;have q6:=congrArg List.length hX6;have q7:=congrArg List.length hX7;have q8:=congrArg List.length hX8;have q9:=congrArg List.length hX9;have q10:=congrArg List.length hX10;have q11:=congrArg List.length hX11;have q12:=congrArg List.length hX12;simp only[Az0]at q1 q2 q3 q4 q5 q6 q7 q8 q9 q10 q11 q12;omega
 obtain⟨x0,x1,x2,x3,x4,x5,x6,x7,x8,x9,x10,x11,x12⟩:=hxl;have HX0:=jh hX0;have HX1:=jh hX1;have HX2:=jh hX2;have HX3:=jh hX3;have HX4:=jh hX4;have HX5:=jh hX5;have HX6:=jh hX6;have HX7:=jh hX7;have HX8:=jh hX8;have HX9:=jh hX9;have HX10:=jh hX10;have HX11:=jh hX11;have HX12:=jh hX12;clear hk hcw hcw2 hX0 hX1 hX2 hX3 hX4 hX5 hX6 hX7 hX8 hX9 hX10 hX11 hX12;obtain⟨bv,hbv⟩:∃b,b=w.heap.size:=⟨_,rfl⟩;obtain⟨B,hB⟩:∃b,b=w.heap.size+1:=⟨_,rfl⟩;obtain⟨w0,hw0⟩:∃W,W=w.alloc (.cells #[.slice a0 t.rl.length c0,.slice a1 t.tk.length c1,.slice a2 t.dr.length c2,.slice a3 t.lx.r.length c3,.slice a4 t.lx.c.length c4,.slice a5 t.lx.n.length c5,.slice a6 t.lx.e.length c6,.slice a7 t.nt.st.length c7,.slice a8 t.nt.s.length c8,.slice a9 t.nt.p.length c9,.slice a10 t.nt.q.length c10,.slice a11 t.nt.d.length c11,.slice a12 t.lk.length c12] 43):=⟨_,rfl⟩;have HC0:Hd (Cf w w0):=jh (by rw[hw0];exact (Chg.refl _ w).alloc _);have HSZ:Hd (w0.heap.size=B):=jh (by rw[hw0,hB];simp);have HA:Hd (∀X,Chg (λg=>B<=g) w0 X->∀j v,([.slice a0 t.rl.length c0,.slice a1 t.tk.length c1,.slice a2 t.dr.length c2,.slice a3 t.lx.r.length c3,.slice a4 t.lx.c.length c4,.slice a5 t.lx.n.length c5,.slice a6 t.lx.e.length c6,.slice a7 t.nt.st.length c7,.slice a8 t.nt.s.length c8,.slice a9 t.nt.p.length c9,.slice a10 t.nt.q.length c10,.slice a11 t.nt.d.length c11,.slice a12 t.lk.length c12]:List Value)[j]?=some v->X.cell? ⟨bv,j,none⟩=some v):=jh (λX hx j v hv=>hx.cellS (by
  rw[hw0];exact zE _ hbv (by rw[<-Ax9];exact hv)) (by show ¬B<=bv;omega))
 have HTI:Hd (∀X,Chg (λg=>B<=g) w0 X->DocIn X (·<bv) ⟨(a0,t.rl.length,c0),(a1,t.tk.length,c1),(a2,t.dr.length,c2),⟨(a3,t.lx.r.length,c3),(a4,t.lx.c.length,c4),(a5,t.lx.n.length,c5),(a6,t.lx.e.length,c6)⟩,⟨(a7,t.nt.st.length,c7),(a8,t.nt.s.length,c8),(a9,t.nt.p.length,c9),(a10,t.nt.q.length,c10),(a11,t.nt.d.length,c11)⟩,(a12,t.lk.length,c12)⟩ t):=jh (λX hx=>DocIn.good.chg (by rw[hbv];exact DocIn.good.chg HT0.o HC0.o iF) hx (λg hg e=>oM));have hbB:bv+1=B:=oM
 have HBV:=jh hbv;have HB:=jh hB;clear HT0;show Calls Tryz.prog 33 #[.agg #[.slice a0 t.rl.length c0,.slice a1 t.tk.length c1,.slice a2 t.dr.length c2,.slice a3 t.lx.r.length c3,.slice a4 t.lx.c.length c4,.slice a5 t.lx.n.length c5,.slice a6 t.lx.e.length c6,.slice a7 t.nt.st.length c7,.slice a8 t.nt.s.length c8,.slice a9 t.nt.p.length c9,.slice a10 t.nt.q.length c10,.slice a11 t.nt.d.length c11,.slice a12 t.lk.length c12]] w _;go_enter Tryz.func33,Tryz.ntmps33
 go_upto_region 1 with (fail)
 rw[<-hw0,<-hbv];clear hw0;obtain⟨hb,hhb⟩:∃b,b=w0.heap.size:=⟨_,rfl⟩;obtain⟨w1,hw1⟩:∃W,W=w0.alloc (.cells #[.int .u8 72,.int .u8 66,.int .u8 84,.int .u8 49] 5 (4,5)):=⟨_,rfl⟩;have hrow:BytesAt w1 hb 0 qA:=by
  rw[hw1,hhb];exact zM9 w0 qA 5 (4,5) dE
 have hcs:(convert 45 45 (.slice (some ⟨w0.heap.size,0,none⟩) 4 4)).run Tryz.prog (w0.alloc (.cells #[.int .u8 72,.int .u8 66,.int .u8 84,.int .u8 49] 5))=.ok (.slice (some ⟨w0.heap.size,0,none⟩) 4 4) (w0.alloc (.cells #[.int .u8 72,.int .u8 66,.int .u8 84,.int .u8 49] 5 (4,5))):=Lib.run_convert_bytes_const (P:=Tryz.prog) w0 45 5 #[.int .u8 72,.int .u8 66,.int .u8 84,.int .u8 49] 4 4 Tryz.underlying45 Tryz.underlying5;have HST1:Hd (BdSt B w0 w1 (.slice (some ⟨hb,0,none⟩) 4 4) X0):=jh ⟨by rw[HX0.o];exact .inr ⟨hb,rfl,by rw[hhb,HSZ.o];exact Ay _,hrow.lt dE,hrow⟩,by rw[hw1];exact ((Chg.refl _ _).alloc _),by rw[hw1];have:=HSZ.o;simp;omega⟩;have v0:=HA.o w1 HST1.o.c 0 _ rfl;clear hrow hbv hB;go_upto_region 2 with (fail)
 rw[<-hw1,<-hhb];clear hw1 hhb hcs;have HN:=jh (xC (t.rl.length:Int) _ w1 HST1.o.o HST1.o.s oM oM);go_wp2_with fail
 refine HN.o.mono ?_;rintro e w2 hap;obtain⟨_,rfl,-⟩:=id hap;obtain⟨s1a,s1l,s1c,rfl⟩:=hap.own.shape3;have HST2:=jh (HST1.o.ap hap);have HAPX:=jh hap;clear hap HN;have HST2:Hd (BdSt B w0 w2 (.slice s1a s1l s1c) X1):=jh (HST2.o.to (by rw[HX1.o];unfold zN;rw[Ay6]));clear v0 HST1 HAPX;go_wp2_with fail
 go_loopw [3,4] (λsv q wr=>∃k:Nat,k<=t.rl.length/\q=.int .i64 k/\BdSt B w0 wr sv (X1++(t.rl.take k).flatMap vG)) (λ_ q _=>t.rl.length-(intOf q).toNat)
 case atStart=>exact⟨0,oM,rfl,by rw[List.take_zero,List.flatMap_nil,Av4];exact HST2.o⟩
 case round =>
  clear HST2;obtain⟨k,hk,rfl,hst⟩:=hrel;obtain⟨wo,rfl⟩:∃x:World,x=wr:=⟨_,rfl⟩;have HST:=jh hst;obtain⟨va,vl,vc,rfl⟩:=hst.o.shape3;have v0:=HA.o wo hst.c 0 _ rfl;clear hst;by_cases hkl:k<t.rl.length
  .as_aux_lemma =>
   have b9:decide ((k:Int)<(t.rl.length:Int))=true:=sO;obtain⟨s,s',g,o,hs,hss,rfl,-,-,-,hcs⟩:=(zJ.of (HTI.o wo HST.o.c).rl).get1' (f:=λs=>[.string s]) rfl hkl rfl;obtain rfl:s=s':=hss;have cs:=hcs _ rfl;have hsl:=HK.o.rl.2 s (Az2 hs);have HS:=jh hs;have hlen:=(HLX.o k).1;clear hs hcs;have HN:=jh (zCd s _ wo HST.o.o HST.o.s hsl oM);go_wp2_with fail
   refine HN.o.mono ?_;rintro e w3 hap;obtain⟨_,rfl,-⟩:=id hap;obtain⟨s2a,s2l,s2c,rfl⟩:=hap.own.shape3;have HST3:=jh (HST.o.ap hap);have HAPX:=jh hap;clear hap HN;have HSN:Hd (BdSt B w0 w3 (.slice s2a s2l s2c) (X1++(t.rl.take (k+1)).flatMap vG)):=jh (HST3.o.to (by rw[zU HS.o,Az5]));clear v0 cs;go_wp2;go_roundw
   case rel=>first|exact⟨k+1,oM,by go_num,HSN.o⟩|((repeat apply Ay7);exact⟨⟨k+1,oM,by go_num,HSN.o⟩,rfl⟩)
   case measure=>simp[intOf];omega
  .obtain rfl:k=t.rl.length:=oM
   have b9:decide ((t.rl.length:Int)<(t.rl.length:Int))=false:=sI;have HST1:Hd (BdSt B w0 wo (.slice va vl vc) X2):=jh (HST.o.to (by rw[HX2.o,Ay5]));have v1:=HA.o wo HST.o.c 1 _ rfl;clear HST;have HN:=jh (xC (t.tk.length:Int) _ wo HST1.o.o HST1.o.s oM oM);go_wp2_with fail
   refine HN.o.mono ?_;rintro e w3 hap;obtain⟨_,rfl,-⟩:=id hap;obtain⟨s1a,s1l,s1c,rfl⟩:=hap.own.shape3;have HST2:=jh (HST1.o.ap hap);have HAPX:=jh hap;clear hap HN;have HST2:Hd (BdSt B w0 w3 (.slice s1a s1l s1c) X3):=jh (HST2.o.to (by rw[HX3.o];unfold zN;rw[Ay6]));clear v0 v1 HST1 HAPX;go_wp2_with fail
   go_loopw [3,5] (λsv q wr=>∃k:Nat,k<=t.tk.length/\q=.int .i64 k/\BdSt B w0 wr sv (X3++((t.tk.zip t.dr).take k).flatMap qL)) (λ_ q _=>t.tk.length-(intOf q).toNat)
   case atStart=>exact⟨0,oM,rfl,by rw[List.take_zero,List.flatMap_nil,Av4];exact HST2.o⟩
   case round =>
    clear HST2;obtain⟨k,hk,rfl,hst⟩:=hrel;obtain⟨wo,rfl⟩:∃x:World,x=wr:=⟨_,rfl⟩;have HST:=jh hst;obtain⟨va,vl,vc,rfl⟩:=hst.o.shape3;have v1:=HA.o wo hst.c 1 _ rfl;clear hst;by_cases hkl:k<t.tk.length
    .as_aux_lemma =>
     have b9:decide ((k:Int)<(t.tk.length:Int))=true:=sO;obtain⟨s,s',g,o,hs,hss,rfl,-,-,-,hcs⟩:=(zJ.of (HTI.o wo HST.o.c).tk).get1' (f:=λs=>[.string s]) rfl hkl rfl;obtain rfl:s=s':=hss;have cs:=hcs _ rfl;have hsl:=HK.o.tk.2 s (Az2 hs);have hlen:=(HLX.o k).2.1;have HN:=jh (zCd s _ wo HST.o.o HST.o.s hsl oM);go_wp2_with fail
     refine HN.o.mono ?_;rintro e w3 hap;obtain⟨_,rfl,-⟩:=id hap;obtain⟨s2a,s2l,s2c,rfl⟩:=hap.own.shape3;have HST3:=jh (HST.o.ap hap);have HAPX:=jh hap;clear hap HN;have hkd:k<t.dr.length:=(by rw[HDR.o];exact hkl);obtain⟨d,d',gd,od,hd,hdd,hga,-,-,-,hcd⟩:=(zJ.of (HTI.o w3 HST3.o.c).dr).get1' (f:=λd=>[.bool d]) rfl hkd rfl;obtain rfl:d=d':=hdd;have cd:=hcd _ rfl;have HS:Hd ((t.tk.zip t.dr)[k]?=some (s,d)):=jh (zQ4 hs hd);have v2:=HA.o w3 HST3.o.c 2 _ rfl;have HGA:=jh hga;have hlen2:((X3++((t.tk.zip t.dr).take k).flatMap qL)++vG s).length<=30000000:=by
      have h1:=sG (n:=s.size) oM;have h2:=fC s;have h3:(vG s).length=(putL s.size).length+(strB s).length:=(by unfold vG;rw[Az0]);rw[Az0,h3];omega
     clear v1 cs hs hcs hd hcd hga HAPX;obtain rfl:=HGA.o;cases d with
     | true =>
      have HN:=jh (xC 1 _ w3 HST3.o.o HST3.o.s oM oM);go_wp2_with fail
      refine HN.o.mono ?_;rintro e w4 hap;obtain⟨_,rfl,-⟩:=id hap;obtain⟨s3a,s3l,s3c,rfl⟩:=hap.own.shape3;have HST4:=jh (HST3.o.ap hap);have HAPX:=jh hap;clear hap HN;have HSN:Hd (BdSt B w0 w4 (.slice s3a s3l s3c) (X3++((t.tk.zip t.dr).take (k+1)).flatMap qL)):=jh (HST4.o.to (by rw[zU HS.o,Az5,Az5];rfl));clear v2 cd;go_wp2;go_roundw
      case rel=>first|exact⟨k+1,oM,by go_num,HSN.o⟩|((repeat apply Ay7);exact⟨⟨k+1,oM,by go_num,HSN.o⟩,rfl⟩)
      case measure=>simp[intOf];omega
     | false =>
      have HN:=jh (xC 0 _ w3 HST3.o.o HST3.o.s oM oM);go_wp2_with fail
      refine HN.o.mono ?_;rintro e w4 hap;obtain⟨_,rfl,-⟩:=id hap;obtain⟨s3a,s3l,s3c,rfl⟩:=hap.own.shape3;have HST4:=jh (HST3.o.ap hap);have HAPX:=jh hap;clear hap HN;have HSN:Hd (BdSt B w0 w4 (.slice s3a s3l s3c) (X3++((t.tk.zip t.dr).take (k+1)).flatMap qL)):=jh (HST4.o.to (by rw[zU HS.o,Az5,Az5];rfl));clear v2 cd;go_wp2;go_roundw
      case rel=>first|exact⟨k+1,oM,by go_num,HSN.o⟩|((repeat apply Ay7);exact⟨⟨k+1,oM,by go_num,HSN.o⟩,rfl⟩)
      case measure=>simp[intOf];omega
    .obtain rfl:k=t.tk.length:=oM
     have b9:decide ((t.tk.length:Int)<(t.tk.length:Int))=false:=sI;have HST1:Hd (BdSt B w0 wo (.slice va vl vc) X4):=jh (HST.o.to (by rw[HX4.o,Ax6 (by rw[Au7,HDR.o,Nat.min_self];exact Ay _)]));have v3:=HA.o wo HST.o.c 3 _ rfl;clear HST;have HN:=jh (xC (t.lx.r.length:Int) _ wo HST1.o.o HST1.o.s oM oM);go_wp2_with fail
     refine HN.o.mono ?_;rintro e w3 hap;obtain⟨_,rfl,-⟩:=id hap;obtain⟨s1a,s1l,s1c,rfl⟩:=hap.own.shape3;have HST2:=jh (HST1.o.ap hap);have HAPX:=jh hap;clear hap HN;have HST2:Hd (BdSt B w0 w3 (.slice s1a s1l s1c) X5):=jh (HST2.o.to (by rw[HX5.o];unfold zN;rw[Ay6]));clear v1 v3 HST1 HAPX;go_wp2_with fail
     go_loopw [3,6] (λsv q wr=>∃k:Nat,k<=t.lx.r.length/\q=.int .i64 k/\BdSt B w0 wr sv (X5++((t.lx.r.zip t.lx.c).take k).flatMap ptRc)) (λ_ q _=>t.lx.r.length-(intOf q).toNat)
     case atStart=>exact⟨0,oM,rfl,by rw[List.take_zero,List.flatMap_nil,Av4];exact HST2.o⟩
     case round =>
      clear HST2;obtain⟨k,hk,rfl,hst⟩:=hrel;obtain⟨wo,rfl⟩:∃x:World,x=wr:=⟨_,rfl⟩;have HST:=jh hst;obtain⟨va,vl,vc,rfl⟩:=hst.o.shape3;have v3:=HA.o wo hst.c 3 _ rfl;clear hst;by_cases hkl:k<t.lx.r.length
      .as_aux_lemma =>
       have b9:decide ((k:Int)<(t.lx.r.length:Int))=true:=sO;have hkc:k<t.lx.c.length:=(by rw[HCL.o];exact hkl);obtain⟨⟨lo,hi⟩,d',gr,og,hx,hdd,hra,hrg,-,hok,hcr⟩:=(zJ.of (HTI.o wo HST.o.c).lx.r).get2 (f:=λ(r:Int×Int)=>[.int .i32 r.1,.int .i32 r.2]) rfl hkl rfl;obtain rfl:(lo,hi)=d':=hdd;obtain⟨r0,r1⟩:=hcr _ _ rfl;obtain⟨cl,gc,oc,hxc,hca,r2,-,-,hcg,-⟩:=(HTI.o wo HST.o.c).lx.c.getI hkc;have hU:=HK.o.lx.rs _ (Az2 hx);have hC:=HK.o.lx.cs _ (Az2 hxc);have HS:Hd ((t.lx.r.zip t.lx.c)[k]?=some ((lo,hi),cl)):=jh (zQ4 hx hxc);obtain⟨⟨u1,u2⟩,u3,u4⟩:=hU;simp only at u1 u2 u3 u4 r0 r1;have hlen:=(HLX.o k).2.2.1;have HR:=jh (show _/\_/\_/\_/\_ from ⟨r0,r1,r2,hrg,hcg⟩);have HRA:=jh (show _/\_ from ⟨hra,hca⟩);have e1:=pE (z:=lo) ⟨u1,u2⟩;have e2:=pE (z:=hi) ⟨u3,u4⟩;clear hx hxc hcr r0 r1 r2 hra hca hok;obtain⟨rfl,rfl⟩:=HRA.o;obtain⟨XK,hXK⟩:∃X,X=X5++((t.lx.r.zip t.lx.c).take k).flatMap ptRc:=⟨_,rfl⟩;have HXK:=jh hXK;rw[<-hXK]at HST hlen;clear hXK;have hw1:IntKind.i64.wrap lo=lo:=IntWalk.i64_in _ oM;have hw2:IntKind.i64.wrap hi=hi:=IntWalk.i64_in _ oM;go_upto_region 19 with (fail)
       clear v3;obtain⟨wd,hwd⟩:∃X,wo.drew=X:=⟨_,rfl⟩;have HWD:Hd (Cf wo wd):=jh (by rw[<-hwd];exact (Chg.refl _ _).drew);refine zC (λx=>Chg (λk=>(Value.slice va vl vc).ownBlock=some k) wd x) (λ_=>false) kR ?_;show yN _ _ _ _ _ _ 27 (Array.replicate 27 false) _ wo.drew;rw[hwd];clear hwd;have HSS:Hd (Chg (λk=>(Value.slice va vl vc).ownBlock=some k) wd wd):=jh cR;have HSD:=jh (HST.o.fresh HWD.o);have HAP0:Hd (Ap B wd (.slice va vl vc) XK [] (.returned (.slice va vl vc)) wd):=jh (Ap.nil HSD.o.o);have HQ:Hd (∀x,Chg (λk=>(Value.slice va vl vc).ownBlock=some k) wd x->(x.cell? ⟨bv,3,none⟩=some (.slice (some ⟨gr,og,none⟩) t.lx.r.length c3)/\x.cell? ⟨bv,4,none⟩=some (.slice (some ⟨gc,oc,none⟩) t.lx.c.length c4))/\x.cell? ⟨gr,og+k * 2,none⟩=some (.int .i32 lo)/\x.cell? ⟨gr,og+k * 2+1,none⟩=some (.int .i32 hi)/\x.cell? ⟨gc,oc+k,none⟩=some (.int .i64 cl)):=jh (λx hx=>by
        have hcx:Chg (λg=>B<=g) w0 x:=HSD.o.c.trans (HSD.o.all hx);have hcw:Chg (λg=>B<=g) wo x:=HWD.o.any.trans (HSD.o.all hx);obtain⟨r0,r1,r2,h1,h2⟩:=HR.o;exact⟨⟨HA.o x hcx 3 _ rfl,HA.o x hcx 4 _ rfl⟩,hcw.cellS r0 (by show ¬B<=gr;omega),hcw.cellS r1 (by show ¬B<=gr;omega),hcw.cellS r2 (by show ¬B<=gc;omega)⟩)
       (refine lf 0 HSS.o HQ.o ?_);(refine lf 1 HSS.o HQ.o ?_);(refine lf 2 HSS.o HQ.o ?_);(refine lf 3 HSS.o HQ.o ?_);(refine lf 4 HSS.o HQ.o ?_);(refine lf 5 HSS.o HQ.o ?_);(refine lf 6 HSS.o HQ.o ?_);(refine lf 7 HSS.o HQ.o ?_);(refine lf 8 HSS.o HQ.o ?_);(refine lf 10 HSS.o HQ.o ?_);(refine lf 11 HSS.o HQ.o ?_);(refine lf 12 HSS.o HQ.o ?_);(refine lf 13 HSS.o HQ.o ?_);(refine lf 14 HSS.o HQ.o ?_);(refine lf 15 HSS.o HQ.o ?_);(refine lf 16 HSS.o HQ.o ?_);(refine lf 17 HSS.o HQ.o ?_);(refine lf 19 HSS.o HQ.o ?_);(refine lf 20 HSS.o HQ.o ?_);(refine lf 21 HSS.o HQ.o ?_);(refine lf 22 HSS.o HQ.o ?_);(refine lf 23 HSS.o HQ.o ?_);(refine lf 24 HSS.o HQ.o ?_);refine yE (i:=9) kR rfl rfl 78 #[.slice va vl vc,.int .i64 lo] (λu w''=>Ap B wd (.slice va vl vc) XK (zN lo) (.returned u) w'') (by go_simp) ?_ ?_
       .refine (xC lo (.slice va vl vc) wd HAP0.o.own (Ay4 HSD.o.s HAP0.o.chg.size) ⟨u1,u2⟩ (by rw[Az0,Aw5];omega)).mono ?_
        rintro e w2 hap;obtain⟨v2,rfl,-⟩:=id hap;have h2:=(HAP0.o.trans hap).to (Y':=zN lo) (Aw7 _);exact⟨v2,rfl,λ_=>h2.chg,h2⟩
       rintro u wy0 hs hap K hK;obtain⟨upa,upl,upc,rfl⟩:=hap.own.shape3;have HAP1:=jh hap;have HSS:=jh hap.chg;clear hap hs;(try go_simp)
       refine hK _ ?_;clear hK K;refine yE (i:=18) kR rfl rfl 78 #[.slice upa upl upc,.int .i64 hi] (λu w''=>Ap B wd (.slice va vl vc) XK (zN lo++zN hi) (.returned u) w'') (by go_simp) ?_ ?_
       .refine (xC hi (.slice upa upl upc) wy0 HAP1.o.own (Ay4 HSD.o.s HAP1.o.chg.size) ⟨u3,u4⟩ (by rw[Az0];omega)).mono ?_
        rintro e w2 hap;obtain⟨v2,rfl,-⟩:=id hap;have h2:=(HAP1.o.trans hap).to (Y':=zN lo++zN hi) rfl;exact⟨v2,rfl,λ_=>h2.chg,h2⟩
       rintro u wy1 hs hap K hK;obtain⟨uqa,uql,uqc,rfl⟩:=hap.own.shape3;have HAP2:=jh hap;have HSS:=jh hap.chg;clear hap hs;(try go_simp)
       refine hK _ ?_;clear hK K;refine yE (i:=25) kR rfl rfl 78 #[.slice uqa uql uqc,.int .i64 cl] (λu w''=>Ap B wd (.slice va vl vc) XK (zN lo++(zN hi++zN cl)) (.returned u) w'') (by go_simp) ?_ ?_
       .refine (xC cl (.slice uqa uql uqc) wy1 HAP2.o.own (Ay4 HSD.o.s HAP2.o.chg.size) ⟨hC.1,oM⟩ (by rw[Az0,Az0];omega)).mono ?_
        rintro e w2 hap;obtain⟨v2,rfl,-⟩:=id hap;have h2:=(HAP2.o.trans hap).to (Y':=zN lo++(zN hi++zN cl)) (Az5 _ _ _);exact⟨v2,rfl,λ_=>h2.chg,h2⟩
       rintro u wy2 hs hap K hK;obtain⟨ura,url,urc,rfl⟩:=hap.own.shape3;have HAP3:=jh hap;have HSS:=jh hap.chg;clear hap hs;(try go_simp)
       refine hK _ ?_;clear hK K;(refine lq 26 HSS.o ?_);refine yA kR ?_ _;have HSN:Hd (BdSt B w0 wy2 (.slice ura url urc) (X5++((t.lx.r.zip t.lx.c).take (k+1)).flatMap ptRc)):=jh ((HSD.o.ap HAP3.o).to (by rw[zU HS.o,HXK.o,Az5];rfl));go_wp2;go_roundw
       case rel=>first|exact⟨k+1,oM,by go_num,HSN.o⟩|((repeat apply Ay7);exact⟨⟨k+1,oM,by go_num,HSN.o⟩,rfl⟩)
       case measure=>simp[intOf];omega
      .obtain rfl:k=t.lx.r.length:=oM
       have b9:decide ((t.lx.r.length:Int)<(t.lx.r.length:Int))=false:=sI;have HST1:Hd (BdSt B w0 wo (.slice va vl vc) X6):=jh (HST.o.to (by rw[HX6.o,Ax6 (by rw[Au7,HCL.o,Nat.min_self];exact Ay _)]));clear HST;go_upto_region 20 with (fail)
       clear v3;obtain⟨wd,hwd⟩:∃X,wo.drew=X:=⟨_,rfl⟩;have HWD:Hd (Cf wo wd):=jh (by rw[<-hwd];exact (Chg.refl _ _).drew);refine zC (λx=>Chg (λk=>(Value.slice va vl vc).ownBlock=some k) wd x) (λ_=>false) kR ?_;show yN _ _ _ _ _ _ 9 (Array.replicate 9 false) _ wo.drew;rw[hwd];clear hwd;have HSS:Hd (Chg (λk=>(Value.slice va vl vc).ownBlock=some k) wd wd):=jh cR;have HSD:=jh (HST1.o.fresh HWD.o);have HAP0:Hd (Ap B wd (.slice va vl vc) X6 [] (.returned (.slice va vl vc)) wd):=jh (Ap.nil HSD.o.o);have HQ:Hd (∀x,Chg (λk=>(Value.slice va vl vc).ownBlock=some k) wd x->x.cell? ⟨bv,3,none⟩=some (.slice a3 t.lx.r.length c3)/\x.cell? ⟨bv,4,none⟩=some (.slice a4 t.lx.c.length c4)/\x.cell? ⟨bv,5,none⟩=some (.slice a5 t.lx.n.length c5)/\x.cell? ⟨bv,6,none⟩=some (.slice a6 t.lx.e.length c6)):=jh (λx hx=>by
        have hcx:Chg (λg=>B<=g) w0 x:=HSD.o.c.trans (HSD.o.all hx);exact⟨HA.o x hcx 3 _ rfl,HA.o x hcx 4 _ rfl,HA.o x hcx 5 _ rfl,HA.o x hcx 6 _ rfl⟩)
       (refine lq 0 HSS.o ?_);(refine lq 1 HSS.o ?_);(refine lf 2 HSS.o HQ.o ?_);(refine lq 4 HSS.o ?_);(refine lq 5 HSS.o ?_);(refine lf 6 HSS.o HQ.o ?_);refine yE (i:=3) kR rfl rfl 45 #[.agg #[.slice a3 t.lx.r.length c3,.slice a4 t.lx.c.length c4,.slice a5 t.lx.n.length c5,.slice a6 t.lx.e.length c6]] (λu w''=>u=.int .i64 (cw:Int)/\Cf wd w'') (by go_simp) ?_ ?_
       .refine (zCf t.lx ⟨(a3,t.lx.r.length,c3),(a4,t.lx.c.length,c4),(a5,t.lx.n.length,c5),(a6,t.lx.e.length,c6)⟩ (·<bv) wd (HTI.o wd HSD.o.c).lx (by rw[HCL.o];omega) HK.o.lx.cs).mono ?_
        rintro e w2 ⟨rfl,hc⟩;exact⟨_,rfl,λ_=>hc.any,by rw[HCE.o],hc⟩
       rintro u wy0 hs ⟨rfl,hc⟩ K hK;have HCY:=jh hc;clear hc hs;(try go_simp)
       refine hK _ ?_;clear hK K;have HSE:=jh (HSD.o.fresh HCY.o);refine yE (i:=7) kR rfl rfl 80 #[.slice va vl vc,.int .i64 (cw:Int),.slice a5 t.lx.n.length c5] (λu w''=>Ap B wd (.slice va vl vc) X6 (vJ (cw:Int) t.lx.n) (.returned u) w'') (by go_simp) ?_ ?_
       .refine (zAh cw t.lx.n a5 c5 _ wy0 HSE.o.o HSE.o.s (LexIn.tab (LexIn.good.mono (HTI.o wy0 HSE.o.c).lx (S':=(0<=·)) (λ_ _ _=>Av _))).n hcw1 l_ln (by have h:=HK.o.lx.mo;rw[HCE.o]at h;exact h) HW2.o (by have h:=congrArg List.length HX7.o;rw[Az0,HCE.o]at h;omega)).mono ?_
        rintro e w2 hap;obtain⟨v2,rfl,-⟩:=id hap;have h2:=Ap.fresh HCY.o hap;exact⟨v2,rfl,λ_=>h2.chg,h2⟩
       rintro u wy1 hs hap K hK;obtain⟨upa,upl,upc,rfl⟩:=hap.own.shape3;have HAP1:=jh hap;have HSS:=jh hap.chg;clear hap hs;(try go_simp)
       refine hK _ ?_;clear hK K;(refine lq 8 HSS.o ?_);refine yA kR ?_ _;have HST7:Hd (BdSt B w0 wy1 (.slice upa upl upc) X7):=jh ((HSD.o.ap HAP1.o).to (by rw[HX7.o,HCE.o]));go_wp2;obtain⟨wq,rfl⟩:∃x:World,x=wy1:=⟨_,rfl⟩;clear HAP0 HAP1 HSD HSE HCY HST1 HWD HQ HSS
       go_loopw [3,7] (λsv q wr=>∃k:Nat,k<=t.lx.e.length/\q=.int .i64 k/\BdSt B w0 wr sv (X7++(t.lx.e.take k).flatMap bW)) (λ_ q _=>t.lx.e.length-(intOf q).toNat)
       case atStart=>exact⟨0,oM,rfl,by rw[List.take_zero,List.flatMap_nil,Av4];exact HST7.o⟩
       case round =>
        clear HST7;obtain⟨k,hk,rfl,hst⟩:=hrel;obtain⟨wo,rfl⟩:∃x:World,x=wr:=⟨_,rfl⟩;have HST:=jh hst;obtain⟨va,vl,vc,rfl⟩:=hst.o.shape3;have v6:=HA.o wo hst.c 6 _ rfl;clear hst;by_cases hkl:k<t.lx.e.length
        .as_aux_lemma =>
         have b9:decide ((k:Int)<(t.lx.e.length:Int))=true:=sO;obtain⟨e,g,o,hx,rfl,cx,-,-,-,-⟩:=(HTI.o wo HST.o.c).lx.e.getI hkl;obtain⟨z1,z2⟩:=HK.o.lx.eb e (Az2 hx);have HS:=jh hx;have hlen:=(HLX.o k).2.2.2.1;have hw1:wrap64 (e+1)=e+1:=(by unfold wrap64;omega);have hw2:IntKind.i64.wrap (e+1)=e+1:=IntWalk.i64_in _ oM;clear hx;have HN:=jh (xC (e+1) _ wo HST.o.o HST.o.s oM oM);go_wp2_with fail
         refine HN.o.mono ?_;rintro e w3 hap;obtain⟨_,rfl,-⟩:=id hap;obtain⟨s2a,s2l,s2c,rfl⟩:=hap.own.shape3;have HST3:=jh (HST.o.ap hap);have HAPX:=jh hap;clear hap HN;have HSN:Hd (BdSt B w0 w3 (.slice s2a s2l s2c) (X7++(t.lx.e.take (k+1)).flatMap bW)):=jh (HST3.o.to (by rw[zU HS.o,Az5];rfl));clear v6 cx;go_wp2;go_roundw
         case rel=>first|exact⟨k+1,oM,by go_num,HSN.o⟩|((repeat apply Ay7);exact⟨⟨k+1,oM,by go_num,HSN.o⟩,rfl⟩)
         case measure=>simp[intOf];omega
        .obtain rfl:k=t.lx.e.length:=oM
         have b9:decide ((t.lx.e.length:Int)<(t.lx.e.length:Int))=false:=sI;have HST1:Hd (BdSt B w0 wo (.slice va vl vc) X8):=jh (HST.o.to (by rw[HX8.o,Ay5]));have v7:=HA.o wo HST.o.c 7 _ rfl;clear HST;have HN:=jh (xC (t.nt.st.length:Int) _ wo HST1.o.o HST1.o.s oM oM);go_wp2_with fail
         refine HN.o.mono ?_;rintro e w3 hap;obtain⟨_,rfl,-⟩:=id hap;obtain⟨s1a,s1l,s1c,rfl⟩:=hap.own.shape3;have HST2:=jh (HST1.o.ap hap);have HAPX:=jh hap;clear hap HN;have HST2:Hd (BdSt B w0 w3 (.slice s1a s1l s1c) X9):=jh (HST2.o.to (by rw[HX9.o];unfold zN;rw[Ay6]));clear v6 v7 HST1 HAPX;go_wp2_with fail
         go_loopw [3,8] (λsv q wr=>∃k:Nat,k<=t.nt.st.length/\q=.int .i64 k/\BdSt B w0 wr sv (X9++(t.nt.st.take k).flatMap vQ)) (λ_ q _=>t.nt.st.length-(intOf q).toNat)
         case atStart=>exact⟨0,oM,rfl,by rw[List.take_zero,List.flatMap_nil,Av4];exact HST2.o⟩
         case round =>
          clear HST2;obtain⟨k,hk,rfl,hst⟩:=hrel;obtain⟨wo,rfl⟩:∃x:World,x=wr:=⟨_,rfl⟩;have HST:=jh hst;obtain⟨va,vl,vc,rfl⟩:=hst.o.shape3;have v7:=HA.o wo hst.c 7 _ rfl;clear hst;by_cases hkl:k<t.nt.st.length
          .as_aux_lemma =>
           have b9:decide ((k:Int)<(t.nt.st.length:Int))=true:=sO;obtain⟨⟨yr,⟨ea,en,ec⟩,⟨ta,tn,tc⟩⟩,⟨sr,ed,ts⟩,g,o,hd,⟨hy1,-,hye,hyt⟩,rfl,-,hgl,-,hcells⟩:=(HTI.o wo HST.o.c).nt.st.get3 (f:=jA) rfl hkl rfl;simp only at hy1 hye hyt;subst hy1;obtain⟨rfl,-⟩:=hye.len;obtain⟨rfl,-⟩:=hyt.len;obtain⟨s0,s1,s2⟩:=hcells _ _ _ rfl;simp only[slV]at s1 s2;have HS:=jh hd;obtain⟨o1,⟨o2,o3⟩,o4,o5⟩:=HK.o.nt.st.2 _ (Az2 hd);obtain⟨o6,o7⟩:=HK.o.sl _ (Az2 hd);simp only at o1 o2 o3 o4 o5 o6 o7;have HOK:=jh (show _/\_/\_ from ⟨o1,o3,o5⟩);have hlen:=(HLX.o k).2.2.2.2.1;have hlen2:((X9++(t.nt.st.take k).flatMap vQ)++vQ (yr,ed,ts)).length<=19000000:=by
            have h:=(HLX.o (k+1)).2.2.2.2.1;rw[zU hd,<-Az5]at h;exact h
           have HYE:Hd (∀X,Chg (λg=>B<=g) wo X->zJ cJ eqR X (·<bv) (ea,ed.length,ec) ed):=jh (λX hx=>zJ.of (hye.chg hx (λg hg e=>oM)));have HYT:Hd (∀X,Chg (λg=>B<=g) wo X->intE.InS X (·<B) (ta,ts.length,tc) ts):=jh (λX hx=>(hyt.chg hx (λg hg e=>oM)).mono (λg _ hg=>oM));obtain⟨XK,hXK⟩:∃X,X=X9++(t.nt.st.take k).flatMap vQ:=⟨_,rfl⟩;have HXK:=jh hXK;rw[<-hXK]at HST hlen hlen2;have hpl:(vQ (yr,ed,ts)).length=(zN yr).length+((putL ed.length).length+(ed.flatMap pG).length+((putL ts.length).length+(ts.flatMap zN).length)):=by
            unfold vQ zS;simp only[Az0]
           rw[Az0,hpl]at hlen2;obtain⟨bs,hbs⟩:∃b,b=wo.heap.size:=⟨_,rfl⟩;obtain⟨w2,hw2⟩:∃W,W=wo.alloc (.cells #[.int .i64 yr,.slice ea ed.length ec,.slice ta ts.length tc] 121):=⟨_,rfl⟩;have HC2:Hd (Cf wo w2):=jh (by rw[hw2];exact (Chg.refl _ _).alloc _);have HBS:Hd (∀j v,(#[.int .i64 yr,.slice ea ed.length ec,.slice ta ts.length tc]:Array Value)[j]?=some v->w2.cell? ⟨bs,j,none⟩=some v):=jh (λj v hv=>by rw[hw2];exact zE _ hbs hv);have HNB:Hd (∀g,(Value.slice va vl vc).ownBlock=some g->g≠bs):=jh (λg hg e=>by have:=(HST.o.blk hg).2;omega);have HBZ:Hd (bs<w2.heap.size):=jh (by rw[hw2,hbs];simp);have HS2:=jh (HST.o.fresh HC2.o);clear hd hye hyt hcells hXK hpl;go_upto_region 30 with (fail)
           rw[<-hw2,<-hbs];clear hw2 hbs v7 s0 s1 s2;obtain⟨wd,hwd⟩:∃X,w2.drew=X:=⟨_,rfl⟩;have HWD:Hd (Cf w2 wd):=jh (by rw[<-hwd];exact (Chg.refl _ _).drew);refine zC (λx=>Chg (λk=>(Value.slice va vl vc).ownBlock=some k) wd x) (λ_=>false) kR ?_;show yN _ _ _ _ _ _ 9 (Array.replicate 9 false) _ w2.drew;rw[hwd];clear hwd;have HSS:Hd (Chg (λk=>(Value.slice va vl vc).ownBlock=some k) wd wd):=jh cR;have HSD:=jh (HS2.o.fresh HWD.o);have HAP0:Hd (Ap B wd (.slice va vl vc) XK [] (.returned (.slice va vl vc)) wd):=jh (Ap.nil HSD.o.o);have HQ:Hd (∀x,Chg (λk=>(Value.slice va vl vc).ownBlock=some k) wd x->x.cell? ⟨bs,0,none⟩=some (.int .i64 yr)/\x.cell? ⟨bs,1,none⟩=some (.slice ea ed.length ec)):=jh (λx hx=>by
            have hcx:Chg (λg=>B<=g) w0 x:=HSD.o.c.trans (HSD.o.all hx);have hcw:Chg (λg=>B<=g) w2 x:=HWD.o.any.trans (HSD.o.all hx);have hb:∀j v,(#[.int .i64 yr,.slice ea ed.length ec,.slice ta ts.length tc]:Array Value)[j]?=some v->x.cell? ⟨bs,j,none⟩=some v:=λj v hv=>hx.cellS (HWD.o.cellS (HBS.o j v hv) iD) (λe=>HNB.o _ e rfl)
            exact⟨hb 0 _ rfl,hb 1 _ rfl⟩)
           (refine lf 0 HSS.o HQ.o ?_);(refine lf 1 HSS.o HQ.o ?_);(refine lf 2 HSS.o HQ.o ?_);(refine lf 4 HSS.o HQ.o ?_);(refine lf 5 HSS.o HQ.o ?_);(refine lf 6 HSS.o HQ.o ?_);refine yE (i:=3) kR rfl rfl 78 #[.slice va vl vc,.int .i64 yr] (λu w''=>Ap B wd (.slice va vl vc) XK (zN yr) (.returned u) w'') (by go_simp) ?_ ?_
           .refine (xC yr (.slice va vl vc) wd HAP0.o.own (Ay4 HSD.o.s HAP0.o.chg.size) HOK.o.1 (by rw[Az0,Aw5];omega)).mono ?_
            rintro e w2 hap;obtain⟨v2,rfl,-⟩:=id hap;have h2:=(HAP0.o.trans hap).to (Y':=zN yr) (Aw7 _);exact⟨v2,rfl,λ_=>h2.chg,h2⟩
           rintro u wy0 hs hap K hK;obtain⟨upa,upl,upc,rfl⟩:=hap.own.shape3;have HAP1:=jh hap;have HSS:=jh hap.chg;clear hap hs;(try go_simp)
           refine hK _ ?_;clear hK K;refine yE (i:=7) kR rfl rfl 78 #[.slice upa upl upc,.int .i64 ed.length] (λu w''=>Ap B wd (.slice va vl vc) XK (zN yr++zN ed.length) (.returned u) w'') (by go_simp) ?_ ?_
           .refine (xC (ed.length:Int) (.slice upa upl upc) wy0 HAP1.o.own (Ay4 HSD.o.s HAP1.o.chg.size) oM (by have:=pE HOK.o.1;rw[Az0];omega)).mono ?_
            rintro e w2 hap;obtain⟨v2,rfl,-⟩:=id hap;have h2:=(HAP1.o.trans hap).to (Y':=zN yr++zN ed.length) rfl;exact⟨v2,rfl,λ_=>h2.chg,h2⟩
           rintro u wy1 hs hap K hK;obtain⟨uqa,uql,uqc,rfl⟩:=hap.own.shape3;have HAP2:=jh hap;have HSS:=jh hap.chg;clear hap hs;(try go_simp)
           refine hK _ ?_;clear hK K;(refine lq 8 HSS.o ?_);refine yA kR ?_ _;have HAPS:Hd (Ap B w2 (.slice va vl vc) XK (zN yr++putL ed.length) (.returned (.slice uqa uql uqc)) wy1):=jh ((Ap.fresh HWD.o HAP2.o).to (by unfold zN;rw[Ay6]));go_wp2;obtain⟨wq,rfl⟩:∃x:World,x=wy1:=⟨_,rfl⟩;clear HAP0 HAP1 HAP2 HSD HWD HQ HSS
           go_loopw [3,10] (λsv q wr=>∃y:Nat,y<=ed.length/\q=.int .i64 y/\Ap B w2 (.slice va vl vc) XK ((zN yr++putL ed.length)++(ed.take y).flatMap pG) (.returned sv) wr) (λ_ q _=>ed.length-(intOf q).toNat)
           case atStart=>exact⟨0,oM,rfl,by rw[List.take_zero,List.flatMap_nil,Av4];exact HAPS.o⟩
           case round =>
            clear HAPS;obtain⟨y,hy,rfl,hap⟩:=hrel;obtain⟨wx,rfl⟩:∃x:World,x=wr:=⟨_,rfl⟩;have HAPL:=jh hap;obtain⟨ua,ul,uc,rfl⟩:=hap.own.shape3;have HSX:=jh (HS2.o.ap hap);have HB2:Hd (∀j v,(#[.int .i64 yr,.slice ea ed.length ec,.slice ta ts.length tc]:Array Value)[j]?=some v->wx.cell? ⟨bs,j,none⟩=some v):=jh (λj v hv=>hap.chg.cellS (HBS.o j v hv) (λe=>HNB.o _ e rfl));have HNBX:Hd (∀g,(Value.slice ua ul uc).ownBlock=some g->g≠bs):=jh (λg hg e=>(hap.nx g hg).elim (λh=>HNB.o g h e) (λh=>by have:=HBZ.o;omega));have HCWX:Hd (Chg (λg=>B<=g) wo wx):=jh (HC2.o.any.trans (HS2.o.all hap.chg));obtain⟨s0,s1,s2⟩:wx.cell? ⟨bs,0,none⟩=some (.int .i64 yr)/\wx.cell? ⟨bs,1,none⟩=some (.slice ea ed.length ec)/\wx.cell? ⟨bs,2,none⟩=some (.slice ta ts.length tc):=⟨HB2.o 0 _ rfl,HB2.o 1 _ rfl,HB2.o 2 _ rfl⟩;clear hap;have hyp:((ed.take y).flatMap pG).length<=(ed.flatMap pG).length:=yU y;by_cases hyl:y<ed.length
            .have b10:decide ((y:Int)<(ed.length:Int))=true:=by simp;omega
             obtain⟨⟨kd,wh,tv⟩,d',gx,ox,hxe,hxd,hea,hgx,-,-,hcx⟩:=(HYE.o wx HCWX.o).get3 (f:=zLc) rfl hyl rfl;obtain rfl:(kd,wh,tv)=d':=hxd;obtain⟨cx,cy,cz⟩:=hcx _ _ _ rfl;simp only at cx cy cz;subst hea;obtain⟨⟨z1,z2⟩,z3,z4⟩:=HOK.o.2.1 _ (Az2 hxe);simp only at z1 z2 z3 z4;have HOE:Hd (U32 kd/\U32 wh/\U32 tv):=jh ⟨⟨z1,oM⟩,z3,z4⟩;have HSE:=jh hxe;have HCE4:=jh (show _/\_/\_/\_/\_ from ⟨s1,cx,cy,cz,hgx⟩);obtain⟨XL,hXL⟩:∃X,X=XK++((zN yr++putL ed.length)++(ed.take y).flatMap pG):=⟨_,rfl⟩;have hxl2:XL.length<=19000000:=(by rw[hXL];simp only[Az0];omega);have HXL:=jh hXL;rw[<-hXL]at HSX;clear hxe hcx cx cy cz hXL z1 z2 z3 z4;go_upto_region 34 with (fail)
             clear s0 s1 s2;obtain⟨wd,hwd⟩:∃X,wx.drew=X:=⟨_,rfl⟩;have HWD:Hd (Cf wx wd):=jh (by rw[<-hwd];exact (Chg.refl _ _).drew);refine zC (λx=>Chg (λk=>(Value.slice ua ul uc).ownBlock=some k) wd x) (λ_=>false) kR ?_;show yN _ _ _ _ _ _ 23 (Array.replicate 23 false) _ wx.drew;rw[hwd];clear hwd;have HSS:Hd (Chg (λk=>(Value.slice ua ul uc).ownBlock=some k) wd wd):=jh cR;have HSD:=jh (HSX.o.fresh HWD.o);have HAP0:Hd (Ap B wd (.slice ua ul uc) XL [] (.returned (.slice ua ul uc)) wd):=jh (Ap.nil HSD.o.o);have HQ:Hd (∀x,Chg (λk=>(Value.slice ua ul uc).ownBlock=some k) wd x->x.cell? ⟨bs,1,none⟩=some (.slice (some ⟨gx,ox,none⟩) ed.length ec)/\x.cell? ⟨gx,ox+y * 3,none⟩=some (.int .i64 kd)/\x.cell? ⟨gx,ox+y * 3+1,none⟩=some (.int .i64 wh)/\x.cell? ⟨gx,ox+y * 3+2,none⟩=some (.int .i64 tv)):=jh (λx hx=>by
              have hcx:Chg (λg=>B<=g) w0 x:=HSD.o.c.trans (HSD.o.all hx);have hcw:Chg (λg=>B<=g) wx x:=HWD.o.any.trans (HSD.o.all hx);obtain⟨z0,z1,z2,z3,hg⟩:=HCE4.o;exact⟨hx.cellS (HWD.o.cellS z0 iD) (λe=>HNBX.o _ e rfl),hcw.cellS z1 (by show ¬B<=gx;omega),hcw.cellS z2 (by show ¬B<=gx;omega),hcw.cellS z3 (by show ¬B<=gx;omega)⟩)
             (refine lf 0 HSS.o HQ.o ?_);(refine lf 1 HSS.o HQ.o ?_);(refine lf 2 HSS.o HQ.o ?_);(refine lf 3 HSS.o HQ.o ?_);(refine lf 4 HSS.o HQ.o ?_);(refine lf 5 HSS.o HQ.o ?_);(refine lf 6 HSS.o HQ.o ?_);(refine lf 8 HSS.o HQ.o ?_);(refine lf 9 HSS.o HQ.o ?_);(refine lf 10 HSS.o HQ.o ?_);(refine lf 11 HSS.o HQ.o ?_);(refine lf 12 HSS.o HQ.o ?_);(refine lf 13 HSS.o HQ.o ?_);(refine lf 15 HSS.o HQ.o ?_);(refine lf 16 HSS.o HQ.o ?_);(refine lf 17 HSS.o HQ.o ?_);(refine lf 18 HSS.o HQ.o ?_);(refine lf 19 HSS.o HQ.o ?_);(refine lf 20 HSS.o HQ.o ?_);refine yE (i:=7) kR rfl rfl 78 #[.slice ua ul uc,.int .i64 kd] (λu w''=>Ap B wd (.slice ua ul uc) XL (zN kd) (.returned u) w'') (by go_simp) ?_ ?_
             .refine (xC kd (.slice ua ul uc) wd HAP0.o.own (Ay4 HSD.o.s HAP0.o.chg.size) HOE.o.1 (by rw[Az0,Aw5];omega)).mono ?_
              rintro e w2 hap;obtain⟨v2,rfl,-⟩:=id hap;have h2:=(HAP0.o.trans hap).to (Y':=zN kd) (Aw7 _);exact⟨v2,rfl,λ_=>h2.chg,h2⟩
             rintro u wy0 hs hap K hK;obtain⟨upa,upl,upc,rfl⟩:=hap.own.shape3;have HAP1:=jh hap;have HSS:=jh hap.chg;clear hap hs;(try go_simp)
             refine hK _ ?_;clear hK K;refine yE (i:=14) kR rfl rfl 78 #[.slice upa upl upc,.int .i64 wh] (λu w''=>Ap B wd (.slice ua ul uc) XL (zN kd++zN wh) (.returned u) w'') (by go_simp) ?_ ?_
             .refine (xC wh (.slice upa upl upc) wy0 HAP1.o.own (Ay4 HSD.o.s HAP1.o.chg.size) HOE.o.2.1 (by have:=pE HOE.o.1;rw[Az0];omega)).mono ?_
              rintro e w2 hap;obtain⟨v2,rfl,-⟩:=id hap;have h2:=(HAP1.o.trans hap).to (Y':=zN kd++zN wh) rfl;exact⟨v2,rfl,λ_=>h2.chg,h2⟩
             rintro u wy1 hs hap K hK;obtain⟨uqa,uql,uqc,rfl⟩:=hap.own.shape3;have HAP2:=jh hap;have HSS:=jh hap.chg;clear hap hs;(try go_simp)
             refine hK _ ?_;clear hK K;refine yE (i:=21) kR rfl rfl 78 #[.slice uqa uql uqc,.int .i64 tv] (λu w''=>Ap B wd (.slice ua ul uc) XL (zN kd++(zN wh++zN tv)) (.returned u) w'') (by go_simp) ?_ ?_
             .refine (xC tv (.slice uqa uql uqc) wy1 HAP2.o.own (Ay4 HSD.o.s HAP2.o.chg.size) HOE.o.2.2 (by have:=pE HOE.o.1;have:=pE HOE.o.2.1;rw[Az0,Az0];omega)).mono ?_
              rintro e w2 hap;obtain⟨v2,rfl,-⟩:=id hap;have h2:=(HAP2.o.trans hap).to (Y':=zN kd++(zN wh++zN tv)) (Az5 _ _ _);exact⟨v2,rfl,λ_=>h2.chg,h2⟩
             rintro u wy2 hs hap K hK;obtain⟨ura,url,urc,rfl⟩:=hap.own.shape3;have HAP3:=jh hap;have HSS:=jh hap.chg;clear hap hs;(try go_simp)
             refine hK _ ?_;clear hK K;(refine lq 22 HSS.o ?_);refine yA kR ?_ _;have HAPN:Hd (Ap B w2 (.slice va vl vc) XK ((zN yr++putL ed.length)++(ed.take (y+1)).flatMap pG) (.returned (.slice ura url urc)) wy2):=jh (by
              have h:=HAPL.o.trans (by rw[<-HXL.o];exact Ap.fresh HWD.o HAP3.o);refine h.to ?_;rw[zU HSE.o];simp only[Az5]
              rfl)
             go_wp2;go_roundw
             case rel=>first|exact⟨y+1,oM,by go_num,HAPN.o⟩|((repeat apply Ay7);exact⟨⟨y+1,oM,by go_num,HAPN.o⟩,rfl⟩)
             case measure=>simp[intOf];omega
            .obtain rfl:y=ed.length:=oM
             have b10:decide ((ed.length:Int)<(ed.length:Int))=false:=sI;rw[Ay5]at HAPL HSX;have HN:=jh (nA ts ta tc _ wx HSX.o.o HSX.o.s (HYT.o wx HCWX.o) (λg hg=>(HSX.o.blk hg).1) HOK.o.2.2 oM (by simp only[Az0];omega));go_wp2_with fail
             refine HN.o.mono ?_;rintro e w5 hap;obtain⟨_,rfl,-⟩:=id hap;obtain⟨u2a,u2l,u2c,rfl⟩:=hap.own.shape3;have HSN:Hd (BdSt B w0 w5 (.slice u2a u2l u2c) (X9++(t.nt.st.take (k+1)).flatMap vQ)):=jh ((HSX.o.ap hap).to (by
              rw[zU HS.o,HXK.o];unfold vQ;simp only[zS,Az5]))
             clear hap HN s0 s1 s2;go_wp2;go_roundw
             case rel=>first|exact⟨k+1,oM,by go_num,HSN.o⟩|((repeat apply Ay7);exact⟨⟨k+1,oM,by go_num,HSN.o⟩,rfl⟩)
             case measure=>simp[intOf];omega
          .obtain rfl:k=t.nt.st.length:=oM
           have b9:decide ((t.nt.st.length:Int)<(t.nt.st.length:Int))=false:=sI;have HST1:Hd (BdSt B w0 wo (.slice va vl vc) X10):=jh (HST.o.to (by rw[HX10.o,Ay5]));have HNTO:=jh HK.o.nt;have HNL:=jh HK.o.nl;clear HST;go_upto_region 36 with (fail)
           clear v7;obtain⟨wd,hwd⟩:∃X,wo.drew=X:=⟨_,rfl⟩;have HWD:Hd (Cf wo wd):=jh (by rw[<-hwd];exact (Chg.refl _ _).drew);refine zC (λx=>Chg (λk=>(Value.slice va vl vc).ownBlock=some k) wd x) (λ_=>false) kR ?_;show yN _ _ _ _ _ _ 14 (Array.replicate 14 false) _ wo.drew;rw[hwd];clear hwd;have HSS:Hd (Chg (λk=>(Value.slice va vl vc).ownBlock=some k) wd wd):=jh cR;have HSD:=jh (HST1.o.fresh HWD.o);have HAP0:Hd (Ap B wd (.slice va vl vc) X10 [] (.returned (.slice va vl vc)) wd):=jh (Ap.nil HSD.o.o);have HQ:Hd (∀x,Chg (λk=>(Value.slice va vl vc).ownBlock=some k) wd x->x.cell? ⟨bv,8,none⟩=some (.slice a8 t.nt.s.length c8)/\x.cell? ⟨bv,9,none⟩=some (.slice a9 t.nt.p.length c9)/\x.cell? ⟨bv,10,none⟩=some (.slice a10 t.nt.q.length c10)):=jh (λx hx=>by
            have hcx:Chg (λg=>B<=g) w0 x:=HSD.o.c.trans (HSD.o.all hx);have hcw:Chg (λg=>B<=g) wo x:=HWD.o.any.trans (HSD.o.all hx);exact⟨HA.o x hcx 8 _ rfl,HA.o x hcx 9 _ rfl,HA.o x hcx 10 _ rfl⟩)
           (refine lf 0 HSS.o HQ.o ?_);(refine lf 1 HSS.o HQ.o ?_);(refine lf 2 HSS.o HQ.o ?_);(refine lf 3 HSS.o HQ.o ?_);(refine lf 5 HSS.o HQ.o ?_);(refine lf 6 HSS.o HQ.o ?_);(refine lf 7 HSS.o HQ.o ?_);(refine lf 9 HSS.o HQ.o ?_);(refine lf 10 HSS.o HQ.o ?_);(refine lf 11 HSS.o HQ.o ?_);refine yE (i:=4) kR rfl rfl 81 #[.slice va vl vc,.slice a8 t.nt.s.length c8] (λu w''=>Ap B wd (.slice va vl vc) X10 (zS zN t.nt.s) (.returned u) w'') (by go_simp) ?_ ?_
           .refine (nA t.nt.s a8 c8 (.slice va vl vc) wd HAP0.o.own (Ay4 HSD.o.s HAP0.o.chg.size) ((HTI.o wd (HSD.o.c.trans (HSD.o.all HAP0.o.chg))).nt.s.mono (λg _ hg=>oM)) (λg hg=>(HAP0.o.own.blk hg).1) HNTO.o.s.2 (by have:=HNL.o;omega) (by rw[Az0,Aw5];omega)).mono ?_
            rintro e w2 hap;obtain⟨v2,rfl,-⟩:=id hap;have h2:=(HAP0.o.trans hap).to (Y':=zS zN t.nt.s) (Aw7 _);exact⟨v2,rfl,λ_=>h2.chg,h2⟩
           rintro u wy0 hs hap K hK;obtain⟨upa,upl,upc,rfl⟩:=hap.own.shape3;have HAP1:=jh hap;have HSS:=jh hap.chg;clear hap hs;(try go_simp)
           refine hK _ ?_;clear hK K;refine yE (i:=8) kR rfl rfl 81 #[.slice upa upl upc,.slice a9 t.nt.p.length c9] (λu w''=>Ap B wd (.slice va vl vc) X10 (zS zN t.nt.s++zS zN t.nt.p) (.returned u) w'') (by go_simp) ?_ ?_
           .refine (nA t.nt.p a9 c9 (.slice upa upl upc) wy0 HAP1.o.own (Ay4 HSD.o.s HAP1.o.chg.size) ((HTI.o wy0 (HSD.o.c.trans (HSD.o.all HAP1.o.chg))).nt.p.mono (λg _ hg=>oM)) (λg hg=>(HAP1.o.own.blk hg).1) HNTO.o.p.2 (by have:=HNL.o;omega) (by have h:=congrArg List.length HX11.o;simp only[Az0]at h ⊢;omega)).mono ?_
            rintro e w2 hap;obtain⟨v2,rfl,-⟩:=id hap;have h2:=(HAP1.o.trans hap).to (Y':=zS zN t.nt.s++zS zN t.nt.p) rfl;exact⟨v2,rfl,λ_=>h2.chg,h2⟩
           rintro u wy1 hs hap K hK;obtain⟨uqa,uql,uqc,rfl⟩:=hap.own.shape3;have HAP2:=jh hap;have HSS:=jh hap.chg;clear hap hs;(try go_simp)
           refine hK _ ?_;clear hK K;refine yE (i:=12) kR rfl rfl 81 #[.slice uqa uql uqc,.slice a10 t.nt.q.length c10] (λu w''=>Ap B wd (.slice va vl vc) X10 (zS zN t.nt.s++(zS zN t.nt.p++zS zN t.nt.q)) (.returned u) w'') (by go_simp) ?_ ?_
           .refine (nA t.nt.q a10 c10 (.slice uqa uql uqc) wy1 HAP2.o.own (Ay4 HSD.o.s HAP2.o.chg.size) ((HTI.o wy1 (HSD.o.c.trans (HSD.o.all HAP2.o.chg))).nt.q.mono (λg _ hg=>oM)) (λg hg=>(HAP2.o.own.blk hg).1) HNTO.o.q.2 (by have:=HNL.o;omega) (by have h:=congrArg List.length HX11.o;simp only[Az0]at h ⊢;omega)).mono ?_
            rintro e w2 hap;obtain⟨v2,rfl,-⟩:=id hap;have h2:=(HAP2.o.trans hap).to (Y':=zS zN t.nt.s++(zS zN t.nt.p++zS zN t.nt.q)) (Az5 _ _ _);exact⟨v2,rfl,λ_=>h2.chg,h2⟩
           rintro u wy2 hs hap K hK;obtain⟨ura,url,urc,rfl⟩:=hap.own.shape3;have HAP3:=jh hap;have HSS:=jh hap.chg;clear hap hs;(try go_simp)
           refine hK _ ?_;clear hK K;(refine lq 13 HSS.o ?_);refine yA kR ?_ _;have HST11:Hd (BdSt B w0 wy2 (.slice ura url urc) X11):=jh ((HSD.o.ap HAP3.o).to (by rw[HX11.o]));go_wp2;obtain⟨wq,rfl⟩:∃x:World,x=wy2:=⟨_,rfl⟩;clear HAP0 HAP1 HAP2 HAP3 HSD HST1 HWD HQ HSS
           go_loopw [3,11] (λsv q wr=>∃k:Nat,k<=t.lk.length/\q=.int .i64 k/\BdSt B w0 wr sv (X11++(t.lk.take k).flatMap (tU t.tk.length))) (λ_ q _=>t.lk.length-(intOf q).toNat)
           case atStart=>exact⟨0,oM,rfl,by rw[List.take_zero,List.flatMap_nil,Av4];exact HST11.o⟩
           case round =>
            clear HST11;obtain⟨k,hk,rfl,hst⟩:=hrel;obtain⟨wo,rfl⟩:∃x:World,x=wr:=⟨_,rfl⟩;have HST:=jh hst;obtain⟨va,vl,vc,rfl⟩:=hst.o.shape3;have v12:=HA.o wo hst.c 12 _ rfl;clear hst;by_cases hkl:k<t.lk.length
            .as_aux_lemma =>
             have b9:decide ((k:Int)<(t.lk.length:Int))=true:=sO;obtain⟨⟨ua0,un,uc0⟩,A,gA,oA,hxA,hrA,rfl,hgA,-,cA⟩:=(HTI.o wo HST.o.c).lk.get1 (f:=slV) rfl hkl (λ_=>rfl);obtain⟨rfl,-⟩:=zJ.len hrA;simp only[slV]at cA;have HSA:=jh hxA;have HOA:=jh (HK.o.lk A (Az2 hxA));have hAl:A.length<=4096:=HOA.o.2.1;have hlen:=(HLX.o k).2.2.2.2.2;have hlen2:((X11++(t.lk.take k).flatMap (tU t.tk.length))++tU t.tk.length A).length<=19000000:=by
              have h:=(HLX.o (k+1)).2.2.2.2.2;rw[zU hxA,<-Az5]at h;exact h
             have HRA:Hd (∀X,Chg (λg=>B<=g) wo X->sJ X (·<bv) (ua0,A.length,uc0) A):=jh (λX hx=>sJ.good.chg hrA hx (λg hg e=>oM));obtain⟨XK,hXK⟩:∃X,X=X11++(t.lk.take k).flatMap (tU t.tk.length):=⟨_,rfl⟩;have HXK:=jh hXK;rw[<-hXK]at HST hlen hlen2;have HPL:Hd (tU t.tk.length A=(putL A.length++A.flatMap ptL)++vJ ((t.tk.length+1:Nat):Int) (A.map (λs=>yW t.tk.length s.2.2))):=jh (zGf _ _);rw[Az0,HPL.o]at hlen2;simp only[Az0]at hlen2;obtain⟨ba,hba⟩:∃b,b=wo.heap.size:=⟨_,rfl⟩;obtain⟨w2,hw2⟩:∃W,W=wo.alloc (.cells #[.slice ua0 A.length uc0] 79):=⟨_,rfl⟩;have HC2:Hd (Cf wo w2):=jh (by rw[hw2];exact (Chg.refl _ _).alloc _);have HBA:Hd (w2.cell? ⟨ba,0,none⟩=some (.slice ua0 A.length uc0)):=jh (by rw[hw2];exact vW _ _ hba);have HNB:Hd (∀g,(Value.slice va vl vc).ownBlock=some g->g≠ba):=jh (λg hg e=>by have:=(HST.o.blk hg).2;omega);have HBZ:Hd (ba<w2.heap.size):=jh (by rw[hw2,hba];simp);have HS2:=jh (HST.o.fresh HC2.o);have q0:=HBA.o;clear hxA hrA hXK;go_upto_region 42 with (fail)
             rw[<-hw2,<-hba];clear hw2 hba v12 cA;have HN:=jh (xC (A.length:Int) _ w2 HS2.o.o HS2.o.s oM oM);go_wp2_with fail
             refine HN.o.mono ?_;rintro e w3 hap;obtain⟨_,rfl,-⟩:=id hap;obtain⟨s1a,s1l,s1c,rfl⟩:=hap.own.shape3;have HAPS:Hd (Ap B w2 (.slice va vl vc) XK (putL A.length) (.returned (.slice s1a s1l s1c)) w3):=jh (hap.to (by unfold zN;rw[Ay6]));clear hap HN q0;go_wp2_with fail
             go_loopw [3,13,14] (λsv lv q wr=>∃y:Nat,y<=A.length/\q=.int .i64 y/\Ap B w2 (.slice va vl vc) XK (putL A.length++(A.take y).flatMap ptL) (.returned sv) wr/\LkS w2.heap.size wr sv lv ((A.take y).map (λs=>yW t.tk.length s.2.2))) (λ_ _ q _=>A.length-(intOf q).toNat)
             case atStart=>exact⟨0,oM,rfl,by rw[List.take_zero,List.flatMap_nil,Av4];exact HAPS.o,LkS.start _ _ _⟩
             case round =>
              clear HAPS;obtain⟨y,hy,rfl,hap,hls⟩:=hrel;obtain⟨wx,rfl⟩:∃x:World,x=wr:=⟨_,rfl⟩;have HAPL:=jh hap;obtain⟨ua,ul,uc,rfl⟩:=hap.own.shape3;have HSX:=jh (HS2.o.ap hap);have HLS:=jh hls;obtain⟨Y,hY,hYl,hYr⟩:=hls.ex;obtain⟨la,ll,lc,rfl⟩:=hY.shape3;have HBA2:Hd (wx.cell? ⟨ba,0,none⟩=some (.slice ua0 A.length uc0)):=jh (hap.chg.cellS HBA.o (λe=>HNB.o _ e rfl));have HNBX:Hd (∀g,(Value.slice ua ul uc).ownBlock=some g->g≠ba):=jh (λg hg e=>(hap.nx g hg).elim (λh=>HNB.o g h e) (λh=>by have:=HBZ.o;omega));have HCWX:Hd (Chg (λg=>B<=g) wo wx):=jh (HC2.o.any.trans (HS2.o.all hap.chg));have q0:=HBA2.o;clear hap hls hY hYr hYl;have hyp:((A.take y).flatMap ptL).length<=(A.flatMap ptL).length:=yU y;by_cases hyl:y<A.length
              .as_aux_lemma =>
               have b10:decide ((y:Int)<(A.length:Int))=true:=sO;obtain⟨⟨yk,⟨aa,an,ac⟩,⟨ea,en,ec⟩⟩,⟨kd,al,ed⟩,gs,os,hd,⟨hy1,-,hya,hye⟩,hga,hgs,-,-,hcells⟩:=(HRA.o wx HCWX.o).get3 (f:=jA) rfl hyl rfl;simp only at hy1 hya hye;obtain⟨rfl,-⟩:=hya.len;obtain⟨rfl,-⟩:=hye.len;obtain⟨c0',c1',c2'⟩:=hcells _ _ _ rfl;rw[hy1]at c0';simp only[slV]at c1' c2';subst hga;have HSE:=jh hd;obtain⟨hol,hal⟩:=HOA.o.1 _ (Az2 hd);simp only at hal;have HOL:=jh hol;have HKD:Hd (0<=kd/\kd<4294967296):=jh ⟨hol.k.1,by have:=hol.k.2;simp only at this;omega⟩;have HYA:Hd (∀X,Chg (λg=>B<=g) wx X->intE.InS X (·<B) (aa,al.length,ac) al):=jh (λX hx=>(hya.chg hx (λg hg e=>oM)).mono (λg _ hg=>oM));have HYE:Hd (∀X,Chg (λg=>B<=g) wx X->zJ dLeE eqR X (·<bv) (ea,ed.length,ec) ed):=jh (λX hx=>zJ.of (hye.chg hx (λg hg e=>oM)));have HCE4:=jh (show _/\_/\_/\_/\_ from ⟨HBA2.o,c0',c1',c2',hgs⟩);obtain⟨XL,hXL⟩:∃X,X=XK++(putL A.length++(A.take y).flatMap ptL):=⟨_,rfl⟩;have hxl2:XL.length<=19000000:=(by rw[hXL];simp only[Az0];omega);have HXL:=jh hXL;rw[<-hXL]at HSX;have hel:ed.length<=1000000000:=hol.el;clear hd hya hye hcells c0' c1' c2' hXL hol hy1;go_upto_region 46 with (fail)
               clear q0;obtain⟨wd,hwd⟩:∃X,wx.drew=X:=⟨_,rfl⟩;have HWD:Hd (Cf wx wd):=jh (by rw[<-hwd];exact (Chg.refl _ _).drew);refine zC (λx=>Chg (λk=>(Value.slice ua ul uc).ownBlock=some k) wd x) (λ_=>false) kR ?_;show yN _ _ _ _ _ _ 16 (Array.replicate 16 false) _ wx.drew;rw[hwd];clear hwd;have HSS:Hd (Chg (λk=>(Value.slice ua ul uc).ownBlock=some k) wd wd):=jh cR;have HSD:=jh (HSX.o.fresh HWD.o);have HAP0:Hd (Ap B wd (.slice ua ul uc) XL [] (.returned (.slice ua ul uc)) wd):=jh (Ap.nil HSD.o.o);have HQ:Hd (∀x,Chg (λk=>(Value.slice ua ul uc).ownBlock=some k) wd x->x.cell? ⟨ba,0,none⟩=some (.slice (some ⟨gs,os,none⟩) A.length uc0)/\x.cell? ⟨gs,os+y * 3,none⟩=some (.int .i64 kd)/\x.cell? ⟨gs,os+y * 3+1,none⟩=some (.slice aa al.length ac)):=jh (λx hx=>by
                have hcx:Chg (λg=>B<=g) w0 x:=HSD.o.c.trans (HSD.o.all hx);have hcw:Chg (λg=>B<=g) wx x:=HWD.o.any.trans (HSD.o.all hx);obtain⟨z0,z1,z2,z3,hg⟩:=HCE4.o;exact⟨hx.cellS (HWD.o.cellS z0 iD) (λe=>HNBX.o _ e rfl),hcw.cellS z1 (by show ¬B<=gs;omega),hcw.cellS z2 (by show ¬B<=gs;omega)⟩)
               (refine lf 0 HSS.o HQ.o ?_);(refine lf 1 HSS.o HQ.o ?_);(refine lf 2 HSS.o HQ.o ?_);(refine lf 3 HSS.o HQ.o ?_);(refine lf 4 HSS.o HQ.o ?_);(refine lf 5 HSS.o HQ.o ?_);(refine lf 6 HSS.o HQ.o ?_);(refine lf 8 HSS.o HQ.o ?_);(refine lf 9 HSS.o HQ.o ?_);(refine lf 10 HSS.o HQ.o ?_);(refine lf 11 HSS.o HQ.o ?_);(refine lf 12 HSS.o HQ.o ?_);(refine lf 13 HSS.o HQ.o ?_);refine yE (i:=7) kR rfl rfl 78 #[.slice ua ul uc,.int .i64 kd] (λu w''=>Ap B wd (.slice ua ul uc) XL (zN kd) (.returned u) w'') (by go_simp) ?_ ?_
               .refine (xC kd (.slice ua ul uc) wd HAP0.o.own (Ay4 HSD.o.s HAP0.o.chg.size) HKD.o (by rw[Az0,Aw5];omega)).mono ?_
                rintro e w2 hap;obtain⟨v2,rfl,-⟩:=id hap;have h2:=(HAP0.o.trans hap).to (Y':=zN kd) (Aw7 _);exact⟨v2,rfl,λ_=>h2.chg,h2⟩
               rintro u wy0 hs hap K hK;obtain⟨upa,upl,upc,rfl⟩:=hap.own.shape3;have HAP1:=jh hap;have HSS:=jh hap.chg;clear hap hs;(try go_simp)
               refine hK _ ?_;clear hK K;refine yE (i:=14) kR rfl rfl 81 #[.slice upa upl upc,.slice aa al.length ac] (λu w''=>Ap B wd (.slice ua ul uc) XL (zN kd++zS zN al) (.returned u) w'') (by go_simp) ?_ ?_
               .refine (nA al aa ac (.slice upa upl upc) wy0 HAP1.o.own (Ay4 HSD.o.s HAP1.o.chg.size) (HYA.o wy0 (HWD.o.any.trans (HSD.o.all HAP1.o.chg))) (λg hg=>(HAP1.o.own.blk hg).1) HOL.o.a.2 oM (by have h5:=pE HKD.o;rw[Az0];omega)).mono ?_
                rintro e w2 hap;obtain⟨v2,rfl,-⟩:=id hap;have h2:=(HAP1.o.trans hap).to (Y':=zN kd++zS zN al) rfl;exact⟨v2,rfl,λ_=>h2.chg,h2⟩
               rintro u wy1 hs hap K hK;obtain⟨uqa,uql,uqc,rfl⟩:=hap.own.shape3;have HAP2:=jh hap;have HSS:=jh hap.chg;clear hap hs;(try go_simp)
               refine hK _ ?_;clear hK K;(refine lq 15 HSS.o ?_);refine yA kR ?_ _;have HAPN:Hd (Ap B w2 (.slice va vl vc) XK (putL A.length++(A.take (y+1)).flatMap ptL) (.returned (.slice uqa uql uqc)) wy1):=jh (by
                have h:=HAPL.o.trans (by rw[<-HXL.o];exact Ap.fresh HWD.o HAP2.o);refine h.to ?_;rw[zU HSE.o];simp only[Az5]
                rfl)
               have HLS1:Hd (LkS w2.heap.size wy1 (.slice uqa uql uqc) (.slice la ll lc) ((A.take y).map (λs=>yW t.tk.length s.2.2))):=jh ((HLS.o.fresh HWD.o).bytes HAP2.o);have HSY:=jh (HS2.o.ap HAPN.o);have HCY:Hd (Chg (λg=>B<=g) wx wy1):=jh (HWD.o.any.trans (HSD.o.all HAP2.o.chg));have HB4:Hd (wy1.cell? ⟨ba,0,none⟩=some (.slice (some ⟨gs,os,none⟩) A.length uc0)/\wy1.cell? ⟨gs,os+y * 3+2,none⟩=some (.slice ea ed.length ec)):=jh (by
                obtain⟨z0,z1,z2,z3,hg⟩:=HCE4.o;exact⟨HAPN.o.chg.cellS HBA.o (λe=>HNB.o _ e rfl),HCY.o.cellS z3 (by show ¬B<=gs;omega)⟩)
               have hsz4:w2.heap.size<=wy1.heap.size:=HAPN.o.chg.size;obtain⟨n,hn⟩:∃n,n=t.tk.length+1:=⟨_,rfl⟩;have HNN:=jh hn;have hn65:n<=65:=oM;have v1:=HA.o wy1 HSY.o.c 1 _ rfl;have wt1:=(zSq l_tk hn).1;have wt2:=(zSq l_tk hn).2;clear hn HAP0 HAP1 HAP2 HSD HWD HQ HSS HLS HSX HAPL HBA2;go_wp2_with (at_make;refine intE.wpList_make rfl _ _ _ rfl rfl _ _ _ _ n n rfl rfl rfl rfl (Ay _) (Ay4 hn65 dE) ?_;intro w5 HR5 HC5)
               obtain⟨w4,rfl⟩:∃x:World,x=wy1:=⟨_,rfl⟩;clear v1 wt1 wt2;obtain⟨h,hh⟩:∃b,b=w4.heap.size:=⟨_,rfl⟩;have HH:=jh hh;rw[<-hh]at HR5 ⊢;clear hh;have HRW5:Hd (I.Row w5 h (List.replicate n 0)):=jh (cG.1 HR5.o);have HC45:Hd (Chg (λg=>h<=g) w4 w5):=jh HC5.o.any;clear HR5 HC5
               go_loopw [16] (λq wr=>∃z:Nat,z<=n/\q=.int .i64 z/\I.Row wr h (List.replicate z (-1)++List.replicate (n-z) 0)/\Chg (λg=>h<=g) w4 wr) (λq _=>n-(intOf q).toNat)
               case atStart=>exact⟨0,oM,rfl,HRW5.o,HC45.o⟩
               case round =>
                clear HRW5 HC45;obtain⟨z,hz,rfl,hrw,hcz⟩:=hrel;obtain⟨wz,rfl⟩:∃x:World,x=wr:=⟨_,rfl⟩;have HRW:=jh hrw;have HCZ:=jh hcz;by_cases hzn:z<n
                .have b11:decide ((z:Int)<(n:Int))=true:=by simp;omega
                 have hcl:(List.replicate z (-1:Int)++List.replicate (n-z) 0).length=n:=sO;obtain⟨u1,k1⟩:∃u,wz.cell? ⟨h,z,none⟩=some u:=⟨_,hrw.c z _ (Az (by rw[hcl];exact hzn))⟩;have k2:=hrw.z z;have HRN:Hd (I.Row (wz.setCell ⟨h,z,none⟩ (.int .i64 (-1))) h (List.replicate (z+1) (-1)++List.replicate (n-(z+1)) 0)):=jh (by
                  have h1:=zMa hrw (j:=z) (by rw[hcl];exact hzn) (x:=-1) ⟨oM,oM⟩;rw[zMe n z (-1) hzn]at h1;exact h1)
                 have HCN:Hd (Chg (λg=>h<=g) w4 (wz.setCell ⟨h,z,none⟩ (.int .i64 (-1)))):=jh (hcz.trans ((zA wz h z _).mono (λg _ e=>oM)));clear hrw hcz hcl;go_wp2;go_roundw
                 case rel=>first|exact⟨z+1,oM,by go_num,HRN.o,HCN.o⟩|((repeat apply Ay7);exact⟨⟨z+1,oM,by go_num,HRN.o,HCN.o⟩,rfl⟩)
                 case measure=>simp[intOf];omega
                .obtain rfl:z=n:=oM
                 have b11:decide ((z:Int)<(z:Int))=false:=sI;have HR0:Hd (I.Row wz h (yW t.tk.length (ed.take 0))):=jh (by
                  have h1:=hrw;rw[Au0,List.replicate_zero,Av4,HNN.o]at h1;rw[List.take_zero];exact h1)
                 clear hrw hcz HRW;go_wp2_with fail
                 obtain⟨wq,rfl⟩:∃x:World,x=wz:=⟨_,rfl⟩
                 go_loopw [17] (λq wr=>∃i:Nat,i<=ed.length/\q=.int .i64 i/\I.Row wr h (yW t.tk.length (ed.take i))/\Chg (λg=>h<=g) w4 wr) (λq _=>ed.length-(intOf q).toNat)
                 case atStart=>exact⟨0,oM,rfl,HR0.o,HCZ.o⟩
                 case round =>
                  clear HR0 HCZ;obtain⟨i,hi,rfl,hrw,hcz⟩:=hrel;obtain⟨wz,rfl⟩:∃x:World,x=wr:=⟨_,rfl⟩;have HRW:=jh hrw;have HCZ:=jh hcz;have HCF:Hd (Cf w4 wz):=jh ((hcz.mono (λg _ e=>by have:=HH.o;omega)).fresh);have q0:=HCF.o.cellS HB4.o.1 iD;have q2:=HCF.o.cellS HB4.o.2 iD;clear hrw hcz;by_cases hil:i<ed.length
                  .have b12:decide ((i:Int)<(ed.length:Int))=true:=by simp;omega
                   obtain⟨⟨tok,tv⟩,d',gx,ox,hxe,hxd,hea,hgx,-,-,hcx⟩:=(HYE.o wz (HCY.o.trans HCF.o.any)).get2 (f:=uW) rfl hil rfl;obtain rfl:(tok,tv)=d':=hxd;obtain⟨cx,cy⟩:=hcx _ _ rfl;simp only at cx cy;obtain⟨z1,z2,z3⟩:=HOL.o.e _ (Az2 hxe);simp only at z1 z2 z3;subst hea;obtain⟨p,hp⟩:∃p:Nat,(p:Int)=tok+1:=⟨(tok+1).toNat,oM⟩;have hpn:p<z:=(by have:=HNN.o;omega);have hpw:IntKind.i64.wrap (tok+1)=(p:Int):=(by rw[hp];exact IntWalk.i64_in _ oM);have HPW:=jh hpw;have hll:(yW t.tk.length (ed.take i)).length=z:=(by rw[fS,HNN.o]);have HRN:Hd (I.Row (wz.drew.setCell ⟨h,p,none⟩ (.int .i64 tv)) h (yW t.tk.length (ed.take (i+1)))):=jh (by
                    have h1:=zMa (I.Row.chg HRW.o ((Chg.refl (λ_=>False) wz).drew) iD) (j:=p) (by rw[hll];exact hpn) z3;rw[zBm t.tk.length hxe];rw[show (tok+1).toNat=p by omega];exact h1)
                   have HCN:Hd (Chg (λg=>h<=g) w4 (wz.drew.setCell ⟨h,p,none⟩ (.int .i64 tv))):=jh (HCZ.o.drew.trans ((zA _ h p _).mono (λg _ e=>oM)));have HKK:Hd ((∃u,wz.cell? ⟨h,p,none⟩=some u)/\wz.frozen? ⟨h,p,none⟩=false):=jh ⟨⟨_,HRW.o.c p _ (Az (by rw[hll];exact hpn))⟩,HRW.o.z p⟩;have HCE5:=jh (show _/\_/\_/\_ from ⟨q0,q2,cx,cy⟩);clear hxe hcx cx cy hp hpw hll;go_upto_region 55 with (fail)
                   clear q0 q2;obtain⟨wd,hwd⟩:∃X,wz.drew=X:=⟨_,rfl⟩;have HWD:Hd (Cf wz wd):=jh (by rw[<-hwd];exact (Chg.refl _ _).drew);have HK1:Hd ((∃u,wd.cell? ⟨h,p,none⟩=some u)/\wd.frozen? ⟨h,p,none⟩=false):=jh (by rw[<-hwd];exact HKK.o);refine zC (λx=>Cf wd x) (λi=>decide (i=23)) kR ?_;show yN _ _ _ _ _ _ 24 (Array.replicate 24 false) _ wz.drew;rw[hwd]at HRN HCN ⊢;clear hwd;have HSS:Hd (Cf wd wd):=jh cR;have HQ:Hd (∀x,Cf wd x->x.cell? ⟨ba,0,none⟩=some (.slice (some ⟨gs,os,none⟩) A.length uc0)/\x.cell? ⟨gs,os+y * 3+2,none⟩=some (.slice (some ⟨gx,ox,none⟩) ed.length ec)/\x.cell? ⟨gx,ox+i * 2,none⟩=some (.int .i64 tok)/\x.cell? ⟨gx,ox+i * 2+1,none⟩=some (.int .i64 tv)):=jh (λx hx=>by
                    obtain⟨z0,z1,z2,z3⟩:=HCE5.o;have h1:=HWD.o.trans hx;exact⟨h1.cellS z0 iD,h1.cellS z1 iD,h1.cellS z2 iD,h1.cellS z3 iD⟩)
                   (refine lf 0 HSS.o HQ.o ?_);(refine lf 1 HSS.o HQ.o ?_);(refine lf 2 HSS.o HQ.o ?_);(refine lf 3 HSS.o HQ.o ?_);(refine lf 4 HSS.o HQ.o ?_);(refine lf 5 HSS.o HQ.o ?_);(refine lf 6 HSS.o HQ.o ?_);(refine lf 7 HSS.o HQ.o ?_);(refine lf 8 HSS.o HQ.o ?_);(refine lf 9 HSS.o HQ.o ?_);(refine lf 10 HSS.o HQ.o ?_);(refine lq 11 HSS.o ?_ (hr:=by intro w' hC;obtain⟨q0,q1,q2,q3⟩:=HQ.o _ hC;have hpw:=HPW.o;go_simp;try with_reducible rfl));(refine lf 12 HSS.o HQ.o ?_);(refine lf 13 HSS.o HQ.o ?_);(refine lf 14 HSS.o HQ.o ?_);(refine lf 15 HSS.o HQ.o ?_);(refine lf 16 HSS.o HQ.o ?_);(refine lf 17 HSS.o HQ.o ?_);(refine lf 18 HSS.o HQ.o ?_);(refine lf 19 HSS.o HQ.o ?_);(refine lf 20 HSS.o HQ.o ?_);(refine lf 21 HSS.o HQ.o ?_);(refine lq 22 HSS.o ?_ (hr:=by intro w' hC;obtain⟨q0,q1,q2,q3⟩:=HQ.o _ hC;have hpw:=HPW.o;go_simp;try with_reducible rfl));obtain⟨⟨u,k1⟩,k2⟩:=HK1.o;(refine ld 23 ?_);refine yA kR ?_ _;clear k1 k2;go_wp2;go_roundw
                   case rel=>first|exact⟨i+1,oM,by go_num,HRN.o,HCN.o⟩|((repeat apply Ay7);exact⟨⟨i+1,oM,by go_num,HRN.o,HCN.o⟩,rfl⟩)
                   case measure=>simp[intOf];omega
                  .obtain rfl:i=ed.length:=oM
                   have b12:decide ((ed.length:Int)<(ed.length:Int))=false:=sI;have HRF:Hd (I.Row wz h (yW t.tk.length ed)):=jh (by have h1:=HRW.o;rw[Ay5]at h1;exact h1);have HLW:=jh (HLS1.o.fresh HCF.o);obtain⟨Y,hY,hYl,hYr⟩:=HLW.o.ex;have HY:=jh hY;have HYL:=jh hYl;have HYR:=jh hYr;have HYN:Hd (Y.length<=4096):=jh (by rw[hYl,Aw3,Ax1];omega);have HSV:Hd (∀g,(Value.slice uqa uql uqc).ownBlock=some g->g<w4.heap.size):=jh (λg hg=>(HSY.o.blk hg).2);have HVL:Hd (∀g,(Value.slice la ll lc).ownBlock=some g->g<w4.heap.size):=jh (λg hg=>by
                    obtain⟨Y',hY',-,-⟩:=HLS1.o.ex;exact (hY'.blk hg).2)
                   have HYI:Hd (intE.InS wz (λg=>w2.heap.size<=g/\(Value.slice uqa uql uqc).ownBlock≠some g/\(Value.slice la ll lc).ownBlock≠some g) (some ⟨h,0,none⟩,z,z) (yW t.tk.length ed)):=jh ⟨by show z=_;rw[fS,HNN.o],Ay _,h,0,zQa.2 (HRF.o.bytes (Aw6 _)),λ_=>⟨rfl,by have:=HH.o;omega,λe=>by have:=HSV.o _ e;have:=HH.o;omega,λe=>by have:=HVL.o _ e;have:=HH.o;omega⟩⟩;have hszz:w2.heap.size<=wz.heap.size:=Ay4 hsz4 HCF.o.size;clear hY hYl hYr;have HYS:Hd (w2.heap.size<=wz.heap.size+1):=jh (Nat.le_succ_of_le hszz);have HYM:Hd (Y.length+1<=1000000000000):=jh (Ay4 (Nat.add_le_add_right HYN.o 1) dE);go_wp2_with (at_builtin;refine Elt.wpList_append2 nW rfl _ _ 26 26 rfl rfl w2.heap.size (.slice la ll lc) Y [((some ⟨h,0,none⟩,z,z):Sl)] (.slice (some ⟨wz.heap.size,0,none⟩) 1 1) rfl rfl (HY.o.chg ((Chg.refl (λ_=>False) _).alloc _) (λ_ _ _ h=>h)) (by rw[World.size_alloc];exact HYS.o) (nW.srcLit (Y:=[((some ⟨h,0,none⟩,z,z):Sl)]) 1 (λ_ _=>trivial)) (λ_ _=>trivial) HYM.o ?_;intro vn w7 HO7 HC7 HB7)
                   have HLN:Hd (LkS w2.heap.size w7 (.slice uqa uql uqc) vn ((A.take (y+1)).map (λs=>yW t.tk.length s.2.2))):=jh (by
                    rw[Ay1,HSE.o,List.map_append];exact LkS.push HLW.o.ap (λg hg=>Ay9 (HSV.o g hg) HCF.o.size) HYL.o HYR.o HYI.o ((Chg.refl _ _).alloc _) HO7.o HB7.o.1 HB7.o.2)
                   have HAPF:Hd (Ap B w2 (.slice va vl vc) XK (putL A.length++(A.take (y+1)).flatMap ptL) (.returned (.slice uqa uql uqc)) w7):=jh (by
                    have hc:Chg (λg=>(Value.slice la ll lc).ownBlock=some g) w4 w7:=(HCF.o.trans ((Chg.refl _ _).alloc _)).any.trans HB7.o.1;exact⟨_,rfl,HAPN.o.own.chgB hc (λg hg e=>HLS1.o.ap g e hg),HAPN.o.chg.trans2 hc (λg hg e=>by
                     obtain⟨Y',hY',-,-⟩:=HLS1.o.ex;have:=(hY'.blk e).1;omega),HAPN.o.nx⟩)
                   go_wp2;go_roundw
                   case rel=>first|exact⟨y+1,oM,by go_num,HAPF.o,HLN.o⟩|((repeat apply Ay7);exact⟨⟨y+1,oM,by go_num,HAPF.o,HLN.o⟩,rfl⟩)
                   case measure=>simp[intOf];omega
              .obtain rfl:y=A.length:=oM
               have b10:decide ((A.length:Int)<(A.length:Int))=false:=sI;rw[Ay5]at HAPL HLS HSX;obtain⟨LL,hLL⟩:∃L,L=A.map (λs=>yW t.tk.length s.2.2):=⟨_,rfl⟩;rw[<-hLL]at HLS;have HLL:=jh hLL;have HLN:Hd (LL.length=A.length):=jh (by rw[hLL,Aw3]);obtain⟨Y,hY,hYl,hYr⟩:=HLS.o.ex;obtain⟨la',lc',he,-,-⟩:=hY.clip;rw[hYl]at he;injection he with e1 e2 e3;subst e1 e2 e3;have HLI:Hd (sC wx 0 (la,LL.length,lc) LL):=jh ⟨Y,hY.inC.lower (Av _),hYl,λj x l hx hl=>(hYr j x l hx hl).in' (λ_ _=>Av _)⟩;have HOT:=jh HOA.o.2.2;have HN:=jh (zAh (t.tk.length+1) LL la lc _ wx HSX.o.o HSX.o.s HLI.o oM (by rw[HLN.o];omega) (by have h:=HOT.o;rw[<-HLL.o]at h;exact h) (by rw[HLN.o];have:A.length * (t.tk.length+1)<=4096 * 65:=Nat.mul_le_mul hAl oM;omega) (by rw[<-HLL.o]at hlen2;simp only[Az0];omega));rw[show ((t.tk.length+1:Nat):Int)=(t.tk.length:Int)+1 by omega]at HN;have v1:=HA.o wx HSX.o.c 1 _ rfl;have wt1:=(zSr l_tk).1;have wt2:=(zSr l_tk).2;clear hY hYl hYr HLI hLL;go_wp2_with fail
               refine HN.o.mono ?_;rintro e w5 hap;obtain⟨_,rfl,-⟩:=id hap;obtain⟨u2a,u2l,u2c,rfl⟩:=hap.own.shape3;have HSN:Hd (BdSt B w0 w5 (.slice u2a u2l u2c) (X11++(t.lk.take (k+1)).flatMap (tU t.tk.length))):=jh ((HSX.o.ap hap).to (by
                rw[zU HSA.o,HXK.o,HPL.o,HLL.o];simp only[Az5];rw[show ((t.tk.length+1:Nat):Int)=(t.tk.length:Int)+1 by omega]))
               clear hap HN q0 v1;go_wp2;go_roundw
               case rel=>first|exact⟨k+1,oM,by go_num,HSN.o⟩|((repeat apply Ay7);exact⟨⟨k+1,oM,by go_num,HSN.o⟩,rfl⟩)
               case measure=>simp[intOf];omega
            .obtain rfl:k=t.lk.length:=oM
             have b9:decide ((t.lk.length:Int)<(t.lk.length:Int))=false:=sI;have HST1:Hd (BdSt B w0 wo (.slice va vl vc) X12):=jh (HST.o.to (by rw[HX12.o,Ay5]));clear HST;go_wp2;go_ret
             refine⟨_,rfl,?_,HC0.o.trans ((HST1.o.c.mono (λg _ hg=>by rw[HSZ.o];exact hg)).fresh)⟩;have h:=HST1.o.o;rw[HXE.o,HB.o]at h;exact h
theorem disable (w:World):(callFunc 197 #[]).run Tryz.prog w=.ok (.value (.tuple #[])) w:=run_call_mark0 Tryz.func197 kR kR kR .disable kR w
theorem enable (w:World):(callFunc 199 #[]).run Tryz.prog w=.ok (.value (.tuple #[])) w:=run_call_mark0 Tryz.func199 kR kR kR .enable kR w
theorem acquire (a:Addr) (w:World):(callFunc 200 #[.pointer (some a)]).run Tryz.prog w=.ok (.value (.tuple #[])) w:=run_call_marked Tryz.func200 kR kR kR .acquire kR a w
theorem releaseMerge (a:Addr) (w:World):(callFunc 202 #[.pointer (some a)]).run Tryz.prog w=.ok (.value (.tuple #[])) w:=run_call_marked Tryz.func202 kR kR kR .releaseMerge kR a w
theorem zDe (a:Addr) (x:Value) (u:FrameMode) (w:World) (hc:w.cell? a=some x) (hz:w.frozen? a=false) :
  CallsD Tryz.prog 185 #[.pointer (some a),.bool true] u w λe u' w'=>u'=u/\(e=.returned (.tuple #[])/\w'=w.drew.setCell a (.int .u32 1)):=by
 have hc':w.drew.cell? a=some x:=by go_simp
 have hz':w.drew.frozen? a=false:=by go_simp
 have hst:=run_call_store (P:=Tryz.prog) Tryz.func193 kR kR kR kR (k:=.u32) (y:=1) hc' hz';go_enter_d Tryz.func185,Tryz.ntmps185
 go_wp2;go_region_calls
 all_goals (go_end0;exact⟨rfl,rfl⟩)
theorem zB7 (a:Addr) (u:FrameMode) (w:World) (hc:w.cell? a=some (.int .i32 1)) (hz:w.frozen? a=false) :
  CallsD Tryz.prog 184 #[.pointer (some a)] u w λe u' w'=>u'=u/\(e=.returned (.tuple #[])/\w'=w.setCell a (.int .i32 0)):=by
 have hd:=disable;have he:=enable;have hr:=releaseMerge;have hadd:=run_call_add (P:=Tryz.prog) Tryz.func203 kR kR kR .i32 kR (y:=-1) (s:=0) hc hz (by simp[go_sem];rfl);have hcv:=run_convert_to_unsafe (P:=Tryz.prog) (src:=284) (dst:=288) Tryz.underlying284 Tryz.underlying288 kR hc;go_enter_d Tryz.func184,Tryz.ntmps184
 go_wp2;go_end0
 first|exact⟨rfl,rfl⟩|(go_wp2;go_end0;exact⟨rfl,rfl⟩)
theorem zM8 (a:Addr) (w:World) (hc:w.cell? a=some (.int .i32 0)) (hz:w.frozen? a=false) :
  Calls Tryz.prog 183 #[.pointer (some a)] w λe w'=>e=.returned (.tuple #[])/\w'=w.setCell a (.int .i32 1):=by
 have hd:=disable;have he:=enable;have ha:=acquire;have hcas:=run_call_cas_hit (P:=Tryz.prog) Tryz.func198 kR kR kR .i32 kR (y:=1) hc hz;have hc':(w.setCell a (.int .i32 1)).cell? a=some (.int .i32 1):=Az9 w a _ hc;have hcv:=run_convert_to_unsafe (P:=Tryz.prog) (src:=284) (dst:=288) Tryz.underlying284 Tryz.underlying288 kR hc';go_enter Tryz.func183,Tryz.ntmps183
 go_wp2
 first|go_end0|(simp only[Exit.inBlock,Exit.then];refine bodyPost_ret (results_none rfl _ _ _) rfl ?_)|refine bodyPost_ret (results_none rfl _ _ _) rfl ?_
 first|exact⟨rfl,rfl⟩|(go_wp2;go_end0;exact⟨rfl,rfl⟩)
structure SumsAt (w:World) (b:Nat) (d l:Int) (T:Nat->Int):Prop where
 c0:w.cell? ⟨b,0,none⟩=some (.int .u32 d)
 c1:w.cell? ⟨b,1,none⟩=some (.int .i32 l)
 tab:∀i,i<256->w.cell? ⟨b,3+i,none⟩=some (.int .u32 (T i))
 z:∀j,w.frozen? ⟨b,j,none⟩=false
theorem SumsAt.chg {S:Nat->Prop}{w w':World}{b:Nat}{d l:Int}{T:Nat->Int}(h:SumsAt w b d l T) (hc:Chg S w w') (hs:¬S b):SumsAt w' b d l T :=
 ⟨hc.cellS h.c0 hs,hc.cellS h.c1 hs,λi hi=>hc.cellS (h.tab i hi) hs,λj=>(hc.frozen (p:=⟨b,j,none⟩) (by have:=Az6 _ _ h.c0;exact this) hs).trans (h.z j)⟩
theorem SumsAt.tabs {w:World}{b:Nat}{d l:Int}{T T':Nat->Int}(h:SumsAt w b d l T) (ht:∀i,i<256->T' i=T i):SumsAt w b d l T' :=
 ⟨h.c0,h.c1,λi hi=>by rw[ht i hi];exact h.tab i hi,h.z⟩
theorem SumsAt.put {w:World}{b:Nat}{d l:Int}{T:Nat->Int}(h:SumsAt w b d l T) {k:Nat}(hk:k<256) (v:Int):SumsAt (w.setCell ⟨b,3+k,none⟩ (.int .u32 v)) b d l (λi=>if i=k then v else T i):=by
 refine⟨(Ay0 _ _ _ _ sI).trans h.c0,(Ay0 _ _ _ _ (by intro e;injection e with _ e;omega)).trans h.c1,λi hi=>?_,λj=>(Az4 _ _ _ _).trans (h.z j)⟩;by_cases he:i=k
 .subst he
  rw[if_pos rfl];exact Az9 _ _ _ (h.tab _ hi)
 .rw[if_neg he,Ay0 _ _ _ _ (by intro e;injection e with _ e;omega)]
  exact h.tab i hi
def zPp (y:Int):Int:=bits BinOp.xor IntKind.u32 (y / 2) (3988292384 * bits BinOp.and IntKind.u32 y 1 % 4294967296)
def zNf:Nat->Int->Int
 | 0,y=>y
 | j+1,y=>zPp (zNf j y)
def tabI (i:Nat):Int:=zNf 8 i
theorem zQj (b:Nat) (d l:Int) (T:Nat->Int) (w:World) (h:SumsAt w b d l T) :
  Calls Tryz.prog 120 #[.pointer (some ⟨b,0,none⟩)] w λe w'=>e=.returned (.tuple #[])/\SumsAt w' b d l tabI/\Chg (·=b) w w':=by
 have H:=jh (h.tabs (T':=λi=>if i<0 then tabI i else T i) (λi _=>by rw[if_neg oM]));clear h;go_enter Tryz.func120,Tryz.ntmps120
 go_wp2
 go_loopw [2,4] (λx i wr=>∃(k:Nat),k<=256/\i=.int .i64 k/\SumsAt wr b d l (λi=>if i<k then tabI i else T i)/\Chg (·=b) w wr) (λ_ i _=>256-(intOf i).toNat)
 case atStart=>exact⟨0,oM,rfl,H.out,Chg.refl _ _⟩
 case round =>
  clear H;obtain⟨k,hk,rfl,h,hc⟩:=hrel;have H:=jh h;have HC:=jh hc;clear h hc;by_cases hk2:k<256
  .have b5:decide ((k:Int)<256)=true:=by simp;omega
   go_wp2;obtain⟨wo,rfl⟩:∃wo:World,wo=wr:=⟨_,rfl⟩
   go_loopw [3,9] (λn i wr=>∃(j:Nat) (y:Int),j<=8/\i=.int .i64 j/\n=.int .u32 y/\y=zNf j k/\wr=wo) (λ_ i _=>8-(intOf i).toNat)
   case atStart=>exact⟨0,k,oM,rfl,rfl,rfl,rfl⟩
   case round =>
    obtain⟨j,y,hj,rfl,rfl,hy,rfl⟩:=hrel;have HY:=jh hy;clear hy;by_cases hj8:j<8
    .have b10:decide ((j:Int)<8)=true:=by simp;omega
     go_wp2;go_roundw
     case rel=>exact⟨j+1,_,oM,by go_num,rfl,by rw[HY.o];rfl,trivial⟩
     case measure=>simp[intOf];omega
    .obtain rfl:j=8:=oM
     have c1:=H.out.tab k hk2;have z1:=H.out.z (3+k);have HX:Hd (SumsAt (wr.setCell ⟨b,3+k,none⟩ (.int .u32 y)) b d l (λi=>if i<k+1 then tabI i else T i)):=jh ((H.out.put hk2 y).tabs (λi _=>by
      by_cases he:i=k
      .subst he
       rw[if_pos oM,if_pos rfl,HY.o]
       rfl
      .rw[if_neg he]
       by_cases hi:i<k
       .rw[if_pos oM,if_pos hi]
       .rw[if_neg oM,if_neg hi]))
     have HC2:=jh (HC.o.trans (zA wr b (3+k) (.int .u32 y)));clear H HC HY;go_wp2;go_roundw
     case rel=>first|exact⟨k+1,oM,by go_num,HX.o,HC2.o⟩|((repeat apply Ay7);exact⟨⟨k+1,oM,rfl,HX.o,HC2.o⟩,rfl⟩)
     case measure=>simp[intOf];omega
  .obtain rfl:k=256:=oM
   have HX:=jh (H.out.tabs (T':=tabI) (λi hi=>by rw[if_pos hi]));go_wp2;go_end0
   exact⟨rfl,HX.o,HC.o⟩
theorem SumsAt.lock {w:World}{b:Nat}{d l:Int}{T:Nat->Int}(h:SumsAt w b d l T) (l':Int):SumsAt (w.setCell ⟨b,1,none⟩ (.int .i32 l')) b d l' T :=
 ⟨(Ay0 _ _ _ _ sI).trans h.c0,Az9 _ _ _ h.c1,λi hi=>(Ay0 _ _ _ _ (by intro e;injection e with _ e;omega)).trans (h.tab i hi),λj=>(Az4 _ _ _ _).trans (h.z j)⟩
theorem SumsAt.mark {w:World}{b:Nat}{d l:Int}{T:Nat->Int}(h:SumsAt w b d l T) (d':Int):SumsAt (w.drew.setCell ⟨b,0,none⟩ (.int .u32 d')) b d' l T :=
 ⟨Az9 _ _ _ ((World.cell?_drew _ _).trans h.c0),(Ay0 _ _ _ _ sI).trans ((World.cell?_drew _ _).trans h.c1),λi hi=>(Ay0 _ _ _ _ (by intro e;injection e with _ e;omega)).trans ((World.cell?_drew _ _).trans (h.tab i hi)),λj=>(Az4 _ _ _ _).trans (h.z j)⟩
theorem zPq (b:Nat) (T:Nat->Int) (w:World) (h:SumsAt w b 0 0 T) :
  Calls Tryz.prog 162 #[.pointer (some ⟨b,0,none⟩),.func (.func 120) #[.pointer (some ⟨b,0,none⟩)] #[]] w λe w'=>e=.returned (.tuple #[])/\SumsAt w' b 1 0 tabI/\Chg (·=b) w w':=by
 have H:=jh h;have H1:=jh (h.lock 1);have HC1:=jh (zA w b 1 (.int .i32 1));have hl:=run_call_load (P:=Tryz.prog) Tryz.func182 kR kR kR .u32 kR (w:=w.setCell ⟨b,1,none⟩ (.int .i32 1)) (a:=⟨b,0,none⟩) (x:=0) H1.o.c0;have hnot:∀(x:Bool) (w:World),(Op.unary .not (.bool x)).run Tryz.prog w=.ok (.bool (!x)) w:=λ_ _=>rfl
 clear h;go_enter_defers Tryz.func162,Tryz.ntmps162
 go_wp2_with (first|(go_at_call 183;refine (zM8 ⟨b,1,none⟩ _ H.out.c1 (H.out.z 1)).mono ?_;rintro e w' ⟨rfl,rfl⟩)|(go_at_call 161;go_in))
 refine (zQj b 0 1 T _ H1.o).mono ?_;rintro e w2 ⟨rfl,h2,hc2⟩;have H2:=jh h2;have HC2:=jh (HC1.o.trans hc2);clear h2 hc2 H H1 HC1 hl;go_wp2;refine leaves_cons (f:=185) (args:=#[.pointer (some ⟨b,0,none⟩),.bool true]) sI (by simp[go_sem]) ?_;refine (zDe ⟨b,0,none⟩ (.int .u32 0) .returning _ H2.o.c0 (H2.o.z 0)).mono ?_;rintro e u' w'' ⟨rfl,rfl,rfl⟩;refine leaves_cons (f:=184) (args:=#[.pointer (some ⟨b,1,none⟩)]) (by simp[settle]) (by simp[go_sem]) ?_;refine (zB7 ⟨b,1,none⟩ _ _ (H2.o.mark 1).c1 ((H2.o.mark 1).z 1)).mono ?_;rintro e u' w'' ⟨rfl,rfl,rfl⟩;have HF:Hd (SumsAt ((w2.drew.setCell ⟨b,0,none⟩ (.int .u32 1)).setCell ⟨b,1,none⟩ (.int .i32 0)) b 1 0 tabI/\Chg (·=b) w ((w2.drew.setCell ⟨b,0,none⟩ (.int .u32 1)).setCell ⟨b,1,none⟩ (.int .i32 0))) :=
  jh ⟨(H2.o.mark 1).lock 0,(HC2.o.drew.trans (zA _ b 0 _)).trans (zA _ b 1 _)⟩
 simp[Leaves,settle,results,Tryz.results162]
 exact HF.o
theorem zQk (b:Nat) (T:Nat->Int) (w:World) (h:SumsAt w b 0 0 T) :
  Calls Tryz.prog 119 #[.pointer (some ⟨b,0,none⟩),.func (.func 120) #[.pointer (some ⟨b,0,none⟩)] #[]] w λe w'=>e=.returned (.tuple #[])/\SumsAt w' b 1 0 tabI/\Chg (·=b) w w':=by
 have H:=jh h;have hl:=run_call_load (P:=Tryz.prog) Tryz.func182 kR kR kR .u32 kR h.c0;have hnot:∀(x:Bool) (w:World),(Op.unary .not (.bool x)).run Tryz.prog w=.ok (.bool (!x)) w:=λ_ _=>rfl
 clear h;go_enter Tryz.func119,Tryz.ntmps119
 go_wp2_with (first|(go_at_call 162;refine (zPq b T _ H.out).mono ?_;rintro e w' ⟨rfl,h2,hc2⟩)|(go_at_call 161;go_in))
 go_end0
 exact⟨rfl,h2,hc2⟩
theorem zSb (b:Nat) (l:Int) (T:Nat->Int) (fv:Value) (w:World) (h:SumsAt w b 1 l T) :
  Calls Tryz.prog 119 #[.pointer (some ⟨b,0,none⟩),fv] w λe w'=>e=.returned (.tuple #[])/\w'=w:=by
 have hl:=run_call_load (P:=Tryz.prog) Tryz.func182 kR kR kR .u32 kR h.c0;have hnot:∀(x:Bool) (w:World),(Op.unary .not (.bool x)).run Tryz.prog w=.ok (.bool (!x)) w:=λ_ _=>rfl
 clear h;go_enter Tryz.func119,Tryz.ntmps119
 go_wp2;go_end0
 exact⟨rfl,rfl⟩
def zB5:Array Value:=#[.int .u32 0,.int .i32 0,.int .u32 0]++Array.replicate 256 (.int .u32 0)
theorem zH7 (w:World):(zeroValue 104).run Tryz.prog w=.ok (.agg zB5) w:=kR
theorem SumsAt.made (w:World) (e:TypeId):SumsAt (w.alloc (.cells zB5 e)) w.heap.size 0 0 (λ_=>0):=by
 refine⟨by rw[Az7];simp[zB5],by rw[Az7];simp[zB5],λi hi=>?_,λj=>Az8 _ _ _ _⟩;rw[Az7,zB5,Array.getElem?_append_right sI];simp[hi]
def zAp (y c:Int):Int:=bits BinOp.xor IntKind.u32 (y / 256) (tabI (bits BinOp.xor IntKind.u8 (y % 256) c).toNat)
def zD5 (Z:List Int):Int:=Z.foldl zAp 4294967295
def ofI (Z:List Int):Int:=bits BinOp.xor IntKind.u32 IntKind.u32.max (zD5 Z)
def nQ (w:World) (b:Nat):Prop:=∃(d:Int) (T:Nat->Int),SumsAt w b d 0 T/\(d=0\/(d=1/\T=tabI))
theorem nQ.chg {S:Nat->Prop}{w w':World}{b:Nat}(h:nQ w b) (hc:Chg S w w') (hs:¬S b):nQ w' b:=by
 obtain⟨d,T,h1,h2⟩:=h;exact⟨d,T,h1.chg hc hs,h2⟩
theorem nQ.lt {w:World}{b:Nat}(h:nQ w b):b<w.heap.size:=by
 obtain⟨d,T,h1,h2⟩:=h;exact Az6 _ _ h1.c0
theorem zTc (b:Nat) (w:World) (h:nQ w b) :
  Calls Tryz.prog 119 #[.pointer (some ⟨b,0,none⟩),.func (.func 120) #[.pointer (some ⟨b,0,none⟩)] #[]] w λe w'=>e=.returned (.tuple #[])/\SumsAt w' b 1 0 tabI/\Chg (·=b) w w':=by
 obtain⟨d,T,h1,h2⟩:=h;rcases h2 with rfl|⟨rfl,rfl⟩
 .exact zQk b T w h1
 .exact (zSb b 0 tabI _ w h1).mono λe w' ⟨he,hw⟩=>by subst hw;exact⟨he,h1,Chg.refl _ _⟩
theorem zQ9 (b:Nat) (Z:List Int) (a:Option Addr) (g o c:Nat) (w:World) (hs:nQ w b) (hz:BytesAt w g o Z) (hgb:Z≠[]->g≠b) (ha:0<Z.length->a=some ⟨g,o,none⟩) (hl:Z.length<=1000000000) :
  Calls Tryz.prog 76 #[.pointer (some ⟨b,0,none⟩),.slice a Z.length c] w λe w'=>e=.returned (.int .u32 (ofI Z))/\nQ w' b/\Chg (·=b) w w':=by
 have HZ:=jh hz;have HA:=jh ha;have HS:=jh hs;have HG:=jh hgb;clear hz ha hs hgb;go_enter Tryz.func76,Tryz.ntmps76
 go_wp2_with fail
 refine (zTc b w HS.o).mono ?_;rintro e w1 ⟨rfl,h1,hc1⟩;have H1:=jh h1;have HC1:=jh hc1;clear h1 hc1 HS;go_wp2
 go_loopw [5,20] (λn i wr=>∃(k:Nat) (y:Int),k<=Z.length/\i=.int .i64 k/\n=.int .u32 y/\y=zD5 (Z.take k)/\SumsAt wr b 1 0 tabI/\Chg (·=b) w wr) (λ_ i _=>Z.length-(intOf i).toNat)
 case atStart=>exact⟨0,_,oM,rfl,rfl,rfl,H1.o,HC1.o⟩
 case round =>
  clear H1 HC1;obtain⟨k,y,hk,rfl,rfl,hy,h,hc⟩:=hrel;have HY:=jh hy;have H:=jh h;have HC:=jh hc;clear hy h hc;by_cases hkl:k<Z.length
  .have b21:decide ((k:Int)<(Z.length:Int))=true:=by simp;omega
   obtain⟨z,hz,c1,z0,z1⟩:=(HZ.o.chg HC.o HG.o).get hkl;have e1:=HA.o oM;subst e1;obtain⟨x,hx,hx2⟩:∃x:Nat,bits BinOp.xor IntKind.u8 (y % 256) z=(x:Int)/\x<256:=by
    have h1:=bounds_u8 (wf_bits BinOp.xor IntKind.u8 (y % 256) z);exact⟨(bits BinOp.xor IntKind.u8 (y % 256) z).toNat,oM,oM⟩
   have c2:=H.out.tab x hx2;have HN:Hd (bits BinOp.xor IntKind.u32 (y / 256) (tabI x)=zD5 (Z.take (k+1))):=jh (by
    rw[Ay1,hz];show _=List.foldl zAp 4294967295 (Z.take k++[z]);rw[List.foldl_append];show _=zAp (zD5 (Z.take k)) z;rw[<-HY.o];unfold zAp;rw[hx]
    rfl)
   clear hz HY;go_wp2;go_roundw
   case rel=>first|exact⟨k+1,_,oM,by go_num,rfl,HN.o,H.out,HC.o⟩|((repeat apply Ay7);exact⟨⟨k+1,_,oM,rfl,rfl,HN.o,H.out,HC.o⟩,rfl⟩)
   case measure=>simp[intOf];omega
  .obtain rfl:k=Z.length:=oM
   have HF:Hd (y=zD5 Z):=jh (by rw[HY.o,Ay5]);have HST:Hd (nQ wr b):=jh ⟨1,tabI,H.out,.inr ⟨rfl,rfl⟩⟩;clear HY H;go_wp2;go_ret
   exact⟨by unfold ofI;rw[<-HF.o];rfl,HST.o,HC.o⟩
def kY (n:Int):List Int:=[n % 256,n / 256 % 256,n / 65536 % 256,n / 16777216]
theorem zLa {n:Int}(h0:0<=n) (h1:n<=4294967295):∀a∈kY n,Byte a:=by
 intro a ha;simp[kY]at ha
 rcases ha with rfl|rfl|rfl|rfl <;> constructor <;> omega
theorem zJq (n:Int) (w:World) (h0:0<=n) (h1:n<=4294967295) :
  Calls Tryz.prog 75 #[.int .u32 n] w λe w'=>∃h,e=.returned (.slice (some ⟨h,0,none⟩) 4 4)/\w.heap.size<=h/\Row w' h (kY n)/\Cf w w':=by
 have HR:=jh (Row.alloc w (kY n) 5 (zLa h0 h1));go_enter Tryz.func75,Tryz.ntmps75
 go_wp2;go_ret
 exact⟨_,rfl,Ay _,HR.o,(Chg.refl _ _).alloc _⟩
theorem zNs (X Y:List Int) (ax ay:Option Addr) (gx ox gy oy cx cy:Nat) (w:World) (hx:BytesAt w gx ox X) (hax:0<X.length->ax=some ⟨gx,ox,none⟩) (hy:BytesAt w gy oy Y) (hay:0<Y.length->ay=some ⟨gy,oy,none⟩) (hl:X.length<=1000000000000) :
  Calls Tryz.prog 100 #[.slice ax X.length cx,.slice ay Y.length cy] w λe w'=>e=.returned (.bool (decide (X=Y)))/\Cf w w':=by
 have HX:=jh hx;have HY:=jh hy;have HAX:=jh hax;have HAY:=jh hay;clear hx hy hax hay;by_cases hxy:X.length=Y.length
 .have b10:((X.length:Int) != (Y.length:Int))=false:=by simp[hxy]
  go_enter Tryz.func100,Tryz.ntmps100
  go_wp2
  go_loopw [13] (λi wr=>∃k:Nat,k<=X.length/\i=.int .i64 k/\Cf w wr/\X.take k=Y.take k) (λi _=>X.length-(intOf i).toNat)
  case atStart=>exact⟨0,oM,rfl,Chg.refl _ _,sI⟩
  case round =>
   obtain⟨k,hk,rfl,hc,he⟩:=hrel;have HC:=jh hc;have HE:=jh he;clear hc he;by_cases hkl:k<X.length
   .have b14:decide ((k:Int)<(X.length:Int))=true:=by simp;omega
    obtain⟨p,hp,c1,p0,p1⟩:=(HX.o.chg HC.o iE).get hkl;obtain⟨q,hq,c2,q0,q1⟩:=(HY.o.chg HC.o iE).get (k:=k) oM;have e1:=HAX.o oM;have e2:=HAY.o oM;subst e1 e2;have HP:=jh hp;have HQ:=jh hq;clear hp hq;by_cases hpq:p=q
    .subst hpq
     have HT:Hd (X.take (k+1)=Y.take (k+1)):=jh (by rw[Ay1,Ay1,HE.o,HP.o,HQ.o]);clear HE HP HQ;go_upto_region 6 with (fail)
     go_still kR
     go_wp2;go_roundw
     case rel=>first|exact⟨k+1,oM,by go_num,HC.o.drew,HT.o⟩|((repeat apply Ay7);exact⟨⟨k+1,oM,by first|rfl|go_num,HC.o.drew,HT.o⟩,rfl,rfl,rfl⟩)
     case measure=>simp[intOf];omega
    .have b25:(p != q)=true:=by simpa using hpq
     have HD:Hd (decide (X=Y)=false):=jh (by
      apply decide_eq_false
      intro h;rw[h,HQ.o]at HP;exact hpq (Az3 HP.o).symm)
     clear HE HP HQ hpq;go_upto_region 6 with (fail)
     go_still kR
     go_wp2;go_ret
     exact⟨by rw[HD.o];rfl,HC.o.drew⟩
   .obtain rfl:k=X.length:=oM
    have HD:Hd (decide (X=Y)=true):=jh (by
     have:=HE.o;rw[Ay5,hxy,Ay5]at this;simp[this])
    clear HE;go_wp2;go_ret
    exact⟨by rw[HD.o];rfl,HC.o⟩
 .have b10:((X.length:Int) != (Y.length:Int))=true:=by simp;omega
  have HD:Hd (decide (X=Y)=false):=jh (by
   apply decide_eq_false
   intro h;exact hxy (by rw[h]))
  go_enter Tryz.func100,Tryz.ntmps100
  go_wp2;go_ret
  exact⟨by rw[HD.o];rfl,Chg.refl _ _⟩
theorem zLf (X Y:List Int) (ax:Option Addr) (gx ox cx hy q:Nat) (w:World) (hx:BytesAt w gx ox X) (hax:0<X.length->ax=some ⟨gx,ox,none⟩) (hyr:BytesAt w hy 0 Y) (hyl:0<Y.length) (hxl:X.length<=100000000) (hyl2:Y.length<=100000000)
  (q0:w.cell? ⟨q,0,none⟩=some (.slice ax X.length cx)) (q1:w.cell? ⟨q,1,none⟩=some (.slice (some ⟨hy,0,none⟩) Y.length Y.length)) :
  Calls Tryz.prog 74 #[.slice (some ⟨q,0,none⟩) 2 2] w λe w'=>∃v,e=.returned v/\Own w' w.heap.size v (X++Y)/\Cf w w' :=
 bJ X Y ax gx ox cx hy Y.length q w hx hax hyr hyl oM oM q0 q1
theorem zCh (Z:List Int):0<=ofI Z/\ofI Z<=4294967295:=bounds_u32 (wf_bits BinOp.xor IntKind.u32 _ _)
def pW (Z:List Int):List Int:=Z++kY (ofI Z)
theorem jE (Z:List Int):(pW Z).length=Z.length+4:=by simp[pW,kY]
theorem zLv (w:World) (u v:Value) (e:TypeId):(w.alloc (.cells #[u,v] e)).cell? ⟨w.heap.size,0,none⟩=some u/\(w.alloc (.cells #[u,v] e)).cell? ⟨w.heap.size,1,none⟩=some v:=by
 constructor <;> · rw[Az7];rfl
theorem zPr (b:Nat) (Z:List Int) (a:Option Addr) (g o c:Nat) (w:World) (hs:nQ w b) (hz:BytesAt w g o Z) (hgb:Z≠[]->g≠b) (ha:0<Z.length->a=some ⟨g,o,none⟩) (hl:Z.length<=20000000) :
  Calls Tryz.prog 31 #[.pointer (some ⟨b,0,none⟩),.slice a Z.length c] w λe w'=>∃h,e=.returned (.slice (some ⟨h,0,none⟩) (pW Z).length (pW Z).length)/\w.heap.size<=h/\Row w' h (pW Z)/\nQ w' b/\Chg (·=b) w w':=by
 have HOF:=jh (zQ9 b Z a g o c w hs hz hgb ha oM);have HZ:=jh hz;have HA:=jh ha;have HG:=jh hgb;have HL:=jh hs.lt;obtain⟨r0,r1⟩:=zCh Z;obtain⟨N,hN⟩:∃N,ofI Z=N:=⟨_,rfl⟩;rw[hN]at HOF r0 r1;have HS:Hd (pW Z=Z++kY N):=jh (by rw[pW,hN]);clear hs hz hgb ha hN;go_enter Tryz.func31,Tryz.ntmps31
 go_wp2_with fail
 refine HOF.o.mono ?_;rintro e w1 ⟨rfl,hs1,hc1⟩;have HS1:=jh hs1;have HC1:=jh hc1;clear hs1 hc1 HOF;go_wp2_with fail
 refine (zJq N w1 r0 r1).mono ?_;rintro e w2 ⟨h4,rfl,hh4,hr4,hc2⟩;have HR4:=jh hr4;have HC2:=jh hc2;clear hr4 hc2;go_wp2_with fail
 have HQ:=jh (zLv w2 (.slice a Z.length c) (.slice (some ⟨h4,0,none⟩) 4 4) 45);have HC3:=jh ((Chg.refl (λ_=>False) w2).alloc (.cells #[.slice a Z.length c,.slice (some ⟨h4,0,none⟩) 4 4] 45));refine (zLf Z (kY N) a g o c h4 w2.heap.size _ (((HZ.o.chg HC1.o HG.o).chg HC2.o iE).chg HC3.o iE) HA.o ((HR4.o.chg HC3.o iD).bytes (Aw6 _)) (by simp[kY]) oM (by simp[kY]) HQ.o.1 HQ.o.2).mono ?_;rintro e w3 ⟨v3,rfl,ho3,hc3⟩;obtain⟨g3,C3,e3,hg3,hR3,hp3,hm3⟩:=ho3.some (by simp[kY]);have HC4:=jh (HC2.o.trans (HC3.o.trans hc3));obtain⟨PL,hPL⟩:∃PL,(Z++kY N).length=PL:=⟨_,rfl⟩;have HPL:Hd (PL<=C3.length):=jh (by rw[<-hPL];exact hp3.length_le);have HP:Hd (PL=(pW Z).length):=jh (by rw[HS.o,hPL]);rw[hPL]at e3;subst e3;have HR3:Hd (Row w3 g3 (pW Z)):=jh (by
  rw[HS.o];exact⟨λk x hk=>by have:=(hR3.bytes hp3).c k x hk;rw[Ax0]at this;exact this.1,hR3.z,hR3.lt,λx hx=>hR3.byte x (hp3.subset hx)⟩)
 have hg3':w.heap.size<=g3:=by have h1:=HC1.o.size;have h2:=HC2.o.size;have h3:=HC3.o.size;omega
 clear hR3 hp3 ho3 hc3 hg3 hPL;go_wp2_with fail
 refine (zB2 w3 g3 _ _ HPL.o).mono ?_;rintro e w4 ⟨rfl,rfl⟩;have HF:Hd (nQ w4 b/\Chg (·=b) w w4):=jh ⟨HS1.o.chg HC4.o iD,HC1.o.trans HC4.o.any⟩;go_wp2;go_ret
 exact⟨g3,by rw[<-HP.o];rfl,hg3',HR3.o,HF.o.1,HF.o.2⟩
end Go.Proofs.YtgnpmceimpjheaaGreat
