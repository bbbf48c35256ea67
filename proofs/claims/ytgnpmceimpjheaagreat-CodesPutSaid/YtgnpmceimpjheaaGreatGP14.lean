/- A part of the proof: PtM BdO RMn RefMayT. -/
import Derived.Test.YtgnpmceimpjheaaGreatGP10
import Derived.Test.YtgnpmceimpjheaaGreatGP13
import Derived.Test.YtgnpmceimpjheaaGreatGP12
import Derived.Test.YtgnpmceimpjheaaGreatGP7
set_option maxRecDepth 100000
set_option maxHeartbeats 16000000
namespace Go.Proofs.YtgnpmceimpjheaaGreat
open Go.RowKit
structure PutB (t:TabsD):Prop where
 w:xS t.lx.c<=65536
 l:(tA t).length<=19000000
def zPb (w:World) (t:TabsD) (e:Ending) (w':World):Prop :=
 Cf w w'/\((yJ t=false/\e=.returned (.tuple #[.slice none 0 0,.int .i64 1])) \/
  (yJ t=true/\∃h,e=.returned (.tuple #[.slice (some ⟨h,0,none⟩) (pW (tA t)).length (pW (tA t)).length,.int .i64 0])/\w.heap.size<=h/\Row w' h (pW (tA t))))
theorem zFb {s:Str}(h:sS s=true):s.size<=64:=by
 unfold sS at h;simp only[Ay2,decide_eq_true_eq]at h;exact h.2
theorem zJ5 {w:World}{S:Nat->Prop}{m:TabsS}{t:TabsD}(h:TabsIn w S m t):TabsIn w (·<w.heap.size) m t:=TabsIn.good.mono h (λ_ hg _=>hg)
theorem zE5 (t:TabsD) (m:TabsS) (S:Nat->Prop) (w:World) (h:TabsIn w S m t) (hf:FairTabs t) (hb:yJ t=true->PutB t) :
  Calls Tryz.prog 10 #[gY m] w (zPb w t):=by
 obtain⟨⟨ra,rn,rc⟩,⟨ka,kn,kc⟩,⟨da,dn,dc⟩,⟨⟨x0,z0,y0⟩,⟨x1,z1,y1⟩,⟨x2,z2,y2⟩,⟨x3,z3,y3⟩⟩,⟨⟨n0,o0,m0⟩,⟨n1,o1,m1⟩,⟨n2,o2,m2⟩,⟨n3,o3,m3⟩,⟨n4,o4,m4⟩⟩,⟨la,ln,lc⟩⟩:=m;have hT:=zJ5 h;obtain⟨h0,h1,h2,⟨h3,h4,h5,h6⟩,⟨h7,h8,h9,h10,h11⟩,h12⟩:=h;obtain⟨rfl,-⟩:=h0.len;obtain⟨rfl,-⟩:=h1.len;obtain⟨rfl,-⟩:=h2.len;obtain⟨rfl,-⟩:=h3.len;obtain⟨rfl,-⟩:=h4.len;obtain⟨rfl,-⟩:=h5.len;obtain⟨rfl,-⟩:=h6.len;obtain⟨rfl,-⟩:=h7.len;obtain⟨rfl,-⟩:=h8.len;obtain⟨rfl,-⟩:=h9.len;obtain⟨rfl,-⟩:=h10.len;obtain⟨rfl,-⟩:=h11.len;obtain⟨rfl,-⟩:=h12.len;clear h0 h1 h2 h3 h4 h5 h6 h7 h8 h9 h10 h11 h12;have HT:=jh hT;have HFT:=jh hf;have HKD:=jh hT.nt.kinds;obtain⟨w0,hw0⟩:∃W,W=w.alloc (.cells #[.slice ra t.rl.length rc,.slice ka t.tk.length kc,.slice da t.dr.length dc,.slice x0 t.lx.r.length y0,.slice x1 t.lx.c.length y1,.slice x2 t.lx.n.length y2,.slice x3 t.lx.e.length y3,.slice n0 t.nt.st.length m0,.slice n1 t.nt.s.length m1,.slice n2 t.nt.p.length m2,.slice n3 t.nt.q.length m3,.slice n4 t.nt.d.length m4,.slice la t.lk.length lc] 34):=⟨_,rfl⟩;have HC0:Hd (Cf w w0):=jh (by rw[hw0];exact (Chg.refl _ _).alloc _);have HS0:Hd (w0.heap.size=w.heap.size+1):=jh (by rw[hw0];simp);have HD0:Hd (∀j v,([.slice ra t.rl.length rc,.slice ka t.tk.length kc,.slice da t.dr.length dc,.slice x0 t.lx.r.length y0,.slice x1 t.lx.c.length y1,.slice x2 t.lx.n.length y2,.slice x3 t.lx.e.length y3,.slice n0 t.nt.st.length m0,.slice n1 t.nt.s.length m1,.slice n2 t.nt.p.length m2,.slice n3 t.nt.q.length m3,.slice n4 t.nt.d.length m4,.slice la t.lk.length lc]:List Value)[j]?=some v->w0.cell? ⟨w.heap.size,j,none⟩=some v):=jh (λj v hv=>by rw[hw0];exact zE _ rfl (by rw[<-Ax9];exact hv));have HMAY:Hd (Calls Tryz.prog 12 #[.agg #[.slice ra t.rl.length rc,.slice ka t.tk.length kc,.slice da t.dr.length dc,.slice x0 t.lx.r.length y0,.slice x1 t.lx.c.length y1,.slice x2 t.lx.n.length y2,.slice x3 t.lx.e.length y3,.slice n0 t.nt.st.length m0,.slice n1 t.nt.s.length m1,.slice n2 t.nt.p.length m2,.slice n3 t.nt.q.length m3,.slice n4 t.nt.d.length m4,.slice la t.lk.length lc]] w0 λe w'=>e=.returned (.bool (yJ t))/\Cf w0 w'):=jh (zAr t ⟨(ra,t.rl.length,rc),(ka,t.tk.length,kc),(da,t.dr.length,dc),⟨(x0,t.lx.r.length,y0),(x1,t.lx.c.length,y1),(x2,t.lx.n.length,y2),(x3,t.lx.e.length,y3)⟩,⟨(n0,t.nt.st.length,m0),(n1,t.nt.s.length,m1),(n2,t.nt.p.length,m2),(n3,t.nt.q.length,m3),(n4,t.nt.d.length,m4)⟩,(la,t.lk.length,lc)⟩ _ w0 (TabsIn.good.chg hT HC0.o iF) hf);have d0:=HD0.o 0 _ rfl;have d1:=HD0.o 1 _ rfl;have d2:=HD0.o 2 _ rfl;have d3:=HD0.o 3 _ rfl;have d4:=HD0.o 4 _ rfl;have d5:=HD0.o 5 _ rfl;have d6:=HD0.o 6 _ rfl;have d7:=HD0.o 7 _ rfl;have d8:=HD0.o 8 _ rfl;have d9:=HD0.o 9 _ rfl;have d10:=HD0.o 10 _ rfl;have d11:=HD0.o 11 _ rfl;have d12:=HD0.o 12 _ rfl;clear hT hf;show Calls Tryz.prog 10 #[.agg #[.slice ra t.rl.length rc,.slice ka t.tk.length kc,.slice da t.dr.length dc,.slice x0 t.lx.r.length y0,.slice x1 t.lx.c.length y1,.slice x2 t.lx.n.length y2,.slice x3 t.lx.e.length y3,.slice n0 t.nt.st.length m0,.slice n1 t.nt.s.length m1,.slice n2 t.nt.p.length m2,.slice n3 t.nt.q.length m3,.slice n4 t.nt.d.length m4,.slice la t.lk.length lc]] w (zPb w t);go_enter Tryz.func10,Tryz.ntmps10
 go_upto_region 1 with (fail)
 rw[<-hw0];clear hw0;go_wp2_with fail
 refine HMAY.o.mono ?_;rintro e w1 ⟨rfl,hc1⟩;have HC1:=jh (HC0.o.trans hc1);have HC01:=jh hc1;clear hc1 HMAY d0 d1 d2 d3 d4 d5 d6 d7 d8 d9 d10 d11 d12;cases hm:yJ t with
 | false =>
  have HM:=jh hm;clear hm hb;go_wp2;go_ret2
  exact⟨HC1.o,.inl ⟨HM.o,rfl⟩⟩
 | true =>
  have HM:=jh hm;have HB:=jh (hb hm);have HMP:=jh (nG hm);clear hm hb;obtain⟨hb,hhb⟩:∃b,b=w1.heap.size:=⟨_,rfl⟩;obtain⟨pg,hpg⟩:∃b,b=w1.heap.size+1:=⟨_,rfl⟩;obtain⟨w3,hw3⟩:∃W,W=(w1.alloc (.cells #[.int .u8 72,.int .u8 66,.int .u8 84,.int .u8 49] 5 (4,5))).alloc (.cells #[.slice (some ⟨hb,0,none⟩) 4 4] 83):=⟨_,rfl⟩;have hrow:BytesAt w3 hb 0 qA:=by
   rw[hw3,hhb];exact (zM9 w1 qA 5 (4,5) dE).chg ((Chg.refl (λ_=>False) _).alloc _) iE
  have hcs:(convert 45 45 (.slice (some ⟨w1.heap.size,0,none⟩) 4 4)).run Tryz.prog (w1.alloc (.cells #[.int .u8 72,.int .u8 66,.int .u8 84,.int .u8 49] 5))=.ok (.slice (some ⟨w1.heap.size,0,none⟩) 4 4) (w1.alloc (.cells #[.int .u8 72,.int .u8 66,.int .u8 84,.int .u8 49] 5 (4,5))):=Lib.run_convert_bytes_const (P:=Tryz.prog) w1 45 5 #[.int .u8 72,.int .u8 66,.int .u8 84,.int .u8 49] 4 4 Tryz.underlying45 Tryz.underlying5;have HSZ:Hd (w.heap.size<hb/\pg=hb+1):=jh ⟨by rw[hhb];have:=HC01.o.size;have:=HS0.o;omega,oM⟩;have c3:w3.cell? ⟨pg,0,none⟩=some (.slice (some ⟨hb,0,none⟩) 4 4):=by rw[hw3,hpg];exact vW _ _ sI
  have z3:w3.frozen? ⟨pg,0,none⟩=false:=by
   have e:w1.heap.size+1=(w1.alloc (.cells #[.int .u8 72,.int .u8 66,.int .u8 84,.int .u8 49] 5 (4,5))).heap.size:=sI;rw[hw3,hpg,e];exact Az8 _ _ _ _
  have HP3:Hd (PSt pg w.heap.size w3 qA):=jh ⟨⟨_,c3,.inr ⟨hb,rfl,by have:=HSZ.o;omega,hrow.lt dE,hrow⟩,λe=>by have e2:hb=pg:=Az3 e;have:=HSZ.o;omega⟩,z3,by have:=HSZ.o;omega⟩;have HCp:Hd (∀k,k<=w.heap.size->¬Cp pg w3 k):=jh (λk hk e=>by
   have:=HSZ.o;rcases e with e|⟨u,hu,e⟩
   .omega
   .rw[c3]at hu
    obtain rfl:=Az3 hu;have e2:hb=k:=Az3 e;omega)
  have HC13:Hd (Cf w1 w3):=jh (by rw[hw3];exact ((Chg.refl _ _).alloc _).alloc _);have HC3:=jh (HC1.o.trans HC13.o);have HK:Hd (∀W Z',Puts pg w.heap.size w3 W Z'->∀j v,([.slice ra t.rl.length rc,.slice ka t.tk.length kc,.slice da t.dr.length dc,.slice x0 t.lx.r.length y0,.slice x1 t.lx.c.length y1,.slice x2 t.lx.n.length y2,.slice x3 t.lx.e.length y3,.slice n0 t.nt.st.length m0,.slice n1 t.nt.s.length m1,.slice n2 t.nt.p.length m2,.slice n3 t.nt.q.length m3,.slice n4 t.nt.d.length m4,.slice la t.lk.length lc]:List Value)[j]?=some v->W.cell? ⟨w.heap.size,j,none⟩=some v):=jh (λW Z' hp j v hv =>
   hp.keep (HCp.o _ (Ay _)) ((HC01.o.trans HC13.o).cellS (HD0.o j v hv) iD))
  have HIN:Hd (∀W Z',Puts pg w.heap.size w3 W Z'->TabsIn W (·<w.heap.size) ⟨(ra,t.rl.length,rc),(ka,t.tk.length,kc),(da,t.dr.length,dc),⟨(x0,t.lx.r.length,y0),(x1,t.lx.c.length,y1),(x2,t.lx.n.length,y2),(x3,t.lx.e.length,y3)⟩,⟨(n0,t.nt.st.length,m0),(n1,t.nt.s.length,m1),(n2,t.nt.p.length,m2),(n3,t.nt.q.length,m3),(n4,t.nt.d.length,m4)⟩,(la,t.lk.length,lc)⟩ t):=jh (λW Z' hp =>
   TabsIn.good.chg (TabsIn.good.chg HT.o HC3.o iF) hp.chg (λg hg e=>HCp.o g oM e))
  obtain⟨TD,hTD⟩:∃x,t.tk.zip t.dr=x:=⟨_,rfl⟩;have hdr:=HMP.o.dr;have HTD:Hd (TD.length=t.tk.length/\∀(k:Nat) s b,t.tk[k]?=some s->t.dr[k]?=some b->TD[k]?=some (s,b)):=jh (by
   rw[<-hTD];refine⟨by rw[Au7,hdr];omega,λk s b hs hb'=>?_⟩;rw[List.getElem?_zip_eq_some];exact⟨hs,hb'⟩)
  have HPT:Hd (tA t=(((((qA++zS vG t.rl)++putL t.tk.length)++TD.flatMap qL)++dS t.lx)++aU t.nt)++t.lk.flatMap (tU t.tk.length)):=jh (by
   unfold tA zAm
   conv=>lhs;unfold zS
   rw[hTD,HTD.o.1];simp only[zS,Az5])
  have HLEN:Hd (∀k j,(qA++zS vG t.rl).length<=1000000000/\((qA++zS vG t.rl)++putL t.tk.length++(TD.take k).flatMap qL).length<=100000000 /\
   (((((qA++zS vG t.rl)++putL t.tk.length)++TD.flatMap qL)++dS t.lx)).length<=1000000000/\((((((qA++zS vG t.rl)++putL t.tk.length)++TD.flatMap qL)++dS t.lx)++aU t.nt)).length<=1000000000 /\
   ((((((qA++zS vG t.rl)++putL t.tk.length)++TD.flatMap qL)++dS t.lx)++aU t.nt)++(t.lk.take j).flatMap (tU t.tk.length)).length<=1000000000):=jh (λk j=>by
   have hl:=HB.o.l;rw[HPT.o]at hl;have a1:=yU (enc:=qL) (L:=TD) k;have a2:=yU (enc:=tU t.tk.length) (L:=t.lk) j;simp only[Az0]at hl ⊢;omega)
  obtain⟨NK,hNK⟩:∃n,t.tk.length=n:=⟨_,rfl⟩;have HNK:=jh hNK;have HNR:Hd (zN (NK:Int)=putL NK):=jh (by unfold zN;rw[Ay6]);obtain⟨ND,hND⟩:∃n,t.dr.length=n:=⟨_,rfl⟩;have HND:=jh hND;have HNDK:Hd (ND=NK):=jh (by rw[<-hND,<-hNK];exact hdr);obtain⟨NL,hNL⟩:∃n,t.lk.length=n:=⟨_,rfl⟩;have HNL:=jh hNL;have hnk:NK<=64:=by rw[<-hNK];exact HMP.o.tk
  have hnl:NL<=1000000000:=by rw[<-hNL];exact HFT.o.lk
  rw[hNK]at HTD HPT HLEN;rw[hNK,hND,hNL]at HK HIN;have hmf:=mkfn;clear hrow c3 z3 hdr hTD HD0;have hpg2:pg=hb+1:=HSZ.o.2;go_upto_region 4 with (fail)
  rw[<-hhb,<-hpg2,<-hw3];clear hw3 hhb hpg hpg2 hcs;have d0:=HK.o _ _ HP3.o.refl 0 _ rfl;go_wp2_with fail
  refine (zKg t.rl ra rc w3 HP3.o (HIN.o _ _ HP3.o.refl).rl (λs hs=>Ay4 (zFb (HMP.o.rn s hs)) dE) (by have:=HMP.o.rl;omega) (HLEN.o 0 0).1).mono ?_;rintro e4 w4 ⟨rfl,hp4⟩;have HP4:=jh hp4;clear hp4 d0;have d1:=HK.o _ _ HP4.o 1 _ rfl;go_wp2_with fail
  refine (uA (NK:Int) w4 HP4.o.st oM (HLEN.o 0 0).1).mono ?_;rintro e5 w5 ⟨rfl,hp5⟩;rw[HNR.o]at hp5;have HP5:=jh (HP4.o.trans hp5);clear hp5 d1;have d1:=HK.o _ _ HP5.o 1 _ rfl;go_upto_region 7 with (fail)
  clear d1
  go_loopw [31] (λq wr=>∃k:Nat,k<=NK/\q=.int .i64 k/\Puts pg w.heap.size w3 wr ((qA++zS vG t.rl)++putL NK++(TD.take k).flatMap qL)) (λq _=>NK-(intOf q).toNat)
  case atStart=>exact⟨0,oM,rfl,by simpa using HP5.o⟩
  case round =>
   clear HP5 HP4;obtain⟨k,hk,rfl,hp⟩:=hrel;have HP:=jh hp;clear hp;by_cases hkl:k<NK
   .have b9:decide ((k:Int)<(NK:Int))=true:=by simp;omega
    have hkt:k<t.tk.length:=(by rw[HNK.o];exact hkl);have hkd:k<t.dr.length:=(by rw[HND.o,HNDK.o];exact hkl);have hkd2:k<ND:=(by rw[HNDK.o];exact hkl);have hI:=HIN.o _ _ HP.o;have htk:=hI.tk;have hdr:=hI.dr;simp only at htk hdr;rw[<-HNK.o]at htk;rw[<-HND.o]at hdr;obtain⟨s,d,g,o,hx,hrx,rfl,-,-,-,hcells⟩:=(zJ.of htk).get1' (f:=zC3) rfl hkt rfl;have c0:=hcells _ rfl;obtain⟨bo,db,gb,ob,hy,hry,rfl,hSb,-,-,hcells2⟩:=(zJ.of hdr).get1' (f:=λb=>[.bool b]) rfl hkd rfl;have e0:=hcells2 _ rfl;obtain rfl:s=d:=hrx;obtain rfl:bo=db:=hry;have HX:Hd (TD[k]?=some (s,bo)):=jh (HTD.o.2 k _ _ hx hy);have HNM:Hd (s.size<=1000000):=jh (Ay4 (zFb (HMP.o.tn s (Az2 hx))) dE);have HLE:=jh (HLEN.o (k+1) 0).2.1;rw[zU HX.o]at HLE;have HLA:Hd (((qA++zS vG t.rl)++putL NK++(TD.take k).flatMap qL).length<=1000000000/\(((qA++zS vG t.rl)++putL NK++(TD.take k).flatMap qL)++vG s).length<=1000000000):=jh (by
     have:=HLE.o;simp only[qL,Az0]at this ⊢;omega)
    have HEB:Hd (∀W Z',Puts pg w.heap.size w3 W Z'->W.cell? ⟨w.heap.size,2,none⟩=some (.slice (some ⟨gb,ob,none⟩) ND dc)/\W.cell? ⟨gb,ob+k,none⟩=some (.bool bo)):=jh (λW Z' hp=>by
     refine⟨HK.o _ _ hp 2 _ rfl,?_⟩;obtain⟨b2,db,g2,o2,hy2,hry2,ha2,-,-,-,hc2⟩:=(zJ.of (by have:=(HIN.o _ _ hp).dr;simp only at this;rw[<-HND.o]at this;exact this)).get1' (f:=λb=>[.bool b]) rfl hkd rfl;obtain rfl:b2=db:=hry2;injection ha2 with ha2;injection ha2 with a1 a2;subst a1 a2;rw[hy]at hy2;rw[Az3 hy2];exact hc2 _ rfl)
    have d1:=HK.o _ _ HP.o 1 _ rfl;clear hx hy hcells hcells2 e0 htk hdr hI hkt hkd hSb;go_wp2_with fail
    refine (zGe s wr HP.o.st HNM.o HLA.o.1).mono ?_;rintro e6 w6 ⟨rfl,hp6⟩;have HP6:=jh (HP.o.trans hp6);clear hp6 c0 d1;obtain⟨d2,e0⟩:=HEB.o _ _ HP6.o;cases bo with
    | true =>
     go_wp2_with fail
     refine (uA 1 w6 HP6.o.st oM HLA.o.2).mono ?_;rintro e7 w7 ⟨rfl,hp7⟩;have HP7:Hd (Puts pg w.heap.size w3 w7 ((qA++zS vG t.rl)++putL NK++(TD.take (k+1)).flatMap qL)):=jh (by
      have:=HP6.o.trans hp7;rw[zU HX.o];simp only[qL,if_true,Az5]at this ⊢;exact this)
     clear hp7 d2 e0;go_wp2;go_roundw
     case rel=>exact⟨k+1,oM,by go_num,HP7.o⟩
     case measure=>simp[intOf];omega
    | false =>
     go_wp2_with fail
     refine (uA 0 w6 HP6.o.st oM HLA.o.2).mono ?_;rintro e7 w7 ⟨rfl,hp7⟩;have HP7:Hd (Puts pg w.heap.size w3 w7 ((qA++zS vG t.rl)++putL NK++(TD.take (k+1)).flatMap qL)):=jh (by
      have:=HP6.o.trans hp7;rw[zU HX.o];simp only[qL,Bool.false_eq_true,if_false,Az5]at this ⊢;exact this)
     clear hp7 d2 e0;go_wp2;go_roundw
     case rel=>exact⟨k+1,oM,by go_num,HP7.o⟩
     case measure=>simp[intOf];omega
   .obtain rfl:k=NK:=oM
    have b9:decide ((k:Int)<(k:Int))=false:=sI;have hwhole:=HP.o;rw[Ax6 (by rw[HTD.o.1];exact Ay _)]at hwhole;have HPW:=jh hwhole;clear hwhole HP;have d3:=HK.o _ _ HPW.o 3 _ rfl;have d4:=HK.o _ _ HPW.o 4 _ rfl;have d5:=HK.o _ _ HPW.o 5 _ rfl;have d6:=HK.o _ _ HPW.o 6 _ rfl;go_wp2_with fail
    refine (zKk t.lx ⟨(x0,t.lx.r.length,y0),(x1,t.lx.c.length,y1),(x2,t.lx.n.length,y2),(x3,t.lx.e.length,y3)⟩ wr HPW.o.st (HIN.o _ _ HPW.o).lx (zS3 HMP.o.lx HMP.o.tk HFT.o.lx HB.o.w) (HLEN.o 0 0).2.2.1).mono ?_;rintro e8 w8 ⟨rfl,hp8⟩;have HP8:=jh (HPW.o.trans hp8);clear hp8 d3 d4 d5 d6;have d7:=HK.o _ _ HP8.o 7 _ rfl;have d8:=HK.o _ _ HP8.o 8 _ rfl;have d9:=HK.o _ _ HP8.o 9 _ rfl;have d10:=HK.o _ _ HP8.o 10 _ rfl;have d11:=HK.o _ _ HP8.o 11 _ rfl;go_wp2_with fail
    refine (zPv t.nt ⟨(n0,t.nt.st.length,m0),(n1,t.nt.s.length,m1),(n2,t.nt.p.length,m2),(n3,t.nt.q.length,m3),(n4,t.nt.d.length,m4)⟩ w8 HP8.o.st (HIN.o _ _ HP8.o).nt (zS0 HMP.o HFT.o.nt HKD.o) (HLEN.o 0 0).2.2.2.1).mono ?_;rintro e9 w9 ⟨rfl,hp9⟩;have HP9:=jh (HP8.o.trans hp9);clear hp9 d7 d8 d9 d10 d11;have d12:=HK.o _ _ HP9.o 12 _ rfl;go_upto_region 17 with (fail)
    clear d12
    go_loopw [60] (λq wr=>∃j:Nat,j<=NL/\q=.int .i64 j/\Puts pg w.heap.size w3 wr ((((((qA++zS vG t.rl)++putL k)++TD.flatMap qL)++dS t.lx)++aU t.nt)++(t.lk.take j).flatMap (tU k))) (λq _=>NL-(intOf q).toNat)
    case atStart=>exact⟨0,oM,rfl,by simpa using HP9.o⟩
    case round =>
     clear HP9 HP8 HPW;obtain⟨j,hj,rfl,hp⟩:=hrel;have HP:=jh hp;clear hp;by_cases hjl:j<NL
     .have b10:decide ((j:Int)<(NL:Int))=true:=by simp;omega
      have hjt:j<t.lk.length:=(by rw[HNL.o];exact hjl);have hlk:=(HIN.o _ _ HP.o).lk;simp only at hlk;rw[<-HNL.o]at hlk;obtain⟨⟨sa,sn,sc⟩,A,g,o,hx,hrx,rfl,-,-,c0⟩:=hlk.get1 (f:=slV) rfl hjt (λ_=>rfl);have hrl:=zJ.len (E:=lsE) (R:=lsR) hrx;obtain⟨rfl,-⟩:=hrl;simp only[slV]at c0;have HX:=jh hx;have HOKA:=jh (zPz HMP.o HFT.o (Az2 hx));rw[HNK.o]at HOKA;have HLE:=jh (HLEN.o 0 (j+1)).2.2.2.2;rw[zU HX.o,<-Az5]at HLE;obtain⟨w10,hw10⟩:∃W,W=wr.alloc (.cells #[.slice sa A.length sc] 63):=⟨_,rfl⟩;have hC10:Cf wr w10:=(by rw[hw10];exact (Chg.refl _ _).alloc _);have HP10:Hd (Puts pg w.heap.size w3 w10 ((((((qA++zS vG t.rl)++putL k)++TD.flatMap qL)++dS t.lx)++aU t.nt)++(t.lk.take j).flatMap (tU k))):=jh (HP.o.trans (HP.o.st.fresh hC10));have f0:w10.cell? ⟨wr.heap.size,0,none⟩=some (.slice sa A.length sc):=(by rw[hw10];exact vW _ _ rfl);have HA10:Hd (zJ lsE lsR w10 (·<w.heap.size) (sa,A.length,sc) A):=jh ((zJ.good lsR.good).chg hrx hC10 iF);clear hx hrx hlk hjt hC10;go_upto_region 19 with (fail)
      rw[<-hw10];clear hw10 c0;have d1:=HK.o _ _ HP10.o 1 _ rfl;go_wp2_with fail
      refine (zMj A sa sc k w10 HP10.o.st HA10.o HOKA.o.1 oM HOKA.o.2.1 HOKA.o.2.2 HLE.o).mono ?_;rintro e11 w11 ⟨rfl,hp11⟩;have HP11:Hd (Puts pg w.heap.size w3 w11 ((((((qA++zS vG t.rl)++putL k)++TD.flatMap qL)++dS t.lx)++aU t.nt)++(t.lk.take (j+1)).flatMap (tU k))):=jh (by
       have:=HP10.o.trans hp11;rw[zU HX.o,<-Az5];exact this)
      clear hp11 f0 d1;go_wp2;go_roundw
      case rel=>exact⟨j+1,oM,by go_num,HP11.o⟩
      case measure=>simp[intOf];omega
     .obtain rfl:j=NL:=oM
      have b10:decide ((j:Int)<(j:Int))=false:=sI;have hwhole:=HP.o;rw[Ax6 (by rw[HNL.o];exact Ay _),<-HPT.o]at hwhole;have HPW:=jh hwhole;clear hwhole HP;obtain⟨v,hv,ho,hne⟩:=HPW.o.st.ex;obtain⟨gz,cz,rfl,hgz,hgl,hbz⟩:=ho.bytes (by unfold tA;simp[qA]);have HLZ:=jh HB.o.l;obtain⟨w12,hw12⟩:∃W,W=wr.alloc (.cells zB5 104):=⟨_,rfl⟩;have hzs:=zH7;have HC12:Hd (Cf wr w12):=jh (by rw[hw12];exact (Chg.refl _ _).alloc _);have HS12:Hd (nQ w12 wr.heap.size):=jh (by rw[hw12];exact⟨0,_,SumsAt.made wr _,.inl rfl⟩);have hv12:=HC12.o.cellS hv iD;have HSEAL:=jh (zPr wr.heap.size (tA t) (some ⟨gz,0,none⟩) gz 0 cz w12 HS12.o (hbz.chg HC12.o iE) (λ_=>oM) (λ_=>rfl) (by have:=HLZ.o;omega));have HCF:Hd (Chg (λk=>w.heap.size<=k) w wr):=jh (HC3.o.any.trans (HPW.o.below HP3.o));obtain⟨PT,hPT⟩:∃x,tA t=x:=⟨_,rfl⟩;have HPTE:=jh hPT;rw[hPT]at hv hv12 HSEAL;clear hv ho hne hgz hbz hPT;go_upto_region 22 with (fail)
      rw[<-hw12];clear hw12 hzs;go_wp2_with fail
      refine HSEAL.o.mono ?_;rintro e13 w13 ⟨h,rfl,hh,hr13,hs13,hc13⟩;have HF:Hd (Cf w w13/\w.heap.size<=h/\Row w13 h (pW PT)):=jh (by
       have h1:=HCF.o.size;have h2:=HC12.o.size;exact⟨(HCF.o.trans (HC12.o.any.trans (hc13.mono (λk _ e=>by rw[e];exact h1)))).fresh,oM,hr13⟩)
      clear hh hr13 hs13 hc13 hv12 HSEAL;go_wp2;go_ret2
      exact⟨HF.o.1,.inr ⟨HM.o,h,by rw[HPTE.o];rfl,HF.o.2.1,by rw[HPTE.o];exact HF.o.2.2⟩⟩
theorem zM1 {n:NetD}(h:tQ n=true):∀s∈n.st,∀e∈s.2.1,e.1<=3:=λs hs e he=>by
 have h1:=((bE n).1 h).2.2.2.1 s hs;simp only[stOk,kU,Ay2,Ax8]at h1;have h2:=Aw1.1 h1.1.1.1 e he;simp only[xY,At4,decide_eq_true_eq,not_or]at h2;omega
theorem zTx {t:TabsD}(hm:yJ t=true) (hf:FairTabs t) (hs:SmallT t) (hp:PutB t):OkBd t:=by
 have h:=nG hm;have hnt:=(bE t.nt).1 h.nt;have hk:∀s∈t.nt.st,∀e∈s.2.1,0<=e.1/\e.1<=255:=λs hs' e he=>⟨(hs.st s hs').2.2 e he,by have:=zM1 h.nt s hs' e he;omega⟩
 have named:∀s:Str,sS s=true->s.size<=1000000:=λs h=>Ay4 (zFb h) dE
 have hll:t.lk.length<=65536:=by
  have h1:=tS t.nt.st 0;have h2:=h.ll;rw[<-hnt.2.2.2.2]at h2;unfold qE at h2;have h3:=h.st;omega
 have h1:=h.sl;have h2:=h.rl;have h3:=hnt.1;have h4:=hs.q;exact⟨⟨h.rl,λs hs=>named s (h.rn s hs)⟩,⟨h.tk,λs hs=>named s (h.tn s hs)⟩,h.dr,zS3 h.lx h.tk hf.lx hp.w,zS0 h hf.nt hk,h.st,⟨oM,oM,oM⟩,
  λs hs'=>by have:=hs.st s hs';exact⟨oM,oM⟩,hll,λA hA=>⟨λd hd=>⟨(zPz h hf hA).1 d hd,by have:=hs.al A hA d hd;omega⟩,(zPz h hf hA).2.1,(zPz h hf hA).2.2⟩,hp.l⟩
theorem zE2 (n:NetD) (m:NetS) (S:Nat->Prop) (w:World) (h:DNetIn w S m n) (hf:FairN n) (hkd:∀s∈n.st,∀e∈s.2.1,0<=e.1) :
  Calls Tryz.prog 46 #[netV m] w λe w'=>e=.returned (.bool (tQ n))/\Cf w w':=by
 obtain⟨⟨a0,n0,c0⟩,⟨a1,n1,c1⟩,⟨a2,n2,c2⟩,⟨a3,n3,c3⟩,⟨a4,n4,c4⟩⟩:=m;obtain⟨h0,h1,h2,h3,h4⟩:=h;obtain⟨rfl,-⟩:=h0.len;obtain⟨rfl,-⟩:=h1.len;obtain⟨rfl,-⟩:=h2.len;obtain⟨rfl,-⟩:=h3.len;obtain⟨rfl,-⟩:=h4.len;obtain⟨f0,f1,f2,f3,f4,f5⟩:=hf;have H0:=jh (zJ.bnd h0 f5);have H1:=jh h1;have H2:=jh h2;have H3:=jh h3;have H4:=jh h4;have HKD:=jh hkd;have HNO:=jh (λ(h:tQ n=true->False)=>zM4 h);have HIF:=jh (bE n);clear h0 h1 h2 h3 h4 f5 hkd;obtain⟨st,ss,ps,qs,ds⟩:=n;simp only at f0 f1 f2 f3 f4 H0 H1 H2 H3 H4 HKD HIF ⊢;obtain⟨R,hR⟩:∃b,tQ ⟨st,ss,ps,qs,ds⟩=b:=⟨_,rfl⟩;rw[hR]at HNO HIF ⊢;clear hR;obtain⟨w0,hw0⟩:∃W,W=w.alloc (.cells #[.slice a0 st.length c0,.slice a1 ss.length c1,.slice a2 ps.length c2,.slice a3 qs.length c3,.slice a4 ds.length c4] 40):=⟨_,rfl⟩;have HC0:Hd (Cf w w0):=jh (by rw[hw0];exact (Chg.refl _ w).alloc _);have HA0:Hd (∀X,Cf w0 X->X.cell? ⟨w.heap.size,0,none⟩=some (.slice a0 st.length c0)/\X.cell? ⟨w.heap.size,1,none⟩=some (.slice a1 ss.length c1)/\X.cell? ⟨w.heap.size,2,none⟩=some (.slice a2 ps.length c2)/\X.cell? ⟨w.heap.size,3,none⟩=some (.slice a3 qs.length c3)/\X.cell? ⟨w.heap.size,4,none⟩=some (.slice a4 ds.length c4)):=jh (λX hx=>by
  have h1:∀j v,(#[.slice a0 st.length c0,.slice a1 ss.length c1,.slice a2 ps.length c2,.slice a3 qs.length c3,.slice a4 ds.length c4]:Array Value)[j]?=some v->X.cell? ⟨w.heap.size,j,none⟩=some v:=λj v hv=>hx.cellS (by rw[hw0];exact zE _ rfl hv) iD
  exact⟨h1 0 _ rfl,h1 1 _ rfl,h1 2 _ rfl,h1 3 _ rfl,h1 4 _ rfl⟩)
 obtain⟨q0,q1,q2,q3,q4⟩:=HA0.o w0 cR;show Calls Tryz.prog 46 #[.agg #[.slice a0 st.length c0,.slice a1 ss.length c1,.slice a2 ps.length c2,.slice a3 qs.length c3,.slice a4 ds.length c4]] w _;by_cases hsp:ss.length=ps.length
 rotate_left
 .have d1:((ss.length:Int) != (ps.length:Int))=true:=by simp;omega
  have d1':(ss.length != ps.length)=true:=by simpa using hsp
  have HF:Hd (R=false):=jh (by cases R with
   | true=>exact (hsp (HIF.o.1 rfl).1).elim
   | false=>rfl)
  clear hsp;go_enter Tryz.func46,Tryz.ntmps46
  go_upto_region 1 with (fail)
  rw[<-hw0];clear hw0;go_wp2;go_ret
  exact⟨by rw[HF.o];rfl,HC0.o⟩
 have d1:((ss.length:Int) != (ps.length:Int))=false:=by simp[hsp]
 have HSP:=jh hsp;have HNX:Hd (∀P:Prop,(R=true->P)->¬P->R=false):=jh (λP h hn=>by cases R with
  | true=>exact (hn (h rfl)).elim
  | false=>rfl)
 clear hsp HNO;go_enter Tryz.func46,Tryz.ntmps46
 go_upto_region 1 with (fail)
 rw[<-hw0];clear hw0;go_wp2
 go_loopw [4] (λq wr=>∃k:Nat,k<=ss.length/\q=.int .i64 k/\(∀(j:Nat) x,j<k->ss[j]?=some x\/ps[j]?=some x->xJ st.length x=true)/\Cf w0 wr) (λq _=>ss.length-(intOf q).toNat)
 case atStart=>exact⟨0,oM,rfl,λj d h=>absurd h (Ax _),Chg.refl _ _⟩
 case round =>
  clear q0 q1 q2 q3 q4;obtain⟨i,hi,rfl,hfi,hc⟩:=hrel;obtain⟨wo,rfl⟩:∃x:World,x=wr:=⟨_,rfl⟩;have HFI:=jh hfi;have HC:=jh hc;obtain⟨q0,q1,q2,q3,q4⟩:=HA0.o wo hc;clear hfi hc;by_cases hil:i<ss.length
  .have b9:decide ((i:Int)<(ss.length:Int))=true:=by simp;omega
   have hip:i<ps.length:=(by rw[<-HSP.o];exact hil);obtain⟨x,g1,o1,hx,rfl,cx,-,-,-,-⟩:=(H1.o.chg (HC0.o.trans HC.o) iF).getI hil;obtain⟨y,g2,o2,hy,rfl,cy,-,-,-,-⟩:=(H2.o.chg (HC0.o.trans HC.o) iF).getI hip;have HX:=jh hx;have HY:=jh hy;clear hx hy;go_upto_region 7 with (fail)
   go_cut [60] from 22 to 60 (λv wx=>v=.bool (!xJ st.length x || !xJ st.length y)/\wx=wo)
   case first=>as_aux_lemma =>
    obtain⟨b1,e1⟩:∃b,decide (x<0)=b:=⟨_,rfl⟩;obtain⟨b2,e2⟩:∃b,decide ((st.length:Int)<=x)=b:=⟨_,rfl⟩;obtain⟨b3,e3⟩:∃b,decide (y<0)=b:=⟨_,rfl⟩;obtain⟨b4,e4⟩:∃b,decide ((st.length:Int)<=y)=b:=⟨_,rfl⟩;have HB:Hd ((!xJ st.length x || !xJ st.length y)=(b1 || (b2 || (b3 || b4)))):=jh (by
     rw[<-e1,<-e2,<-e3,<-e4,Au6];simp[xJ];omega)
    rcases lad4 b1 b2 b3 b4 with rfl|⟨rfl,rfl⟩|⟨rfl,rfl,rfl⟩|⟨rfl,rfl,rfl,rfl⟩|⟨rfl,rfl,rfl,rfl⟩ <;>
    (go_wp2_with fail;go_meet;exact⟨by rw[HB.o];rfl,rfl⟩)
   case rest=>as_aux_lemma =>
    obtain⟨rfl,rfl⟩:=hcut;obtain⟨b,hb⟩:∃b,(!xJ st.length x || !xJ st.length y)=b:=⟨_,rfl⟩;rw[hb];have HB:=jh hb;clear hb;cases b with
    | true =>
     have HF:Hd (R=false):=jh (HNX.o _ HIF.o.1 (λ⟨_,h,_⟩=>by
      have hb:=HB.o;rw[h x (List.mem_append_left _ (Az2 HX.o)),h y (List.mem_append_right _ (Az2 HY.o))]at hb;cases hb))
     go_wp2;go_ret
     exact⟨by rw[HF.o];rfl,HC0.o.trans HC.o⟩
    | false =>
     have HNN:Hd (∀(j:Nat) z,j<i+1->ss[j]?=some z\/ps[j]?=some z->xJ st.length z=true):=jh (λj z hj hz=>by
      by_cases hji:j=i
      .subst hji
       have hb:=HB.o;rw[Bool.or_eq_false_iff,Bool.not_eq_false',Bool.not_eq_false']at hb;rw[HX.o,HY.o]at hz;rcases hz with hz|hz
       .rw[<-Az3 hz];exact hb.1
       .rw[<-Az3 hz];exact hb.2
      .exact HFI.o j z oM hz)
     go_wp2;go_roundw
     case rel=>first|exact⟨i+1,oM,by go_num,HNN.o,HC.o⟩|((repeat apply Ay7);exact⟨⟨i+1,oM,by go_num,HNN.o,HC.o⟩,rfl⟩)
     case measure=>simp[intOf];omega
  .obtain rfl:i=ss.length:=oM
   have b9:decide ((ss.length:Int)<(ss.length:Int))=false:=sI;have HS1:Hd (∀x∈ss++ps,xJ st.length x=true):=jh (λx hx=>by
    rcases Av2.1 hx with hx|hx
    .obtain⟨j,hj⟩:=Ax7 hx
     exact HFI.o j x (Az1.1 hj).1 (.inl hj)
    .obtain⟨j,hj⟩:=Ax7 hx
     exact HFI.o j x (by rw[HSP.o];exact (Az1.1 hj).1) (.inr hj))
   clear HFI;go_wp2_with fail
   obtain⟨wp,rfl⟩:∃x:World,x=wo:=⟨_,rfl⟩
   go_loopw [5] (λq wr=>∃k:Nat,k<=qs.length/\q=.int .i64 k/\(∀(j:Nat) x,j<k->qs[j]?=some x->rS st.length x=false)/\Cf w0 wr) (λq _=>qs.length-(intOf q).toNat)
   case atStart=>exact⟨0,oM,rfl,λj d h=>absurd h (Ax _),HC.o⟩
   case round =>
    clear q0 q1 q2 q3 q4 HC;obtain⟨i,hi,rfl,hfi,hc⟩:=hrel;obtain⟨wo,rfl⟩:∃x:World,x=wr:=⟨_,rfl⟩;have HFI:=jh hfi;have HC:=jh hc;obtain⟨q0,q1,q2,q3,q4⟩:=HA0.o wo hc;clear hfi hc;by_cases hil:i<qs.length
    .have b9:decide ((i:Int)<(qs.length:Int))=true:=by simp;omega
     obtain⟨x,g1,o1,hx,rfl,cx,-,-,-,-⟩:=(H3.o.chg (HC0.o.trans HC.o) iF).getI hil;have HX:=jh hx;clear hx;go_upto_region 12 with (fail)
     go_cut [83] from 61 to 83 (λv wx=>v=.bool (rS st.length x)/\wx=wo)
     case first=>as_aux_lemma =>
      obtain⟨b1,e1⟩:∃b,decide (x<0)=b:=⟨_,rfl⟩;obtain⟨b2,e2⟩:∃b,decide ((st.length:Int)-1<=x)=b:=⟨_,rfl⟩;have HB:Hd (rS st.length x=(b1 || b2)):=jh (by rw[<-e1,<-e2];rfl);rcases lad2 b1 b2 with rfl|⟨rfl,rfl⟩|⟨rfl,rfl⟩ <;>
      (go_wp2_with fail;go_meet;exact⟨by rw[HB.o];rfl,rfl⟩)
     case rest=>as_aux_lemma =>
      obtain⟨rfl,rfl⟩:=hcut;obtain⟨b,hb⟩:∃b,rS st.length x=b:=⟨_,rfl⟩;rw[hb];have HB:=jh hb;clear hb;cases b with
      | true =>
       have HF:Hd (R=false):=jh (HNX.o _ HIF.o.1 (λ⟨_,_,h,_⟩=>by
        have hb:=HB.o;rw[h x (Az2 HX.o)]at hb;cases hb))
       go_wp2;go_ret
       exact⟨by rw[HF.o];rfl,HC0.o.trans HC.o⟩
      | false =>
       have HNN:Hd (∀(j:Nat) z,j<i+1->qs[j]?=some z->rS st.length z=false):=jh (λj z hj hz=>by
        by_cases hji:j=i
        .subst hji
         rw[HX.o]at hz;rw[<-Az3 hz];exact HB.o
        .exact HFI.o j z oM hz)
       go_wp2;go_roundw
       case rel=>first|exact⟨i+1,oM,by go_num,HNN.o,HC.o⟩|((repeat apply Ay7);exact⟨⟨i+1,oM,by go_num,HNN.o,HC.o⟩,rfl⟩)
       case measure=>simp[intOf];omega
    .obtain rfl:i=qs.length:=oM
     have b9:decide ((qs.length:Int)<(qs.length:Int))=false:=sI;have HS2:Hd (∀x∈qs,rS st.length x=false):=jh (λx hx=>by
      obtain⟨j,hj⟩:=Ax7 hx;exact HFI.o j x (Az1.1 hj).1 hj)
     clear HFI;go_wp2_with fail
     obtain⟨wp,rfl⟩:∃x:World,x=wo:=⟨_,rfl⟩
     go_loopw [6,7] (λkv q wr=>∃(i k:Nat),i<=st.length/\q=.int .i64 i/\kv=.int .i64 k/\(∀(j:Nat) s,j<i->st[j]?=some s->stOk st.length ss.length qs.length s=true)/\DecsAt st ds i k/\Cf w0 wr) (λ_ q _=>st.length-(intOf q).toNat)
     case atStart=>exact⟨0,0,oM,rfl,rfl,λj d h=>absurd h (Ax _),DecsAt.start _ _,HC.o⟩
     case round =>
      clear q0 q1 q2 q3 q4 HC;obtain⟨i,k,hi,rfl,rfl,hfi,hda,hc⟩:=hrel;obtain⟨wo,rfl⟩:∃x:World,x=wr:=⟨_,rfl⟩;have HFI:=jh hfi;have HDA:=jh hda;have HC:=jh hc;have hkd:=hda.l;obtain⟨q0,q1,q2,q3,q4⟩:=HA0.o wo hc;clear hfi hc hda;by_cases hil:i<st.length
      .have b9:decide ((i:Int)<(st.length:Int))=true:=by simp;omega
       obtain⟨⟨yr,⟨ea,en,ec⟩,⟨ta,tn,tc⟩⟩,⟨sr,ed,ts⟩,g,o,hd,⟨⟨hy1,⟨y1,y2⟩,hye,hyt⟩,hb1,hb2⟩,rfl,-,hgl,-,hcells⟩:=((zJ.good (bR.good dStR.good)).chg H0.o (HC0.o.trans HC.o) iF).get3 (f:=jA) rfl hil rfl;simp only at hy1 y1 y2 hye hyt hb1 hb2;subst hy1;obtain⟨rfl,-⟩:=hye.len;obtain⟨rfl,-⟩:=hyt.len;obtain⟨s0,s1,s2⟩:=hcells _ _ _ rfl;simp only[slV]at s1 s2;have HD:=jh hd;have HNS:Hd (stOk st.length ss.length qs.length (yr,ed,ts)=false->R=false):=jh (λhf=>HNX.o _ HIF.o.1 (λ⟨_,_,_,h,_⟩=>by
        rw[h _ (Az2 hd)]at hf;cases hf))
       have HKE:Hd (∀e∈ed,0<=e.1):=jh (HKD.o _ (Az2 hd));have HYE:Hd (∀X,Cf wo X->zJ cJ eqR X S (ea,ed.length,ec) ed):=jh (λX hx=>zJ.of (hye.chg hx iF));have HYT:Hd (∀X,Cf wo X->intE.InS X S (ta,ts.length,tc) ts):=jh (λX hx=>hyt.chg hx iF);obtain⟨bs,hbs⟩:∃b,b=wo.heap.size:=⟨_,rfl⟩;obtain⟨w2,hw2⟩:∃W,W=wo.alloc (.cells #[.int .i64 yr,.slice ea ed.length ec,.slice ta ts.length tc] 121):=⟨_,rfl⟩;have HC2:Hd (Cf wo w2):=jh (by rw[hw2];exact (Chg.refl _ _).alloc _);have HC02:Hd (Cf w0 w2):=jh (HC.o.trans HC2.o);have HQ:Hd (∀X,Cf w2 X->X.cell? ⟨bs,0,none⟩=some (.int .i64 yr)/\X.cell? ⟨bs,1,none⟩=some (.slice ea ed.length ec)/\X.cell? ⟨bs,2,none⟩=some (.slice ta ts.length tc)/\X.cell? ⟨w.heap.size,0,none⟩=some (.slice (some ⟨g,o,none⟩) st.length c0)/\X.cell? ⟨w.heap.size,1,none⟩=some (.slice a1 ss.length c1)/\X.cell? ⟨w.heap.size,3,none⟩=some (.slice a3 qs.length c3)/\X.cell? ⟨w.heap.size,4,none⟩=some (.slice a4 ds.length c4)):=jh (λX hx=>by
        have h1:∀j v,(#[.int .i64 yr,.slice ea ed.length ec,.slice ta ts.length tc]:Array Value)[j]?=some v->X.cell? ⟨bs,j,none⟩=some v:=λj v hv=>hx.cellS (by rw[hw2];exact zE _ hbs hv) iD
        obtain⟨z0,z1,z2,z3,z4⟩:=HA0.o X (HC02.o.trans hx);exact⟨h1 0 _ rfl,h1 1 _ rfl,h1 2 _ rfl,z0,z1,z3,z4⟩)
       clear hd hye hyt hcells;go_upto_region 19 with (fail)
       rw[<-hw2,<-hbs];clear hw2 hbs s0 s1 s2 q0 q1 q2 q3 q4;obtain⟨p0,p1,p2,p3,p4,p5,p6⟩:=HQ.o w2 cR;obtain⟨b1,e1⟩:∃b,decide (yr<0)=b:=⟨_,rfl⟩;obtain⟨b2,e2⟩:∃b,decide ((ss.length:Int)<=yr)=b:=⟨_,rfl⟩;by_cases hrl:0<=yr/\yr<(ss.length:Int)
       rotate_left
       .have HF:Hd (R=false):=jh (HNS.o (by
         simp only[stOk,Bool.and_eq_false_iff,decide_eq_false_iff_not];omega))
        have hb:b1=true\/b1=false/\b2=true:=by
         rcases lad2 b1 b2 with rfl|⟨rfl,rfl⟩|⟨rfl,rfl⟩
         .exact .inl rfl
         .exact .inr ⟨rfl,rfl⟩
         .exact (hrl ⟨by simpa using e1,by simpa using e2⟩).elim
        clear hrl;rcases hb with rfl|⟨rfl,rfl⟩ <;> (go_wp2;go_ret;exact⟨by rw[HF.o];rfl,HC0.o.trans HC02.o⟩)
       obtain rfl:b1=false:=(by rw[<-e1];exact decide_eq_false oM);obtain rfl:b2=false:=(by rw[<-e2];exact decide_eq_false oM);have HRL:=jh hrl;clear hrl;go_wp2_with fail
       go_loopw [9] (λq wr=>∃(x:Nat),x<=ed.length/\q=.int .i64 x/\(∀(j:Nat) e,j<x->ed[j]?=some e->xY st.length ss.length qs.length e=false/\(0<ts.length->rN e=false))/\Cf w2 wr) (λq _=>ed.length-(intOf q).toNat)
       case atStart=>exact⟨0,oM,rfl,λj d h=>absurd h (Ax _),Chg.refl _ _⟩
       case round =>
        clear p0 p1 p2 p3 p4 p5 p6;obtain⟨x,hx,rfl,hfx,hcx⟩:=hrel;obtain⟨wx,rfl⟩:∃x:World,x=wr:=⟨_,rfl⟩;have HFX:=jh hfx;have HCX:=jh hcx;obtain⟨p0,p1,p2,p3,p4,p5,p6⟩:=HQ.o wx hcx;clear hfx hcx;by_cases hxl:x<ed.length
        .have b10:decide ((x:Int)<(ed.length:Int))=true:=by simp;omega
         obtain⟨⟨kd,wh,tv⟩,d',gx,ox,hxe,hxd,rfl,-,hgx,⟨⟨z1,z2⟩,⟨z3,z4⟩,⟨z5,z6⟩⟩,hcx⟩:=(HYE.o wx (HC2.o.trans HCX.o)).get3 (f:=zLc) rfl hxl rfl;obtain rfl:(kd,wh,tv)=d':=hxd;obtain⟨cx,cy,cz⟩:=hcx _ _ _ rfl;simp only at cx cy cz z1 z2 z3 z4 z5 z6;have hk0:0<=kd:=HKE.o _ (Az2 hxe);have HKN:Hd (xY st.length ss.length qs.length (kd,wh,tv)=kneB st.length ss.length qs.length (kd,wh,tv)):=jh (zGz hk0);have HXE:=jh hxe;obtain⟨be,hbe⟩:∃b,b=wx.heap.size:=⟨_,rfl⟩;obtain⟨w4,hw4⟩:∃W,W=wx.alloc (.cells #[.int .i64 kd,.int .i64 wh,.int .i64 tv] 123):=⟨_,rfl⟩;have HC4:Hd (Cf wx w4):=jh (by rw[hw4];exact (Chg.refl _ _).alloc _);have HC24:Hd (Cf w2 w4):=jh (HCX.o.trans HC4.o);have hr:∀j v,(#[.int .i64 kd,.int .i64 wh,.int .i64 tv]:Array Value)[j]?=some v->w4.cell? ⟨be,j,none⟩=some v:=λj v hv=>by rw[hw4];exact zE _ hbe hv
         have HR:=jh hr;clear hxe hcx hr;go_upto_region 25 with (fail)
         rw[<-hw4,<-hbe];clear hw4 hbe cx cy cz p0 p1 p2 p3 p4 p5 p6;obtain⟨p0,p1,p2,p3,p4,p5,p6⟩:=HQ.o w4 HC24.o;have r0:=HR.o 0 _ rfl;have r1:=HR.o 1 _ rfl;have r2:=HR.o 2 _ rfl
         go_cut [176] from 105 to 185 (λv wx=>v=.bool (kneB st.length ss.length qs.length (kd,wh,tv))/\wx=w4)
         case first=>as_aux_lemma =>
          have e0:decide (kd<0)=false:=decide_eq_false oM;obtain⟨b1,e1⟩:∃b,decide (3<kd)=b:=⟨_,rfl⟩;obtain⟨b2,e2⟩:∃b,decide (wh<0)=b:=⟨_,rfl⟩;obtain⟨b3,e3⟩:∃b,decide (tv<0)=b:=⟨_,rfl⟩;obtain⟨b4,e4⟩:∃b,decide ((st.length:Int)<=tv)=b:=⟨_,rfl⟩;obtain⟨k0,n0⟩:∃b,(kd == 0)=b:=⟨_,rfl⟩;obtain⟨k2,n2⟩:∃b,(kd == 2)=b:=⟨_,rfl⟩;obtain⟨k3,n3⟩:∃b,(kd == 3)=b:=⟨_,rfl⟩;obtain⟨x0,m0⟩:∃b,(wh != 0)=b:=⟨_,rfl⟩;obtain⟨x2,m2⟩:∃b,decide ((ss.length:Int)<=wh)=b:=⟨_,rfl⟩;obtain⟨x3,m3⟩:∃b,decide ((qs.length:Int)<=wh)=b:=⟨_,rfl⟩;have HB:Hd (kneB st.length ss.length qs.length (kd,wh,tv)=(b1 || (b2 || (b3 || (b4 || ((k0 && x0) || ((k2 && x2) || (k3 && x3)))))))):=jh (by rw[<-e1,<-e2,<-e3,<-e4,<-n0,<-n2,<-n3,<-m0,<-m2,<-m3];rfl);have hkk:k0=false/\k2=false/\k3=false\/k0=true/\k2=false/\k3=false\/k0=false/\k2=true/\k3=false\/k0=false/\k2=false/\k3=true:=by
           rw[<-n0,<-n2,<-n3];simp only[beq_eq_false_iff_ne,beq_iff_eq];omega
          have hb:b1=true\/b1=false/\(b2=true\/b2=false/\(b3=true\/b3=false/\(b4=true\/b4=false/\(k0=false/\k2=false/\k3=false\/k0=true/\k2=false/\k3=false/\x0=true\/k0=true/\k2=false/\k3=false/\x0=false\/k0=false/\k2=true/\k3=false/\x2=true\/k0=false/\k2=true/\k3=false/\x2=false\/k0=false/\k2=false/\k3=true/\x3=true\/k0=false/\k2=false/\k3=true/\x3=false)))):=by
           rcases lad4 b1 b2 b3 b4 with rfl|⟨rfl,rfl⟩|⟨rfl,rfl,rfl⟩|⟨rfl,rfl,rfl,rfl⟩|⟨rfl,rfl,rfl,rfl⟩
           .exact .inl rfl
           .exact .inr ⟨rfl,.inl rfl⟩
           .exact .inr ⟨rfl,.inr ⟨rfl,.inl rfl⟩⟩
           .exact .inr ⟨rfl,.inr ⟨rfl,.inr ⟨rfl,.inl rfl⟩⟩⟩
           .refine .inr ⟨rfl,.inr ⟨rfl,.inr ⟨rfl,.inr ⟨rfl,?_⟩⟩⟩⟩
            rcases hkk with ⟨rfl,rfl,rfl⟩|⟨rfl,rfl,rfl⟩|⟨rfl,rfl,rfl⟩|⟨rfl,rfl,rfl⟩ <;> cases x0 <;> cases x2 <;> cases x3 <;> simp
          clear hkk;rcases hb with rfl|⟨rfl,rfl|⟨rfl,rfl|⟨rfl,rfl|⟨rfl,⟨rfl,rfl,rfl⟩|⟨rfl,rfl,rfl,rfl⟩|⟨rfl,rfl,rfl,rfl⟩|⟨rfl,rfl,rfl,rfl⟩|⟨rfl,rfl,rfl,rfl⟩|⟨rfl,rfl,rfl,rfl⟩|⟨rfl,rfl,rfl,rfl⟩⟩⟩⟩⟩ <;>
          (go_wp2_with fail;go_meet;exact⟨by rw[HB.o];rfl,rfl⟩)
         case rest=>as_aux_lemma =>
          obtain⟨rfl,rfl⟩:=hcut;rw[<-HKN.o];obtain⟨b,hb⟩:∃b,xY st.length ss.length qs.length (kd,wh,tv)=b:=⟨_,rfl⟩;rw[hb];have HB:=jh hb;clear hb HKN;cases b with
          | true =>
           have HF:Hd (R=false):=jh (HNS.o (by
            have:ed.any (xY st.length ss.length qs.length)=true:=Au5.2 ⟨_,Az2 HXE.o,HB.o⟩;simp[stOk,kU,this]))
           go_wp2;go_ret
           exact⟨by rw[HF.o];rfl,HC0.o.trans (HC02.o.trans HC24.o)⟩
          | false =>
           obtain⟨t0,u0⟩:∃b,decide ((0:Int)<(ts.length:Int))=b:=⟨_,rfl⟩;have u0':decide (0<ts.length)=t0:=(by rw[<-u0];exact decide_eq_decide.2 oM);obtain⟨k0,n0⟩:∃b,(kd != 0)=b:=⟨_,rfl⟩;have hb:t0=true/\k0=true\/t0=false\/t0=true/\k0=false:=(by cases t0 <;> cases k0 <;> simp);rcases hb with ⟨rfl,rfl⟩|hb
           .have HF:Hd (R=false):=jh (HNS.o (by
             have h1:ed.any rN=true:=Au5.2 ⟨_,Az2 HXE.o,by simpa [rN] using n0⟩;have h2:decide (ts.length=0)=false:=decide_eq_false (by have:=of_decide_eq_true u0';omega);simp only[stOk,kU,h1,h2];simp))
            go_wp2;go_ret
            exact⟨by rw[HF.o];rfl,HC0.o.trans (HC02.o.trans HC24.o)⟩
           .have HNN:Hd (∀(j:Nat) e,j<x+1->ed[j]?=some e->xY st.length ss.length qs.length e=false/\(0<ts.length->rN e=false)):=jh (λj e hj he=>by
             by_cases hjx:j=x
             .subst hjx
              rw[HXE.o]at he;rw[<-Az3 he];refine⟨HB.o,λh=>?_⟩;rcases hb with rfl|⟨rfl,rfl⟩
              .exact (of_decide_eq_false u0' h).elim
              .simpa [rN] using n0
             .exact HFX.o j e oM he)
            rcases hb with rfl|⟨rfl,rfl⟩ <;>
            ( go_wp2
              go_roundw
              case rel=>first|exact⟨x+1,oM,by go_num,HNN.o,HC24.o⟩|((repeat apply Ay7);exact⟨⟨x+1,oM,by go_num,HNN.o,HC24.o⟩,rfl⟩)
              case measure=>simp[intOf];omega )
        .obtain rfl:x=ed.length:=oM
         have b10:decide ((ed.length:Int)<(ed.length:Int))=false:=sI;have HED:Hd (ed.any (xY st.length ss.length qs.length)=false):=jh (by
          rw[Aw1];intro e he;obtain⟨j,hj⟩:=Ax7 he;rw[(HFX.o j e (Az1.1 hj).1 hj).1];exact Au1)
         have HEF:Hd (0<ts.length->ed.any rN=false):=jh (λh=>by
          rw[Aw1];intro e he;obtain⟨j,hj⟩:=Ax7 he;rw[(HFX.o j e (Az1.1 hj).1 hj).2 h];exact Au1)
         have HFI2:Hd (stOk st.length ss.length qs.length (yr,ed,ts)=true->∀(j:Nat) s,j<i+1->st[j]?=some s->stOk st.length ss.length qs.length s=true):=jh (λhf j s hj hs=>by
          by_cases hji:j=i
          .subst hji
           rw[HD.o]at hs;rw[<-Az3 hs];exact hf
          .exact HFI.o j s oM hs)
         have HCZ:Hd (Cf w0 wx):=jh (HC02.o.trans HCX.o);clear HFX;by_cases ht0:ts.length=0
         .have u1:((ts.length:Int) == 0)=true:=by simp[ht0]
          have u1':(ts.length == 0)=true:=(by simp[ht0]);have HOK:=jh (HFI2.o (by
           have:=HRL.o;simp[stOk,kU,HED.o,ht0,this.1,this.2]))
          have HDN:=jh (HDA.o.skip HD.o ht0);clear ht0;go_wp2;go_roundw
          case rel=>first|exact⟨i+1,k,oM,by go_num,rfl,HOK.o,HDN.o,HCZ.o⟩|((repeat apply Ay7);exact⟨⟨i+1,k,oM,by go_num,rfl,HOK.o,HDN.o,HCZ.o⟩,rfl⟩)
          case measure=>simp[intOf];omega
         have ht1:0<ts.length:=oM;have u1:((ts.length:Int) == 0)=false:=(by rw[beq_eq_false_iff_ne];omega);have u1':(ts.length == 0)=false:=(by rw[beq_eq_false_iff_ne];omega);obtain⟨z,hz⟩:∃z:Option Int,ds[k]?=z:=⟨_,rfl⟩;have HZ:=jh hz;obtain⟨v1,x1⟩:∃b,decide ((ts.length:Int)<2)=b:=⟨_,rfl⟩;have x1':decide (ts.length<2)=v1:=(by rw[<-x1];exact decide_eq_decide.2 oM);obtain⟨v2,x2⟩:∃b,((ts.length:Int) != (ed.length:Int))=b:=⟨_,rfl⟩;have x2':(ts.length != ed.length)=v2:=(by rw[<-x2,bneC]);obtain⟨v3,x3⟩:∃b,decide ((ds.length:Int)<=(k:Int))=b:=⟨_,rfl⟩;have x3':decide (ds.length<=k)=v3:=(by rw[<-x3];exact decide_eq_decide.2 oM);obtain⟨v4,x4⟩:∃b,(z.getD 0 != (i:Int))=b:=⟨_,rfl⟩;have HTS:Hd (v1=true\/v2=true->stOk st.length ss.length qs.length (yr,ed,ts)=false):=jh (λh=>by
          have h2:(decide (ts.length=ed.length) && decide (2<=ts.length))=false:=by
           rw[<-x1',<-x2']at h;simp only[Bool.and_eq_false_iff,decide_eq_false_iff_not];simp only[decide_eq_true_eq,bne_iff_ne]at h;omega
          simp[stOk,kU,ht0,h2])
         have HTK:Hd (v1=false/\v2=false->stOk st.length ss.length qs.length (yr,ed,ts)=!ts.any (λi=>!xJ st.length i)):=jh (λh=>by
          have h2:(decide (ts.length=ed.length) && decide (2<=ts.length))=true:=by
           rw[<-x1',<-x2']at h;simp only[Ay2,decide_eq_true_eq];simp only[decide_eq_false_iff_not,bne_eq_false_iff_eq]at h;omega
          have:=HRL.o;simp[stOk,kU,HED.o,HEF.o ht1,ht0,h2,this.1,this.2])
         have HDD:Hd (v3=true\/v4=true->R=false):=jh (λh=>HNX.o _ HIF.o.1 (λ⟨_,_,_,_,he⟩=>HDA.o.no HD.o ht1 (by
          rw[HZ.o];rintro rfl;rw[<-x3',<-x4]at h;have:=(Az1.1 HZ.o).1;rcases h with h|h
          .have:=of_decide_eq_true h;omega
          .simp at h) he))
         have HDN:Hd (v3=false/\v4=false->DecsAt st ds (i+1) (k+1)):=jh (λ⟨h3,h4⟩=>HDA.o.next HD.o ht1 (by
          rw[<-x3']at h3;have h3:=of_decide_eq_false h3;rw[Az oM]at hz ⊢;rw[<-hz]at x4;rw[<-x4]at h4;simpa using h4))
         have HDC:Hd (v3=false->∃x g o,z=some x/\a4=some ⟨g,o,none⟩/\wx.cell? ⟨g,o+k,none⟩=some (.int .i64 x)/\k<ds.length):=jh (λh3=>by
          rw[<-x3']at h3;have h3:=of_decide_eq_false h3;obtain⟨x,g1,o1,hx,ha,cx,-,-,-,-⟩:=(H4.o.chg (HC0.o.trans HCZ.o) iF).getI (show k<ds.length by omega);exact⟨x,g1,o1,by rw[<-hz,hx],ha,cx,oM⟩)
         clear hz HEF HED ht0 ht1;go_upto_region 30 with (fail)
         go_cut [218] from 84 to 242 (λv w'=>v=.bool (v1 || (v2 || (v3 || v4)))/\w'=wx)
         case first=>as_aux_lemma =>
          rcases lad3 v1 v2 v3 with rfl|⟨rfl,rfl⟩|⟨rfl,rfl,rfl⟩|⟨rfl,rfl,rfl⟩
          .go_wp2_with fail
           go_meet
           exact⟨rfl,rfl⟩
          .go_wp2_with fail
           go_meet
           exact⟨rfl,rfl⟩
          .go_wp2_with fail
           go_meet
           exact⟨rfl,rfl⟩
          .obtain⟨x,gd,od,rfl,rfl,cd,hkl⟩:=HDC.o rfl
           simp only[Option.getD_some]at x4;cases v4 <;> (go_wp2_with fail;go_meet;exact⟨rfl,rfl⟩)
         case rest=>as_aux_lemma =>
          obtain⟨rfl,rfl⟩:=hcut;rcases lad4 v1 v2 v3 v4 with rfl|⟨rfl,rfl⟩|⟨rfl,rfl,rfl⟩|⟨rfl,rfl,rfl,rfl⟩|⟨rfl,rfl,rfl,rfl⟩
          .have HF:Hd (R=false):=jh (HNS.o (HTS.o (.inl rfl)))
           simp only[Bool.true_or];go_wp2;go_ret
           exact⟨by rw[HF.o];rfl,HC0.o.trans HCZ.o⟩
          .have HF:Hd (R=false):=jh (HNS.o (HTS.o (.inr rfl)))
           simp only[Bool.true_or,Au8];go_wp2;go_ret
           exact⟨by rw[HF.o];rfl,HC0.o.trans HCZ.o⟩
          .have HF:Hd (R=false):=jh (HDD.o (.inl rfl))
           simp only[Bool.true_or,Au8];go_wp2;go_ret
           exact⟨by rw[HF.o];rfl,HC0.o.trans HCZ.o⟩
          .have HF:Hd (R=false):=jh (HDD.o (.inr rfl))
           simp only[Au8];go_wp2;go_ret
           exact⟨by rw[HF.o];rfl,HC0.o.trans HCZ.o⟩
          have HOKT:=jh (HTK.o ⟨rfl,rfl⟩);have HDN2:=jh (HDN.o ⟨rfl,rfl⟩);clear HTK HTS HDD HDN HDC;simp only[Au8];go_wp2_with fail
          go_loopw [11] (λq wr=>∃(x:Nat),x<=ts.length/\q=.int .i64 x/\(∀(j:Nat) e,j<x->ts[j]?=some e->xJ st.length e=true)/\Cf w2 wr) (λq _=>ts.length-(intOf q).toNat)
          case atStart=>exact⟨0,oM,rfl,λj d h=>absurd h (Ax _),HCX.o⟩
          case round =>
           clear p0 p1 p2 p3 p4 p5 p6 HCX HCZ;obtain⟨y,hy,rfl,hfy,hcy⟩:=hrel;obtain⟨wy,rfl⟩:∃x:World,x=wr:=⟨_,rfl⟩;have HFY:=jh hfy;have HCX:=jh hcy;obtain⟨p0,p1,p2,p3,p4,p5,p6⟩:=HQ.o wy hcy;have HCZ:Hd (Cf w0 wy):=jh (HC02.o.trans HCX.o);clear hfy hcy;by_cases hyl:y<ts.length
           .have b11:decide ((y:Int)<(ts.length:Int))=true:=by simp;omega
            obtain⟨z,g1,o1,hz,rfl,cz,-,-,-,-⟩:=(HYT.o wy (HC2.o.trans HCX.o)).getI hyl;have HZZ:=jh hz;obtain⟨b1,e1⟩:∃b,decide (z<0)=b:=⟨_,rfl⟩;obtain⟨b2,e2⟩:∃b,decide ((st.length:Int)<=z)=b:=⟨_,rfl⟩;have HSB:Hd (xJ st.length z=!(b1 || b2)):=jh (by rw[<-e1,<-e2,Au6];simp[xJ]);clear hz;rcases lad2 b1 b2 with hb|hb|⟨rfl,rfl⟩
            .subst hb
             have HF:Hd (R=false):=jh (HNS.o (by
              rw[HOKT.o];have:ts.any (λi=>!xJ st.length i)=true:=Au5.2 ⟨_,Az2 HZZ.o,by rw[HSB.o];rfl⟩;rw[this];rfl))
             go_wp2;go_ret
             exact⟨by rw[HF.o];rfl,HC0.o.trans HCZ.o⟩
            .obtain⟨rfl,rfl⟩:=hb
             have HF:Hd (R=false):=jh (HNS.o (by
              rw[HOKT.o];have:ts.any (λi=>!xJ st.length i)=true:=Au5.2 ⟨_,Az2 HZZ.o,by rw[HSB.o];rfl⟩;rw[this];rfl))
             go_wp2;go_ret
             exact⟨by rw[HF.o];rfl,HC0.o.trans HCZ.o⟩
            .have HNN:Hd (∀(j:Nat) e,j<y+1->ts[j]?=some e->xJ st.length e=true):=jh (λj e hj he=>by
              by_cases hjy:j=y
              .subst hjy
               rw[HZZ.o]at he;rw[<-Az3 he,HSB.o];rfl
              .exact HFY.o j e oM he)
             go_wp2;go_roundw
             case rel=>first|exact⟨y+1,oM,by go_num,HNN.o,HCX.o⟩|((repeat apply Ay7);exact⟨⟨y+1,oM,by go_num,HNN.o,HCX.o⟩,rfl⟩)
             case measure=>simp[intOf];omega
           .obtain rfl:y=ts.length:=oM
            have b11:decide ((ts.length:Int)<(ts.length:Int))=false:=sI;have HOK:=jh (HFI2.o (by
             rw[HOKT.o];have:ts.any (λi=>!xJ st.length i)=false:=by
              rw[Aw1];intro e he;obtain⟨j,hj⟩:=Ax7 he;rw[HFY.o j e (Az1.1 hj).1 hj];exact Au1
             rw[this];rfl))
            go_wp2;go_roundw
            case rel=>first|exact⟨i+1,k+1,oM,by go_num,by go_num,HOK.o,HDN2.o,HCZ.o⟩|((repeat apply Ay7);exact⟨⟨i+1,k+1,oM,by go_num,by go_num,HOK.o,HDN2.o,HCZ.o⟩,rfl⟩)
            case measure=>simp[intOf];omega
      .obtain rfl:i=st.length:=oM
       have b9:decide ((st.length:Int)<(st.length:Int))=false:=sI;have HRR:Hd (R=decide (k=ds.length)):=jh (by
        rw[HDA.o.done,Au6,decide_eq_true_eq];refine⟨λh=>(HIF.o.1 h).2.2.2.2,λh=>HIF.o.2 ⟨HSP.o,HS1.o,HS2.o,λs hs=>?_,h⟩⟩;obtain⟨j,hj⟩:=Ax7 hs;exact HFI.o j s (Az1.1 hj).1 hj)
       have e1:((k:Int) == (ds.length:Int))=decide (k=ds.length):=beqD _ _;have e1':(k == ds.length)=decide (k=ds.length):=(by rw[beqC,beqD]);obtain⟨b,hb⟩:∃b,decide (k=ds.length)=b:=⟨_,rfl⟩;rw[hb]at HRR e1 e1';clear hb;go_wp2;go_ret
       exact⟨by rw[HRR.o];rfl,HC0.o.trans HC.o⟩
theorem zE3 (t:LexD) (rs cs ns es:Sl) (B:Nat) (w:World) (h:TabIn w B rs cs ns es t) (hf:Fair t) :
  Calls Tryz.prog 44 #[lexV rs cs ns es] w λe w'=>e=.returned (.bool (mayT t))/\Cf w w':=by
 obtain⟨ra,rn,rc⟩:=rs;obtain⟨ca,cn,cc⟩:=cs;obtain⟨na,nn,nc⟩:=ns;obtain⟨ea,en,ec⟩:=es;obtain⟨hR,hC,hN,hE⟩:=h;obtain⟨fr,fc,fn,fe,fl⟩:=hf;obtain⟨rfl,hr1⟩:=hR.len;obtain⟨rfl,hc1⟩:=hC.len;obtain⟨rfl,hn1⟩:=hN.len;obtain⟨rfl,he1⟩:=hE.len;have HR:=jh hR;have HC:=jh hC;have HN:=jh hN;have HE:=jh hE;have HL:=jh fl;obtain⟨wt,hwt⟩:∃x,x=w.alloc (.cells #[.slice ra t.r.length rc,.slice ca t.c.length cc,.slice na t.n.length nc,.slice ea t.e.length ec] 37):=⟨_,rfl⟩;have HCT:Hd (Cf w wt):=jh (by rw[hwt];exact (Chg.refl _ _).alloc _);have HT0:Hd (∀wx,Cf wt wx->wx.cell? ⟨w.heap.size,0,none⟩=some (.slice ra t.r.length rc)/\wx.cell? ⟨w.heap.size,1,none⟩=some (.slice ca t.c.length cc)/\wx.cell? ⟨w.heap.size,2,none⟩=some (.slice na t.n.length nc)/\wx.cell? ⟨w.heap.size,3,none⟩=some (.slice ea t.e.length ec)) :=
  jh (λwx hx=>by subst hwt;exact (zQ5 w (ra,t.r.length,rc) (ca,t.c.length,cc) (na,t.n.length,nc) (ea,t.e.length,ec) 37).chg hx iD)
 have HWT:=jh hwt;clear hR hC hN hE fl hwt;obtain⟨q0,q1,q2,q3⟩:=HT0.o wt cR;show Calls Tryz.prog 44 #[.agg #[.slice ra t.r.length rc,.slice ca t.c.length cc,.slice na t.n.length nc,.slice ea t.e.length ec]] w _;by_cases g1:t.c.length=t.r.length
 .have d1:((t.c.length:Int) != (t.r.length:Int))=false:=by simp[g1]
  have HG1:=jh g1;clear g1;by_cases g2:0<t.n.length
  .have d2:(t.n.length == 0)=false:=by rw[beq_eq_false_iff_ne];omega
   have d2':((t.n.length:Int) == 0)=false:=(by rw[beq_eq_false_iff_ne];omega);by_cases g3:t.e.length=t.n.length
   .have d3:((t.n.length:Int) != (t.e.length:Int))=false:=by simp[g3]
    have HG3:=jh g3;clear g3;go_enter Tryz.func44,Tryz.ntmps44
    go_upto_region 1 with (fail)
    rw[<-HWT.o];go_wp2
    go_loopw [3,4] (λmv q wr=>∃k:Nat,k<=t.r.length/\q=.int .i64 k/\mv=.int .i64 (xS (t.c.take k))/\(∀j,j<k->apOk t.r j=true)/\(∀(j:Nat) c,j<k->t.c[j]?=some c->0<=c/\c<t.r.length)/\Cf wt wr) (λ_ q _=>t.r.length-(intOf q).toNat)
    case atStart=>exact⟨0,oM,rfl,by simp[xS],λj h=>absurd h (Ax _),λj y h=>absurd h (Ax _),Chg.refl _ _⟩
    case round =>
     obtain⟨k,hk,rfl,hmv,ha,hb,hc⟩:=hrel;have HA:=jh ha;have HB:=jh hb;have HCW:=jh hc;clear ha hb hc q0 q1 q2 q3;obtain⟨v,hv⟩:∃x,xS (t.c.take k)=x:=⟨_,rfl⟩;rw[hv]at hmv;subst hmv;have HV:=jh hv;have hv0:0<=v:=(by rw[<-hv];exact tW _);have hv1:v<=t.r.length:=by
      rw[<-hv];refine fY oM (λc hc=>?_);obtain⟨j,hj⟩:=Ax7 hc;have hjk:=(Az1.1 hj).1;rw[Ax1]at hjk;rw[List.getElem?_take_of_lt oM]at hj;exact (HB.o j c oM hj).2
     clear hv;obtain⟨q0,q1,q2,q3⟩:=HT0.o wr HCW.o;by_cases hkl:k<t.r.length
     .obtain⟨x,y,gr,og,hx,hra,c0,c1,hx32,hy32,-,-⟩:=(HR.o.same (HCT.o.trans HCW.o)).getR hkl
      obtain⟨c,gc,oc,hxc,hca,c2,z0,z1,-,-⟩:=(HC.o.same (HCT.o.trans HCW.o)).getI (show k<t.c.length by rw[HG1.o];exact hkl);subst hra hca;have HX:=jh hx;have HXC:=jh hxc;have HQA:=jh (λ(wx:World) (hx:Cf wr wx)=>(⟨HT0.o wx (HCW.o.trans hx),hx.cellS c0 iD,hx.cellS c1 iD,hx.cellS c2 iD⟩:(wx.cell? ⟨w.heap.size,0,none⟩=some (.slice (some ⟨gr,og,none⟩) t.r.length rc)/\wx.cell? ⟨w.heap.size,1,none⟩=some (.slice (some ⟨gc,oc,none⟩) t.c.length cc)/\wx.cell? ⟨w.heap.size,2,none⟩=some (.slice na t.n.length nc)/\wx.cell? ⟨w.heap.size,3,none⟩=some (.slice ea t.e.length ec))/\wx.cell? ⟨gr,og+k * 2,none⟩=some (.int .i32 x)/\wx.cell? ⟨gr,og+k * 2+1,none⟩=some (.int .i32 y)/\wx.cell? ⟨gc,oc+k,none⟩=some (.int .i64 c)));clear hx hxc c0 c1 c2 q0 q1 q2 q3;have b9:decide ((k:Int)<(t.r.length:Int))=true:=sO;have hkc:k<t.c.length:=(by rw[HG1.o];exact hkl);obtain⟨⟨q0,q1,q2,q3⟩,-,-,-⟩:=HQA.o wr cR;by_cases h1:y<x
      .have d1:decide (y<x)=true:=by simpa using h1
       have HF:Hd (mayT t=false):=jh (uU (λhm=>by
        have h2:=hm.ap;rw[jL hkl (zJv HX.o h1)]at h2;cases h2))
       go_upto_region 7 with (fail)
       refine ws (λw'=>Cf wr w') ?_;(iterate 52 (first|refine sq ?_|refine rf HQA.o ?_))
       refine zQ ?_;intro w2 hC2;have HC2:=jh (HCW.o.trans hC2);have HC2R:=jh hC2;clear hC2;go_wp2;go_ret
       exact⟨by rw[HF.o];rfl,HCT.o.trans HC2.o⟩
      .have d1:decide (y<x)=false:=by simpa using h1
       by_cases hk0:k=0
       .have HA2:Hd (∀j,j<k+1->apOk t.r j=true):=jh (λj hj=>by
         obtain rfl:j=k:=oM;have h3:=HX.o;subst hk0;exact zG7 h3 oM)
        have d2:decide (0<(k:Int))=false:=sO;have d3:decide (0<k)=false:=sO;clear hk0;by_cases h5:c<0
        .have d5:decide (c<0)=true:=by simpa using h5
         have HF:Hd (mayT t=false):=jh (uU (λhm=>by have:=hm.cb c (Az2 HXC.o);omega));go_upto_region 7 with (fail)
         refine ws (λw'=>Cf wr w') ?_;(iterate 52 (first|refine sq ?_|refine rf HQA.o ?_))
         refine zQ ?_;intro w2 hC2;have HC2:=jh (HCW.o.trans hC2);have HC2R:=jh hC2;clear hC2;go_wp2;go_ret
         exact⟨by rw[HF.o];rfl,HCT.o.trans HC2.o⟩
        .have d5:decide (c<0)=false:=by simpa using h5
         by_cases h6:(t.r.length:Int)<=c
         .have d6:decide ((t.r.length:Int)<=c)=true:=by simpa using h6
          have HF:Hd (mayT t=false):=jh (uU (λhm=>by have:=hm.cb c (Az2 HXC.o);have:=HG1.o;omega));go_upto_region 7 with (fail)
          refine ws (λw'=>Cf wr w') ?_;(iterate 52 (first|refine sq ?_|refine rf HQA.o ?_))
          refine zQ ?_;intro w2 hC2;have HC2:=jh (HCW.o.trans hC2);have HC2R:=jh hC2;clear hC2;go_wp2;go_ret
          exact⟨by rw[HF.o];rfl,HCT.o.trans HC2.o⟩
         .have d6:decide ((t.r.length:Int)<=c)=false:=by simpa using h6
          have HB2:Hd (∀(j:Nat) c,j<k+1->t.c[j]?=some c->0<=c/\c<t.r.length):=jh (λj y hj hy=>by
           by_cases he:j=k
           .subst he;rw[HXC.o]at hy;obtain rfl:=Az3 hy;omega
           .exact HB.o j y oM hy)
          have HNV:Hd (xS (t.c.take (k+1))=if v<c+1 then c+1 else v):=jh (by
           rw[bL HXC.o,HV.o];show max v (c+1)=_
           split <;> omega)
          go_upto_region 7 with (fail)
          refine ws (λw'=>Cf wr w') ?_;(iterate 52 (first|refine sq ?_|refine rf HQA.o ?_))
          refine zQ ?_;intro w2 hC2;have HC2:=jh (HCW.o.trans hC2);have HC2R:=jh hC2;clear hC2;obtain⟨⟨q0,q1,q2,q3⟩,c0,c1,c2⟩:=HQA.o w2 HC2R.o;clear c0 c1;obtain⟨nv,hnv⟩:∃x,(if v<c+1 then c+1 else v)=x:=⟨_,rfl⟩;have HNX:Hd (xS (t.c.take (k+1))=nv):=jh (by rw[HNV.o,hnv]);clear HNV;go_wp2;go_roundw
          case rel=>exact⟨k+1,oM,by go_num,by rw[HNX.o,<-hnv],HA2.o,HB2.o,HC2.o⟩
          case measure=>simp[intOf];omega
       .obtain⟨m,hm⟩:∃m,k=m+1:=⟨k-1,oM⟩
        obtain⟨x',y',g',o',hx',ha',c2,c3,-,hy',-,-⟩:=(HR.o.same (HCT.o.trans HCW.o)).getR (show m<t.r.length by omega);injection ha' with ha';injection ha' with e1 e2;subst e1 e2;have d2:decide (0<(k:Int))=true:=sO;have d3:decide (0<k)=true:=sO;have e4:(k:Int)-1=(m:Int):=oM;have hml:m<t.r.length:=oM;have hm1:(1:Int)<=k:=oM;have HE4:=jh e4;have HW4:Hd (IntKind.i64.wrap (m:Int)=m):=jh (IntWalk.i64_in _ oM);have HAP:Hd (apOk t.r k=decide (y'<x)):=jh (by have:=HX.o;rw[hm]at this ⊢;exact zG8 this hx' oM);have HC3:=jh c3;clear hx' hm e4 c2 c3;by_cases h2:x<=y'
        .have d4:decide (x<=y')=true:=by simpa using h2
         have HF:Hd (mayT t=false):=jh (uU (λhm=>by
          have h2':=hm.ap;rw[jL hkl (by rw[HAP.o];simpa using h2)]at h2';cases h2'))
         go_upto_region 7 with (fail)
         refine ws (λw'=>Cf wr w') ?_;(iterate 52 (first|refine sq ?_|refine rq ?_ (by intro _ w' _ hC;obtain⟨⟨q0,q1,q2,q3⟩,c0,c1,c2⟩:=HQA.o w' hC;have c3:=hC.cellS HC3.o iD;have e4:=HE4.o;have e5:=HW4.o;go_simp;try with_reducible rfl)))
         refine zQ ?_;intro w2 hC2;have HC2:=jh (HCW.o.trans hC2);have HC2R:=jh hC2;clear hC2;go_wp2;go_ret
         exact⟨by rw[HF.o];rfl,HCT.o.trans HC2.o⟩
        .have d4:decide (x<=y')=false:=by simpa using h2
         have HA2:Hd (∀j,j<k+1->apOk t.r j=true):=jh (λj hj=>by
          by_cases he:j=k
          .rw[he,HAP.o];simp;omega
          .exact HA.o j oM)
         by_cases h5:c<0
         .have d5:decide (c<0)=true:=by simpa using h5
          have HF:Hd (mayT t=false):=jh (uU (λhm=>by have:=hm.cb c (Az2 HXC.o);omega));go_upto_region 7 with (fail)
          refine ws (λw'=>Cf wr w') ?_;(iterate 52 (first|refine sq ?_|refine rq ?_ (by intro _ w' _ hC;obtain⟨⟨q0,q1,q2,q3⟩,c0,c1,c2⟩:=HQA.o w' hC;have c3:=hC.cellS HC3.o iD;have e4:=HE4.o;have e5:=HW4.o;go_simp;try with_reducible rfl)))
          refine zQ ?_;intro w2 hC2;have HC2:=jh (HCW.o.trans hC2);have HC2R:=jh hC2;clear hC2;go_wp2;go_ret
          exact⟨by rw[HF.o];rfl,HCT.o.trans HC2.o⟩
         .have d5:decide (c<0)=false:=by simpa using h5
          by_cases h6:(t.r.length:Int)<=c
          .have d6:decide ((t.r.length:Int)<=c)=true:=by simpa using h6
           have HF:Hd (mayT t=false):=jh (uU (λhm=>by have:=hm.cb c (Az2 HXC.o);have:=HG1.o;omega));go_upto_region 7 with (fail)
           refine ws (λw'=>Cf wr w') ?_;(iterate 52 (refine rq ?_ (by intro _ w' _ hC;obtain⟨⟨q0,q1,q2,q3⟩,c0,c1,c2⟩:=HQA.o w' hC;have c3:=hC.cellS HC3.o iD;have e4:=HE4.o;have e5:=HW4.o;go_simp;try with_reducible rfl)))
           refine zQ ?_;intro w2 hC2;have HC2:=jh (HCW.o.trans hC2);have HC2R:=jh hC2;clear hC2;go_wp2;go_ret
           exact⟨by rw[HF.o];rfl,HCT.o.trans HC2.o⟩
          .have d6:decide ((t.r.length:Int)<=c)=false:=by simpa using h6
           have HB2:Hd (∀(j:Nat) c,j<k+1->t.c[j]?=some c->0<=c/\c<t.r.length):=jh (λj y hj hy=>by
            by_cases he:j=k
            .subst he;rw[HXC.o]at hy;obtain rfl:=Az3 hy;omega
            .exact HB.o j y oM hy)
           have HNV:Hd (xS (t.c.take (k+1))=if v<c+1 then c+1 else v):=jh (by
            rw[bL HXC.o,HV.o];show max v (c+1)=_
            split <;> omega)
           go_upto_region 7 with (fail)
           refine ws (λw'=>Cf wr w') ?_;(iterate 52 (refine rq ?_ (by intro _ w' _ hC;obtain⟨⟨q0,q1,q2,q3⟩,c0,c1,c2⟩:=HQA.o w' hC;have c3:=hC.cellS HC3.o iD;have e4:=HE4.o;have e5:=HW4.o;go_simp;try with_reducible rfl)))
           refine zQ ?_;intro w2 hC2;have HC2:=jh (HCW.o.trans hC2);have HC2R:=jh hC2;clear hC2;obtain⟨⟨q0,q1,q2,q3⟩,c0,c1,c2⟩:=HQA.o w2 HC2R.o;clear c0 c1;obtain⟨nv,hnv⟩:∃x,(if v<c+1 then c+1 else v)=x:=⟨_,rfl⟩;have HNX:Hd (xS (t.c.take (k+1))=nv):=jh (by rw[HNV.o,hnv]);clear HNV;go_wp2;go_roundw
           case rel=>exact⟨k+1,oM,by go_num,by rw[HNX.o,<-hnv],HA2.o,HB2.o,HC2.o⟩
           case measure=>simp[intOf];omega
     .obtain rfl:k=t.r.length:=oM
      have b9:decide ((t.r.length:Int)<(t.r.length:Int))=false:=sI;have HV2:Hd (xS t.c=v):=jh (by rw[<-HV.o,<-HG1.o,Ay5]);have HAP:Hd (jN t.r=true):=jh (zC9 HA.o);have HCB:Hd (∀c∈t.c,0<=c/\c<t.c.length):=jh (λc hc=>by
       obtain⟨j,hj⟩:=Ax7 hc;rw[HG1.o];exact HB.o j c (by rw[<-HG1.o];exact (Az1.1 hj).1) hj)
      clear HV HA HB;go_wp2;obtain⟨wo1,rfl⟩:∃wo:World,wo=wr:=⟨_,rfl⟩
      go_loopw [5] (λq wr=>∃k:Nat,(k:Int)<=v/\q=.int .i64 k/\(∀(j:Nat),j<k->hasB j t.c=true)/\Cf wt wr) (λq _=>v.toNat-(intOf q).toNat)
      case atStart=>exact⟨0,oM,rfl,λj h=>absurd h (Ax _),HCW.o⟩
      case round =>
       clear HCW q0 q1 q2 q3;obtain⟨k,hk,rfl,hb,hc⟩:=hrel;have HB:=jh hb;have HCW:=jh hc;clear hb hc;by_cases hkl:(k:Int)<v
       .have b9:decide ((k:Int)<v)=true:=by simpa using hkl
        go_wp2;obtain⟨wo2,rfl⟩:∃wo:World,wo=wr:=⟨_,rfl⟩
        go_loopw [6,7] (λs q wr=>∃j:Nat,j<=t.c.length/\q=.int .i64 j/\s=.bool (hasB k (t.c.take j))/\Cf wt wr) (λ_ q _=>t.c.length-(intOf q).toNat)
        case atStart=>exact⟨0,oM,rfl,rfl,HCW.o⟩
        case round =>
         clear HCW;obtain⟨j,hj,rfl,rfl,hc⟩:=hrel;have HCW:=jh hc;clear hc;obtain⟨q0,q1,q2,q3⟩:=HT0.o wr HCW.o;by_cases hjl:j<t.c.length
         .have b10:decide ((j:Int)<(t.c.length:Int))=true:=by simp;omega
          obtain⟨c,gc,oc,hxc,hca,c2,z0,z1,-,-⟩:=(HC.o.same (HCT.o.trans HCW.o)).getI hjl;subst hca;have HSN:Hd (hasB k (t.c.take (j+1))=(hasB k (t.c.take j) || ((k:Int) == c))):=jh (by unfold hasB;rw[Ay1,hxc,List.any_append];simp);clear hxc;cases hh:hasB k (t.c.take j) with
          | true =>
           rw[hh]at HSN;clear hh;go_wp2;go_roundw
           case rel=>exact⟨j+1,oM,by go_num,by rw[HSN.o];rfl,HCW.o⟩
           case measure=>simp[intOf];omega
          | false =>
           rw[hh]at HSN;clear hh;by_cases hck:c=(k:Int)
           .have d7:(c == (k:Int))=true:=by simpa using hck
            have HS2:Hd (hasB k (t.c.take (j+1))=true):=jh (by rw[HSN.o,hck];simp);clear hck;go_wp2;go_roundw
            case rel=>exact⟨j+1,oM,by go_num,by rw[HS2.o],HCW.o⟩
            case measure=>simp[intOf];omega
           .have d7:(c == (k:Int))=false:=by simpa using hck
            have HS2:Hd (hasB k (t.c.take (j+1))=false):=jh (by rw[HSN.o];simp;omega);clear hck;go_wp2;go_roundw
            case rel=>exact⟨j+1,oM,by go_num,by rw[HS2.o],HCW.o⟩
            case measure=>simp[intOf];omega
         .obtain rfl:j=t.c.length:=oM
          have b10:decide ((t.c.length:Int)<(t.c.length:Int))=false:=sI;rw[Ay5];cases hh:hasB k t.c with
          | true =>
           have HB2:Hd (∀(j:Nat),j<k+1->hasB j t.c=true):=jh (λj hj=>by
            by_cases he:j=k
            .subst he;exact hh
            .exact HB.o j oM)
           clear hh;go_wp2;go_roundw
           case rel=>exact⟨k+1,oM,by go_num,HB2.o,HCW.o⟩
           case measure=>simp[intOf];omega
          | false =>
           have HF:Hd (mayT t=false):=jh (uU (λhm=>by
            have h1:=hm.fill;rw[zC2 (j:=k) (by rw[HV2.o];exact hkl) hh]at h1;cases h1))
           clear hh;go_wp2;go_ret
           exact⟨by rw[HF.o];rfl,HCT.o.trans HCW.o⟩
       .obtain rfl:(k:Int)=v:=oM
        have b9:decide ((k:Int)<(k:Int))=false:=sI;have HFI:Hd (zFn t.c=true):=jh (zEg (λj hj=>HB.o j (by rw[HV2.o]at hj;omega)));go_wp2;obtain⟨wo3,rfl⟩:∃wo:World,wo=wr:=⟨_,rfl⟩
        go_loopw [8] (λq wr=>∃s:Nat,s<=t.n.length/\q=.int .i64 s/\(∀(j:Nat) e l,j<s->t.e[j]?=some e->t.n[j]?=some l->-1<=e/\rowB (k:Int) t.n.length l=true)/\Cf wt wr) (λq _=>t.n.length-(intOf q).toNat)
        case atStart=>exact⟨0,oM,rfl,λj e l h=>absurd h (Ax _),HCW.o⟩
        case round =>
         clear HCW HB;obtain⟨s,hs,rfl,hb,hc⟩:=hrel;have HB:=jh hb;have HCW:=jh hc;clear hb hc;obtain⟨q0,q1,q2,q3⟩:=HT0.o wr HCW.o;by_cases hsl:s<t.n.length
         .have b11:decide ((s:Int)<(t.n.length:Int))=true:=by simp;omega
          have hse:s<t.e.length:=(by rw[HG3.o];exact hsl);obtain⟨e,ge,oe,hxe,hea,c2,z0,z1,-,-⟩:=(HE.o.same (HCT.o.trans HCW.o)).getI hse;subst hea;obtain⟨l,gn,on,la,lc,hxl,hna,n0,hin,-,-⟩:=(HN.o.same (HCT.o.trans HCW.o)).getIn hsl;subst hna;have HXE:=jh hxe;have HXL:=jh hxl;have HIN:=jh hin;have hlc:l.length<=lc:=hin.2.1;have hll:=HL.o l (Az2 hxl);clear hxe hxl hin;by_cases h1:e < -1
          .have d1:decide (e < -1)=true:=by simpa using h1
           have HF:Hd (mayT t=false):=jh (uU (λhm=>by have:=hm.eb e (Az2 HXE.o);omega));go_wp2;go_ret
           exact⟨by rw[HF.o];rfl,HCT.o.trans HCW.o⟩
          .have d1:decide (e < -1)=false:=by simpa using h1
           by_cases h2:l.length=k
           .have HEV:Hd (∀e',t.e[s]?=some e'->-1<=e'):=jh (λe' he=>by rw[HXE.o]at he;obtain rfl:=Az3 he;omega)
            subst h2;have d2:((l.length:Int) != (l.length:Int))=false:=sI;go_wp2;clear c2 q0 q1 q3 HXE;have HQA:=jh (λ(wx:World) (hx:Cf wt wx)=>HT0.o wx hx);obtain⟨wo4,rfl⟩:∃wo:World,wo=wr:=⟨_,rfl⟩;have HN0:Hd (∀wx,Cf wo4 wx->wx.cell? ⟨gn,on+s,none⟩=some (.slice la l.length lc)):=jh (λwx hx=>hx.cellS n0 iD);clear n0 q2
            go_loopw [9] (λq wr=>∃i:Nat,i<=l.length/\q=.int .i64 i/\(∀(j:Nat) x,j<i->l[j]?=some x->-1<=x/\x<t.n.length)/\Cf wo4 wr) (λq _=>l.length-(intOf q).toNat)
            case atStart=>exact⟨0,oM,rfl,λj x h=>absurd h (Ax _),Chg.refl _ _⟩
            case round =>
             have HCO:=HCW;clear HCW;obtain⟨i,hi,rfl,hb,hc⟩:=hrel;have HBI:=jh hb;have HCV:=jh hc;clear hb hc;by_cases hil:i<l.length
             .have b12:decide ((i:Int)<(l.length:Int))=true:=by simp;omega
              obtain⟨x,gl,ol,hxx,hla,l0,z2,z3,-,-⟩:=(HIN.o.same HCV.o).getI hil;subst hla;have HXX:=jh hxx;have HL0:=jh l0;clear hxx l0;by_cases h3:x < -1
              .have d3:decide (x < -1)=true:=by simpa using h3
               have HF:Hd (mayT t=false):=jh (uU (λhm=>by have:=(hm.row l (Az2 HXL.o)).2 x (Az2 HXX.o);omega));go_upto_region 28 with (fail)
               refine ws (λw'=>Cf wr w') ?_;(iterate 23 (first|refine sq ?_|refine rq ?_ (by intro _ w' _ hC;obtain⟨q0,q1,q2,q3⟩:=HT0.o w' (HCO.o.trans (HCV.o.trans hC));have n0:=HN0.o w' (HCV.o.trans hC);have l0:=hC.cellS HL0.o iD;go_simp;try with_reducible rfl)))
               refine zQ ?_;intro w2 hC2;have HC2:=jh (HCV.o.trans hC2);clear hC2;go_wp2;go_ret
               exact⟨by rw[HF.o];rfl,HCT.o.trans (HCO.o.trans HC2.o)⟩
              .have d3:decide (x < -1)=false:=by simpa using h3
               by_cases h4:(t.n.length:Int)<=x
               .have d4:decide ((t.n.length:Int)<=x)=true:=by simpa using h4
                have HF:Hd (mayT t=false):=jh (uU (λhm=>by have:=(hm.row l (Az2 HXL.o)).2 x (Az2 HXX.o);omega));go_upto_region 28 with (fail)
                refine ws (λw'=>Cf wr w') ?_;(iterate 23 (refine rq ?_ (by intro _ w' _ hC;obtain⟨q0,q1,q2,q3⟩:=HT0.o w' (HCO.o.trans (HCV.o.trans hC));have n0:=HN0.o w' (HCV.o.trans hC);have l0:=hC.cellS HL0.o iD;go_simp;try with_reducible rfl)))
                refine zQ ?_;intro w2 hC2;have HC2:=jh (HCV.o.trans hC2);clear hC2;go_wp2;go_ret
                exact⟨by rw[HF.o];rfl,HCT.o.trans (HCO.o.trans HC2.o)⟩
               .have d4:decide ((t.n.length:Int)<=x)=false:=by simpa using h4
                have HB2:Hd (∀(j:Nat) x,j<i+1->l[j]?=some x->-1<=x/\x<t.n.length):=jh (λj y hj hy=>by
                 by_cases he:j=i
                 .subst he;rw[HXX.o]at hy;obtain rfl:=Az3 hy;omega
                 .exact HBI.o j y oM hy)
                go_upto_region 28 with (fail)
                refine ws (λw'=>Cf wr w') ?_;(iterate 23 (refine rq ?_ (by intro _ w' _ hC;obtain⟨q0,q1,q2,q3⟩:=HT0.o w' (HCO.o.trans (HCV.o.trans hC));have n0:=HN0.o w' (HCV.o.trans hC);have l0:=hC.cellS HL0.o iD;go_simp;try with_reducible rfl)))
                refine zQ ?_;intro w2 hC2;have HC2:=jh (HCV.o.trans hC2);clear hC2;go_wp2;go_roundw
                case rel=>exact⟨i+1,oM,by go_num,HB2.o,HC2.o⟩
                case measure=>simp[intOf];omega
             .obtain rfl:i=l.length:=oM
              have b12:decide ((l.length:Int)<(l.length:Int))=false:=sI;have HB2:Hd (∀(j:Nat) e' l',j<s+1->t.e[j]?=some e'->t.n[j]?=some l'->-1<=e'/\rowB (l.length:Int) t.n.length l'=true):=jh (λj e' l' hj he hl=>by
               by_cases hjs:j=s
               .subst hjs
                rw[HXL.o]at hl;obtain rfl:=Az3 hl;refine⟨HEV.o e' he,?_⟩;unfold rowB;rw[decide_eq_true rfl,Av7,Ax5];intro x hx;obtain⟨m,hm⟩:=Ax7 hx;have:=HBI.o m x (Az1.1 hm).1 hm;simp[inB]
                exact this
               .exact HB.o j e' l' oM he hl)
              have HCZ:=jh (HCO.o.trans HCV.o);go_wp2;go_roundw
              case rel=>exact⟨s+1,oM,by go_num,HB2.o,HCZ.o⟩
              case measure=>simp[intOf];omega
           .have d2:((l.length:Int) != (k:Int))=true:=by simp;omega
            have HF:Hd (mayT t=false):=jh (uU (λhm=>by have:=(hm.row l (Az2 HXL.o)).1;rw[HV2.o]at this;omega));go_wp2;go_ret
            exact⟨by rw[HF.o];rfl,HCT.o.trans HCW.o⟩
         .obtain rfl:s=t.n.length:=oM
          have b11:decide ((t.n.length:Int)<(t.n.length:Int))=false:=sI;have HF:Hd (mayT t=true):=jh (fQ.2 ⟨HAP.o,HG1.o,g2,HG3.o,HCB.o,HFI.o,λe he=>by
           obtain⟨j,hj⟩:=Ax7 he;have hjl:=(Az1.1 hj).1;have hjn:j<t.n.length:=(by rw[<-HG3.o];exact hjl);exact (HB.o j e _ hjn hj (Az hjn)).1,λl hl=>by
           obtain⟨j,hj⟩:=Ax7 hl;have hjl:=(Az1.1 hj).1;have hje:j<t.e.length:=(by rw[HG3.o];exact hjl);have hr:=(HB.o j _ l hjl (Az hje) hj).2;unfold rowB at hr;simp only[Ay2,decide_eq_true_eq,Ax5,inB]at hr;rw[HV2.o];exact hr⟩)
          go_wp2;go_ret
          exact⟨by rw[HF.o];rfl,HCT.o.trans HCW.o⟩
   .have d3:((t.n.length:Int) != (t.e.length:Int))=true:=by simp;omega
    have HF:Hd (mayT t=false):=jh (uU (λhm=>g3 hm.el));go_enter Tryz.func44,Tryz.ntmps44
    go_upto_region 1 with (fail)
    rw[<-HWT.o];go_wp2;go_ret
    exact⟨by rw[HF.o];rfl,HCT.o⟩
  .have d2:(t.n.length == 0)=true:=by rw[beq_iff_eq];omega
   have d2':((t.n.length:Int) == 0)=true:=(by rw[beq_iff_eq];omega);have HF:Hd (mayT t=false):=jh (uU (λhm=>g2 hm.nl));go_enter Tryz.func44,Tryz.ntmps44
   go_upto_region 1 with (fail)
   rw[<-HWT.o];go_wp2;go_ret
   exact⟨by rw[HF.o];rfl,HCT.o⟩
 .have d1:((t.c.length:Int) != (t.r.length:Int))=true:=by simp;omega
  have HF:Hd (mayT t=false):=jh (uU (λhm=>g1 hm.cl));go_enter Tryz.func44,Tryz.ntmps44
  go_upto_region 1 with (fail)
  rw[<-HWT.o];go_wp2;go_ret
  exact⟨by rw[HF.o];rfl,HCT.o⟩
end Go.Proofs.YtgnpmceimpjheaaGreat
