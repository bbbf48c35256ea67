/- A part of the proof: Seal PtM GreP GetC CodZ. -/
import Derived.Test.YtgnpmceimpjheaaGreatGK15
import Derived.Test.YtgnpmceimpjheaaGreatGK13
import Derived.Test.YtgnpmceimpjheaaGreatGK5
import Derived.Recover
namespace Go.Proofs.YtgnpmceimpjheaaGreat
open Go.RowKit
theorem ofI_range (Z:List Int):0≤ofI Z∧ofI Z≤4294967295:=bounds_u32 (wf_bits BinOp.xor IntKind.u32 _ _)
def sealL (Z:List Int):List Int:=Z++fourL (ofI Z)
theorem sealL_length (Z:List Int):(sealL Z).length=Z.length+4:=by simp [sealL,fourL]
theorem two_cells (w:World) (u v:Value) (e:TypeId):(w.alloc (.cells #[u,v] e)).cell? ⟨w.heap.size,0,none⟩=some u∧(w.alloc (.cells #[u,v] e)).cell? ⟨w.heap.size,1,none⟩=some v:=by
 constructor <;> · rw [World.cell?_alloc_new];rfl
set_option maxRecDepth 100000 in
set_option maxHeartbeats 2000000 in
theorem seal_any (b:Nat) (Z:List Int) (a:Option Addr) (g o c:Nat) (w:World) (hs:SumsSt w b) (hz:BytesAt w g o Z) (hgb:Z≠[]→g≠b) (ha:0 < Z.length→a=some ⟨g,o,none⟩) (hl:Z.length≤20000000) :
  Calls Tryz.prog 31 #[.pointer (some ⟨b,0,none⟩),.slice a Z.length c] w fun e w'=>∃ h,e=.returned (.slice (some ⟨h,0,none⟩) (sealL Z).length (sealL Z).length)∧w.heap.size≤h∧Row w' h (sealL Z)∧SumsSt w' b∧Chg (·=b) w w':=by
 have HOF:=jh (of_any b Z a g o c w hs hz hgb ha (by omega))
 have HZ:=jh hz
 have HA:=jh ha
 have HG:=jh hgb
 have HL:=jh hs.lt
 obtain ⟨r0,r1⟩:=ofI_range Z
 obtain ⟨N,hN⟩:∃ N,ofI Z=N:=⟨_,rfl⟩
 rw [hN] at HOF r0 r1
 have HS:Hid (sealL Z=Z++fourL N):=jh (by rw [sealL,hN])
 clear hs hz hgb ha hN
 go_enter Tryz.func31,Tryz.ntmps31
 go_wp2_with fail
 refine HOF.out.mono ?_
 rintro e w1 ⟨rfl,hs1,hc1⟩
 have HS1:=jh hs1
 have HC1:=jh hc1
 clear hs1 hc1 HOF
 go_wp2_with fail
 refine (four_any N w1 r0 r1).mono ?_
 rintro e w2 ⟨h4,rfl,hh4,hr4,hc2⟩
 have HR4:=jh hr4
 have HC2:=jh hc2
 clear hr4 hc2
 go_wp2_with fail
 have HQ:=jh (two_cells w2 (.slice a Z.length c) (.slice (some ⟨h4,0,none⟩) 4 4) 45)
 have HC3:=jh ((Chg.refl (fun _=>False) w2).alloc (.cells #[.slice a Z.length c,.slice (some ⟨h4,0,none⟩) 4 4] 45))
 refine (concat_any Z (fourL N) a g o c h4 w2.heap.size _ (((HZ.out.chg HC1.out HG.out).chg HC2.out (fun _ h=>h)).chg HC3.out (fun _ h=>h)) HA.out ((HR4.out.chg HC3.out (fun h=>h)).bytes (List.prefix_refl _)) (by simp [fourL]) (by omega) (by simp [fourL]) HQ.out.1 HQ.out.2).mono ?_
 rintro e w3 ⟨v3,rfl,ho3,hc3⟩
 obtain ⟨g3,C3,e3,hg3,hR3,hp3,hm3⟩:=ho3.some (by simp [fourL])
 have HC4:=jh (HC2.out.trans (HC3.out.trans hc3))
 obtain ⟨PL,hPL⟩:∃ PL,(Z++fourL N).length=PL:=⟨_,rfl⟩
 have HPL:Hid (PL≤C3.length):=jh (by rw [← hPL];exact hp3.length_le)
 have HP:Hid (PL=(sealL Z).length):=jh (by rw [HS.out,hPL])
 rw [hPL] at e3
 subst e3
 have HR3:Hid (Row w3 g3 (sealL Z)):=jh (by
  rw [HS.out]
  exact ⟨fun k x hk=>by have:=(hR3.bytes hp3).c k x hk;rw [Nat.zero_add] at this;exact this.1,hR3.z,hR3.lt,fun x hx=>hR3.byte x (hp3.subset hx)⟩)
 have hg3':w.heap.size≤g3:=by have h1:=HC1.out.size;have h2:=HC2.out.size;have h3:=HC3.out.size;omega
 clear hR3 hp3 ho3 hc3 hg3 hPL
 go_wp2_with fail
 refine (clip_any w3 g3 _ _ HPL.out).mono ?_
 rintro e w4 ⟨rfl,rfl⟩
 have HF:Hid (SumsSt w4 b∧Chg (·=b) w w4):=jh ⟨HS1.out.chg HC4.out (fun h=>h),HC1.out.trans HC4.out.any⟩
 go_wp2
 go_ret
 exact ⟨g3,by rw [← HP.out];rfl,hg3',HR3.out,HF.out.1,HF.out.2⟩
end Go.Proofs.YtgnpmceimpjheaaGreat
namespace Go.Proofs.YtgnpmceimpjheaaGreat
open Go.RowKit
structure PutB (t:TabsD):Prop where
 w:colsL t.lx.c≤65536
 l:(ptTabs t).length≤19000000
def PutPost (w:World) (t:TabsD) (e:Ending) (w':World):Prop :=
 Chg (fun _=>False) w w'∧((mayTabs t=false∧e=.returned (.tuple #[.slice none 0 0,.int .i64 1])) ∨
  (mayTabs t=true∧∃ h,e=.returned (.tuple #[.slice (some ⟨h,0,none⟩) (sealL (ptTabs t)).length (sealL (ptTabs t)).length,.int .i64 0])∧w.heap.size≤h∧Row w' h (sealL (ptTabs t))))
theorem named_le {s:Str} (h:namedB s=true):s.size≤64:=by
 unfold namedB at h
 simp only [Bool.and_eq_true,decide_eq_true_eq] at h
 exact h.2
theorem tabs_below {w:World} {S:Nat→Prop} {m:TabsS} {t:TabsD} (h:TabsIn w S m t):TabsIn w (· < w.heap.size) m t:=TabsIn.good.mono h (fun _ hg _=>hg)
set_option maxRecDepth 100000 in
set_option maxHeartbeats 16000000 in
theorem put_tabs (t:TabsD) (m:TabsS) (S:Nat→Prop) (w:World) (h:TabsIn w S m t) (hf:FairTabs t) (hb:mayTabs t=true→PutB t) :
  Calls Tryz.prog 10 #[tabsV m] w (PutPost w t):=by
 obtain ⟨⟨ra,rn,rc⟩,⟨ka,kn,kc⟩,⟨da,dn,dc⟩,⟨⟨x0,z0,y0⟩,⟨x1,z1,y1⟩,⟨x2,z2,y2⟩,⟨x3,z3,y3⟩⟩,⟨⟨n0,o0,m0⟩,⟨n1,o1,m1⟩,⟨n2,o2,m2⟩,⟨n3,o3,m3⟩,⟨n4,o4,m4⟩⟩,⟨la,ln,lc⟩⟩:=m
 have hT:=tabs_below h
 obtain ⟨h0,h1,h2,⟨h3,h4,h5,h6⟩,⟨h7,h8,h9,h10,h11⟩,h12⟩:=h
 obtain ⟨rfl,-⟩:=h0.len
 obtain ⟨rfl,-⟩:=h1.len
 obtain ⟨rfl,-⟩:=h2.len
 obtain ⟨rfl,-⟩:=h3.len
 obtain ⟨rfl,-⟩:=h4.len
 obtain ⟨rfl,-⟩:=h5.len
 obtain ⟨rfl,-⟩:=h6.len
 obtain ⟨rfl,-⟩:=h7.len
 obtain ⟨rfl,-⟩:=h8.len
 obtain ⟨rfl,-⟩:=h9.len
 obtain ⟨rfl,-⟩:=h10.len
 obtain ⟨rfl,-⟩:=h11.len
 obtain ⟨rfl,-⟩:=h12.len
 clear h0 h1 h2 h3 h4 h5 h6 h7 h8 h9 h10 h11 h12
 have HT:=jh hT
 have HFT:=jh hf
 have HKD:=jh hT.nt.kinds
 obtain ⟨w0,hw0⟩:∃ W,W=w.alloc (.cells #[.slice ra t.rl.length rc,.slice ka t.tk.length kc,.slice da t.dr.length dc,.slice x0 t.lx.r.length y0,.slice x1 t.lx.c.length y1,.slice x2 t.lx.n.length y2,.slice x3 t.lx.e.length y3,.slice n0 t.nt.st.length m0,.slice n1 t.nt.s.length m1,.slice n2 t.nt.p.length m2,.slice n3 t.nt.q.length m3,.slice n4 t.nt.d.length m4,.slice la t.lk.length lc] 34):=⟨_,rfl⟩
 have HC0:Hid (Chg (fun _=>False) w w0):=jh (by rw [hw0];exact (Chg.refl _ _).alloc _)
 have HS0:Hid (w0.heap.size=w.heap.size+1):=jh (by rw [hw0];simp)
 have HD0:Hid (∀ j v,([.slice ra t.rl.length rc,.slice ka t.tk.length kc,.slice da t.dr.length dc,.slice x0 t.lx.r.length y0,.slice x1 t.lx.c.length y1,.slice x2 t.lx.n.length y2,.slice x3 t.lx.e.length y3,.slice n0 t.nt.st.length m0,.slice n1 t.nt.s.length m1,.slice n2 t.nt.p.length m2,.slice n3 t.nt.q.length m3,.slice n4 t.nt.d.length m4,.slice la t.lk.length lc]:List Value)[j]?=some v→w0.cell? ⟨w.heap.size,j,none⟩=some v):=jh (fun j v hv=>by rw [hw0];exact allocAt _ rfl (by rw [← Array.getElem?_toList];exact hv))
 have HMAY:Hid (Calls Tryz.prog 12 #[.agg #[.slice ra t.rl.length rc,.slice ka t.tk.length kc,.slice da t.dr.length dc,.slice x0 t.lx.r.length y0,.slice x1 t.lx.c.length y1,.slice x2 t.lx.n.length y2,.slice x3 t.lx.e.length y3,.slice n0 t.nt.st.length m0,.slice n1 t.nt.s.length m1,.slice n2 t.nt.p.length m2,.slice n3 t.nt.q.length m3,.slice n4 t.nt.d.length m4,.slice la t.lk.length lc]] w0 fun e w'=>e=.returned (.bool (mayTabs t))∧Chg (fun _=>False) w0 w'):=jh (may_tabs t ⟨(ra,t.rl.length,rc),(ka,t.tk.length,kc),(da,t.dr.length,dc),⟨(x0,t.lx.r.length,y0),(x1,t.lx.c.length,y1),(x2,t.lx.n.length,y2),(x3,t.lx.e.length,y3)⟩,⟨(n0,t.nt.st.length,m0),(n1,t.nt.s.length,m1),(n2,t.nt.p.length,m2),(n3,t.nt.q.length,m3),(n4,t.nt.d.length,m4)⟩,(la,t.lk.length,lc)⟩ _ w0 (TabsIn.good.chg hT HC0.out (fun _ _ h=>h)) hf)
 have d0:=HD0.out 0 _ rfl
 have d1:=HD0.out 1 _ rfl
 have d2:=HD0.out 2 _ rfl
 have d3:=HD0.out 3 _ rfl
 have d4:=HD0.out 4 _ rfl
 have d5:=HD0.out 5 _ rfl
 have d6:=HD0.out 6 _ rfl
 have d7:=HD0.out 7 _ rfl
 have d8:=HD0.out 8 _ rfl
 have d9:=HD0.out 9 _ rfl
 have d10:=HD0.out 10 _ rfl
 have d11:=HD0.out 11 _ rfl
 have d12:=HD0.out 12 _ rfl
 clear hT hf
 show Calls Tryz.prog 10 #[.agg #[.slice ra t.rl.length rc,.slice ka t.tk.length kc,.slice da t.dr.length dc,.slice x0 t.lx.r.length y0,.slice x1 t.lx.c.length y1,.slice x2 t.lx.n.length y2,.slice x3 t.lx.e.length y3,.slice n0 t.nt.st.length m0,.slice n1 t.nt.s.length m1,.slice n2 t.nt.p.length m2,.slice n3 t.nt.q.length m3,.slice n4 t.nt.d.length m4,.slice la t.lk.length lc]] w (PutPost w t)
 go_enter Tryz.func10,Tryz.ntmps10
 go_upto_region 1 with (fail)
 rw [← hw0]
 clear hw0
 go_wp2_with fail
 refine HMAY.out.mono ?_
 rintro e w1 ⟨rfl,hc1⟩
 have HC1:=jh (HC0.out.trans hc1)
 have HC01:=jh hc1
 clear hc1 HMAY d0 d1 d2 d3 d4 d5 d6 d7 d8 d9 d10 d11 d12
 cases hm:mayTabs t with
 | false =>
  have HM:=jh hm
  clear hm hb
  go_wp2
  go_ret2
  exact ⟨HC1.out,.inl ⟨HM.out,rfl⟩⟩
 | true =>
  have HM:=jh hm
  have HB:=jh (hb hm)
  have HMP:=jh (mayTabs_spec hm)
  clear hm hb
  obtain ⟨hb,hhb⟩:∃ b,b=w1.heap.size:=⟨_,rfl⟩
  obtain ⟨pg,hpg⟩:∃ b,b=w1.heap.size+1:=⟨_,rfl⟩
  obtain ⟨w3,hw3⟩:∃ W,W=(w1.alloc (.cells #[.int .u8 72,.int .u8 66,.int .u8 84,.int .u8 49] 5 (4,5))).alloc (.cells #[.slice (some ⟨hb,0,none⟩) 4 4] 83):=⟨_,rfl⟩
  have hrow:BytesAt w3 hb 0 headL:=by
   rw [hw3,hhb]
   exact (litMark w1 headL 5 (4,5) (by decide)).chg ((Chg.refl (fun _=>False) _).alloc _) (fun _ h=>h)
  have hcs:(convert 45 45 (.slice (some ⟨w1.heap.size,0,none⟩) 4 4)).run Tryz.prog (w1.alloc (.cells #[.int .u8 72,.int .u8 66,.int .u8 84,.int .u8 49] 5))=.ok (.slice (some ⟨w1.heap.size,0,none⟩) 4 4) (w1.alloc (.cells #[.int .u8 72,.int .u8 66,.int .u8 84,.int .u8 49] 5 (4,5))):=Lib.run_convert_bytes_const (P:=Tryz.prog) w1 45 5 #[.int .u8 72,.int .u8 66,.int .u8 84,.int .u8 49] 4 4 Tryz.underlying45 Tryz.underlying5
  have HSZ:Hid (w.heap.size < hb∧pg=hb+1):=jh ⟨by rw [hhb];have:=HC01.out.size;have:=HS0.out;omega,by omega⟩
  have c3:w3.cell? ⟨pg,0,none⟩=some (.slice (some ⟨hb,0,none⟩) 4 4):=by rw [hw3,hpg];exact allocNew _ _ (by simp)
  have z3:w3.frozen? ⟨pg,0,none⟩=false:=by
   have e:w1.heap.size+1=(w1.alloc (.cells #[.int .u8 72,.int .u8 66,.int .u8 84,.int .u8 49] 5 (4,5))).heap.size:=by simp
   rw [hw3,hpg,e]
   exact World.frozen?_alloc_new _ _ _ _
  have HP3:Hid (PSt pg w.heap.size w3 headL):=jh ⟨⟨_,c3,.inr ⟨hb,rfl,by have:=HSZ.out;omega,hrow.lt (by decide),hrow⟩,fun e=>by have e2:hb=pg:=Option.some.inj e;have:=HSZ.out;omega⟩,z3,by have:=HSZ.out;omega⟩
  have HCp:Hid (∀ k,k≤w.heap.size→¬ Cp pg w3 k):=jh (fun k hk e=>by
   have:=HSZ.out
   rcases e with e | ⟨u,hu,e⟩
   ·omega
   ·rw [c3] at hu
    obtain rfl:=Option.some.inj hu
    have e2:hb=k:=Option.some.inj e
    omega)
  have HC13:Hid (Chg (fun _=>False) w1 w3):=jh (by rw [hw3];exact ((Chg.refl _ _).alloc _).alloc _)
  have HC3:=jh (HC1.out.trans HC13.out)
  have HK:Hid (∀ W Z',Puts pg w.heap.size w3 W Z'→∀ j v,([.slice ra t.rl.length rc,.slice ka t.tk.length kc,.slice da t.dr.length dc,.slice x0 t.lx.r.length y0,.slice x1 t.lx.c.length y1,.slice x2 t.lx.n.length y2,.slice x3 t.lx.e.length y3,.slice n0 t.nt.st.length m0,.slice n1 t.nt.s.length m1,.slice n2 t.nt.p.length m2,.slice n3 t.nt.q.length m3,.slice n4 t.nt.d.length m4,.slice la t.lk.length lc]:List Value)[j]?=some v→W.cell? ⟨w.heap.size,j,none⟩=some v):=jh (fun W Z' hp j v hv =>
   hp.keep (HCp.out _ (Nat.le_refl _)) ((HC01.out.trans HC13.out).cellS (HD0.out j v hv) (fun h=>h)))
  have HIN:Hid (∀ W Z',Puts pg w.heap.size w3 W Z'→TabsIn W (· < w.heap.size) ⟨(ra,t.rl.length,rc),(ka,t.tk.length,kc),(da,t.dr.length,dc),⟨(x0,t.lx.r.length,y0),(x1,t.lx.c.length,y1),(x2,t.lx.n.length,y2),(x3,t.lx.e.length,y3)⟩,⟨(n0,t.nt.st.length,m0),(n1,t.nt.s.length,m1),(n2,t.nt.p.length,m2),(n3,t.nt.q.length,m3),(n4,t.nt.d.length,m4)⟩,(la,t.lk.length,lc)⟩ t):=jh (fun W Z' hp =>
   TabsIn.good.chg (TabsIn.good.chg HT.out HC3.out (fun _ _ h=>h)) hp.chg (fun g hg e=>HCp.out g (by omega) e))
  obtain ⟨TD,hTD⟩:∃ x,t.tk.zip t.dr=x:=⟨_,rfl⟩
  have hdr:=HMP.out.dr
  have HTD:Hid (TD.length=t.tk.length∧∀ (k:Nat) s b,t.tk[k]?=some s→t.dr[k]?=some b→TD[k]?=some (s,b)):=jh (by
   rw [← hTD]
   refine ⟨by rw [List.length_zip,hdr];omega,fun k s b hs hb'=>?_⟩
   rw [List.getElem?_zip_eq_some]
   exact ⟨hs,hb'⟩)
  have HPT:Hid (ptTabs t=(((((headL++ptList ptText t.rl)++putL t.tk.length)++TD.flatMap ptTok)++ptLex t.lx)++ptNet t.nt)++t.lk.flatMap (ptLook t.tk.length)):=jh (by
   unfold ptTabs ptBody
   conv=>lhs;unfold ptList
   rw [hTD,HTD.out.1]
   simp only [ptList,List.append_assoc])
  have HLEN:Hid (∀ k j,(headL++ptList ptText t.rl).length≤1000000000∧((headL++ptList ptText t.rl)++putL t.tk.length++(TD.take k).flatMap ptTok).length≤100000000 ∧
    (((((headL++ptList ptText t.rl)++putL t.tk.length)++TD.flatMap ptTok)++ptLex t.lx)).length≤1000000000∧((((((headL++ptList ptText t.rl)++putL t.tk.length)++TD.flatMap ptTok)++ptLex t.lx)++ptNet t.nt)).length≤1000000000 ∧
    ((((((headL++ptList ptText t.rl)++putL t.tk.length)++TD.flatMap ptTok)++ptLex t.lx)++ptNet t.nt)++(t.lk.take j).flatMap (ptLook t.tk.length)).length≤1000000000):=jh (fun k j=>by
   have hl:=HB.out.l
   rw [HPT.out] at hl
   have a1:=flatMap_prefix (enc:=ptTok) (L:=TD) k
   have a2:=flatMap_prefix (enc:=ptLook t.tk.length) (L:=t.lk) j
   simp only [List.length_append] at hl ⊢
   omega)
  obtain ⟨NK,hNK⟩:∃ n,t.tk.length=n:=⟨_,rfl⟩
  have HNK:=jh hNK
  have HNR:Hid (ptInt (NK:Int)=putL NK):=jh (by unfold ptInt;rw [Int.toNat_natCast])
  obtain ⟨ND,hND⟩:∃ n,t.dr.length=n:=⟨_,rfl⟩
  have HND:=jh hND
  have HNDK:Hid (ND=NK):=jh (by rw [← hND,← hNK];exact hdr)
  obtain ⟨NL,hNL⟩:∃ n,t.lk.length=n:=⟨_,rfl⟩
  have HNL:=jh hNL
  have hnk:NK≤64:=by rw [← hNK];exact HMP.out.tk
  have hnl:NL≤1000000000:=by rw [← hNL];exact HFT.out.lk
  rw [hNK] at HTD HPT HLEN
  rw [hNK,hND,hNL] at HK HIN
  have hmf:∀ (fn:Fn) (first cap:Array Value) (w:World),(Instr.makeFunc fn first cap).run Tryz.prog w=.ok (.func fn first cap) w:=fun _ _ _ _=>rfl
  clear hrow c3 z3 hdr hTD HD0
  have hpg2:pg=hb+1:=HSZ.out.2
  go_upto_region 4 with (fail)
  rw [← hhb,← hpg2,← hw3]
  clear hw3 hhb hpg hpg2 hcs
  have d0:=HK.out _ _ HP3.out.refl 0 _ rfl
  go_wp2_with fail
  refine (ptexts_any t.rl ra rc w3 HP3.out (HIN.out _ _ HP3.out.refl).rl (fun s hs=>Nat.le_trans (named_le (HMP.out.rn s hs)) (by decide)) (by have:=HMP.out.rl;omega) (HLEN.out 0 0).1).mono ?_
  rintro e4 w4 ⟨rfl,hp4⟩
  have HP4:=jh hp4
  clear hp4 d0
  have d1:=HK.out _ _ HP4.out 1 _ rfl
  go_wp2_with fail
  refine (pnum_any (NK:Int) w4 HP4.out.st (by omega) (HLEN.out 0 0).1).mono ?_
  rintro e5 w5 ⟨rfl,hp5⟩
  rw [HNR.out] at hp5
  have HP5:=jh (HP4.out.trans hp5)
  clear hp5 d1
  have d1:=HK.out _ _ HP5.out 1 _ rfl
  go_upto_region 7 with (fail)
  clear d1
  go_loopw [31] (fun q wr=>∃ k:Nat,k≤NK∧q=.int .i64 k∧Puts pg w.heap.size w3 wr ((headL++ptList ptText t.rl)++putL NK++(TD.take k).flatMap ptTok)) (fun q _=>NK - (intOf q).toNat)
  case atStart=>exact ⟨0,by omega,rfl,by simpa using HP5.out⟩
  case round =>
   clear HP5 HP4
   obtain ⟨k,hk,rfl,hp⟩:=hrel
   have HP:=jh hp
   clear hp
   by_cases hkl:k < NK
   ·have b9:decide ((k:Int) < (NK:Int))=true:=by simp;omega
    have hkt:k < t.tk.length:=by rw [HNK.out];exact hkl
    have hkd:k < t.dr.length:=by rw [HND.out,HNDK.out];exact hkl
    have hkd2:k < ND:=by rw [HNDK.out];exact hkl
    have hI:=HIN.out _ _ HP.out
    have htk:=hI.tk
    have hdr:=hI.dr
    simp only at htk hdr
    rw [← HNK.out] at htk
    rw [← HND.out] at hdr
    obtain ⟨s,d,g,o,hx,hrx,rfl,-,-,-,hcells⟩:=(ListR.of htk).get1' (f:=encStr) rfl hkt rfl
    have c0:=hcells _ rfl
    obtain ⟨bo,db,gb,ob,hy,hry,rfl,hSb,-,-,hcells2⟩:=(ListR.of hdr).get1' (f:=fun b=>[.bool b]) rfl hkd rfl
    have e0:=hcells2 _ rfl
    obtain rfl:s=d:=hrx
    obtain rfl:bo=db:=hry
    have HX:Hid (TD[k]?=some (s,bo)):=jh (HTD.out.2 k _ _ hx hy)
    have HNM:Hid (s.size≤1000000):=jh (Nat.le_trans (named_le (HMP.out.tn s (List.mem_of_getElem? hx))) (by decide))
    have HLE:=jh (HLEN.out (k+1) 0).2.1
    rw [flatMap_take HX.out] at HLE
    have HLA:Hid (((headL++ptList ptText t.rl)++putL NK++(TD.take k).flatMap ptTok).length≤1000000000∧(((headL++ptList ptText t.rl)++putL NK++(TD.take k).flatMap ptTok)++ptText s).length≤1000000000):=jh (by
     have:=HLE.out
     simp only [ptTok,List.length_append] at this ⊢
     omega)
    have HEB:Hid (∀ W Z',Puts pg w.heap.size w3 W Z'→W.cell? ⟨w.heap.size,2,none⟩=some (.slice (some ⟨gb,ob,none⟩) ND dc)∧W.cell? ⟨gb,ob+k,none⟩=some (.bool bo)):=jh (fun W Z' hp=>by
     refine ⟨HK.out _ _ hp 2 _ rfl,?_⟩
     obtain ⟨b2,db,g2,o2,hy2,hry2,ha2,-,-,-,hc2⟩:=(ListR.of (by have:=(HIN.out _ _ hp).dr;simp only at this;rw [← HND.out] at this;exact this)).get1' (f:=fun b=>[.bool b]) rfl hkd rfl
     obtain rfl:b2=db:=hry2
     injection ha2 with ha2
     injection ha2 with a1 a2
     subst a1 a2
     rw [hy] at hy2
     rw [Option.some.inj hy2]
     exact hc2 _ rfl)
    have d1:=HK.out _ _ HP.out 1 _ rfl
    clear hx hy hcells hcells2 e0 htk hdr hI hkt hkd hSb
    go_wp2_with fail
    refine (ptext_any s wr HP.out.st HNM.out HLA.out.1).mono ?_
    rintro e6 w6 ⟨rfl,hp6⟩
    have HP6:=jh (HP.out.trans hp6)
    clear hp6 c0 d1
    obtain ⟨d2,e0⟩:=HEB.out _ _ HP6.out
    cases bo with
    | true =>
     go_wp2_with fail
     refine (pnum_any 1 w6 HP6.out.st (by omega) HLA.out.2).mono ?_
     rintro e7 w7 ⟨rfl,hp7⟩
     have HP7:Hid (Puts pg w.heap.size w3 w7 ((headL++ptList ptText t.rl)++putL NK++(TD.take (k+1)).flatMap ptTok)):=jh (by
      have:=HP6.out.trans hp7
      rw [flatMap_take HX.out]
      simp only [ptTok,if_true,List.append_assoc] at this ⊢
      exact this)
     clear hp7 d2 e0
     go_wp2
     go_roundw
     case rel=>exact ⟨k+1,by omega,by go_num,HP7.out⟩
     case measure=>simp [intOf];omega
    | false =>
     go_wp2_with fail
     refine (pnum_any 0 w6 HP6.out.st (by omega) HLA.out.2).mono ?_
     rintro e7 w7 ⟨rfl,hp7⟩
     have HP7:Hid (Puts pg w.heap.size w3 w7 ((headL++ptList ptText t.rl)++putL NK++(TD.take (k+1)).flatMap ptTok)):=jh (by
      have:=HP6.out.trans hp7
      rw [flatMap_take HX.out]
      simp only [ptTok,Bool.false_eq_true,if_false,List.append_assoc] at this ⊢
      exact this)
     clear hp7 d2 e0
     go_wp2
     go_roundw
     case rel=>exact ⟨k+1,by omega,by go_num,HP7.out⟩
     case measure=>simp [intOf];omega
   ·obtain rfl:k=NK:=by omega
    have b9:decide ((k:Int) < (k:Int))=false:=by simp
    have hwhole:=HP.out
    rw [List.take_of_length_le (by rw [HTD.out.1];exact Nat.le_refl _)] at hwhole
    have HPW:=jh hwhole
    clear hwhole HP
    have d3:=HK.out _ _ HPW.out 3 _ rfl
    have d4:=HK.out _ _ HPW.out 4 _ rfl
    have d5:=HK.out _ _ HPW.out 5 _ rfl
    have d6:=HK.out _ _ HPW.out 6 _ rfl
    go_wp2_with fail
    refine (plexer_any t.lx ⟨(x0,t.lx.r.length,y0),(x1,t.lx.c.length,y1),(x2,t.lx.n.length,y2),(x3,t.lx.e.length,y3)⟩ wr HPW.out.st (HIN.out _ _ HPW.out).lx (ok_lx HMP.out.lx HMP.out.tk HFT.out.lx HB.out.w) (HLEN.out 0 0).2.2.1).mono ?_
    rintro e8 w8 ⟨rfl,hp8⟩
    have HP8:=jh (HPW.out.trans hp8)
    clear hp8 d3 d4 d5 d6
    have d7:=HK.out _ _ HP8.out 7 _ rfl
    have d8:=HK.out _ _ HP8.out 8 _ rfl
    have d9:=HK.out _ _ HP8.out 9 _ rfl
    have d10:=HK.out _ _ HP8.out 10 _ rfl
    have d11:=HK.out _ _ HP8.out 11 _ rfl
    go_wp2_with fail
    refine (pnet_any t.nt ⟨(n0,t.nt.st.length,m0),(n1,t.nt.s.length,m1),(n2,t.nt.p.length,m2),(n3,t.nt.q.length,m3),(n4,t.nt.d.length,m4)⟩ w8 HP8.out.st (HIN.out _ _ HP8.out).nt (ok_nt HMP.out HFT.out.nt HKD.out) (HLEN.out 0 0).2.2.2.1).mono ?_
    rintro e9 w9 ⟨rfl,hp9⟩
    have HP9:=jh (HP8.out.trans hp9)
    clear hp9 d7 d8 d9 d10 d11
    have d12:=HK.out _ _ HP9.out 12 _ rfl
    go_upto_region 17 with (fail)
    clear d12
    go_loopw [60] (fun q wr=>∃ j:Nat,j≤NL∧q=.int .i64 j∧Puts pg w.heap.size w3 wr ((((((headL++ptList ptText t.rl)++putL k)++TD.flatMap ptTok)++ptLex t.lx)++ptNet t.nt)++(t.lk.take j).flatMap (ptLook k))) (fun q _=>NL - (intOf q).toNat)
    case atStart=>exact ⟨0,by omega,rfl,by simpa using HP9.out⟩
    case round =>
     clear HP9 HP8 HPW
     obtain ⟨j,hj,rfl,hp⟩:=hrel
     have HP:=jh hp
     clear hp
     by_cases hjl:j < NL
     ·have b10:decide ((j:Int) < (NL:Int))=true:=by simp;omega
      have hjt:j < t.lk.length:=by rw [HNL.out];exact hjl
      have hlk:=(HIN.out _ _ HP.out).lk
      simp only at hlk
      rw [← HNL.out] at hlk
      obtain ⟨⟨sa,sn,sc⟩,A,g,o,hx,hrx,rfl,-,-,c0⟩:=hlk.get1 (f:=slV) rfl hjt (fun _=>rfl)
      have hrl:=ListR.len (E:=lsE) (R:=lsR) hrx
      obtain ⟨rfl,-⟩:=hrl
      simp only [slV] at c0
      have HX:=jh hx
      have HOKA:=jh (ok_lk HMP.out HFT.out (List.mem_of_getElem? hx))
      rw [HNK.out] at HOKA
      have HLE:=jh (HLEN.out 0 (j+1)).2.2.2.2
      rw [flatMap_take HX.out,← List.append_assoc] at HLE
      obtain ⟨w10,hw10⟩:∃ W,W=wr.alloc (.cells #[.slice sa A.length sc] 63):=⟨_,rfl⟩
      have hC10:Chg (fun _=>False) wr w10:=by rw [hw10];exact (Chg.refl _ _).alloc _
      have HP10:Hid (Puts pg w.heap.size w3 w10 ((((((headL++ptList ptText t.rl)++putL k)++TD.flatMap ptTok)++ptLex t.lx)++ptNet t.nt)++(t.lk.take j).flatMap (ptLook k))):=jh (HP.out.trans (HP.out.st.fresh hC10))
      have f0:w10.cell? ⟨wr.heap.size,0,none⟩=some (.slice sa A.length sc):=by rw [hw10];exact allocNew _ _ rfl
      have HA10:Hid (ListR lsE lsR w10 (· < w.heap.size) (sa,A.length,sc) A):=jh ((ListR.good lsR.good).chg hrx hC10 (fun _ _ h=>h))
      clear hx hrx hlk hjt hC10
      go_upto_region 19 with (fail)
      rw [← hw10]
      clear hw10 c0
      have d1:=HK.out _ _ HP10.out 1 _ rfl
      go_wp2_with fail
      refine (plook_any A sa sc k w10 HP10.out.st HA10.out HOKA.out.1 (by omega) HOKA.out.2.1 HOKA.out.2.2 HLE.out).mono ?_
      rintro e11 w11 ⟨rfl,hp11⟩
      have HP11:Hid (Puts pg w.heap.size w3 w11 ((((((headL++ptList ptText t.rl)++putL k)++TD.flatMap ptTok)++ptLex t.lx)++ptNet t.nt)++(t.lk.take (j+1)).flatMap (ptLook k))):=jh (by
       have:=HP10.out.trans hp11
       rw [flatMap_take HX.out,← List.append_assoc]
       exact this)
      clear hp11 f0 d1
      go_wp2
      go_roundw
      case rel=>exact ⟨j+1,by omega,by go_num,HP11.out⟩
      case measure=>simp [intOf];omega
     ·obtain rfl:j=NL:=by omega
      have b10:decide ((j:Int) < (j:Int))=false:=by simp
      have hwhole:=HP.out
      rw [List.take_of_length_le (by rw [HNL.out];exact Nat.le_refl _),← HPT.out] at hwhole
      have HPW:=jh hwhole
      clear hwhole HP
      obtain ⟨v,hv,ho,hne⟩:=HPW.out.st.ex
      obtain ⟨gz,cz,rfl,hgz,hgl,hbz⟩:=ho.bytes (by unfold ptTabs;simp [headL])
      have HLZ:=jh HB.out.l
      obtain ⟨w12,hw12⟩:∃ W,W=wr.alloc (.cells zerosS 104):=⟨_,rfl⟩
      have hzs:=zeroSums
      have HC12:Hid (Chg (fun _=>False) wr w12):=jh (by rw [hw12];exact (Chg.refl _ _).alloc _)
      have HS12:Hid (SumsSt w12 wr.heap.size):=jh (by rw [hw12];exact ⟨0,_,SumsAt.made wr _,.inl rfl⟩)
      have hv12:=HC12.out.cellS hv (fun h=>h)
      have HSEAL:=jh (seal_any wr.heap.size (ptTabs t) (some ⟨gz,0,none⟩) gz 0 cz w12 HS12.out (hbz.chg HC12.out (fun _ h=>h)) (fun _=>by omega) (fun _=>rfl) (by have:=HLZ.out;omega))
      have HCF:Hid (Chg (fun k=>w.heap.size≤k) w wr):=jh (HC3.out.any.trans (HPW.out.below HP3.out))
      obtain ⟨PT,hPT⟩:∃ x,ptTabs t=x:=⟨_,rfl⟩
      have HPTE:=jh hPT
      rw [hPT] at hv hv12 HSEAL
      clear hv ho hne hgz hbz hPT
      go_upto_region 22 with (fail)
      rw [← hw12]
      clear hw12 hzs
      go_wp2_with fail
      refine HSEAL.out.mono ?_
      rintro e13 w13 ⟨h,rfl,hh,hr13,hs13,hc13⟩
      have HF:Hid (Chg (fun _=>False) w w13∧w.heap.size≤h∧Row w13 h (sealL PT)):=jh (by
       have h1:=HCF.out.size
       have h2:=HC12.out.size
       exact ⟨(HCF.out.trans (HC12.out.any.trans (hc13.mono (fun k _ e=>by rw [e];exact h1)))).fresh,by omega,hr13⟩)
      clear hh hr13 hs13 hc13 hv12 HSEAL
      go_wp2
      go_ret2
      exact ⟨HF.out.1,.inr ⟨HM.out,h,by rw [HPTE.out];rfl,HF.out.2.1,by rw [HPTE.out];exact HF.out.2.2⟩⟩
end Go.Proofs.YtgnpmceimpjheaaGreat
namespace Go.Proofs.YtgnpmceimpjheaaGreat
open Go.RowKit
theorem sum_mem {α:Type} (f:α→Nat):∀ (L:List α) (x:α),x∈L→f x≤(L.map f).sum
 | y :: L,x,h=>by
  rcases List.mem_cons.1 h with rfl | h
  ·simp
  ·have:=sum_mem f L x h
   simp;omega
theorem sum_len {α:Type} (f:α→Nat):∀ (L:List α),(∀ x∈L,1≤f x)→L.length≤(L.map f).sum
 | [],_=>by simp
 | y :: L,h=>by
  have h1:=sum_len f L (fun x hx=>h x (by simp [hx]))
  have h2:=h y (by simp)
  simp;omega
theorem flat_len {α:Type} (f:α→List Int) (b:Nat):∀ (L:List α),(∀ x∈L,(f x).length≤b)→(L.flatMap f).length≤b * L.length
 | [],_=>by simp
 | y :: L,h=>by
  have h1:=flat_len f b L (fun x hx=>h x (by simp [hx]))
  have h2:=h y (by simp)
  simp only [List.flatMap_cons,List.length_append,List.length_cons,Nat.mul_add]
  omega
theorem flat_sum {α:Type} (f:α→List Int) (g:α→Nat) (b c:Nat):∀ (L:List α),(∀ x∈L,(f x).length≤b+c * g x)→(L.flatMap f).length≤b * L.length+c * (L.map g).sum
 | [],_=>by simp
 | y :: L,h=>by
  have h1:=flat_sum f g b c L (fun x hx=>h x (by simp [hx]))
  have h2:=h y (by simp)
  simp only [List.flatMap_cons,List.length_append,List.length_cons,Nat.mul_add,List.map_cons,List.sum_cons]
  omega
structure NotGreat (t:TabsD):Prop where
 c:gC t (t.rl.length+t.tk.length)≤2000
 n:gN t.nt t.nt.st.length≤700
structure Light (t:TabsD):Prop where
 b:t.rl.length+t.tk.length+t.dr.length+t.lx.r.length+t.lx.c.length+t.lx.e.length+t.lk.length≤2000
 n:(t.lx.n.map fun l=>l.length+1).sum≤2000
 k:(t.lk.map fun A=>(A.map fun s=>s.2.1.length+s.2.2.length+1).sum).sum≤2000
 s:((t.rl++t.tk).map fun s=>s.size / 50).sum≤2000
 a:t.nt.st.length+t.nt.s.length+t.nt.p.length+t.nt.q.length+t.nt.d.length≤700
 e:(t.nt.st.map fun s=>s.2.1.length+s.2.2.length).sum≤700
theorem NotGreat.light {t:TabsD} (h:NotGreat t):Light t:=by
 obtain ⟨h1,h2⟩:=h
 have e1:(t.rl++t.tk).take (t.rl.length+t.tk.length)=t.rl++t.tk:=List.take_of_length_le (by simp)
 unfold gC gB gA at h1
 rw [e1,List.take_length,List.take_length] at h1
 unfold gN at h2
 rw [List.take_length] at h2
 have e2:(t.lk.map fun A=>gL A A.length)=t.lk.map fun A=>(A.map fun s=>s.2.1.length+s.2.2.length+1).sum:=by
  apply List.map_congr_left
  intro A _
  unfold gL
  rw [List.take_length]
 rw [e2] at h1
 exact ⟨by omega,by omega,by omega,by omega,by omega,by omega⟩
theorem Light.fair {t:TabsD} (h:Light t):FairTabs t:=by
 have hb:=h.b
 have ha:=h.a
 have hn:=h.n
 have hs:∀ s∈t.rl++t.tk,s.size≤1000000000000:=fun s hs=>by
  have h1:=sum_mem (fun s:Str=>s.size / 50) _ s hs
  have h2:=h.s
  try simp only at h1
  omega
 have hl:=sum_len (fun l:List Int=>l.length+1) t.lx.n (fun _ _=>by omega)
 refine ⟨by omega,by omega,by omega,fun s hs'=>hs s (by simp [hs']),fun s hs'=>hs s (by simp [hs']),⟨by omega,by omega,by omega,by omega,fun l hl'=>?_⟩,⟨by omega,by omega,by omega,by omega,by omega,fun s hs'=>?_⟩,by omega,fun A hA=>?_⟩
 ·have:=sum_mem (fun l:List Int=>l.length+1) _ l hl'
  try simp only at this
  omega
 ·have h1:=sum_mem (fun s:StD=>s.2.1.length+s.2.2.length) _ s hs'
  have h2:=h.e
  try simp only at h1
  exact ⟨by omega,by omega⟩
 ·have h1:=sum_mem (fun A:List LsD=>(A.map fun s=>s.2.1.length+s.2.2.length+1).sum) _ A hA
  have h2:=h.k
  try simp only at h1
  have h3:=sum_len (fun s:LsD=>s.2.1.length+s.2.2.length+1) A (fun _ _=>by omega)
  refine ⟨by omega,fun s hs'=>?_⟩
  have h4:=sum_mem (fun s:LsD=>s.2.1.length+s.2.2.length+1) _ s hs'
  try simp only at h4
  exact ⟨by omega,by omega⟩
theorem Light.small {t:TabsD} (h:Light t) (hk:∀ s∈t.nt.st,∀ e∈s.2.1,0≤e.1):SmallT t:=by
 have hb:=h.b
 have ha:=h.a
 refine ⟨by omega,fun s hs=>?_,by omega,fun A hA s hs=>?_⟩
 ·have h1:=sum_mem (fun s:StD=>s.2.1.length+s.2.2.length) _ s hs
  have h2:=h.e
  try simp only at h1
  exact ⟨by omega,by omega,hk s hs⟩
 ·have h1:=sum_mem (fun A:List LsD=>(A.map fun s=>s.2.1.length+s.2.2.length+1).sum) _ A hA
  have h2:=h.k
  try simp only at h1
  have h4:=sum_mem (fun s:LsD=>s.2.1.length+s.2.2.length+1) _ s hs
  try simp only at h4
  omega
theorem okN_len {m:Nat} (hm:m≤16777215) {z:Int} (h:okN m z):(ptInt z).length≤4:=putL_len 3 z.toNat (by obtain ⟨h1,h2⟩:=h;omega)
theorem list_head {α:Type} {enc:α→List Int} {L:List α} (h:L.length≤16777215):(ptList enc L).length≤4+(L.flatMap enc).length:=by
 unfold ptList
 have:=putL_len 3 L.length (by omega)
 rw [List.length_append]
 omega
theorem table_len {W:Nat} {LL:List (List Int)} (h1:W≤65536) (hn:LL.length≤65536) (hmk:makeOk W LL=true):(ptTable W LL).length≤5 * (3+3 * LL.length+2 * (LL.length * W)):=by
 have hw:∀ l∈LL,l.length=W:=fun l hl=>by
  have:=List.all_eq_true.1 hmk l hl
  simp only [listOk,Bool.and_eq_true,decide_eq_true_eq] at this
  omega
 have hmay:=makeL_may (W:=W) (by omega) (by omega) hn hmk
 have HCL:∀ r∈(makeL LL).1,r.2.length≤W:=fun r hr=>by
  obtain ⟨l,hl,rfl⟩:=makeL_rows LL r hr
  rw [← hw l hl]
  exact cellsFrom_le _ _ _
 have h2:=tabNums_len (O:=(makeL LL).2) HCL
 obtain ⟨h3,h4⟩:=makeL_len LL
 have h5:=bytesOf_len _ (tabNums_ok hmay).1
 have h6:(makeL LL).1.length * W≤LL.length * W:=Nat.mul_le_mul_right _ h3
 show (bytesOf _).length≤_
 omega
theorem text_len {s:Str} (h:okText s):(ptText s).length≤68:=by
 unfold ptText
 unfold okText at h
 have:=putL_len 3 s.size (by omega)
 have:(strB s).length=s.size:=by simp [strB]
 rw [List.length_append]
 omega
theorem Light.put {t:TabsD} (h:Light t) (ho:OkTabs t) (hm:mayTabs t=true):colsL t.lx.c≤65536∧(ptTabs t).length≤5000000:=by
 refine ⟨ho.lx.cw,?_⟩
 have hb:=h.b
 have ha:=h.a
 obtain ⟨o1,o2,⟨o3,o4⟩,o5,o6,o7,o8⟩:=ho
 obtain ⟨x1,x2,x3,x4,x5,x6,x7,x8,x9⟩:=o5
 obtain ⟨n1,n2,n3,n4,-⟩:=o6
 have hM:=mayTabs_spec hm
 -- texts
 have t1:(ptList ptText t.rl).length≤4+68 * t.rl.length:=Nat.le_trans (list_head o1.1) (by have:=flat_len ptText 68 t.rl (fun x hx=>text_len (o1.2 x hx));omega)
 have t2:(ptList ptTok (t.tk.zip t.dr)).length≤4+72 * 64:=by
  have hz:(t.tk.zip t.dr).length≤64:=by rw [List.length_zip];omega
  have h1:=flat_len ptTok 72 (t.tk.zip t.dr) (fun x hx=>by
   have h2:=text_len (o4 _ (List.of_mem_zip hx).1)
   unfold ptTok
   rw [List.length_append]
   have:(ptInt (if x.2 then 1 else 0)).length≤4:=okN_len (m:=1) (by omega) (by cases x.2 <;> exact ⟨by decide,by decide⟩)
   omega)
  have h3:=list_head (enc:=ptTok) (L:=t.tk.zip t.dr) (by omega)
  have h4:72 * (t.tk.zip t.dr).length≤72 * 64:=Nat.mul_le_mul_left _ hz
  omega
 -- the lexer
 obtain ⟨W,hW⟩:∃ W:Nat,colsL t.lx.c=W:=⟨(colsL t.lx.c).toNat,by
  have:=(colsL_foldl t.lx.c 0).1
  unfold colsL
  omega⟩
 have t3:(ptLex t.lx).length≤200000:=by
  unfold ptLex
  rw [hW]
  rw [hW] at x5 x7
  have hrow:t.lx.n.length * (W+1)≤2000:=by
   have h1:∀ (LL:List (List Int)),(∀ l∈LL,l.length=W)→LL.length * (W+1)=(LL.map fun l=>l.length+1).sum:=by
    intro LL
    induction LL with
    | nil=>intro _;simp
    | cons l LL ih =>
     intro hl
     have h2:=ih (fun x hx=>hl x (by simp [hx]))
     have h3:=hl l (by simp)
     simp only [List.length_cons,List.map_cons,List.sum_cons,Nat.succ_mul,h3]
     omega
   rw [h1 t.lx.n (fun l hl=>by
    have:=List.all_eq_true.1 x7 l hl
    simp only [listOk,Bool.and_eq_true,decide_eq_true_eq] at this
    omega)]
   exact h.n
  have hnW:t.lx.n.length * (W+1)=t.lx.n.length * W+t.lx.n.length:=Nat.mul_succ _ _
  have h1:=table_len (by omega) x6 x7
  have h2:=flat_len ptRc 12 (t.lx.r.zip t.lx.c) (fun x hx=>by
   obtain ⟨r1,r2,r3⟩:=x4 x hx
   have e1:=okN_len (by omega) r1
   have e2:=okN_len (by omega) r2
   have e3:=okN_len (by omega) r3
   unfold ptRc
   rw [List.length_append,List.length_append]
   omega)
  have h3:=list_head (enc:=ptRc) (L:=t.lx.r.zip t.lx.c) (by rw [List.length_zip];omega)
  have h4:(t.lx.r.zip t.lx.c).length≤2000:=by rw [List.length_zip];omega
  have h5:=flat_len ptEnd 4 t.lx.e (fun x hx=>by
   obtain ⟨r1,r2⟩:=x9 x hx
   exact okN_len (m:=16777215) (by omega) ⟨by omega,by omega⟩)
  rw [List.length_append,List.length_append]
  omega
 -- the net
 have t4:(ptNet t.nt).length≤100000:=by
  have hst:∀ s∈t.nt.st,(ptState s).length≤12+12 * (s.2.1.length+s.2.2.length):=fun s hs=>by
   obtain ⟨r1,⟨r2,r3⟩,r4,r5⟩:=n1.2 s hs
   have e1:=okN_len (by omega) r1
   have e2:=flat_len ptEdge 12 s.2.1 (fun x hx=>by
    obtain ⟨g1,g2,g3⟩:=r3 x hx
    have e1:=okN_len (by omega) g1
    have e2:=okN_len (by omega) g2
    have e3:=okN_len (by omega) g3
    unfold ptEdge
    rw [List.length_append,List.length_append]
    omega)
   have e3:=list_head (enc:=ptEdge) r2
   have e4:=flat_len ptInt 4 s.2.2 (fun x hx=>okN_len (by omega) (r5 x hx))
   have e5:=list_head (enc:=ptInt) r4
   unfold ptState
   rw [List.length_append,List.length_append]
   omega
  have h1:=flat_sum ptState (fun s:StD=>s.2.1.length+s.2.2.length) 12 12 t.nt.st hst
  have h2:=list_head (enc:=ptState) n1.1
  have h3:=h.e
  have h4:=flat_len ptInt 4 t.nt.s (fun x hx=>okN_len (by omega) (n2.2 x hx))
  have h5:=list_head (enc:=ptInt) n2.1
  have h6:=flat_len ptInt 4 t.nt.p (fun x hx=>okN_len (by omega) (n3.2 x hx))
  have h7:=list_head (enc:=ptInt) n3.1
  have h8:=flat_len ptInt 4 t.nt.q (fun x hx=>okN_len (by omega) (n4.2 x hx))
  have h9:=list_head (enc:=ptInt) n4.1
  unfold ptNet
  rw [List.length_append,List.length_append,List.length_append]
  omega
 -- what is looked ahead by
 have t5:(t.lk.flatMap (ptLook t.tk.length)).length≤3000000:=by
  have hlk:∀ A∈t.lk,(ptLook t.tk.length A).length≤40+1000 * (A.map fun s=>s.2.1.length+s.2.2.length+1).sum:=fun A hA=>by
   obtain ⟨r1,r2⟩:=o8 A hA
   have e1:=sum_len (fun s:LsD=>s.2.1.length+s.2.2.length+1) A (fun _ _=>by omega)
   have e2:=flat_sum ptLs (fun s:Int × List Int=>s.2.length) 8 4 (A.map fun s=>(s.1,s.2.1)) (fun x hx=>by
    obtain ⟨s,hs,rfl⟩:=List.mem_map.1 hx
    obtain ⟨k1,k2,-,-⟩:=r2 s hs
    have e1:=okN_len (by omega) k1
    have e4:=flat_len ptInt 4 s.2.1 (fun x hx=>okN_len (by omega) (k2.2 x hx))
    have e5:=list_head (enc:=ptInt) k2.1
    unfold ptLs
    rw [List.length_append]
    simp only
    omega)
   have e3:=list_head (enc:=ptLs) (L:=A.map fun s=>(s.1,s.2.1)) (by rw [List.length_map];omega)
   have e4:((A.map fun s=>(s.1,s.2.1)).map fun s:Int × List Int=>s.2.length).sum≤(A.map fun s=>s.2.1.length+s.2.2.length+1).sum:=by
    rw [List.map_map]
    clear e1 e2 e3 r1 r2 hA
    induction A with
    | nil=>simp
    | cons s A ih=>simp only [List.map_cons,List.sum_cons,Function.comp];omega
   have e5:=table_len (W:=t.tk.length+1) (LL:=A.map fun s=>lookRow t.tk.length s.2.2) (by omega) (by rw [List.length_map];omega) (by have:=makeOk_look r2;exact_mod_cast this)
   rw [List.length_map] at e2 e5
   have e6:A.length * (t.tk.length+1)≤A.length * 65:=Nat.mul_le_mul_left _ (by omega)
   unfold ptLook
   rw [List.length_append]
   have e7:ptTable ((t.tk.length:Int)+1) (A.map fun s=>lookRow t.tk.length s.2.2)=ptTable ((t.tk.length+1:Nat):Int) (A.map fun s=>lookRow t.tk.length s.2.2):=by norm_cast
   rw [e7]
   try simp only at e1
   omega
  have h1:=flat_sum (ptLook t.tk.length) (fun A:List LsD=>(A.map fun s=>s.2.1.length+s.2.2.length+1).sum) 40 1000 t.lk hlk
  have h2:=h.k
  have h3:40 * t.lk.length≤40 * 2000:=Nat.mul_le_mul_left _ (by omega)
  omega
 have t6:headL.length≤100:=by decide
 unfold ptTabs ptBody
 rw [List.length_append,List.length_append,List.length_append,List.length_append,List.length_append]
 omega
end Go.Proofs.YtgnpmceimpjheaaGreat
namespace Go.Proofs.YtgnpmceimpjheaaGreat
open Go.RowKit
def zero13:List Value:=[.slice none 0 0,.slice none 0 0,.slice none 0 0,.slice none 0 0,.slice none 0 0,.slice none 0 0,.slice none 0 0,.slice none 0 0,.slice none 0 0,.slice none 0 0,.slice none 0 0,.slice none 0 0,.slice none 0 0]
set_option maxRecDepth 100000 in
set_option maxHeartbeats 4000000 in
theorem catch_strange (tb eb:Nat) (w:World) (v:Nat→Value) (x:Int) (he:tb≠eb) (hc:∀ j,j < 13→w.cell? ⟨tb,j,none⟩=some (v j)) (hz:∀ j,w.frozen? ⟨tb,j,none⟩=false) (h1:w.cell? ⟨eb,0,none⟩=some (.int .i64 x)) (hz1:w.frozen? ⟨eb,0,none⟩=false) :
  CallsD Tryz.prog 53 #[.pointer (some ⟨tb,0,none⟩),.pointer (some ⟨eb,0,none⟩)] (.panicking [{ v:=.iface 129 (.agg #[]),recovered:=false }]) w fun e u' w' =>
   e=.returned (.tuple #[])∧u'=.panicking [{ v:=.iface 129 (.agg #[]),recovered:=true }]∧w'=(setAll tb 0 zero13 (w.alloc (.cells #[] 129))).setCell ⟨eb,0,none⟩ (.int .i64 4):=by
 have hta:∀ w,(Instr.typeAssert (.iface 129 (.agg #[])) 20 129 true).run Tryz.prog w=.ok (.tuple #[.agg #[],.bool true]) w:=fun _=>by kernel_rfl
 obtain ⟨w1,hw1⟩:∃ W,W=w.alloc (.cells #[] 129):=⟨_,rfl⟩
 have hC:Chg (fun _=>False) w w1:=by rw [hw1];exact (Chg.refl _ _).alloc _
 have hK:∀ j,j < 13→w1.cell? ⟨tb,j,none⟩=some (v j):=fun j hj=>hC.cellS (hc j hj) (fun h=>h)
 have htl:tb < w.heap.size:=World.block_lt_of_cell? _ _ (hc 0 (by decide))
 have hZ:∀ j,w1.frozen? ⟨tb,j,none⟩=false:=fun j=>(hC.frozen (p:=⟨tb,j,none⟩) htl (fun h=>h)).trans (hz j)
 have ke:=hC.cellS h1 (fun h=>h)
 have ze:=(hC.frozen (p:=⟨eb,0,none⟩) (World.block_lt_of_cell? _ _ h1) (fun h=>h)).trans hz1
 clear hz hz1 h1 hC hc
 refine callsD_of_wpS Tryz.func53 rfl fun c₀ cs hu=>?_
 apply wpS_seq
 apply wpS_region
 simp [wpOpsS,go_sem,recoverD,hu,Tryz.ntmps53,Exit.thenS]
 refine wpS_of_wp ?_
 go_upto_region 2 with (fail)
 rw [← hw1]
 have HW1:=jh hw1
 clear hw1
 have k0:=hK 0 (by decide);have z0:=hZ 0
 have k1:=hK 1 (by decide);have z1:=hZ 1
 have k2:=hK 2 (by decide);have z2:=hZ 2
 have k3:=hK 3 (by decide);have z3:=hZ 3
 have k4:=hK 4 (by decide);have z4:=hZ 4
 have k5:=hK 5 (by decide);have z5:=hZ 5
 have k6:=hK 6 (by decide);have z6:=hZ 6
 have k7:=hK 7 (by decide);have z7:=hZ 7
 have k8:=hK 8 (by decide);have z8:=hZ 8
 have k9:=hK 9 (by decide);have z9:=hZ 9
 have k10:=hK 10 (by decide);have z10:=hZ 10
 have k11:=hK 11 (by decide);have z11:=hZ 11
 have k12:=hK 12 (by decide);have z12:=hZ 12
 have hne:¬ eb=tb:=fun h=>he h.symm
 go_upto_region 3 with (fail)
 go_wp2
 refine ⟨rfl,_,rfl,_,results_none rfl _ _ _,rfl,rfl,?_⟩
 rw [← HW1.out]
 rfl
set_option maxRecDepth 100000 in
set_option maxHeartbeats 4000000 in
theorem catch_none (tb eb:Nat) (w:World) :
  CallsD Tryz.prog 53 #[.pointer (some ⟨tb,0,none⟩),.pointer (some ⟨eb,0,none⟩)] .returning w fun e u' w' =>
   e=.returned (.tuple #[])∧u'=.returning∧w'=w.alloc (.cells #[] 129):=by
 have hta:∀ w,(Instr.typeAssert .nilIface 20 129 true).run Tryz.prog w=.ok (.tuple #[.agg #[],.bool false]) w:=fun _=>by kernel_rfl
 refine callsD_of_wpS Tryz.func53 rfl fun c₀ cs hu=>?_
 apply wpS_seq
 apply wpS_region
 simp [wpOpsS,go_sem,recoverD,hu,Tryz.ntmps53,Exit.thenS]
 refine wpS_of_wp ?_
 go_wp2
 refine ⟨rfl,_,?_,_,results_none rfl _ _ _,rfl,rfl,rfl⟩
 cases c₀
 simp_all
end Go.Proofs.YtgnpmceimpjheaaGreat
namespace Go.Proofs.YtgnpmceimpjheaaGreat
open Go.RowKit
def TablesPost (pg:Nat) (w:World) (Z:List Int) (e:Ending) (w':World):Prop :=
 Chg (·=pg) w w'∧((tabsG Z=none∧e=strangeP)∨∃ t m,tabsG Z=some t∧e=.returned (tabsV m)∧TabsIn w' (fun k=>w.heap.size≤k) m t)
theorem head_ne {Y:List Int} (hY:∀ a∈Y,Byte a) (h:Y≠headL):((strOfNums Y).toList == [72,66,84,49])=false:=by
 rw [beq_eq_false_iff_ne]
 intro e
 rw [ByteArray.toList_eq] at e
 refine h (str_inj hY (by decide) ?_)
 rw [strHead]
 exact ByteArray.ext (Array.toList_inj.1 e)
theorem setAll_out (b:Nat):∀ (vs:List Value) (o:Nat) (W:World) (j:Nat),(j < o∨o+vs.length≤j)→(setAll b o vs W).cell? ⟨b,j,none⟩=W.cell? ⟨b,j,none⟩
 | [],_,_,_,_=>rfl
 | v :: vs,o,W,j,h=>by
  rw [show setAll b o (v :: vs) W=setAll b (o+1) vs (W.setCell ⟨b,o,none⟩ v) from rfl,setAll_out b vs (o+1) _ j (by simp only [List.length_cons] at h;omega)]
  exact World.cell?_setCell_other _ _ _ _ (by intro e;injection e with _ e;simp only [List.length_cons] at h;omega)
theorem tokList {w:World} {S:Nat→Prop} {s:Sl} {L:List (Str × Bool)} (h:ListR strE tokR w S s L):strE.InS w S s (L.map (·.1)):=by
 obtain ⟨X,h1,h2,h3⟩:=h
 have:X=L.map (·.1):=List.ext_getElem (by rw [List.length_map];exact h2) (fun j hx hl=>by
  rw [List.length_map] at hl
  have:=h3 j _ _ (List.getElem?_eq_getElem hx) (List.getElem?_eq_getElem hl)
  rw [List.getElem_map]
  exact this)
 rw [← this];exact h1
set_option maxRecDepth 100000 in
set_option maxHeartbeats 16000000 in
theorem tables_any {pg gb:Nat} (w:World) (Z:List Int) (h:GetSt pg gb w Z) (hl4:4≤Z.length):Calls Tryz.prog 55 #[.pointer (some ⟨pg,0,none⟩)] w (TablesPost pg w Z):=by
 have HG:=jh h
 obtain ⟨o,cc,h1,h2,h3⟩:=h.c
 have hzl:=h.len
 have hmf:∀ (fn:Fn) (first cap:Array Value) (w:World),(Instr.makeFunc fn first cap).run Tryz.prog w=.ok (.func fn first cap) w:=fun _ _ _ _=>rfl
 have b1:decide (4≤Z.length)=true:=decide_eq_true hl4
 have b1':decide ((4:Int)≤(Z.length:Int))=true:=decide_eq_true (by omega)
 obtain ⟨w0,hw0⟩:∃ W,W=(w.alloc (.cells #[.pointer (some ⟨pg,0,none⟩)] 132)).alloc (.cells #[.slice none 0 0,.slice none 0 0,.slice none 0 0,.slice none 0 0,.slice none 0 0,.slice none 0 0,.slice none 0 0,.slice none 0 0,.slice none 0 0,.slice none 0 0,.slice none 0 0,.slice none 0 0,.slice none 0 0] 34):=⟨_,rfl⟩
 have HC0:Hid (Chg (fun _=>False) w w0):=jh (by rw [hw0];exact ((Chg.refl _ w).alloc _).alloc _)
 have HS0:Hid (w0.heap.size=w.heap.size+2):=jh (by rw [hw0];simp)
 have q0:w0.cell? ⟨w.heap.size,0,none⟩=some (.pointer (some ⟨pg,0,none⟩)):=by rw [hw0];exact allocOld _ (allocNew _ _ rfl)
 have HZ0:Hid (∀ j,w0.frozen? ⟨w.heap.size+1,j,none⟩=false):=jh (fun j=>by
  have e:w.heap.size+1=(w.alloc (.cells #[.pointer (some ⟨pg,0,none⟩)] 132)).heap.size:=by simp
  rw [hw0,e]
  exact World.frozen?_alloc_new _ _ _ _)
 have HT0:Hid (∀ j,j < 13→w0.cell? ⟨w.heap.size+1,j,none⟩=some (.slice none 0 0)∧w0.frozen? ⟨w.heap.size+1,j,none⟩=false):=jh (fun j hj=>by
  rw [hw0]
  refine ⟨allocAt _ (by simp) ?_,?_⟩
  ·rcases (by omega:j=0∨j=1∨j=2∨j=3∨j=4∨j=5∨j=6∨j=7∨j=8∨j=9∨j=10∨j=11∨j=12) with rfl | rfl | rfl | rfl | rfl | rfl | rfl | rfl | rfl | rfl | rfl | rfl | rfl <;> rfl
  ·have e:w.heap.size+1=(w.alloc (.cells #[.pointer (some ⟨pg,0,none⟩)] 132)).heap.size:=by simp
   rw [e]
   exact World.frozen?_alloc_new _ _ _ _)
 have q1:=HC0.out.cellS h1 (fun h=>h)
 have HQ0:=jh q0
 have HB:Hid (BytesAt w0 gb o Z):=jh (h3.chg HC0.out (fun _ h=>h))
 have HB4:Hid (BytesAt w0 gb o (Z.take 4)):=jh ⟨fun j x hj=>HB.out.c j x (by rw [List.getElem?_take_of_lt (by have:=(List.getElem?_eq_some_iff.1 hj).1;rw [List.length_take] at this;omega)] at hj;exact hj),fun _=>Nat.lt_of_lt_of_le HG.out.lb HC0.out.size⟩
 have hcv:=conv8 cc HB4.out (a:=some ⟨gb,o,none⟩) (fun _=>rfl)
 rw [List.length_take,Nat.min_eq_left hl4] at hcv
 have HZC:Hid (Z.length≤cc):=jh h2
 have hcc4:4≤cc:=by omega
 obtain ⟨tb,htb⟩:∃ b,b=w.heap.size+1:=⟨_,rfl⟩
 have HTB:Hid (tb=w.heap.size+1):=jh htb
 rw [← htb] at HT0 HZ0
 clear h h1 h2 h3
 go_enter Tryz.func55,Tryz.ntmps55
 go_upto_region 1 with (fail)
 rw [← hw0,← htb]
 clear hw0 htb
 by_cases hhd:Z.take 4=headL
 ·rw [hhd,strHead] at hcv
  go_wp2_with fail
  refine (must_ok _).mono ?_
  rintro e w1 ⟨rfl,rfl⟩
  clear hcv b1 b1' q0
  have HTG:Hid (tabsG Z=match bodyG (Z.drop 4) with
   | none=>none
   | some (t,r)=>if r=[]∧mayTabs t=true then some t else none):=jh (by unfold tabsG;rw [if_pos hhd];rfl)
  clear hhd
  go_upto_region 2 with (fail)
  obtain ⟨wd,hwd⟩:∃ W,w1.drew=W:=⟨_,rfl⟩
  have HDD:Hid (Chg (fun _=>False) w1 wd):=jh (by rw [← hwd];exact (Chg.refl _ _).drew)
  refine wp_region_late (fun x=>x=wd) (fun i=>decide (8≤i)) (by kernel_rfl) ?_
  show wpAnyL _ _ _ _ _ _ 9 (Array.replicate 9 false) _ w1.drew
  rw [hwd]
  clear hwd
  have HBX:Hid (wd.cell? ⟨w.heap.size,0,none⟩=some (.pointer (some ⟨pg,0,none⟩))):=jh (HDD.out.cellS HQ0.out (fun h=>h))
  have HPC:Hid (wd.cell? ⟨pg,0,none⟩=some (.slice (some ⟨gb,o,none⟩) Z.length cc)):=jh (HDD.out.cellS q1 (fun h=>h))
  have HSS:Hid (wd=wd):=jh rfl
  (refine lrd 0 HSS.out (fun K hK=>?_);apply Exists.intro;refine ⟨fun w' hC=>?_,?_⟩;((subst hC;have q:=HBX.out);go_simp;try with_reducible rfl);(try go_simp);refine hK _ ?_;clear hK K)
  (refine lrd 1 HSS.out (fun K hK=>?_);apply Exists.intro;refine ⟨fun w' hC=>?_,?_⟩;((subst hC;have q:=HBX.out);go_simp;try with_reducible rfl);(try go_simp);refine hK _ ?_;clear hK K)
  (refine lrd 2 HSS.out (fun K hK=>?_);apply Exists.intro;refine ⟨fun w' hC=>?_,?_⟩;(go_simp;try with_reducible rfl);(try go_simp);refine hK _ ?_;clear hK K)
  (refine lrd 3 HSS.out (fun K hK=>?_);apply Exists.intro;refine ⟨fun w' hC=>?_,?_⟩;(go_simp;try with_reducible rfl);(try go_simp);refine hK _ ?_;clear hK K)
  (refine lrd 4 HSS.out (fun K hK=>?_);apply Exists.intro;refine ⟨fun w' hC=>?_,?_⟩;((subst hC;have q:=HPC.out);go_simp;try with_reducible rfl);(try go_simp);refine hK _ ?_;clear hK K)
  have hz4:(4:Int)≤(Z.length:Int):=by omega
  (refine lrd 5 HSS.out (fun K hK=>?_);apply Exists.intro;refine ⟨fun w' hC=>?_,?_⟩;(go_simp;try with_reducible rfl);(try go_simp);refine hK _ ?_;clear hK K)
  obtain ⟨A,hA⟩:∃ A:Option Addr,(if cc=4 then some ⟨gb,o,none⟩ else some ⟨gb,o+4,none⟩)=A:=⟨_,rfl⟩
  rw [hA]
  (refine lrd 6 HSS.out (fun K hK=>?_);apply Exists.intro;refine ⟨fun w' hC=>?_,?_⟩;(go_simp;try with_reducible rfl);(try go_simp);refine hK _ ?_;clear hK K)
  (refine lrd 7 HSS.out (fun K hK=>?_);apply Exists.intro;refine ⟨fun w' hC=>?_,?_⟩;(go_simp;try with_reducible rfl);(try go_simp);refine hK _ ?_;clear hK K)
  have HCUT:Hid (GetSt pg gb (wd.setCell ⟨pg,0,none⟩ (.slice A (Z.length - 4) (cc - 4))) (Z.drop 4)):=jh (by
   have h1:=(HG.out.fresh (HC0.out.trans HDD.out)).cut HPC.out HZC.out (HB.out.chg HDD.out (fun _ h=>h)) hl4
   unfold cutV at h1
   by_cases hck:cc=4
   ·rw [if_pos hck] at h1 hA
    rw [← hA]
    have e1:Z.length - 4=0:=by have:=HZC.out;omega
    rw [e1,hck]
    exact h1
   ·rw [if_neg hck] at h1 hA
    rw [← hA]
    exact h1)
  have k1:=HPC.out
  have k2:wd.frozen? ⟨pg,0,none⟩=false:=(HG.out.fresh (HC0.out.trans HDD.out)).z
  (refine late_store (i:=8) (by kernel_rfl) rfl rfl (fun K hK=>?_);apply Exists.intro;refine ⟨?_,(fun h=>absurd h (by decide)),?_⟩;(go_simp;try first | with_reducible rfl | exact ⟨rfl,rfl⟩);(try go_simp);refine hK _ _ ?_;clear hK K)
  refine late_done (by kernel_rfl) ?_ _
  obtain ⟨w2,hw2⟩:∃ W,W=wd.setCell ⟨pg,0,none⟩ (.slice A (Z.length - 4) (cc - 4)):=⟨_,rfl⟩
  rw [← hw2] at HCUT ⊢
  have HC2:Hid (Chg (·=pg) w1 w2):=jh (by rw [hw2];exact HDD.out.any.trans (setCellChg _ _ _ _))
  have HPG:Hid (pg < w.heap.size∧gb < w.heap.size):=jh ⟨HG.out.lt,HG.out.lb⟩
  have HSB2:Hid (GetSb pg gb w.heap.size w2 (Z.drop 4)):=jh ⟨HCUT.out,HC2.out.cellS HQ0.out (by have:=HPG.out;show ¬ w.heap.size=pg;omega),by have:=HPG.out;omega⟩
  have HT2:Hid (∀ j,j < 13→w2.cell? ⟨tb,j,none⟩=some (.slice none 0 0)∧w2.frozen? ⟨tb,j,none⟩=false):=jh (fun j hj=>by
   have hn:¬ tb=pg:=by have:=HPG.out;have:=HTB.out;omega
   exact ⟨HC2.out.cellS (HT0.out j hj).1 hn,(HC2.out.frozen (p:=⟨tb,j,none⟩) (World.block_lt_of_cell? _ _ (HT0.out j hj).1) hn).trans (HT0.out j hj).2⟩)
  have htl:tb < w1.heap.size:=World.block_lt_of_cell? _ _ (HT0.out 0 (by omega)).1
  have HZ2:Hid (∀ j,w2.frozen? ⟨tb,j,none⟩=false):=jh (fun j=>(HC2.out.frozen (p:=⟨tb,j,none⟩) htl (by have:=HPG.out;have:=HTB.out;show ¬ tb=pg;omega)).trans (HZ0.out j))
  clear htl hw2 hA k1 k2 hz4 q1 HPC HBX HSS hcc4
  have q0:=HSB2.out.c
  go_wp2_with fail
  refine (texts_any w2 _ HSB2.out.g).mono ?_
  rintro e w3 ⟨hc3,⟨h3,rfl⟩ | ⟨rl,r3,a3,h3,rfl,hR3,hg3,hn3⟩⟩
  ·refine ⟨rfl,HC0.out.any.trans (HC2.out.trans hc3),.inl ⟨?_,rfl⟩⟩
   rw [HTG.out]
   simp only [bodyG,h3]
  obtain ⟨n3,hn⟩:∃ n,rl.length=n:=⟨_,rfl⟩
  rw [hn] at hR3 hn3
  simp only [hn]
  have HN3:=jh hn
  have H3:=jh h3
  have hn':¬ tb=pg:=by have:=HPG.out;have:=HTB.out;omega
  have hT3:∀ j,j < 13→w3.cell? ⟨tb,j,none⟩=some (.slice none 0 0)∧w3.frozen? ⟨tb,j,none⟩=false:=fun j hj =>
   ⟨hc3.cellS (HT2.out j hj).1 hn',(hc3.frozen (p:=⟨tb,j,none⟩) (World.block_lt_of_cell? _ _ (HT2.out j hj).1) hn').trans (HT2.out j hj).2⟩
  have c0:=(hT3 0 (by omega)).1
  have z0:=(hT3 0 (by omega)).2
  obtain ⟨w4,hw4⟩:∃ W,W=w3.setCell ⟨tb,0,none⟩ (.slice a3 n3 n3):=⟨_,rfl⟩
  have hs4:Chg (·=tb) w3 w4:=by rw [hw4];exact setCellChg _ _ _ _
  have hoth4:∀ j,1≤j→j < 13→w4.cell? ⟨tb,j,none⟩=some (.slice none 0 0):=fun j h1 h2=>by
   rw [hw4,World.cell?_setCell_other _ _ _ _ (by intro e;injection e with _ e;omega)]
   exact (hT3 j h2).1
  have HC4:Hid (w4.cell? ⟨tb,0,none⟩=some (.slice a3 n3 n3)∧∀ j,1≤j→j < 13→w4.cell? ⟨tb,j,none⟩=some (.slice none 0 0)):=jh ⟨by rw [hw4];exact World.cell?_setCell_same _ _ _ c0,hoth4⟩
  have HTK4:Hid (TokSt pg gb w.heap.size tb w4 w4 [] r3):=jh (by
   have hp:=HPG.out
   have ht:=HTB.out
   have hlt:=World.block_lt_of_cell? _ _ c0
   have hz:∀ j,w4.frozen? ⟨tb,j,none⟩=false:=fun j=>by
    rw [hw4]
    have htl2:tb < w2.heap.size:=World.block_lt_of_cell? _ _ (HT2.out 0 (by omega)).1
    refine (World.frozen?_setCell _ _ _ _).trans ((hc3.frozen (p:=⟨tb,j,none⟩) htl2 hn').trans ?_)
    exact HZ2.out j
   exact ⟨(HSB2.out.go hg3 hc3).chg hs4 (by omega) (by omega) (by omega),by omega,⟨_,hoth4 2 (by omega) (by omega),hz 2,.nil _ _⟩,fun j u _ hu=>hu,hz⟩)
  have HR4:Hid (strE.InS w4 (fun k=>w2.heap.size≤k∧k < w4.heap.size) (a3,n3,n3) rl):=jh ((hR3.to.chg hs4 (fun g hg e=>by have:=World.block_lt_of_cell? _ _ (HT2.out 0 (by omega)).1;simp only at this;omega)).mono (fun g hg hh=>⟨hh,hg⟩))
  have HC14:Hid (Chg (·=pg) w w4):=jh ((HC0.out.any.trans (HC2.out.trans hc3)).trans2 hs4 (fun g hg e=>by have:=HTB.out;omega))
  have HW24:Hid (w.heap.size+2≤w2.heap.size∧w2.heap.size≤w4.heap.size):=jh ⟨by have:=HC2.out.size;have:=HS0.out;omega,Nat.le_trans hc3.size hs4.size⟩
  clear hc3 h3 hR3 hg3 hn3 hn hT3 hs4 hoth4 q0 HC2 HSB2 HT2
  go_upto_region 4 with (fail)
  rw [← hw4]
  clear hw4 c0 z0
  have q0:=HTK4.out.g.c
  go_wp2_with fail
  refine (toks_any w4 r3 HTK4.out).mono ?_
  rintro e w5 ⟨hc5,⟨h5,rfl⟩ | ⟨L,r5,a5,h5,rfl,hL5,hst5,hl5,-,-,-⟩⟩
  ·refine ⟨rfl,HC14.out.trans2 hc5 (fun g hg e=>?_),.inl ⟨?_,rfl⟩⟩
   ·rcases e with e | e | ⟨v,hv,e⟩
    ·exact e
    ·have:=HTB.out;omega
    ·rw [HC4.out.2 2 (by omega) (by omega)] at hv
     obtain rfl:=Option.some.inj hv
     cases e
   ·rw [HTG.out]
    simp only [bodyG,H3.out,h5]
  obtain ⟨n5,hn⟩:∃ n,L.length=n:=⟨_,rfl⟩
  rw [hn] at hL5 hl5
  simp only [hn]
  have HN5:=jh hn
  have H5:=jh h5
  have hc5':Chg (fun k=>k=pg∨k=tb) w4 w5:=hc5.mono (fun g hg e=>by
   rcases e with e | e | ⟨v,hv,e⟩
   ·exact .inl e
   ·exact .inr e
   ·rw [HC4.out.2 2 (by omega) (by omega)] at hv
    obtain rfl:=Option.some.inj hv
    cases e)
  obtain ⟨dv,hdv⟩:=hst5.f
  obtain ⟨da,dn,dc,rfl⟩:=hdv.own.shape3
  have c1:=hst5.o 1 _ (by omega) (HC4.out.2 1 (by omega) (by omega))
  have z1:=hst5.z 1
  obtain ⟨w6,hw6⟩:∃ W,W=w5.setCell ⟨tb,1,none⟩ (.slice a5 n5 n5):=⟨_,rfl⟩
  have hs6:Chg (·=tb) w5 w6:=by rw [hw6];exact setCellChg _ _ _ _
  have hoth6:∀ j u,j≠1→w5.cell? ⟨tb,j,none⟩=some u→w6.cell? ⟨tb,j,none⟩=some u:=fun j u hj hu=>by
   rw [hw6,World.cell?_setCell_other _ _ _ _ (by intro e;injection e with _ e;exact hj e.symm)]
   exact hu
  have HC6:Hid (w6.cell? ⟨tb,0,none⟩=some (.slice a3 n3 n3)∧w6.cell? ⟨tb,1,none⟩=some (.slice a5 n5 n5)∧w6.cell? ⟨tb,2,none⟩=some (.slice da dn dc)∧∀ j,3≤j→j < 13→w6.cell? ⟨tb,j,none⟩=some (.slice none 0 0)):=jh
   ⟨hoth6 0 _ (by omega) (hst5.o 0 _ (by omega) HC4.out.1),by rw [hw6];exact World.cell?_setCell_same _ _ _ c1,hoth6 2 _ (by omega) hdv.c,fun j h1 h2=>hoth6 j _ (by omega) (hst5.o j _ (by omega) (HC4.out.2 j (by omega) h2))⟩
  have HZ6:Hid (∀ j,w6.frozen? ⟨tb,j,none⟩=false):=jh (fun j=>by rw [hw6];exact (World.frozen?_setCell _ _ _ _).trans (hst5.z j))
  have HTW:Hid (tb < w6.heap.size):=jh (World.block_lt_of_cell? _ _ HC6.out.1)
  have HSB6:Hid (GetSb pg gb w.heap.size w6 r5):=jh (by
   have hp:=HPG.out
   have ht:=HTB.out
   exact hst5.g.chg hs6 (by omega) (by omega) (by omega))
  have HD6:Hid (boolE.Own w6 (tb+1) (.slice da dn dc) (L.map (·.2))):=jh (hdv.own.chg hs6 (fun g hg _ e=>by omega))
  have HR6:Hid (strE.InS w6 (fun k=>w.heap.size+2≤k∧k < w6.heap.size) (a3,n3,n3) rl∧strE.InS w6 (fun k=>w.heap.size+2≤k∧k < w6.heap.size) (a5,n5,n5) (L.map (·.1))):=jh (by
   have hp:=HPG.out
   have ht:=HTB.out
   have h24:=HW24.out
   exact ⟨((HR4.out.chg hc5' (fun g hg e=>by omega)).chg hs6 (fun g hg e=>by omega)).mono (fun g hg hh=>⟨by omega,hg⟩),((tokList hL5).chg hs6 (fun g hg e=>by omega)).mono (fun g hg hh=>⟨by omega,hg⟩)⟩)
  have HC16:Hid (Chg (·=pg) w w6):=jh ((HC14.out.trans2 hc5' (fun g hg e=>by have:=HTB.out;omega)).trans2 hs6 (fun g hg e=>by have:=HTB.out;omega))
  have HW6:Hid (w.heap.size+2≤w6.heap.size):=jh (by have:=HW24.out;have:=hc5.size;have:=hs6.size;omega)
  clear hc5 hc5' h5 hL5 hst5 hn hdv hs6 hoth6 q0 HTK4 HR4 HC4 HC14
  go_upto_region 5 with (fail)
  rw [← hw6]
  clear hw6 c1 z1
  obtain ⟨wd,hwd⟩:∃ W,w6.drew=W:=⟨_,rfl⟩
  have HD:Hid (Chg (fun _=>False) w6 wd):=jh (by rw [← hwd];exact (Chg.refl _ _).drew)
  have HSD:=jh (HSB6.out.fresh HD.out)
  refine wp_region_late (fun x=>Chg (·=pg) wd x) (fun i=>decide (5≤i)) (by kernel_rfl) ?_
  show wpAnyL _ _ _ _ _ _ 8 (Array.replicate 8 false) _ w6.drew
  rw [hwd]
  clear hwd
  have HSS:Hid (Chg (·=pg) wd wd):=jh (Chg.refl _ _)
  (refine lrd 0 HSS.out (fun K hK=>?_);apply Exists.intro;refine ⟨fun w' hC=>?_,?_⟩;((have q:=hC.cellS HSD.out.c HSD.out.ne);go_simp;try with_reducible rfl);(try go_simp);refine hK _ ?_;clear hK K)
  (refine lrd 2 HSS.out (fun K hK=>?_);apply Exists.intro;refine ⟨fun w' hC=>?_,?_⟩;((have q:=hC.cellS HSD.out.c HSD.out.ne);go_simp;try with_reducible rfl);(try go_simp);refine hK _ ?_;clear hK K)
  refine late_call_p (i:=1) (by kernel_rfl) rfl rfl 107 #[.pointer (some ⟨pg,0,none⟩)] (fun v w''=>∃ (lx:LexD) (r:List Int) (m:LexS),lexG r5=some (lx,r)∧v=lexV' m∧LexIn w'' (fun k=>wd.heap.size≤k) m lx∧GetSt pg gb w'' r∧Chg (·=pg) wd w'') (by go_simp) ?_ ?_
  ·refine (lexer_any wd r5 HSD.out.g).mono ?_
   rintro e w7 ⟨hc7,⟨h7,rfl⟩ | ⟨lx,r7,m7,h7,rfl,hL7,hg7,-,-,-⟩⟩
   ·refine .inr ⟨_,rfl,rfl,HC16.out.trans (HD.out.any.trans hc7),.inl ⟨?_,rfl⟩⟩
    rw [HTG.out]
    simp only [bodyG,H3.out,H5.out,h7]
   ·exact .inl ⟨_,rfl,fun _=>hc7,lx,r7,m7,h7,rfl,hL7,hg7,hc7⟩
  rintro v w7 - ⟨lx,r7,m7,h7,rfl,hL7,hg7,hc7⟩ K hK
  (try go_simp)
  refine hK _ ?_
  clear hK K HSS
  have H7:=jh h7
  have HC7:=jh hc7
  have HL7:=jh hL7
  have HG7:=jh hg7
  have HSS:Hid (Chg (·=pg) wd w7):=HC7
  clear h7 hL7 hg7 hc7
  (refine lrd 4 HSS.out (fun K hK=>?_);apply Exists.intro;refine ⟨fun w' hC=>?_,?_⟩;(go_simp;try with_reducible rfl);(try go_simp);refine hK _ ?_;clear hK K)
  refine late_call_p (i:=3) (by kernel_rfl) rfl rfl 108 #[.pointer (some ⟨pg,0,none⟩)] (fun v w''=>∃ (nt:NetD) (r:List Int) (m:NetS),netG r7=some (nt,r)∧v=netV m∧NetIn w'' (fun k=>w7.heap.size≤k) m nt∧GetSt pg gb w'' r∧Chg (·=pg) w7 w''∧nt.d.length≤16777215) (by go_simp) ?_ ?_
  ·refine (net_any w7 r7 HG7.out).mono ?_
   rintro e w8 ⟨hc8,⟨h8,rfl⟩ | ⟨nt,r8,m8,h8,rfl,hN8,hg8,hnl⟩⟩
   ·refine .inr ⟨_,rfl,rfl,HC16.out.trans (HD.out.any.trans (HC7.out.trans hc8)),.inl ⟨?_,rfl⟩⟩
    rw [HTG.out]
    simp only [bodyG,H3.out,H5.out,H7.out,h8]
   ·exact .inl ⟨_,rfl,fun _=>HC7.out.trans hc8,nt,r8,m8,h8,rfl,hN8,hg8,hc8,hnl⟩
  rintro v w8 - ⟨nt,r8,m8,h8,rfl,hN8,hg8,hc8,hnl⟩ K hK
  (try go_simp)
  refine hK _ ?_
  clear hK K HSS
  have H8:=jh h8
  have HC8:Hid (Chg (·=pg) w6 w8):=jh (HD.out.any.trans (HC7.out.trans hc8))
  have HS78:Hid (w6.heap.size≤wd.heap.size∧wd.heap.size≤w7.heap.size∧w7.heap.size≤w8.heap.size):=jh ⟨HD.out.size,HC7.out.size,hc8.size⟩
  have HL8:Hid (LexIn w8 (fun k=>w6.heap.size≤k∧k < w8.heap.size) m7 lx):=jh (LexIn.good.mono (LexIn.good.chg HL7.out hc8 (fun g hg e=>by have:=HPG.out;have:=HW6.out;have:=HS78.out;omega)) (fun g hg hh=>⟨by have:=HS78.out;omega,hg⟩))
  have HN8:Hid (NetIn w8 (fun k=>w6.heap.size≤k∧k < w8.heap.size) m8 nt):=jh (NetIn.good.mono hN8 (fun g hg hh=>⟨by have:=HS78.out;omega,hg⟩))
  have HG8:=jh hg8
  have HNL:=jh hnl
  clear h8 hN8 hg8 hc8 hnl HL7 HG7
  obtain ⟨⟨p0,p1,p2⟩,⟨p3,p4,p5⟩,⟨p6,p7,p8⟩,⟨p9,p10,p11⟩⟩:=m7
  obtain ⟨⟨u0,u1,u2⟩,⟨u3,u4,u5⟩,⟨u6,u7,u8⟩,⟨u9,u10,u11⟩,⟨u12,u13,u14⟩⟩:=m8
  simp only [lexV',netV,slV]
  have hnb:¬ tb=pg:=by have:=HPG.out;have:=HTB.out;omega
  have HC8T:Hid (∀ j,3≤j→j < 13→w8.cell? ⟨tb,j,none⟩=some (.slice none 0 0)):=jh (fun j h1 h2=>HC8.out.cellS (HC6.out.2.2.2 j h1 h2) hnb)
  have HZ8:Hid (∀ j,w8.frozen? ⟨tb,j,none⟩=false):=jh (fun j=>(HC8.out.frozen (p:=⟨tb,j,none⟩) HTW.out hnb).trans (HZ6.out j))
  have k3:=HC8T.out 3 (by omega) (by omega)
  have k4:=HC8T.out 4 (by omega) (by omega)
  have k5:=HC8T.out 5 (by omega) (by omega)
  have k6:=HC8T.out 6 (by omega) (by omega)
  have z3:=HZ8.out 3
  have z4:=HZ8.out 4
  have z5:=HZ8.out 5
  have z6:=HZ8.out 6
  (refine late_store (i:=5) (by kernel_rfl) rfl rfl (fun K hK=>?_);apply Exists.intro;refine ⟨?_,(fun h=>absurd h (by decide)),?_⟩;(go_simp;try first | with_reducible rfl | exact ⟨rfl,rfl⟩);(try go_simp);refine hK _ _ ?_;clear hK K)
  clear k3 k4 k5 k6 z3 z4 z5 z6
  obtain ⟨w9,hw9⟩:∃ W,W=setAll tb 3 [.slice p0 p1 p2,.slice p3 p4 p5,.slice p6 p7 p8,.slice p9 p10 p11] w8:=⟨_,rfl⟩
  have HS9:Hid ((w9.cell? ⟨tb,3,none⟩=some (.slice p0 p1 p2)∧w9.cell? ⟨tb,4,none⟩=some (.slice p3 p4 p5)∧w9.cell? ⟨tb,5,none⟩=some (.slice p6 p7 p8)∧w9.cell? ⟨tb,6,none⟩=some (.slice p9 p10 p11))∧(∀ j,j < 3∨7≤j→w9.cell? ⟨tb,j,none⟩=w8.cell? ⟨tb,j,none⟩)∧Chg (·=tb) w8 w9∧∀ j,w9.frozen? ⟨tb,j,none⟩=false):=jh (by
   obtain ⟨s1,-,s3,s4⟩:=setAll_spec tb [.slice p0 p1 p2,.slice p3 p4 p5,.slice p6 p7 p8,.slice p9 p10 p11] 3 w8 (fun j hj=>by
    simp only [List.length_cons,List.length_nil] at hj
    rw [HC8T.out (3+j) (by omega) (by omega)];rfl)
   rw [hw9]
   exact ⟨⟨s1 0 _ rfl,s1 1 _ rfl,s1 2 _ rfl,s1 3 _ rfl⟩,fun j hj=>setAll_out tb _ 3 w8 j (by simpa using hj),s3,fun j=>(s4 _).trans (HZ8.out j)⟩)
  simp only [setAll] at hw9
  rw [← hw9]
  clear hw9
  (refine late_turn (i:=6) (by kernel_rfl) rfl rfl (fun K hK=>?_);apply Exists.intro;apply Exists.intro;refine ⟨?_,?_,?_⟩;(go_simp;try first | with_reducible rfl | exact ⟨rfl,rfl⟩);(exact fun h=>absurd h (by decide));(try go_simp);refine hK _ _ ?_;clear hK K)
  have k7:=(HS9.out.2.1 7 (by omega)).trans (HC8T.out 7 (by omega) (by omega))
  have k8:=(HS9.out.2.1 8 (by omega)).trans (HC8T.out 8 (by omega) (by omega))
  have k9:=(HS9.out.2.1 9 (by omega)).trans (HC8T.out 9 (by omega) (by omega))
  have k10:=(HS9.out.2.1 10 (by omega)).trans (HC8T.out 10 (by omega) (by omega))
  have k11:=(HS9.out.2.1 11 (by omega)).trans (HC8T.out 11 (by omega) (by omega))
  have z7:=HS9.out.2.2.2 7
  have z8:=HS9.out.2.2.2 8
  have z9:=HS9.out.2.2.2 9
  have z10:=HS9.out.2.2.2 10
  have z11:=HS9.out.2.2.2 11
  (refine late_store (i:=7) (by kernel_rfl) rfl rfl (fun K hK=>?_);apply Exists.intro;refine ⟨?_,(fun h=>absurd h (by decide)),?_⟩;(go_simp;try first | with_reducible rfl | exact ⟨rfl,rfl⟩);(try go_simp);refine hK _ _ ?_;clear hK K)
  refine late_done (by kernel_rfl) ?_ _
  clear k7 k8 k9 k10 k11 z7 z8 z9 z10 z11
  obtain ⟨wt,hwt⟩:∃ W,W=setAll tb 7 [.slice u0 u1 u2,.slice u3 u4 u5,.slice u6 u7 u8,.slice u9 u10 u11,.slice u12 u13 u14] w9:=⟨_,rfl⟩
  have HT:Hid ((wt.cell? ⟨tb,0,none⟩=some (.slice a3 n3 n3)∧wt.cell? ⟨tb,1,none⟩=some (.slice a5 n5 n5)∧wt.cell? ⟨tb,2,none⟩=some (.slice da dn dc)∧wt.cell? ⟨tb,3,none⟩=some (.slice p0 p1 p2)∧wt.cell? ⟨tb,4,none⟩=some (.slice p3 p4 p5)∧wt.cell? ⟨tb,5,none⟩=some (.slice p6 p7 p8)∧wt.cell? ⟨tb,6,none⟩=some (.slice p9 p10 p11)∧wt.cell? ⟨tb,7,none⟩=some (.slice u0 u1 u2)∧wt.cell? ⟨tb,8,none⟩=some (.slice u3 u4 u5)∧wt.cell? ⟨tb,9,none⟩=some (.slice u6 u7 u8)∧wt.cell? ⟨tb,10,none⟩=some (.slice u9 u10 u11)∧wt.cell? ⟨tb,11,none⟩=some (.slice u12 u13 u14)∧wt.cell? ⟨tb,12,none⟩=some (.slice none 0 0))∧Chg (·=tb) w8 wt∧∀ j,wt.frozen? ⟨tb,j,none⟩=false):=jh (by
   have f9:=HS9.out
   obtain ⟨s1,-,s3,s4⟩:=setAll_spec tb [.slice u0 u1 u2,.slice u3 u4 u5,.slice u6 u7 u8,.slice u9 u10 u11,.slice u12 u13 u14] 7 w9 (fun j hj=>by
    simp only [List.length_cons,List.length_nil] at hj
    rw [f9.2.1 (7+j) (by omega),HC8T.out (7+j) (by omega) (by omega)];rfl)
   have so:=fun j hj=>setAll_out tb [.slice u0 u1 u2,.slice u3 u4 u5,.slice u6 u7 u8,.slice u9 u10 u11,.slice u12 u13 u14] 7 w9 j hj
   simp only [List.length_cons,List.length_nil] at so
   rw [hwt]
   have e8:∀ j u,w6.cell? ⟨tb,j,none⟩=some u→w8.cell? ⟨tb,j,none⟩=some u:=fun j u hu=>HC8.out.cellS hu hnb
   exact ⟨⟨(so 0 (by omega)).trans ((f9.2.1 0 (by omega)).trans (e8 0 _ HC6.out.1)),(so 1 (by omega)).trans ((f9.2.1 1 (by omega)).trans (e8 1 _ HC6.out.2.1)),(so 2 (by omega)).trans ((f9.2.1 2 (by omega)).trans (e8 2 _ HC6.out.2.2.1)),(so 3 (by omega)).trans f9.1.1,(so 4 (by omega)).trans f9.1.2.1,(so 5 (by omega)).trans f9.1.2.2.1,(so 6 (by omega)).trans f9.1.2.2.2,s1 0 _ rfl,s1 1 _ rfl,s1 2 _ rfl,s1 3 _ rfl,s1 4 _ rfl,(so 12 (by omega)).trans ((f9.2.1 12 (by omega)).trans (HC8T.out 12 (by omega) (by omega)))⟩,f9.2.2.1.trans s3,fun j=>(s4 _).trans (f9.2.2.2 j)⟩)
  simp only [setAll] at hwt
  go_upto_region 6 with (fail)
  rw [← hwt]
  clear hwt HS9
  obtain ⟨rfl,-⟩:=HN8.out.d.len
  have HQT:Hid (QSt pg gb w.heap.size tb wt wt r8):=jh (by
   have hp:=HPG.out
   have ht:=HTB.out
   have h8w:tb < w8.heap.size:=Nat.lt_of_lt_of_le HTW.out HC8.out.size
   exact ⟨⟨HG8.out.chg HT.out.2.1 (by omega) (by omega),HT.out.2.1.cellS (HC8.out.cellS HSB6.out.c HSB6.out.ne) (show ¬ w.heap.size=tb by omega),HSB6.out.ne⟩,⟨by omega,by omega,by omega,Nat.lt_of_lt_of_le h8w HT.out.2.1.size⟩,fun j u _ hu=>hu,HT.out.2.2⟩)
  have HIT:Hid ((strE.InS wt (fun k=>w.heap.size+2≤k∧k < wt.heap.size) (a3,n3,n3) rl∧strE.InS wt (fun k=>w.heap.size+2≤k∧k < wt.heap.size) (a5,n5,n5) (L.map (·.1)))∧boolE.Own wt (tb+1) (.slice da dn dc) (L.map (·.2))∧LexIn wt (fun k=>w.heap.size+2≤k∧k < wt.heap.size) ⟨(p0,p1,p2),(p3,p4,p5),(p6,p7,p8),(p9,p10,p11)⟩ lx∧NetIn wt (fun k=>w.heap.size+2≤k∧k < wt.heap.size) ⟨(u0,u1,u2),(u3,u4,u5),(u6,u7,u8),(u9,u10,u11),(u12,nt.d.length,u14)⟩ nt):=jh (by
   have hp:=HPG.out
   have ht:=HTB.out
   have hw6:=HW6.out
   have h8:=HC8.out
   have h9:=HT.out.2.1
   refine ⟨⟨((HR6.out.1.chg h8 (fun g hg e=>by omega)).chg h9 (fun g hg e=>by omega)).mono (fun g hg hh=>⟨hh.1,hg⟩),((HR6.out.2.chg h8 (fun g hg e=>by omega)).chg h9 (fun g hg e=>by omega)).mono (fun g hg hh=>⟨hh.1,hg⟩)⟩,(HD6.out.chg h8 (fun g hg _ e=>by omega)).chg h9 (fun g hg _ e=>by omega),LexIn.good.mono (LexIn.good.chg HL8.out h9 (fun g hg e=>by omega)) (fun g hg hh=>⟨by omega,hg⟩),NetIn.good.mono (NetIn.good.chg HN8.out h9 (fun g hg e=>by omega)) (fun g hg hh=>⟨by omega,hg⟩)⟩)
  have HCT:Hid (Chg (·=pg) w wt):=jh ((HC16.out.trans HC8.out).trans2 HT.out.2.1 (fun g hg e=>by have:=HTB.out;omega))
  have HLT0:Hid (LSt autoE autoR (Cq pg tb) (Tq pg gb w.heap.size tb) (fun w' (_:List (List LsD)) Z'=>QSt pg gb w.heap.size tb wt w' Z') wt wt (.slice none 0 0) [] r8 []):=jh (LSt.start (sideQ pg gb w.heap.size tb wt) HQT.out HQT.out.g.g (Chg.refl _ _))
  have HCE:=jh HT.out.1
  have HBD:Hid (bodyG (Z.drop 4)=match repG (lookG n5) nt.d.length [] r8 with
   | none=>none
   | some (lk,b5)=>some (⟨rl,L.map (·.1),L.map (·.2),lx,nt,lk⟩,b5)):=jh (by
   rw [← HN5.out]
   simp only [bodyG,H3.out,H5.out,H7.out,H8.out]
   cases repG (lookG L.length) nt.d.length [] r8 <;> rfl)
  clear HR6 HD6 HL8 HN8 HG8 HSB6 HC6 HZ6 HC8T HZ8 HSD HC7 HS78 HD HT HC8
  have q11:=HCE.out.2.2.2.2.2.2.2.2.2.2.2.1
  go_wp2
  clear q11
  go_loopw [46] (fun q wr=>∃ (i:Nat) (v0:Value) (acc:List (List LsD)) (Zi:List Int) (X:List Sl),i≤nt.d.length∧q=.int .i64 i∧acc.length=i∧repG (lookG n5) (nt.d.length - i) acc Zi=repG (lookG n5) nt.d.length [] r8∧LSt autoE autoR (Cq pg tb) (Tq pg gb w.heap.size tb) (fun w' (_:List (List LsD)) Z'=>QSt pg gb w.heap.size tb wt w' Z') wt wr v0 acc Zi X∧wr.cell? ⟨tb,12,none⟩=some v0) (fun q _=>nt.d.length - (intOf q).toNat)
  case atStart=>exact ⟨0,_,[],r8,[],by omega,rfl,rfl,rfl,HLT0.out,HCE.out.2.2.2.2.2.2.2.2.2.2.2.2⟩
  case round =>
   clear HLT0
   obtain ⟨i,v,acc,Zi,X,hi,rfl,hal,hrep,hls,h12⟩:=hrel
   obtain ⟨va,vn,vc,rfl⟩:=hls.own.shape3
   have HL:=jh hls
   have HRP:=jh hrep
   have HAL:=jh hal
   have H12:=jh h12
   clear hls hrep hal h12
   by_cases hil:i < nt.d.length
   ·have b9:decide ((i:Int) < (nt.d.length:Int))=true:=by simp;omega
    have hib:i < 16777215:=by have:=HNL.out;omega
    obtain ⟨k,hk⟩:∃ k,nt.d.length - i=k+1:=⟨nt.d.length - i - 1,by omega⟩
    have HKK:Hid (nt.d.length - i=k+1∧nt.d.length - (i+1)=k):=jh ⟨hk,by omega⟩
    clear hk
    go_upto_region 8 with (fail)
    obtain ⟨wd,hwd⟩:∃ W,wr.drew=W:=⟨_,rfl⟩
    have HDD:Hid (Chg (fun _=>False) wr wd):=jh (by rw [← hwd];exact (Chg.refl _ _).drew)
    have HQD:Hid (QSt pg gb w.heap.size tb wt wd Zi):=jh (HL.out.st.chg HDD.out (fun h=>h) (fun h=>h) (fun h=>h) (fun h=>h))
    have h12d:=HDD.out.cellS H12.out (fun h=>h)
    have H12D:=jh h12d
    have HCL:Hid (Chg (·=pg) w wd):=jh (HCT.out.trans2 (HL.out.chg.trans HDD.out.any) (fun g hg e=>by rcases e with e | e;exact e;have:=HTB.out;omega))
    have hnb:¬ tb=pg:=by have:=HPG.out;have:=HTB.out;omega
    refine wp_region_late (fun x=>Chg (·=pg) wd x) (fun i=>decide (8≤i)) (by kernel_rfl) ?_
    show wpAnyL _ _ _ _ _ _ 11 (Array.replicate 11 false) _ wr.drew
    rw [hwd]
    clear hwd h12d
    have HSS:Hid (Chg (·=pg) wd wd):=jh (Chg.refl _ _)
    (refine lrd 0 HSS.out (fun K hK=>?_);apply Exists.intro;refine ⟨fun w' hC=>?_,?_⟩;(go_simp;try with_reducible rfl);(try go_simp);refine hK _ ?_;clear hK K)
    (refine lrd 1 HSS.out (fun K hK=>?_);apply Exists.intro;refine ⟨fun w' hC=>?_,?_⟩;((have q:=hC.cellS H12D.out hnb);go_simp;try with_reducible rfl);(try go_simp);refine hK _ ?_;clear hK K)
    (refine lrd 2 HSS.out (fun K hK=>?_);apply Exists.intro;refine ⟨fun w' hC=>?_,?_⟩;((have q:=hC.cellS HQD.out.g.c HQD.out.g.ne);go_simp;try with_reducible rfl);(try go_simp);refine hK _ ?_;clear hK K)
    (refine lrd 3 HSS.out (fun K hK=>?_);apply Exists.intro;refine ⟨fun w' hC=>?_,?_⟩;(go_simp;try with_reducible rfl);(try go_simp);refine hK _ ?_;clear hK K)
    (refine lrd 4 HSS.out (fun K hK=>?_);apply Exists.intro;refine ⟨fun w' hC=>?_,?_⟩;((have q:=hC.cellS (HQD.out.o 1 _ (by omega) HCE.out.2.1) hnb);go_simp;try with_reducible rfl);(try go_simp);refine hK _ ?_;clear hK K)
    (refine lrd 5 HSS.out (fun K hK=>?_);apply Exists.intro;refine ⟨fun w' hC=>?_,?_⟩;(go_simp;try with_reducible rfl);(try go_simp);refine hK _ ?_;clear hK K)
    refine late_call_p (i:=6) (by kernel_rfl) rfl rfl 109 #[.pointer (some ⟨pg,0,none⟩),.int .i64 n5] (fun v w''=>∃ (A:List LsD) (r:List Int) (ya:Option Addr),lookG n5 Zi=some (A,r)∧v=.agg #[.slice ya A.length A.length]∧autoR w'' (fun k=>wd.heap.size≤k) (ya,A.length,A.length) A∧GetSt pg gb w'' r∧Chg (·=pg) wd w'') (by go_simp) ?_ ?_
    ·refine (look_any hl5 wd Zi HQD.out.g.g).mono ?_
     rintro e w2 ⟨hc2,⟨h2,rfl⟩ | ⟨A,r,ya,h2,rfl,hA,hg2⟩⟩
     ·refine .inr ⟨_,rfl,rfl,HCL.out.trans hc2,.inl ⟨?_,rfl⟩⟩
      rw [HTG.out,HBD.out,← HRP.out,HKK.out.1]
      simp only [repG,h2]
     ·exact .inl ⟨_,rfl,fun _=>hc2,A,r,ya,h2,rfl,hA,hg2,hc2⟩
    rintro v w2 - ⟨A,r,ya,h2,rfl,hA,hg2,hc2⟩ K hK
    (try go_simp)
    refine hK _ ?_
    clear hK K HSS
    have HA2:=jh hA
    have HG2:=jh hg2
    have HC2:=jh hc2
    have HREP:Hid (repG (lookG n5) (nt.d.length - (i+1)) (acc++[A]) r=repG (lookG n5) nt.d.length [] r8):=jh (by
     rw [HKK.out.2,← HRP.out,HKK.out.1]
     conv=>rhs;unfold repG
     rw [h2])
    clear h2 hA hg2 hc2
    have HCR2:Hid (Chg (·=pg) wr w2):=jh (HDD.out.any.trans HC2.out)
    (refine late_turn (i:=7) (by kernel_rfl) rfl rfl (fun K hK=>?_);apply Exists.intro;apply Exists.intro;refine ⟨?_,?_,?_⟩;(go_simp;try first | with_reducible rfl | exact ⟨rfl,rfl⟩);(exact fun _=>HC2.out.alloc _);(try go_simp);refine hK _ _ ?_;clear hK K)
    obtain ⟨O3,hO3⟩:∃ O,O=Obj.cells #[.slice ya A.length A.length] 63:=⟨_,rfl⟩
    obtain ⟨w3,hw3⟩:∃ W,W=w2.alloc O3:=⟨_,rfl⟩
    have HC3:Hid (Chg (fun _=>False) w2 w3):=jh (by rw [hw3];exact (Chg.refl _ _).alloc _)
    have HSRC:Hid (Src Tryz.prog autoE.sz autoE.sl (.slice (some ⟨w2.heap.size,0,none⟩) 1 1) 1 (autoE.encs [(ya,A.length,A.length)]) w3):=jh (by rw [hw3,hO3];exact autoE.srcLit (Y:=[(ya,A.length,A.length)]) 1 (fun _ _=>trivial))
    rw [← hO3,← hw3]
    have HOW:Hid (autoE.Own w3 wt.heap.size (.slice va vn vc) X):=jh ((HL.out.own.chgB HCR2.out (fun g hg e=>HL.out.ob g hg (.inl e))).chg HC3.out (fun _ _ _ h=>h))
    have HB3:Hid (wt.heap.size≤w3.heap.size):=jh (Nat.le_trans HL.out.chg.size (Nat.le_trans HCR2.out.size HC3.out.size))
    have HXL:Hid (X.length≤16777215):=jh (by rw [HL.out.len,HAL.out];omega)
    have HW3:=jh hw3
    clear hw3 hO3
    refine late_append (i:=8) (by kernel_rfl) rfl rfl (.tmp 49) (.tmp 55) 32 32 rfl (.slice va vn vc) (.slice (some ⟨w2.heap.size,0,none⟩) 1 1) rfl rfl (fun v' w4=>autoE.Own w4 wt.heap.size v' (X++[(ya,A.length,A.length)])∧(Chg (fun k=>(Value.slice va vn vc).ownBlock=some k) w3 w4∧(v'.ownBlock=(Value.slice va vn vc).ownBlock∨v'.ownBlock=some w3.heap.size))∧∃ a n c,v'=.slice a n c) ?_ ?_
    ·obtain ⟨v',w4,hrun,h1,h2,⟨h3,h4⟩,-⟩:=HOW.out.append HB3.out 32 (.slice (some ⟨w2.heap.size,0,none⟩) 1 1) [(ya,A.length,A.length)] HSRC.out (fun _ _=>trivial) (by have:=HXL.out;simp;omega) 32
     exact ⟨v',w4,hrun,(fun h=>absurd h (by decide)),h1,⟨h3,h4⟩,h1.shape3⟩
    rintro v' w4 - ⟨o1,o2,na,nn,nc,rfl⟩ K hK
    have HL4:Hid (LSt autoE autoR (Cq pg tb) (Tq pg gb w.heap.size tb) (fun w' (_:List (List LsD)) Z'=>QSt pg gb w.heap.size tb wt w' Z') wt w4 (.slice na nn nc) (acc++[A]) r (X++[(ya,A.length,A.length)])):=jh (by
     have hp:=HPG.out
     have hq:=HL.out.st.lt
     have hsz:=HL.out.chg.size
     have hdz:=HDD.out.size
     refine LSt.step (ListR.good lsR.good) (sideQ pg gb w.heap.size tb wt) O3 HL.out (ListR.good lsR.good |>.mono HA2.out (fun k _ hk=>⟨by omega,fun ht=>by rcases ht with h | h | h | h <;> omega⟩)) (HQD.out.go HG2.out HC2.out) (HCR2.out.mono (fun k _ e=>.inl e)) (fun k h=>.inl h) (fun k h=>.inl h) o1 (by rw [← HW3.out];exact o2))
    have H124:Hid (w4.cell? ⟨tb,12,none⟩=some (.slice va vn vc)):=jh (o2.1.cellS (HC3.out.cellS (HC2.out.cellS H12D.out hnb) (fun h=>h)) (fun e=>HL.out.ob _ e (.inr (.inr (.inr rfl)))))
    (try go_simp)
    refine hK _ ?_
    clear hK K o1 o2
    have k12:=H124.out
    have z12:=HL4.out.st.z 12
    (refine late_turn (i:=9) (by kernel_rfl) rfl rfl (fun K hK=>?_);apply Exists.intro;apply Exists.intro;refine ⟨?_,?_,?_⟩;(go_simp;try first | with_reducible rfl | exact ⟨rfl,rfl⟩);(exact fun h=>absurd h (by decide));(try go_simp);refine hK _ _ ?_;clear hK K)
    (refine late_store (i:=10) (by kernel_rfl) rfl rfl (fun K hK=>?_);apply Exists.intro;refine ⟨?_,(fun h=>absurd h (by decide)),?_⟩;(go_simp;try first | with_reducible rfl | exact ⟨rfl,rfl⟩);(try go_simp);refine hK _ _ ?_;clear hK K)
    refine late_done (by kernel_rfl) ?_ _
    have HL5:Hid (LSt autoE autoR (Cq pg tb) (Tq pg gb w.heap.size tb) (fun w' (_:List (List LsD)) Z'=>QSt pg gb w.heap.size tb wt w' Z') wt (w4.setCell ⟨tb,12,none⟩ (.slice na nn nc)) (.slice na nn nc) (acc++[A]) r (X++[(ya,A.length,A.length)])):=jh (by
     exact LSt.store (S:=(·=tb)) (ListR.good lsR.good) HL4.out (setCellChg _ _ _ _) (fun k e=>.inr e) (HL4.out.st.set _) (fun k h=>h) (fun k h=>h) (fun k h=>by rcases h with h | h;exact .inl h;exact .inr (.inr (.inr h))))
    have H125:Hid ((w4.setCell ⟨tb,12,none⟩ (.slice na nn nc)).cell? ⟨tb,12,none⟩=some (.slice na nn nc)):=jh (World.cell?_setCell_same _ _ _ H124.out)
    clear k12 z12
    go_wp2
    go_roundw
    case rel=>exact ⟨i+1,_,acc++[A],r,X++[(ya,A.length,A.length)],by omega,by go_num,by simp [HAL.out],HREP.out,HL5.out,H125.out⟩
    case measure=>simp [intOf];omega
   ·obtain rfl:i=nt.d.length:=by omega
    have b9:decide ((nt.d.length:Int) < (nt.d.length:Int))=false:=by simp
    obtain ⟨_,_,hv,hvc,hlk⟩:=HL.out.final (ListR.good lsR.good)
    injection hv with e1 e2 e3
    subst e1 e2 e3
    have HLK:=jh hlk
    obtain ⟨_,_,hv,hdc,hdo⟩:=HIT.out.2.1.clip
    injection hv with e1 e2 e3
    subst e1 e2 e3
    obtain ⟨dn,hdn⟩:∃ n,(L.map (·.2)).length=n:=⟨_,rfl⟩
    rw [hdn] at hdc hdo HCE HIT
    have HDO:=jh hdo
    obtain ⟨t,htt⟩:∃ t:TabsD,t=⟨rl,L.map (·.1),L.map (·.2),lx,nt,acc⟩:=⟨_,rfl⟩
    obtain ⟨m,hm⟩:∃ m:TabsS,m=⟨(a3,n3,n3),(a5,n5,n5),(da,dn,dn),⟨(p0,p1,p2),(p3,p4,p5),(p6,p7,p8),(p9,p10,p11)⟩,⟨(u0,u1,u2),(u3,u4,u5),(u6,u7,u8),(u9,u10,u11),(u12,nt.d.length,u14)⟩,(va,acc.length,acc.length)⟩:=⟨_,rfl⟩
    have HV:Hid (tabsV m=.agg #[.slice a3 n3 n3,.slice a5 n5 n5,.slice da dn dn,.slice p0 p1 p2,.slice p3 p4 p5,.slice p6 p7 p8,.slice p9 p10 p11,.slice u0 u1 u2,.slice u3 u4 u5,.slice u6 u7 u8,.slice u9 u10 u11,.slice u12 nt.d.length u14,.slice va acc.length acc.length]):=jh (by rw [hm];rfl)
    have HRB:Hid (bodyG (Z.drop 4)=some (t,Zi)):=jh (by
     rw [HBD.out,← HRP.out,Nat.sub_self,htt];rfl)
    have HFR:=jh (fair_body HRB.out)
    have HTN:Hid (tabsG Z=if Zi=[]∧mayTabs t=true then some t else none):=jh (by rw [HTG.out,HRB.out])
    clear hlk hdo hdn HTG HBD HRP H3 H5 H7 H8
    go_upto_region 10 with (fail)
    have hnb:¬ tb=pg:=by have:=HPG.out;have:=HTB.out;omega
    obtain ⟨wd,hwd⟩:∃ W,wr.drew=W:=⟨_,rfl⟩
    have HDD:Hid (Chg (fun _=>False) wr wd):=jh (by rw [← hwd];exact (Chg.refl _ _).drew)
    have HQD:Hid (QSt pg gb w.heap.size tb wt wd Zi):=jh (HL.out.st.chg HDD.out (fun h=>h) (fun h=>h) (fun h=>h) (fun h=>h))
    have H2D:Hid (wd.cell? ⟨tb,2,none⟩=some (.slice da dn dc)):=jh (HQD.out.o 2 _ (by omega) HCE.out.2.2.1)
    have H12D:Hid (wd.cell? ⟨tb,12,none⟩=some (.slice va acc.length vc)):=jh (HDD.out.cellS H12.out (fun h=>h))
    refine wp_region_late (fun x=>x=wd) (fun i=>decide (7≤i)) (by kernel_rfl) ?_
    show wpAnyL _ _ _ _ _ _ 10 (Array.replicate 10 false) _ wr.drew
    rw [hwd]
    clear hwd
    have HSS:Hid (wd=wd):=jh rfl
    (refine lrd 0 HSS.out (fun K hK=>?_);apply Exists.intro;refine ⟨fun w' hC=>?_,?_⟩;(go_simp;try with_reducible rfl);(try go_simp);refine hK _ ?_;clear hK K)
    (refine lrd 1 HSS.out (fun K hK=>?_);apply Exists.intro;refine ⟨fun w' hC=>?_,?_⟩;((subst hC;have q:=H2D.out);go_simp;try with_reducible rfl);(try go_simp);refine hK _ ?_;clear hK K)
    (refine lrd 3 HSS.out (fun K hK=>?_);apply Exists.intro;refine ⟨fun w' hC=>?_,?_⟩;(go_simp;try with_reducible rfl);(try go_simp);refine hK _ ?_;clear hK K)
    (refine lrd 4 HSS.out (fun K hK=>?_);apply Exists.intro;refine ⟨fun w' hC=>?_,?_⟩;((subst hC;have q:=H12D.out);go_simp;try with_reducible rfl);(try go_simp);refine hK _ ?_;clear hK K)
    refine late_call (i:=2) (by kernel_rfl) rfl rfl 110 #[.slice da dn dc] (fun q w''=>q=.slice da dn dn∧wd=w'') (by go_simp) ?_ ?_
    ·refine (clipBool wd da dn dc hdc).mono ?_
     rintro e w2 ⟨rfl,rfl⟩
     exact ⟨_,rfl,fun _=>rfl,rfl,rfl⟩
    rintro q w'' - ⟨rfl,rfl⟩ K hK
    (try go_simp)
    refine hK _ ?_
    clear hK K
    (refine lrd 6 HSS.out (fun K hK=>?_);apply Exists.intro;refine ⟨fun w' hC=>?_,?_⟩;(go_simp;try with_reducible rfl);(try go_simp);refine hK _ ?_;clear hK K)
    refine late_call (i:=5) (by kernel_rfl) rfl rfl 111 #[.slice va acc.length vc] (fun q w''=>q=.slice va acc.length acc.length∧wd=w'') (by go_simp) ?_ ?_
    ·refine (clipAuto wd va acc.length vc hvc).mono ?_
     rintro e w2 ⟨rfl,rfl⟩
     exact ⟨_,rfl,fun _=>rfl,rfl,rfl⟩
    rintro q w'' - ⟨rfl,rfl⟩ K hK
    (try go_simp)
    refine hK _ ?_
    clear hK K
    have k2:=H2D.out
    have k12:=H12D.out
    have z2:=HQD.out.z 2
    have z12:=HQD.out.z 12
    (refine late_store (i:=7) (by kernel_rfl) rfl rfl (fun K hK=>?_);apply Exists.intro;refine ⟨?_,(fun h=>absurd h (by decide)),?_⟩;(go_simp;try first | with_reducible rfl | exact ⟨rfl,rfl⟩);(try go_simp);refine hK _ _ ?_;clear hK K)
    (refine late_turn (i:=8) (by kernel_rfl) rfl rfl (fun K hK=>?_);apply Exists.intro;apply Exists.intro;refine ⟨?_,?_,?_⟩;(go_simp;try first | with_reducible rfl | exact ⟨rfl,rfl⟩);(exact fun h=>absurd h (by decide));(try go_simp);refine hK _ _ ?_;clear hK K)
    (refine late_store (i:=9) (by kernel_rfl) rfl rfl (fun K hK=>?_);apply Exists.intro;refine ⟨?_,(fun h=>absurd h (by decide)),?_⟩;(go_simp;try first | with_reducible rfl | exact ⟨rfl,rfl⟩);(try go_simp);refine hK _ _ ?_;clear hK K)
    refine late_done (by kernel_rfl) ?_ _
    clear k2 k12 z2 z12
    obtain ⟨we,hwe⟩:∃ W,W=(wd.setCell ⟨tb,2,none⟩ (.slice da dn dn)).setCell ⟨tb,12,none⟩ (.slice va acc.length acc.length):=⟨_,rfl⟩
    have HCDE:Hid (Chg (·=tb) wd we):=jh (by rw [hwe];exact (setCellChg _ _ _ _).trans (setCellChg _ _ _ _))
    have HZE:Hid (∀ j,we.frozen? ⟨tb,j,none⟩=false):=jh (fun j=>by rw [hwe];exact (World.frozen?_setCell _ _ _ _).trans ((World.frozen?_setCell _ _ _ _).trans (HQD.out.z j)))
    have HEE:Hid (∀ w',Chg (fun _=>False) we w'→w'.cell? ⟨tb,0,none⟩=some (.slice a3 n3 n3)∧w'.cell? ⟨tb,1,none⟩=some (.slice a5 n5 n5)∧w'.cell? ⟨tb,2,none⟩=some (.slice da dn dn)∧w'.cell? ⟨tb,3,none⟩=some (.slice p0 p1 p2)∧w'.cell? ⟨tb,4,none⟩=some (.slice p3 p4 p5)∧w'.cell? ⟨tb,5,none⟩=some (.slice p6 p7 p8)∧w'.cell? ⟨tb,6,none⟩=some (.slice p9 p10 p11)∧w'.cell? ⟨tb,7,none⟩=some (.slice u0 u1 u2)∧w'.cell? ⟨tb,8,none⟩=some (.slice u3 u4 u5)∧w'.cell? ⟨tb,9,none⟩=some (.slice u6 u7 u8)∧w'.cell? ⟨tb,10,none⟩=some (.slice u9 u10 u11)∧w'.cell? ⟨tb,11,none⟩=some (.slice u12 nt.d.length u14)∧w'.cell? ⟨tb,12,none⟩=some (.slice va acc.length acc.length)):=jh (fun w' hc=>by
     have hne:∀ j u,j≠2→j < 12→wt.cell? ⟨tb,j,none⟩=some u→w'.cell? ⟨tb,j,none⟩=some u:=fun j u h1 h2 hu=>by
      refine hc.cellS ?_ (fun h=>h)
      rw [hwe,World.cell?_setCell_other _ _ _ _ (by intro e;injection e with _ e;omega),World.cell?_setCell_other _ _ _ _ (by intro e;injection e with _ e;omega)]
      exact HQD.out.o j u h2 hu
     obtain ⟨f0,f1,-,f3,f4,f5,f6,f7,f8,f9,f10,f11,-⟩:=HCE.out
     refine ⟨hne 0 _ (by omega) (by omega) f0,hne 1 _ (by omega) (by omega) f1,hc.cellS ?_ (fun h=>h),hne 3 _ (by omega) (by omega) f3,hne 4 _ (by omega) (by omega) f4,hne 5 _ (by omega) (by omega) f5,hne 6 _ (by omega) (by omega) f6,hne 7 _ (by omega) (by omega) f7,hne 8 _ (by omega) (by omega) f8,hne 9 _ (by omega) (by omega) f9,hne 10 _ (by omega) (by omega) f10,hne 11 _ (by omega) (by omega) f11,hc.cellS ?_ (fun h=>h)⟩
     ·rw [hwe,World.cell?_setCell_other _ _ _ _ (by intro e;injection e with _ e;omega)]
      exact World.cell?_setCell_same _ _ _ H2D.out
     ·rw [hwe]
      refine World.cell?_setCell_same _ _ _ (u:=.slice va acc.length vc) ?_
      rw [World.cell?_setCell_other _ _ _ _ (by intro e;injection e with _ e;omega)]
      exact H12D.out)
    have HTE:Hid (Chg (fun k=>k=pg∨k=tb) wt we):=jh (((HL.out.chg.mono (fun k _ e=>e)).trans HDD.out.any).trans (HCDE.out.mono (fun k _ e=>.inr e)))
    have HINE:Hid (TabsIn we (fun k=>w.heap.size≤k∧k≠tb) m t):=jh (by
     have hp:=HPG.out
     have ht:=HTB.out
     have hte:=HTE.out
     have hzt:=HL.out.chg.size
     obtain ⟨⟨i1,i2⟩,i3,i4,i5⟩:=HIT.out
     rw [hm,htt]
     refine ⟨(i1.chg hte (fun g hg e=>by omega)).mono (fun g _ hg=>⟨by omega,by omega⟩),(i2.chg hte (fun g hg e=>by omega)).mono (fun g _ hg=>⟨by omega,by omega⟩),?_,LexIn.good.mono (LexIn.good.chg i4 hte (fun g hg e=>by omega)) (fun g _ hg=>⟨by omega,by omega⟩),NetIn.good.mono (NetIn.good.chg i5 hte (fun g hg e=>by omega)) (fun g _ hg=>⟨by omega,by omega⟩),?_⟩
     ·exact (((HDO.out.chg hte (fun g hg _ e=>by omega)).in' (c':=dn) (Nat.le_refl _)).inS).mono (fun g _ hg=>⟨by omega,by omega⟩)
     ·have g2:=(ListR.good autoR.good).chg ((ListR.good autoR.good).chg HLK.out HDD.out (fun _ _ h=>h)) HCDE.out (fun g hg e=>hg.2 (.inr (.inr (.inr e))))
      exact (ListR.good autoR.good).mono g2 (fun g _ hg=>⟨Nat.le_trans HCT.out.size hg.1,fun e=>hg.2 (.inr (.inr (.inr e)))⟩))
    have HGE:Hid (GetSb pg gb w.heap.size we Zi):=jh (by
     have hp:=HPG.out
     have ht:=HTB.out
     exact HQD.out.g.chg HCDE.out (by omega) (by omega) (by omega))
    have HCWE:Hid (Chg (·=pg) w we):=jh (HCT.out.trans2 HTE.out (fun g hg e=>by have:=HTB.out;omega))
    clear hm htt
    go_upto_region 11 with (fail)
    rw [← hwe]
    clear hwe HIT HCE HLK HDO HQD H2D H12D HTE HCDE HL H12 HCT HQT
    obtain ⟨yo,yc,hy1,-,-⟩:=HGE.out.g.c
    have g0:=HGE.out.c
    by_cases hz:Zi=[]
    ·have b5:((Zi.length:Int) == 0)=true:=by rw [hz];rfl
     have b5':(Zi.length == 0)=true:=by rw [hz];rfl
     obtain ⟨q0,q1,q2,q3,q4,q5,q6,q7,q8,q9,q10,q11,q12⟩:=HEE.out we (Chg.refl _ _)
     have HMAY:Hid (Calls Tryz.prog 12 #[.agg #[.slice a3 n3 n3,.slice a5 n5 n5,.slice da dn dn,.slice p0 p1 p2,.slice p3 p4 p5,.slice p6 p7 p8,.slice p9 p10 p11,.slice u0 u1 u2,.slice u3 u4 u5,.slice u6 u7 u8,.slice u9 u10 u11,.slice u12 nt.d.length u14,.slice va acc.length acc.length]] we fun e w'=>e=.returned (.bool (mayTabs t))∧Chg (fun _=>False) we w'):=jh (by rw [← HV.out];exact may_tabs t m _ we HINE.out HFR.out)
     go_wp2_with fail
     refine HMAY.out.mono ?_
     rintro e w6 ⟨rfl,hc6⟩
     have HC6:=jh hc6
     clear hc6 HMAY q0 q1 q2 q3 q4 q5 q6 q7 q8 q9 q10 q11 q12
     cases hmt:mayTabs t with
     | false =>
      have HF:Hid (tabsG Z=none):=jh (by rw [HTN.out,hmt];simp)
      clear hmt
      go_wp2_with fail
      refine (must_no _).mono ?_
      rintro e w7 ⟨rfl,rfl⟩
      exact ⟨rfl,HCWE.out.trans HC6.out.any,.inl ⟨HF.out,rfl⟩⟩
     | true =>
      have HF:Hid (tabsG Z=some t):=jh (by rw [HTN.out,hmt,if_pos ⟨hz,rfl⟩])
      clear hmt
      go_wp2_with fail
      refine (must_ok _).mono ?_
      rintro e w7 ⟨rfl,rfl⟩
      obtain ⟨q0,q1,q2,q3,q4,q5,q6,q7,q8,q9,q10,q11,q12⟩:=HEE.out w7 HC6.out
      have htl:tb < we.heap.size:=World.block_lt_of_cell? _ _ (HEE.out we (Chg.refl _ _)).1
      have hz6:∀ j,w7.frozen? ⟨tb,j,none⟩=false:=fun j=>(HC6.out.frozen (p:=⟨tb,j,none⟩) htl (fun h=>h)).trans (HZE.out j)
      have z0:=hz6 0;have z1:=hz6 1;have z2:=hz6 2;have z3:=hz6 3;have z4:=hz6 4;have z5:=hz6 5;have z6:=hz6 6;have z7:=hz6 7;have z8:=hz6 8;have z9:=hz6 9;have z10:=hz6 10;have z11:=hz6 11;have z12:=hz6 12
      obtain ⟨y1,-,y3,-⟩:=setAll_spec tb [.slice a3 n3 n3,.slice a5 n5 n5,.slice da dn dn,.slice p0 p1 p2,.slice p3 p4 p5,.slice p6 p7 p8,.slice p9 p10 p11,.slice u0 u1 u2,.slice u3 u4 u5,.slice u6 u7 u8,.slice u9 u10 u11,.slice u12 nt.d.length u14,.slice va acc.length acc.length] 0 w7 (fun j hj=>by
       simp only [List.length_cons,List.length_nil] at hj
       rcases (by omega:j=0∨j=1∨j=2∨j=3∨j=4∨j=5∨j=6∨j=7∨j=8∨j=9∨j=10∨j=11∨j=12) with rfl | rfl | rfl | rfl | rfl | rfl | rfl | rfl | rfl | rfl | rfl | rfl | rfl
       ·rw [q0];rfl
       ·rw [q1];rfl
       ·rw [q2];rfl
       ·rw [q3];rfl
       ·rw [q4];rfl
       ·rw [q5];rfl
       ·rw [q6];rfl
       ·rw [q7];rfl
       ·rw [q8];rfl
       ·rw [q9];rfl
       ·rw [q10];rfl
       ·rw [q11];rfl
       ·rw [q12];rfl)
      have s0:=y1 0 _ rfl;have s1:=y1 1 _ rfl;have s2:=y1 2 _ rfl;have s3:=y1 3 _ rfl;have s4:=y1 4 _ rfl;have s5:=y1 5 _ rfl;have s6:=y1 6 _ rfl;have s7:=y1 7 _ rfl;have s8:=y1 8 _ rfl;have s9:=y1 9 _ rfl;have s10:=y1 10 _ rfl;have s11:=y1 11 _ rfl;have s12:=y1 12 _ rfl
      have HFIN:Hid (TablesPost pg w Z (.returned (tabsV m)) (setAll tb 0 [.slice a3 n3 n3,.slice a5 n5 n5,.slice da dn dn,.slice p0 p1 p2,.slice p3 p4 p5,.slice p6 p7 p8,.slice p9 p10 p11,.slice u0 u1 u2,.slice u3 u4 u5,.slice u6 u7 u8,.slice u9 u10 u11,.slice u12 nt.d.length u14,.slice va acc.length acc.length] w7)):=jh (by
       refine ⟨(HCWE.out.trans HC6.out.any).trans2 y3 (fun g hg e=>by have:=HTB.out;omega),.inr ⟨_,_,HF.out,rfl,?_⟩⟩
       exact TabsIn.good.mono (TabsIn.good.chg (TabsIn.good.chg HINE.out HC6.out (fun _ _ h=>h)) y3 (fun g hg e=>hg.2 e)) (fun g _ hg=>hg.1))
      rw [HV.out] at HFIN
      simp only [setAll,Nat.zero_add] at s0 s1 s2 s3 s4 s5 s6 s7 s8 s9 s10 s11 s12 HFIN
      clear y1 y3 hz6
      go_wp2
      exact bodyPost_ret (v:=.agg #[.slice a3 n3 n3,.slice a5 n5 n5,.slice da dn dn,.slice p0 p1 p2,.slice p3 p4 p5,.slice p6 p7 p8,.slice p9 p10 p11,.slice u0 u1 u2,.slice u3 u4 u5,.slice u6 u7 u8,.slice u9 u10 u11,.slice u12 nt.d.length u14,.slice va acc.length acc.length]) (by simp [results,Tryz.results55,go_sem,s0,s1,s2,s3,s4,s5,s6,s7,s8,s9,s10,s11,s12]) rfl HFIN.out
    ·have HF:Hid (tabsG Z=none):=jh (by rw [HTN.out,if_neg (fun h=>hz h.1)])
     have b5:((Zi.length:Int) == 0)=false:=by simpa using hz
     have b5':(Zi.length == 0)=false:=by simpa using hz
     go_wp2_with fail
     refine (must_no _).mono ?_
     rintro e w7 ⟨rfl,rfl⟩
     exact ⟨rfl,HCWE.out,.inl ⟨HF.out,rfl⟩⟩
 ·have HF:Hid (tabsG Z=none):=jh (by unfold tabsG;rw [if_neg hhd])
  have hne:=head_ne (fun a ha=>HG.out.byte a (List.mem_of_mem_take ha)) hhd
  obtain ⟨S4,hS4⟩:∃ s,strOfNums (Z.take 4)=s:=⟨_,rfl⟩
  rw [hS4] at hcv hne
  clear hS4 hhd
  go_wp2_with fail
  refine (must_no _).mono ?_
  rintro e w3 ⟨rfl,rfl⟩
  exact ⟨rfl,HC0.out.any,.inl ⟨HF.out,rfl⟩⟩
end Go.Proofs.YtgnpmceimpjheaaGreat
