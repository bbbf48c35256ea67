/- Tokens' texts are the input: the walk of harbingerlaw11.LexersWhole. -/
import Derived.Test.YtfhmblbomkhcpaaDoorWholeP
namespace Go.Proofs.YtfhmblbomkhcpaaDoor
open Go.RowKit

theorem toksL_all {t : TabD} (ht : MayS t) {s : ByteArray} (hs : s.size ≤ 100) (drop : List Bool) :
    (∃ L, ChainT t s 0 L ∧ toksL t noDrop s = (L, (s.size : Int), 0) ∧ toksL t drop s = (L.filter (keepB drop), (s.size : Int), 0)) ∨
    ∃ p : Nat, p < s.size ∧ longL t s p = (-1, 0) ∧ toksL t noDrop s = ([], (p : Int), 9) ∧ toksL t drop s = ([], (p : Int), 9) ∧ ∃ L, toksL t noDrop (s.extract 0 p) = (L, (p : Int), 0) := by
  unfold toksL
  rw [if_neg (by omega), if_neg (by omega)]
  rcases toks_all ht (s := s) drop s.size 0 [] (by omega) (by omega) (by simp; omega) with ⟨L, h1, h2, h3⟩ | ⟨p, -, h1, h2, h3, h4, L, h5⟩
  · exact .inl ⟨L, h1, h2, h3⟩
  · refine .inr ⟨p, h1, h2, h3, h4, L, ?_⟩
    rw [if_neg (by rw [size_extract' s (by omega)]; omega)]
    exact h5

theorem chain_len {t : TabD} {s : ByteArray} : ∀ (L : List TokD) (i : Nat), ChainT t s i L → i + L.length ≤ s.size
  | [], i, h => by have h : i = s.size := h; simp; omega
  | x :: L, i, h => by
    obtain ⟨h1, h2, -, h3⟩ := h
    have := chain_len L _ h3
    simp only [List.length_cons]
    omega
theorem Elt.In.getE {w : World} {B : Nat} {a : Option Addr} {n c : Nat} {L : List Int} (h : intE.In w B (a, n, c) L) (h0 : 0 < L.length) :
    ∃ g o : Nat, a = some ⟨g, o, none⟩ ∧ ∀ wx, Chg (fun _ => False) w wx → ∀ st, st < L.length → ∃ ev, L[st]? = some ev ∧ wx.cell? ⟨g, o + st, none⟩ = some (.int .i64 ev) ∧ -9223372036854775808 ≤ ev ∧ ev ≤ 9223372036854775807 := by
  obtain ⟨x, g, o, -, ha, -⟩ := h.getI h0
  refine ⟨g, o, ha, fun wx hc st hst => ?_⟩
  obtain ⟨ev, g', o', h1, h2, h3, h4, h5, -⟩ := (h.same hc).getI hst
  rw [ha] at h2
  injection h2 with h2
  injection h2 with e1 e2
  subst e1 e2
  exact ⟨ev, h1, h3, h4, h5⟩

set_option maxRecDepth 100000 in
set_option maxHeartbeats 16000000 in
theorem whole_any (t : TabD) (rs cs ns es : Sl) (B : Nat) (s : ByteArray) (da : Option Addr) (dc : Nat) (D : List Bool) (w : World) (h : TabIn w B rs cs ns es t) (hv : Vast t) (hT : Tabs w) (hD : boolE.In w B (da, D.length, dc) D) :
    Calls Tryd.prog 5 #[tabV rs cs ns es, .string s, .slice da D.length dc] w fun e w' => e = .returned (.bool true) ∧ Chg (fun _ => False) w w' := by
  have HT := Lib.hid hT
  have HTB := Lib.hid h
  have HV := Lib.hid hv
  obtain ⟨ra, rn, rc⟩ := rs
  obtain ⟨ca, cn, cc⟩ := cs
  obtain ⟨na, nn, nc⟩ := ns
  obtain ⟨ea, en, ec⟩ := es
  obtain ⟨rfl, he1⟩ := h.e.len
  have HD := Lib.hid hD
  have hdl : D.length ≤ dc := hD.2.1
  clear h hv hT hD
  obtain ⟨wa, hwa⟩ : ∃ x, x = w.alloc (.cells #[.slice ra rn rc, .slice ca cn cc, .slice na nn nc, .slice ea t.e.length ec] 26) := ⟨_, rfl⟩
  have HT0 : Hid (∀ wx, Chg (fun _ => False) wa wx → (wx.cell? ⟨w.heap.size, 0, none⟩ = some (.slice ra rn rc) ∧ wx.cell? ⟨w.heap.size, 1, none⟩ = some (.slice ca cn cc) ∧ wx.cell? ⟨w.heap.size, 2, none⟩ = some (.slice na nn nc) ∧ wx.cell? ⟨w.heap.size, 3, none⟩ = some (.slice ea t.e.length ec))) := Lib.hid (fun wx hx => by
    subst hwa
    exact (tabBox w (ra, rn, rc) (ca, cn, cc) (na, nn, nc) (ea, t.e.length, ec) 26).chg hx (fun h => h))
  have HC0 : Hid (Chg (fun _ => False) w wa) := Lib.hid (by rw [hwa]; exact (Chg.refl _ _).alloc _)
  have HWA := Lib.hid hwa
  clear hwa
  obtain ⟨q0, q1, q2, q3⟩ := HT0.out wa (Chg.refl _ _)
  show Calls Tryd.prog 5 #[.agg #[.slice ra rn rc, .slice ca cn cc, .slice na nn nc, .slice ea t.e.length ec], .string s, .slice da D.length dc] w _
  cases hgr : greatT t with
  | true =>
    have HG := Lib.hid hgr
    clear hgr
    go_enter Tryd.func5, Tryd.ntmps5
    go_upto_region 1 with (fail)
    rw [← HWA.out]
    go_wp2_with fail
    refine (great_any t (ra, rn, rc) (ca, cn, cc) (na, nn, nc) (ea, t.e.length, ec) B wa (HTB.out.same HC0.out) HV.out).mono ?_
    rintro e w1 ⟨rfl, hc⟩
    rw [HG.out]
    have HC1 := Lib.hid (HC0.out.trans hc)
    clear hc q0 q1 q2 q3
    go_wp2_with fail
    refine (lives_any w1 (HT.out.same HC1.out)).mono ?_
    rintro e w2 ⟨rfl, hc⟩
    have HC2 := Lib.hid (HC1.out.trans hc)
    clear hc
    go_wp2
    go_ret
    exact ⟨rfl, HC2.out⟩
  | false =>
    have HG := Lib.hid hgr
    have HF := Lib.hid (greatT_fair hgr).1
    have hel : t.e.length ≤ 6000 := (greatT_fair hgr).2
    clear hgr
    by_cases hsz : 100 < s.size
    · have d1 : decide (100 < (s.size : Int)) = true := by simp; omega
      have d2 : decide (100 < s.size) = true := by simp; omega
      go_enter Tryd.func5, Tryd.ntmps5
      go_upto_region 1 with (fail)
      rw [← HWA.out]
      go_wp2_with fail
      refine (great_any t (ra, rn, rc) (ca, cn, cc) (na, nn, nc) (ea, t.e.length, ec) B wa (HTB.out.same HC0.out) HV.out).mono ?_
      rintro e w1 ⟨rfl, hc⟩
      rw [HG.out]
      have HC1 := Lib.hid (HC0.out.trans hc)
      clear hc q0 q1 q2 q3
      go_wp2_with fail
      refine (lives_any w1 (HT.out.same HC1.out)).mono ?_
      rintro e w2 ⟨rfl, hc⟩
      have HC2 := Lib.hid (HC1.out.trans hc)
      clear hc
      go_wp2
      go_ret
      exact ⟨rfl, HC2.out⟩
    · have d1 : decide (100 < (s.size : Int)) = false := by simp; omega
      have d2 : decide (100 < s.size) = false := by simp; omega
      cases hm : mayT t with
      | false =>
        have HM := Lib.hid hm
        clear hm
        go_enter Tryd.func5, Tryd.ntmps5
        go_upto_region 1 with (fail)
        rw [← HWA.out]
        go_wp2_with fail
        refine (great_any t (ra, rn, rc) (ca, cn, cc) (na, nn, nc) (ea, t.e.length, ec) B wa (HTB.out.same HC0.out) HV.out).mono ?_
        rintro e w1 ⟨rfl, hc⟩
        rw [HG.out]
        have HC1 := Lib.hid (HC0.out.trans hc)
        have HT1 := Lib.hid (HT0.out w1 hc)
        clear hc q0 q1 q2 q3
        obtain ⟨q0, q1, q2, q3⟩ := HT1.out
        go_wp2_with fail
        refine (may_any t (ra, rn, rc) (ca, cn, cc) (na, nn, nc) (ea, t.e.length, ec) B w1 (HTB.out.same HC1.out) HF.out).mono ?_
        rintro e w2 ⟨rfl, hc⟩
        rw [HM.out]
        have HC2 := Lib.hid (HC1.out.trans hc)
        clear hc q0 q1 q2 q3
        go_wp2_with fail
        refine (lives_any w2 (HT.out.same HC2.out)).mono ?_
        rintro e w3 ⟨rfl, hc⟩
        have HC3 := Lib.hid (HC2.out.trans hc)
        clear hc
        go_wp2
        go_ret
        exact ⟨rfl, HC3.out⟩
      | true =>
        have HM := Lib.hid hm
        clear hm
        go_enter Tryd.func5, Tryd.ntmps5
        go_upto_region 1 with (fail)
        rw [← HWA.out]
        go_wp2_with fail
        refine (great_any t (ra, rn, rc) (ca, cn, cc) (na, nn, nc) (ea, t.e.length, ec) B wa (HTB.out.same HC0.out) HV.out).mono ?_
        rintro e w1 ⟨rfl, hc⟩
        rw [HG.out]
        have HC1 := Lib.hid (HC0.out.trans hc)
        have HC01 := Lib.hid hc
        clear hc q0 q1 q2 q3
        obtain ⟨q0, q1, q2, q3⟩ := HT0.out w1 HC01.out
        go_wp2_with fail
        refine (may_any t (ra, rn, rc) (ca, cn, cc) (na, nn, nc) (ea, t.e.length, ec) B w1 (HTB.out.same HC1.out) HF.out).mono ?_
        rintro e w2 ⟨rfl, hc⟩
        rw [HM.out]
        have HC2 := Lib.hid (HC1.out.trans hc)
        have HC02 := Lib.hid (HC01.out.trans hc)
        clear hc q0 q1 q2 q3
        obtain ⟨q0, q1, q2, q3⟩ := HT0.out w2 HC02.out
        go_wp2
        go_loopw [7] (fun q wr => ∃ k : Nat, k ≤ t.e.length ∧ q = .int .i64 k ∧ (∀ (j : Nat) e, j < k → t.e[j]? = some e → e ≤ 99) ∧ wr = w2) (fun q _ => t.e.length - (intOf q).toNat)
        case atStart => exact ⟨0, by omega, rfl, fun j e h => absurd h (Nat.not_lt_zero _), rfl⟩
        case round =>
          obtain ⟨k, hk, rfl, hb, rfl⟩ := hrel
          have HB := Lib.hid hb
          clear hb
          by_cases hkl : k < t.e.length
          · have b1 : decide ((k : Int) < (t.e.length : Int)) = true := by simp; omega
            obtain ⟨y, g, o, hy, hea, c0, y0, y1, -, -⟩ := (HTB.out.same HC2.out).e.getI hkl
            subst hea
            have HY := Lib.hid hy
            clear hy
            by_cases hy9 : 99 < y
            · have d6 : decide (99 < y) = true := by simpa using hy9
              go_wp2_with fail
              refine (lives_any wr (HT.out.same HC2.out)).mono ?_
              rintro e w4 ⟨rfl, hc⟩
              have HC4 := Lib.hid (HC2.out.trans hc)
              clear hc
              go_wp2
              go_ret
              exact ⟨rfl, HC4.out⟩
            · have d6 : decide (99 < y) = false := by simpa using hy9
              have HB2 : Hid (∀ (j : Nat) e, j < k + 1 → t.e[j]? = some e → e ≤ 99) := Lib.hid (fun j e hj he => by
                by_cases hjk : j = k
                · subst hjk; rw [HY.out] at he; obtain rfl := Option.some.inj he; omega
                · exact HB.out j e (by omega) he)
              go_wp2
              go_roundw
              case rel => exact ⟨k + 1, by omega, by go_num, HB2.out, by first | rfl | trivial⟩
              case measure => simp [intOf]; omega
          · obtain rfl : k = t.e.length := by omega
            have b1 : decide ((t.e.length : Int) < (t.e.length : Int)) = false := by simp
            have HN := Lib.hid (newOk_99 HM.out HB.out)
            go_upto_region 8 with (fail)
            refine wp_region_held (S := Chg (fun _ => False) wr) (by kernel_rfl) ?_
            show wpAnyH _ _ _ _ _ 8 (Array.replicate 8 false) _ wr.drew
            obtain ⟨wd, hwd⟩ : ∃ x, wr.drew = x := ⟨_, rfl⟩
            have HSS : Hid (Chg (fun _ => False) wr wd) := Lib.hid (by rw [← hwd]; exact (Chg.refl _ _).drew)
            rw [hwd]
            clear hwd q0 q1 q2 q3
            (refine held_read (i := 0) rfl (by kernel_rfl) (by kernel_rfl) (by kernel_rfl) (fun _ _ _ _ h => h) rfl HSS.out (fun K hK => ?_); apply Exists.intro; refine ⟨fun w' hC => ?_, ?_⟩; ((obtain ⟨q0, q1, q2, q3⟩ := HT0.out w' (HC02.out.trans hC)); go_simp; try with_reducible rfl); (try go_simp); refine hK _ ?_; clear hK K)
            refine boolE.held_make (i := 1) (by kernel_rfl) rfl rfl _ _ _ rfl rfl .i64 .i64 100 100 rfl rfl (by omega) (by omega) (fun w' hc => HSS.out.trans hc) ?_
            intro wm HI HROW HCM HSM K hK
            (try go_simp)
            refine hK _ ?_
            clear hK K HROW HSM
            have HSX := Lib.hid (HSS.out.trans HCM.out)
            refine held_call (i := 2) (by kernel_rfl) rfl rfl 10 #[.agg #[.slice ra rn rc, .slice ca cn cc, .slice na nn nc, .slice ea t.e.length ec], .slice (some ⟨wd.heap.size, 0, none⟩) 100 100] (fun v w'' => ∃ b rs cs ns es ds, v = .tuple #[.pointer (some ⟨b, 0, none⟩), .int .i64 0] ∧ LexAt w'' b wm.heap.size rs cs ns es ds t noDrop) (by go_simp) ?_ ?_
            · refine (new_any t noDrop (ra, rn, rc) (ca, cn, cc) (na, nn, nc) (ea, t.e.length, ec) (some ⟨wd.heap.size, 0, none⟩, 100, 100) 0 wm ((HTB.out.same (HC2.out.trans HSX.out)).lower (Nat.zero_le _)) HF.out (HI.out.lower (Nat.zero_le _)) (by simp [noDrop])).mono ?_
              intro e wy hp
              unfold NewPostP at hp
              rw [if_pos HN.out] at hp
              obtain ⟨b, rs', cs', ns', es', ds', rfl, hlex, -, -, hc⟩ := hp
              exact ⟨_, rfl, HSX.out.trans hc, b, rs', cs', ns', es', ds', rfl, hlex⟩
            rintro v w4 hs ⟨b, rs', cs', ns', es', ds', rfl, hlex⟩ K hK
            have HLX := Lib.hid hlex
            have HC4 := Lib.hid (HC2.out.trans hs)
            have HC04 := Lib.hid (HC02.out.trans hs)
            have HSS := Lib.hid hs
            clear hlex hs HI HCM HSX
            (try go_simp)
            refine hK _ ?_
            clear hK K
            (refine held_read (i := 3) rfl (by kernel_rfl) (by kernel_rfl) (by kernel_rfl) (fun _ _ _ _ h => h) rfl HSS.out (fun K hK => ?_); apply Exists.intro; refine ⟨fun w' hC => ?_, ?_⟩; ((skip); go_simp; try with_reducible rfl); (try go_simp); refine hK _ ?_; clear hK K)
            (refine held_read (i := 4) rfl (by kernel_rfl) (by kernel_rfl) (by kernel_rfl) (fun _ _ _ _ h => h) rfl HSS.out (fun K hK => ?_); apply Exists.intro; refine ⟨fun w' hC => ?_, ?_⟩; ((skip); go_simp; try with_reducible rfl); (try go_simp); refine hK _ ?_; clear hK K)
            (refine held_read (i := 5) rfl (by kernel_rfl) (by kernel_rfl) (by kernel_rfl) (fun _ _ _ _ h => h) rfl HSS.out (fun K hK => ?_); apply Exists.intro; refine ⟨fun w' hC => ?_, ?_⟩; ((skip); go_simp; try with_reducible rfl); (try go_simp); refine hK _ ?_; clear hK K)
            (refine held_one (i := 6) (by kernel_rfl) rfl rfl HSS.out (fun K hK => ?_); apply Exists.intro; refine ⟨?_, ?_⟩; ((skip); go_simp; try with_reducible rfl); (try go_simp); refine hK _ ?_; clear hK K)
            (refine held_one (i := 7) (by kernel_rfl) rfl rfl HSS.out (fun K hK => ?_); apply Exists.intro; refine ⟨?_, ?_⟩; ((skip); go_simp; try with_reducible rfl); (try go_simp); refine hK _ ?_; clear hK K)
            refine wpAnyH_done (by kernel_rfl) ?_ _
            clear HSS
            go_upto_region 10 with (at_make; refine boolE.wpList_make rfl _ _ _ rfl rfl _ _ _ _ 100 100 rfl rfl rfl rfl (by omega) (by omega) ?_; intro w5 HR5 HC5)
            have HDD := Lib.hid (HD.out.same (HC4.out.trans HC5.out))
            go_upto_region 11 with (refine boolE.wpList_copy rfl rfl _ _ _ _ rfl rfl w4.heap.size 100 100 B D.length dc da rfl rfl HR5.out (by rw [List.length_replicate]) HDD.out ?_; intro w6 C v6 HR6 hl6 HC6)
            have hCl : C.length = 100 := by rw [hl6, List.length_replicate]
            have HC46 : Hid (Chg (fun _ => False) w4 w6) := Lib.hid ((HC5.out.any (S := fun k => w4.heap.size ≤ k)).trans (HC6.out.mono (fun k _ e => by omega))).fresh
            have HCW6 := Lib.hid (HC4.out.trans HC46.out)
            have HC06 := Lib.hid (HC04.out.trans HC46.out)
            have HS6 : Hid (boolE.In w6 0 (some ⟨w4.heap.size, 0, none⟩, 100, 100) C) := Lib.hid (HR6.out.in' hCl.symm (Nat.le_refl _))
            have HN2 := Lib.hid (newOk_100 HM.out hCl HB.out)
            obtain ⟨q0, q1, q2, q3⟩ := HT0.out w6 HC06.out
            clear hl6 HR5 HC5 HDD HR6 HC6
            go_wp2_with fail
            refine (new_any t C (ra, rn, rc) (ca, cn, cc) (na, nn, nc) (ea, t.e.length, ec) (some ⟨w4.heap.size, 0, none⟩, 100, 100) 0 w6 ((HTB.out.same HCW6.out).lower (Nat.zero_le _)) HF.out HS6.out (by omega)).mono ?_
            intro e w7 hp
            unfold NewPostP at hp
            rw [if_pos HN2.out] at hp
            obtain ⟨b2, rs2, cs2, ns2, es2, ds2, rfl, hlex, -, -, hc⟩ := hp
            have HLY := Lib.hid hlex
            have HCW7 := Lib.hid (HCW6.out.trans hc)
            have HC07 := Lib.hid (HC06.out.trans hc)
            have HLX7 := Lib.hid (HLX.out.same (HC46.out.trans hc))
            have HS7 := Lib.hid (HS6.out.same hc)
            have HE99 := Lib.hid HB.out
            clear hlex hc q0 q1 q2 q3 HLX HS6 HB b1
            rcases toksL_all (newOk_spec HN.out).1 (s := s) (by omega) C with ⟨L, hch, hl, hr⟩ | ⟨p, hps, hlp, hl, hr, L', hl'⟩
            · have HCH := Lib.hid hch
              have hLl : L.length ≤ 100 := by have := chain_len L 0 hch; omega
              clear hch
              go_wp2_with fail
              refine (toks_any b _ rs' cs' ns' es' ds' t noDrop s w7 HLX7.out HF.out (newOk_spec HN.out).1 (HT.out.same HCW7.out) (by omega) (newOk_spec HN.out).2).mono ?_
              rintro e w8 ⟨v1, rfl, ho, hc⟩
              rw [hl] at ho ⊢
              simp only at ho ⊢
              obtain ⟨a1, c1, rfl, hc1, -⟩ := ho.clip
              have HL8 := Lib.hid (ho.in' hc1)
              have HCW8 := Lib.hid (HCW7.out.trans hc)
              have HC08 := Lib.hid (HC07.out.trans hc)
              have HLY8 := Lib.hid (HLY.out.same hc)
              have HS8 := Lib.hid (HS7.out.same hc)
              clear ho hc hl
              go_wp2_with fail
              refine (toks_any b2 _ rs2 cs2 ns2 es2 ds2 t C s w8 HLY8.out HF.out (newOk_spec HN.out).1 (HT.out.same HCW8.out) (by omega) (newOk_spec HN2.out).2).mono ?_
              rintro e w9 ⟨v2, rfl, ho, hc⟩
              rw [hr] at ho ⊢
              simp only at ho ⊢
              obtain ⟨M, hM⟩ : ∃ M, L.filter (keepB C) = M := ⟨_, rfl⟩
              rw [hM] at ho
              obtain ⟨a2, c2, rfl, hc2, -⟩ := ho.clip
              have HM9 := Lib.hid (ho.in' hc2)
              have HL9 := Lib.hid (HL8.out.same hc)
              have HCW9 := Lib.hid (HCW8.out.trans hc)
              have HC09 := Lib.hid (HC08.out.trans hc)
              have HS9 := Lib.hid (HS8.out.same hc)
              have HFI : Hid (∀ {k : Nat} {x : TokD}, L[k]? = some x → ((L.take (k + 1)).filter (keepB C)).length = ((L.take k).filter (keepB C)).length + (if keepB C x = true then 1 else 0) ∧ (keepB C x = true → M[((L.take k).filter (keepB C)).length]? = some x)) := Lib.hid (fun hx => by
                rw [← hM]
                exact filter_get hx)
              have HML : Hid (L.filter (keepB C) = M) := Lib.hid hM
              clear ho hc hr hM HL8 HS8 HS7 HLY HLY8 HLX7
              have d11 : decide ((s.size : Int) < (s.size : Int)) = false := by simp
              have d12 : decide ((s.size : Int) < 0) = false := decide_eq_false (by omega)
              go_wp2
              obtain ⟨ge, oe, hea, hEG⟩ := HTB.out.e.getE (by have h1 := (newOk_spec HN.out).1.el; have h2 := (newOk_spec HN.out).1.nl; omega)
              subst hea
              have HEG := Lib.hid hEG
              have HEL2 : Hid (t.e.length = t.n.length) := Lib.hid (newOk_spec HN.out).1.el
              clear hEG
              go_loopw [21, 22, 23] (fun av nv q wr => ∃ (k a : Nat), k ≤ L.length ∧ a ≤ s.size ∧ q = .int .i64 k ∧ av = .string (s.extract 0 a) ∧ nv = .int .i64 ((L.take k).filter (keepB C)).length ∧ ChainT t s a (L.drop k) ∧ Chg (fun _ => False) w9 wr) (fun _ _ q _ => L.length - (intOf q).toNat)
              case atStart => exact ⟨0, 0, by omega, by omega, rfl, by rw [show s.extract 0 0 = ⟨#[]⟩ from ByteArray.ext (Array.ext' (by rw [Lib.extract_data]; rfl))], rfl, HCH.out, Chg.refl _ _⟩
              case round =>
                clear HCH d11 d12
                obtain ⟨k, a, hk, ha, rfl, rfl, rfl, hch, hc⟩ := hrel
                have HC := Lib.hid hc
                obtain ⟨n, hn⟩ : ∃ n, ((L.take k).filter (keepB C)).length = n := ⟨_, rfl⟩
                rw [hn]
                have HNN := Lib.hid hn
                have hnk : n ≤ k := by
                  rw [← hn]
                  have h1 := List.length_filter_le (keepB C) (L.take k)
                  rw [List.length_take] at h1
                  omega
                clear hc hn
                obtain ⟨al, hal⟩ : ∃ y, s.extract 0 a = y := ⟨_, rfl⟩
                have hals : al.size = a := by rw [← hal, size_extract' s ha]; omega
                rw [hal]
                have HAL := Lib.hid hal
                clear hal
                by_cases hkl : k < L.length
                · have b1 : decide ((k : Int) < (L.length : Int)) = true := by simp; omega
                  obtain ⟨x, hx⟩ : ∃ x, L[k]? = some x := ⟨_, List.getElem?_eq_getElem hkl⟩
                  have hdr : L.drop k = x :: L.drop (k + 1) := by
                    rw [List.drop_eq_getElem_cons hkl]
                    rw [List.getElem?_eq_getElem hkl] at hx
                    rw [Option.some.inj hx]
                  rw [hdr] at hch
                  obtain ⟨has, hz1, hxe, hch2⟩ := hch
                  obtain ⟨-, hz2, hk0, hkm⟩ := long_step (newOk_spec HN.out).1 (show ¬ (longL t s a).2 = 0 by omega)
                  obtain ⟨z, hz⟩ : ∃ z : Nat, (longL t s a).2 = z := ⟨(longL t s a).2.toNat, by omega⟩
                  obtain ⟨kn, hkn⟩ : ∃ z : Nat, (longL t s a).1 = z := ⟨(longL t s a).1.toNat, by omega⟩
                  have hls := longL_state (t := t) (s := s) (i := a) (n := z) (by omega) (by omega) hz
                  have HGE : Hid (∀ j, j ≤ s.size → a < j → 0 ≤ stateL t (s.extract a j) → 0 ≤ endAt t (stateL t (s.extract a j)) → j ≤ a + z) := Lib.hid (fun j hj haj h1 h2 => by
                    have := longL_ge hj haj h1 h2
                    omega)
                  have hk9 : kn ≤ 99 := by
                    obtain ⟨j, hj⟩ := List.getElem?_of_mem hkm
                    have := HE99.out j _ (List.getElem?_eq_some_iff.1 hj).1 hj
                    omega
                  rw [hkn] at hls hxe
                  rw [hz] at hxe hch2 hz1 hz2
                  rw [Int.toNat_natCast] at hxe hch2
                  obtain ⟨tx, htx⟩ : ∃ y, s.extract a (a + z) = y := ⟨_, rfl⟩
                  have htxs : tx.size = z := by rw [← htx, size_extract' s (by omega)]; omega
                  rw [htx] at hxe hls
                  have HAP : Hid (al ++ tx = s.extract 0 (a + z)) := Lib.hid (by rw [← HAL.out, ← htx]; exact extract_app (by omega))
                  have HCH2 := Lib.hid hch2
                  have HLS := Lib.hid hls
                  subst hxe
                  have HX := Lib.hid hx
                  obtain ⟨g, o, ha1, y0, y1, y2⟩ := (HL9.out.same HC.out).getT hx
                  subst ha1
                  simp only at y0 y1 y2
                  have HY := Lib.hid (show _ ∧ _ ∧ _ from ⟨y0, y1, y2⟩)
                  clear hx hdr hkm hk0 hz hkn hch2 hls htx
                  have d1 : ((a : Int) != (al.size : Int)) = false := by rw [hals]; simp
                  have d2 : (tx.toList == []) = false := by
                    rw [beq_eq_false_iff_ne]
                    intro e
                    have h2 : tx.toList.length = tx.size := by rw [ByteArray.toList_eq, Array.length_toList]; rfl
                    rw [e] at h2
                    simp only [List.length_nil] at h2
                    omega
                  have d3 : ¬ tx.toList = [] := by simpa using d2
                  have d4 : decide ((kn : Int) < 0) = false := decide_eq_false (by omega)
                  have d5 : decide ((99 : Int) < (kn : Int)) = false := decide_eq_false (by omega)
                  have d6 : decide (99 < kn) = false := decide_eq_false (by omega)
                  go_upto_region 32 with (fail)
                  obtain ⟨al2, hal2⟩ : ∃ y, al ++ tx = y := ⟨_, rfl⟩
                  rw [hal2] at HAP ⊢
                  have hal2s : al2.size = a + z := by rw [HAP.out, size_extract' s (by omega)]; omega
                  clear hal2
                  refine wp_region_held (S := Chg (fun _ => False) wr) (by kernel_rfl) ?_
                  show wpAnyH _ _ _ _ _ 8 (Array.replicate 8 false) _ wr.drew
                  obtain ⟨wd, hwd⟩ : ∃ x, wr.drew = x := ⟨_, rfl⟩
                  have HSS : Hid (Chg (fun _ => False) wr wd) := Lib.hid (by rw [← hwd]; exact (Chg.refl _ _).drew)
                  rw [hwd]
                  clear hwd
                  (refine held_read (i := 0) rfl (by kernel_rfl) (by kernel_rfl) (by kernel_rfl) (fun _ _ _ _ h => h) rfl HSS.out (fun K hK => ?_); apply Exists.intro; refine ⟨fun w' hC => ?_, ?_⟩; ((obtain ⟨q0, q1, q2, q3⟩ := HT0.out w' ((HC09.out.trans HC.out).trans hC)); go_simp; try with_reducible rfl); (try go_simp); refine hK _ ?_; clear hK K)
                  (refine held_read (i := 1) rfl (by kernel_rfl) (by kernel_rfl) (by kernel_rfl) (fun _ _ _ _ h => h) rfl HSS.out (fun K hK => ?_); apply Exists.intro; refine ⟨fun w' hC => ?_, ?_⟩; ((skip); go_simp; try with_reducible rfl); (try go_simp); refine hK _ ?_; clear hK K)
                  (refine held_read (i := 2) rfl (by kernel_rfl) (by kernel_rfl) (by kernel_rfl) (fun _ _ _ _ h => h) rfl HSS.out (fun K hK => ?_); apply Exists.intro; refine ⟨fun w' hC => ?_, ?_⟩; ((skip); go_simp; try with_reducible rfl); (try go_simp); refine hK _ ?_; clear hK K)
                  (refine held_read (i := 3) rfl (by kernel_rfl) (by kernel_rfl) (by kernel_rfl) (fun _ _ _ _ h => h) rfl HSS.out (fun K hK => ?_); apply Exists.intro; refine ⟨fun w' hC => ?_, ?_⟩; ((skip); go_simp; try with_reducible rfl); (try go_simp); refine hK _ ?_; clear hK K)
                  (refine held_read (i := 4) rfl (by kernel_rfl) (by kernel_rfl) (by kernel_rfl) (fun _ _ _ _ h => h) rfl HSS.out (fun K hK => ?_); apply Exists.intro; refine ⟨fun w' hC => ?_, ?_⟩; ((skip); go_simp; try with_reducible rfl); (try go_simp); refine hK _ ?_; clear hK K)
                  (refine held_read (i := 5) rfl (by kernel_rfl) (by kernel_rfl) (by kernel_rfl) (fun _ _ _ _ h => h) rfl HSS.out (fun K hK => ?_); apply Exists.intro; refine ⟨fun w' hC => ?_, ?_⟩; ((have y1 := hC.cellS HY.out.2.1 (fun h => h)); go_simp; try with_reducible rfl); (try go_simp); refine hK _ ?_; clear hK K)
                  refine held_call (i := 6) (by kernel_rfl) rfl rfl 22 #[.agg #[.slice ra rn rc, .slice ca cn cc, .slice na nn nc, .slice (some ⟨ge, oe, none⟩) t.e.length ec], .string tx] (fun v w'' => v = .int .i64 (stateL t tx) ∧ stateL t tx < t.n.length) (by go_simp) ?_ ?_
                  · refine (state_any t (ra, rn, rc) (ca, cn, cc) (na, nn, nc) (some ⟨ge, oe, none⟩, t.e.length, ec) B tx wd (HTB.out.same ((HCW9.out.trans HC.out).trans HSS.out)) HF.out (newOk_spec HN.out).1 (HT.out.same ((HCW9.out.trans HC.out).trans HSS.out)) (by omega)).mono ?_
                    rintro e wy ⟨rfl, ⟨-, hlt⟩, hc⟩
                    exact ⟨_, rfl, HSS.out.trans hc, rfl, hlt⟩
                  rintro v w10 hs ⟨rfl, hlt⟩ K hK
                  have HC10 := Lib.hid (HC.out.trans hs)
                  have HY10 := Lib.hid (show _ ∧ _ ∧ _ from ⟨hs.cellS HY.out.1 (fun h => h), hs.cellS HY.out.2.1 (fun h => h), hs.cellS HY.out.2.2 (fun h => h)⟩)
                  obtain ⟨sn, hsn⟩ : ∃ sn : Nat, stateL t tx = sn := ⟨(stateL t tx).toNat, by have := HLS.out.1; omega⟩
                  have HEN : Hid (endAt t sn = kn) := Lib.hid (by rw [← hsn]; exact HLS.out.2)
                  rw [hsn] at hlt ⊢
                  have HSS := Lib.hid hs
                  clear hs hsn HLS y0 y1 y2
                  (try go_simp)
                  refine hK _ ?_
                  clear hK K
                  (refine held_one (i := 7) (by kernel_rfl) rfl rfl HSS.out (fun K hK => ?_); apply Exists.intro; refine ⟨?_, ?_⟩; ((skip); go_simp; try with_reducible rfl); (try go_simp); refine hK _ ?_; clear hK K)
                  refine wpAnyH_done (by kernel_rfl) ?_ _
                  have hse : sn < t.e.length := by rw [HEL2.out]; omega
                  obtain ⟨ev, hev, he0, -, -⟩ := HEG.out w10 (HCW9.out.trans HC10.out) sn hse
                  obtain rfl : (kn : Int) = ev := by rw [← HEN.out, endAt_get hev]
                  have HE0 := Lib.hid he0
                  have d7 : decide ((sn : Int) < 0) = false := decide_eq_false (by omega)
                  clear hev he0 HSS d1 d2 d3
                  go_upto_region 33 with (fail)
                  refine wp_region_same (fun w' => Chg (fun _ => False) w10 w') (by kernel_rfl) (by kernel_rfl) ?_ ?_
                  · exact (Chg.refl _ _).drew
                  (refine wpC_read rfl (fun _ _ _ h => h) (fun K hK => ?_); apply Exists.intro; refine ⟨fun _ w' _ hC => ?_, ?_⟩; ((skip); go_simp; try with_reducible rfl); (try go_simp); refine hK _ ?_; clear hK K); (refine wpC_read rfl (fun _ _ _ h => h) (fun K hK => ?_); apply Exists.intro; refine ⟨fun _ w' _ hC => ?_, ?_⟩; ((skip); go_simp; try with_reducible rfl); (try go_simp); refine hK _ ?_; clear hK K); (refine wpC_read rfl (fun _ _ _ h => h) (fun K hK => ?_); apply Exists.intro; refine ⟨fun _ w' _ hC => ?_, ?_⟩; ((skip); go_simp; try with_reducible rfl); (try go_simp); refine hK _ ?_; clear hK K); (refine wpC_read rfl (fun _ _ _ h => h) (fun K hK => ?_); apply Exists.intro; refine ⟨fun _ w' _ hC => ?_, ?_⟩; ((skip); go_simp; try with_reducible rfl); (try go_simp); refine hK _ ?_; clear hK K); (refine wpC_read rfl (fun _ _ _ h => h) (fun K hK => ?_); apply Exists.intro; refine ⟨fun _ w' _ hC => ?_, ?_⟩; ((obtain ⟨q0, q1, q2, q3⟩ := HT0.out w' ((HC09.out.trans HC10.out).trans hC); have e0 := hC.cellS HE0.out (fun h => h); have y0 := hC.cellS HY10.out.1 (fun h => h)); go_simp; try with_reducible rfl); (try go_simp); refine hK _ ?_; clear hK K); (refine wpC_read rfl (fun _ _ _ h => h) (fun K hK => ?_); apply Exists.intro; refine ⟨fun _ w' _ hC => ?_, ?_⟩; ((skip); go_simp; try with_reducible rfl); (try go_simp); refine hK _ ?_; clear hK K); (refine wpC_read rfl (fun _ _ _ h => h) (fun K hK => ?_); apply Exists.intro; refine ⟨fun _ w' _ hC => ?_, ?_⟩; ((skip); go_simp; try with_reducible rfl); (try go_simp); refine hK _ ?_; clear hK K); (refine wpC_read rfl (fun _ _ _ h => h) (fun K hK => ?_); apply Exists.intro; refine ⟨fun _ w' _ hC => ?_, ?_⟩; ((obtain ⟨q0, q1, q2, q3⟩ := HT0.out w' ((HC09.out.trans HC10.out).trans hC); have e0 := hC.cellS HE0.out (fun h => h); have y0 := hC.cellS HY10.out.1 (fun h => h)); go_simp; try with_reducible rfl); (try go_simp); refine hK _ ?_; clear hK K); (refine wpC_read rfl (fun _ _ _ h => h) (fun K hK => ?_); apply Exists.intro; refine ⟨fun _ w' _ hC => ?_, ?_⟩; ((skip); go_simp; try with_reducible rfl); (try go_simp); refine hK _ ?_; clear hK K); (refine wpC_read rfl (fun _ _ _ h => h) (fun K hK => ?_); apply Exists.intro; refine ⟨fun _ w' _ hC => ?_, ?_⟩; ((skip); go_simp; try with_reducible rfl); (try go_simp); refine hK _ ?_; clear hK K); (refine wpC_read rfl (fun _ _ _ h => h) (fun K hK => ?_); apply Exists.intro; refine ⟨fun _ w' _ hC => ?_, ?_⟩; ((skip); go_simp; try with_reducible rfl); (try go_simp); refine hK _ ?_; clear hK K); (refine wpC_read rfl (fun _ _ _ h => h) (fun K hK => ?_); apply Exists.intro; refine ⟨fun _ w' _ hC => ?_, ?_⟩; ((skip); go_simp; try with_reducible rfl); (try go_simp); refine hK _ ?_; clear hK K); (refine wpC_read rfl (fun _ _ _ h => h) (fun K hK => ?_); apply Exists.intro; refine ⟨fun _ w' _ hC => ?_, ?_⟩; ((obtain ⟨q0, q1, q2, q3⟩ := HT0.out w' ((HC09.out.trans HC10.out).trans hC); have e0 := hC.cellS HE0.out (fun h => h); have y0 := hC.cellS HY10.out.1 (fun h => h)); go_simp; try with_reducible rfl); (try go_simp); refine hK _ ?_; clear hK K); (refine wpC_read rfl (fun _ _ _ h => h) (fun K hK => ?_); apply Exists.intro; refine ⟨fun _ w' _ hC => ?_, ?_⟩; ((skip); go_simp; try with_reducible rfl); (try go_simp); refine hK _ ?_; clear hK K); (refine wpC_read rfl (fun _ _ _ h => h) (fun K hK => ?_); apply Exists.intro; refine ⟨fun _ w' _ hC => ?_, ?_⟩; ((skip); go_simp; try with_reducible rfl); (try go_simp); refine hK _ ?_; clear hK K)
                  refine wpC_nil ?_
                  intro w11 hC11
                  have HC11 := Lib.hid (HC10.out.trans hC11)
                  have HY11 := Lib.hid (show _ ∧ _ ∧ _ from ⟨hC11.cellS HY10.out.1 (fun h => h), hC11.cellS HY10.out.2.1 (fun h => h), hC11.cellS HY10.out.2.2 (fun h => h)⟩)
                  clear hC11 HE0 HEN HY10
                  go_wp2
                  go_loopw [25] (fun q wq => ∃ j : Nat, a + z + 1 ≤ j ∧ j ≤ s.size + 1 ∧ q = .int .i64 j ∧ Chg (fun _ => False) w11 wq) (fun q _ => s.size + 1 - (intOf q).toNat)
                  case atStart => exact ⟨a + z + 1, by omega, by omega, by go_num, Chg.refl _ _⟩
                  case round =>
                    obtain ⟨j, hj1, hj2, rfl, hc⟩ := hrel
                    have HQ := Lib.hid hc
                    clear hc
                    by_cases hjs : j ≤ s.size
                    · have b2 : decide ((j : Int) ≤ (s.size : Int)) = true := by simp; omega
                      have HYQ := Lib.hid (show _ ∧ _ ∧ _ from ⟨HQ.out.cellS HY11.out.1 (fun h => h), HQ.out.cellS HY11.out.2.1 (fun h => h), HQ.out.cellS HY11.out.2.2 (fun h => h)⟩)
                      have HNO : Hid (0 ≤ stateL t (s.extract a j) → endAt t (stateL t (s.extract a j)) < 0) := Lib.hid (fun h1 => by
                        by_cases h2 : 0 ≤ endAt t (stateL t (s.extract a j))
                        · have := HGE.out j hjs (by omega) h1 h2
                          omega
                        · omega)
                      go_upto_region 38 with (fail)
                      have hs1 : (a : Int) ≤ (j : Int) := by omega
                      have hs2 : (j : Int) ≤ (s.size : Int) := by omega
                      have hs3 : a ≤ j := by omega
                      refine wp_region_held (S := Chg (fun _ => False) wr) (by kernel_rfl) ?_
                      show wpAnyH _ _ _ _ _ 11 (Array.replicate 11 false) _ wr.drew
                      obtain ⟨wd, hwd⟩ : ∃ x, wr.drew = x := ⟨_, rfl⟩
                      have HSS : Hid (Chg (fun _ => False) wr wd) := Lib.hid (by rw [← hwd]; exact (Chg.refl _ _).drew)
                      rw [hwd]
                      clear hwd
                      (refine held_read (i := 0) rfl (by kernel_rfl) (by kernel_rfl) (by kernel_rfl) (fun _ _ _ _ h => h) rfl HSS.out (fun K hK => ?_); apply Exists.intro; refine ⟨fun w' hC => ?_, ?_⟩; ((obtain ⟨q0, q1, q2, q3⟩ := HT0.out w' (((HC09.out.trans HC11.out).trans HQ.out).trans hC)); go_simp; try with_reducible rfl); (try go_simp); refine hK _ ?_; clear hK K)
                      (refine held_read (i := 1) rfl (by kernel_rfl) (by kernel_rfl) (by kernel_rfl) (fun _ _ _ _ h => h) rfl HSS.out (fun K hK => ?_); apply Exists.intro; refine ⟨fun w' hC => ?_, ?_⟩; ((skip); go_simp; try with_reducible rfl); (try go_simp); refine hK _ ?_; clear hK K)
                      (refine held_read (i := 2) rfl (by kernel_rfl) (by kernel_rfl) (by kernel_rfl) (fun _ _ _ _ h => h) rfl HSS.out (fun K hK => ?_); apply Exists.intro; refine ⟨fun w' hC => ?_, ?_⟩; ((skip); go_simp; try with_reducible rfl); (try go_simp); refine hK _ ?_; clear hK K)
                      (refine held_read (i := 3) rfl (by kernel_rfl) (by kernel_rfl) (by kernel_rfl) (fun _ _ _ _ h => h) rfl HSS.out (fun K hK => ?_); apply Exists.intro; refine ⟨fun w' hC => ?_, ?_⟩; ((skip); go_simp; try with_reducible rfl); (try go_simp); refine hK _ ?_; clear hK K)
                      (refine held_read (i := 4) rfl (by kernel_rfl) (by kernel_rfl) (by kernel_rfl) (fun _ _ _ _ h => h) rfl HSS.out (fun K hK => ?_); apply Exists.intro; refine ⟨fun w' hC => ?_, ?_⟩; ((skip); go_simp; try with_reducible rfl); (try go_simp); refine hK _ ?_; clear hK K)
                      (refine held_read (i := 5) rfl (by kernel_rfl) (by kernel_rfl) (by kernel_rfl) (fun _ _ _ _ h => h) rfl HSS.out (fun K hK => ?_); apply Exists.intro; refine ⟨fun w' hC => ?_, ?_⟩; ((skip); go_simp; try with_reducible rfl); (try go_simp); refine hK _ ?_; clear hK K)
                      (refine held_read (i := 6) rfl (by kernel_rfl) (by kernel_rfl) (by kernel_rfl) (fun _ _ _ _ h => h) rfl HSS.out (fun K hK => ?_); apply Exists.intro; refine ⟨fun w' hC => ?_, ?_⟩; ((have y2 := hC.cellS HYQ.out.2.2 (fun h => h)); go_simp; try with_reducible rfl); (try go_simp); refine hK _ ?_; clear hK K)
                      (refine held_read (i := 7) rfl (by kernel_rfl) (by kernel_rfl) (by kernel_rfl) (fun _ _ _ _ h => h) rfl HSS.out (fun K hK => ?_); apply Exists.intro; refine ⟨fun w' hC => ?_, ?_⟩; ((skip); go_simp; try with_reducible rfl); (try go_simp); refine hK _ ?_; clear hK K)
                      (refine held_read (i := 8) rfl (by kernel_rfl) (by kernel_rfl) (by kernel_rfl) (fun _ _ _ _ h => h) rfl HSS.out (fun K hK => ?_); apply Exists.intro; refine ⟨fun w' hC => ?_, ?_⟩; ((skip); go_simp; try with_reducible rfl); (try go_simp); refine hK _ ?_; clear hK K)
                      refine held_call (i := 9) (by kernel_rfl) rfl rfl 22 #[.agg #[.slice ra rn rc, .slice ca cn cc, .slice na nn nc, .slice (some ⟨ge, oe, none⟩) t.e.length ec], .string (s.extract a j)] (fun v w'' => v = .int .i64 (stateL t (s.extract a j)) ∧ (-1 ≤ stateL t (s.extract a j) ∧ stateL t (s.extract a j) < t.n.length)) (by go_simp) ?_ ?_
                      · refine (state_any t (ra, rn, rc) (ca, cn, cc) (na, nn, nc) (some ⟨ge, oe, none⟩, t.e.length, ec) B (s.extract a j) wd (HTB.out.same (((HCW9.out.trans HC11.out).trans HQ.out).trans HSS.out)) HF.out (newOk_spec HN.out).1 (HT.out.same (((HCW9.out.trans HC11.out).trans HQ.out).trans HSS.out)) (by rw [size_extract' s hjs]; omega)).mono ?_
                        rintro e wy ⟨rfl, hlt, hc⟩
                        exact ⟨_, rfl, HSS.out.trans hc, rfl, hlt⟩
                      rintro v w13 hs ⟨rfl, hlt⟩ K hK
                      have HQ2 := Lib.hid (HQ.out.trans hs)
                      obtain ⟨y, hy⟩ : ∃ y, stateL t (s.extract a j) = y := ⟨_, rfl⟩
                      rw [hy] at hlt HNO ⊢
                      have HSS := Lib.hid hs
                      clear hs hy
                      (try go_simp)
                      refine hK _ ?_
                      clear hK K
                      (refine held_one (i := 10) (by kernel_rfl) rfl rfl HSS.out (fun K hK => ?_); apply Exists.intro; refine ⟨?_, ?_⟩; ((skip); go_simp; try with_reducible rfl); (try go_simp); refine hK _ ?_; clear hK K)
                      refine wpAnyH_done (by kernel_rfl) ?_ _
                      clear HSS
                      by_cases hy0 : y < 0
                      · have d8 : decide (0 ≤ y) = false := decide_eq_false (by omega)
                        go_wp2
                        go_roundw
                        case rel => exact ⟨j + 1, by omega, by omega, by go_num, HQ2.out⟩
                        case measure => simp [intOf]; omega
                      · obtain ⟨yn, rfl⟩ : ∃ yn : Nat, y = yn := ⟨y.toNat, by omega⟩
                        have d8 : decide ((0 : Int) ≤ (yn : Int)) = true := decide_eq_true (by omega)
                        have hyn : yn < t.e.length := by rw [HEL2.out]; omega
                        obtain ⟨ev, hev, he0, -, -⟩ := HEG.out w13 ((HCW9.out.trans HC11.out).trans HQ2.out) yn hyn
                        have hev0 : ev < 0 := by
                          have := HNO.out (by omega)
                          rw [endAt_get hev] at this
                          exact this
                        have d9 : decide ((0 : Int) ≤ ev) = false := decide_eq_false (by omega)
                        obtain ⟨q0, q1, q2, q3⟩ := HT0.out w13 ((HC09.out.trans HC11.out).trans HQ2.out)
                        clear hev
                        go_wp2
                        go_roundw
                        case rel => exact ⟨j + 1, by omega, by omega, by go_num, HQ2.out⟩
                        case measure => simp [intOf]; omega
                    · obtain rfl : j = s.size + 1 := by omega
                      have b2 : decide (((s.size + 1 : Nat) : Int) ≤ (s.size : Int)) = false := decide_eq_false (by omega)
                      have b3 : decide ((s.size : Int) + 1 ≤ (s.size : Int)) = false := decide_eq_false (by omega)
                      obtain ⟨x, gs, os, hxs, has2, cs0, -, -⟩ := (HS9.out.same (HC11.out.trans HQ.out)).getB (k := kn) (by omega)
                      injection has2 with has2
                      injection has2 with e1 e2
                      subst e1 e2
                      rw [Nat.zero_add] at cs0
                      have h100 : kn < 100 := by omega
                      have HKB : Hid (keepB C ((kn : Int), tx, (a : Int)) = !x) := Lib.hid (by
                        show (!C.getD ((kn : Int)).toNat false) = !x
                        rw [drop_get (by simpa using hxs)])
                      have y0 := HQ.out.cellS HY11.out.1 (fun h => h)
                      clear hxs
                      cases x with
                      | true =>
                        have HNX : Hid (((L.take (k + 1)).filter (keepB C)).length = n) := Lib.hid (by
                          rw [(HFI.out HX.out).1, HNN.out, HKB.out]
                          rfl)
                        go_wp2
                        go_roundw
                        case rel => exact ⟨k + 1, a + z, by omega, by omega, by go_num, by rw [HAP.out], by rw [HNX.out], HCH2.out, HC11.out.trans HQ.out⟩
                        case measure => simp [intOf]; omega
                      | false =>
                        have HNX : Hid (((L.take (k + 1)).filter (keepB C)).length = n + 1) := Lib.hid (by
                          rw [(HFI.out HX.out).1, HNN.out, HKB.out]
                          rfl)
                        have hMn := (HFI.out HX.out).2 (by rw [HKB.out]; rfl)
                        rw [HNN.out] at hMn
                        have hnM := (List.getElem?_eq_some_iff.1 hMn).1
                        obtain ⟨g2, o2, ha2, m0, m1, m2⟩ := (HM9.out.same (HC11.out.trans HQ.out)).getT hMn
                        subst ha2
                        simp only at m0 m1 m2
                        have HMC := Lib.hid (show _ ∧ _ ∧ _ from ⟨m0, m1, m2⟩)
                        have HYQ := Lib.hid (show _ ∧ _ ∧ _ from ⟨HQ.out.cellS HY11.out.1 (fun h => h), HQ.out.cellS HY11.out.2.1 (fun h => h), HQ.out.cellS HY11.out.2.2 (fun h => h)⟩)
                        have d8 : decide ((M.length : Int) ≤ (n : Int)) = false := decide_eq_false (by omega)
                        have d9 : decide (M.length ≤ n) = false := decide_eq_false (by omega)
                        clear hMn m0 m1 m2
                        go_upto_region 42 with (fail)
                        clear y0 cs0
                        refine wp_region_same (fun w' => Chg (fun _ => False) wr w') (by kernel_rfl) (by kernel_rfl) ?_ ?_
                        · exact (Chg.refl _ _).drew
                        (refine wpC_read rfl (fun _ _ _ h => h) (fun K hK => ?_); apply Exists.intro; refine ⟨fun _ w' _ hC => ?_, ?_⟩; ((skip); go_simp; try with_reducible rfl); (try go_simp); refine hK _ ?_; clear hK K); (refine wpC_read rfl (fun _ _ _ h => h) (fun K hK => ?_); apply Exists.intro; refine ⟨fun _ w' _ hC => ?_, ?_⟩; ((skip); go_simp; try with_reducible rfl); (try go_simp); refine hK _ ?_; clear hK K); (refine wpC_read rfl (fun _ _ _ h => h) (fun K hK => ?_); apply Exists.intro; refine ⟨fun _ w' _ hC => ?_, ?_⟩; ((skip); go_simp; try with_reducible rfl); (try go_simp); refine hK _ ?_; clear hK K); (refine wpC_read rfl (fun _ _ _ h => h) (fun K hK => ?_); apply Exists.intro; refine ⟨fun _ w' _ hC => ?_, ?_⟩; ((skip); go_simp; try with_reducible rfl); (try go_simp); refine hK _ ?_; clear hK K); (refine wpC_read rfl (fun _ _ _ h => h) (fun K hK => ?_); apply Exists.intro; refine ⟨fun _ w' _ hC => ?_, ?_⟩; ((skip); go_simp; try with_reducible rfl); (try go_simp); refine hK _ ?_; clear hK K); (refine wpC_read rfl (fun _ _ _ h => h) (fun K hK => ?_); apply Exists.intro; refine ⟨fun _ w' _ hC => ?_, ?_⟩; ((skip); go_simp; try with_reducible rfl); (try go_simp); refine hK _ ?_; clear hK K); (refine wpC_read rfl (fun _ _ _ h => h) (fun K hK => ?_); apply Exists.intro; refine ⟨fun _ w' _ hC => ?_, ?_⟩; ((skip); go_simp; try with_reducible rfl); (try go_simp); refine hK _ ?_; clear hK K); (refine wpC_read rfl (fun _ _ _ h => h) (fun K hK => ?_); apply Exists.intro; refine ⟨fun _ w' _ hC => ?_, ?_⟩; ((skip); go_simp; try with_reducible rfl); (try go_simp); refine hK _ ?_; clear hK K); (refine wpC_read rfl (fun _ _ _ h => h) (fun K hK => ?_); apply Exists.intro; refine ⟨fun _ w' _ hC => ?_, ?_⟩; ((have y0 := hC.cellS HYQ.out.1 (fun h => h); have y1 := hC.cellS HYQ.out.2.1 (fun h => h); have y2 := hC.cellS HYQ.out.2.2 (fun h => h); have m0 := hC.cellS HMC.out.1 (fun h => h); have m1 := hC.cellS HMC.out.2.1 (fun h => h); have m2 := hC.cellS HMC.out.2.2 (fun h => h)); go_simp; try with_reducible rfl); (try go_simp); refine hK _ ?_; clear hK K); (refine wpC_read rfl (fun _ _ _ h => h) (fun K hK => ?_); apply Exists.intro; refine ⟨fun _ w' _ hC => ?_, ?_⟩; ((skip); go_simp; try with_reducible rfl); (try go_simp); refine hK _ ?_; clear hK K); (refine wpC_read rfl (fun _ _ _ h => h) (fun K hK => ?_); apply Exists.intro; refine ⟨fun _ w' _ hC => ?_, ?_⟩; ((skip); go_simp; try with_reducible rfl); (try go_simp); refine hK _ ?_; clear hK K); (refine wpC_read rfl (fun _ _ _ h => h) (fun K hK => ?_); apply Exists.intro; refine ⟨fun _ w' _ hC => ?_, ?_⟩; ((skip); go_simp; try with_reducible rfl); (try go_simp); refine hK _ ?_; clear hK K); (refine wpC_read rfl (fun _ _ _ h => h) (fun K hK => ?_); apply Exists.intro; refine ⟨fun _ w' _ hC => ?_, ?_⟩; ((have y0 := hC.cellS HYQ.out.1 (fun h => h); have y1 := hC.cellS HYQ.out.2.1 (fun h => h); have y2 := hC.cellS HYQ.out.2.2 (fun h => h); have m0 := hC.cellS HMC.out.1 (fun h => h); have m1 := hC.cellS HMC.out.2.1 (fun h => h); have m2 := hC.cellS HMC.out.2.2 (fun h => h)); go_simp; try with_reducible rfl); (try go_simp); refine hK _ ?_; clear hK K); (refine wpC_read rfl (fun _ _ _ h => h) (fun K hK => ?_); apply Exists.intro; refine ⟨fun _ w' _ hC => ?_, ?_⟩; ((skip); go_simp; try with_reducible rfl); (try go_simp); refine hK _ ?_; clear hK K); (refine wpC_read rfl (fun _ _ _ h => h) (fun K hK => ?_); apply Exists.intro; refine ⟨fun _ w' _ hC => ?_, ?_⟩; ((skip); go_simp; try with_reducible rfl); (try go_simp); refine hK _ ?_; clear hK K)
                        refine wpC_nil ?_
                        intro w12 hC12
                        have HC12 := Lib.hid ((HC11.out.trans HQ.out).trans hC12)
                        clear hC12
                        go_wp2
                        go_roundw
                        case rel => exact ⟨k + 1, a + z, by omega, by omega, by go_num, by rw [HAP.out], by rw [HNX.out]; go_num, HCH2.out, HC12.out⟩
                        case measure => simp [intOf]; omega
                · obtain rfl : k = L.length := by omega
                  have b1 : decide ((L.length : Int) < (L.length : Int)) = false := by simp
                  rw [List.drop_length] at hch
                  have hae : a = s.size := hch
                  obtain rfl : al = s := by rw [← HAL.out, hae, extract_all]
                  obtain rfl : n = M.length := by rw [← HNN.out, List.take_length, HML.out]
                  clear hch hae hals
                  have HCWR := Lib.hid (HCW9.out.trans HC.out)
                  go_wp2_with fail
                  refine (lives_any wr (HT.out.same HCWR.out)).mono ?_
                  rintro e w12 ⟨rfl, hc⟩
                  have HC12 := Lib.hid (HCWR.out.trans hc)
                  clear hc
                  go_wp2
                  go_ret
                  exact ⟨rfl, HC12.out⟩
            · have HLP := Lib.hid hlp
              have HLL := Lib.hid hl'
              clear hlp hl'
              go_wp2_with fail
              refine (toks_any b _ rs' cs' ns' es' ds' t noDrop s w7 HLX7.out HF.out (newOk_spec HN.out).1 (HT.out.same HCW7.out) (by omega) (newOk_spec HN.out).2).mono ?_
              rintro e w8 ⟨v1, rfl, ho, hc⟩
              rw [hl] at ho ⊢
              simp only at ho ⊢
              obtain ⟨a1, c1, rfl, -, -⟩ := ho.clip
              have HCW8 := Lib.hid (HCW7.out.trans hc)
              have HLX8 := Lib.hid (HLX7.out.same hc)
              have HLY8 := Lib.hid (HLY.out.same hc)
              clear ho hc hl
              go_wp2_with fail
              refine (toks_any b2 _ rs2 cs2 ns2 es2 ds2 t C s w8 HLY8.out HF.out (newOk_spec HN.out).1 (HT.out.same HCW8.out) (by omega) (newOk_spec HN2.out).2).mono ?_
              rintro e w9 ⟨v2, rfl, ho, hc⟩
              rw [hr] at ho ⊢
              simp only at ho ⊢
              obtain ⟨a2, c2, rfl, -, -⟩ := ho.clip
              have HCW9 := Lib.hid (HCW8.out.trans hc)
              have HLX9 := Lib.hid (HLX8.out.same hc)
              clear ho hc hr
              have d10 : decide ((s.size : Int) < (p : Int)) = false := by simp; omega
              have d11 : decide (s.size < p) = false := by simp; omega
              have d12 : decide ((p : Int) < 0) = false := decide_eq_false (by omega)
              go_wp2_with fail
              refine (long_any b _ rs' cs' ns' es' ds' t noDrop s p w9 HLX9.out HF.out (newOk_spec HN.out).1 (HT.out.same HCW9.out) (by omega) ⟨by omega, by omega⟩).mono ?_
              rintro e w10 ⟨rfl, hc⟩
              rw [HLP.out]
              have HCW10 := Lib.hid (HCW9.out.trans hc)
              have HLX10 := Lib.hid (HLX9.out.same hc)
              clear hc
              have hpi : (p : Int) ≤ s.size := by omega
              go_wp2_with fail
              refine (toks_any b _ rs' cs' ns' es' ds' t noDrop (s.extract 0 p) w10 HLX10.out HF.out (newOk_spec HN.out).1 (HT.out.same HCW10.out) (by rw [size_extract' s (by omega)]; omega) (newOk_spec HN.out).2).mono ?_
              rintro e w11 ⟨v3, rfl, ho, hc⟩
              rw [HLL.out] at ho ⊢
              simp only at ho ⊢
              obtain ⟨a3, c3, rfl, -, -⟩ := ho.clip
              have HCW11 := Lib.hid (HCW10.out.trans hc)
              clear ho hc
              go_wp2_with fail
              refine (lives_any w11 (HT.out.same HCW11.out)).mono ?_
              rintro e w12 ⟨rfl, hc⟩
              have HC12 := Lib.hid (HCW11.out.trans hc)
              clear hc
              go_wp2
              go_ret
              exact ⟨rfl, HC12.out⟩
end Go.Proofs.YtfhmblbomkhcpaaDoor
