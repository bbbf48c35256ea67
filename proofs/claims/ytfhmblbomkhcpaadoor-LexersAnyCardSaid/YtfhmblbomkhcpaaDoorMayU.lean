/- May a table be: the program's May, its walk. -/
import Derived.Test.YtfhmblbomkhcpaaDoorMayT
namespace Go.Proofs.YtfhmblbomkhcpaaDoor
open Go.RowKit

set_option maxRecDepth 100000 in
set_option maxHeartbeats 8000000 in
theorem may_any (t : TabD) (rs cs ns es : Sl) (B : Nat) (w : World) (h : TabIn w B rs cs ns es t) (hf : Fair t) :
    Calls Tryd.prog 21 #[tabV rs cs ns es] w fun e w' => e = .returned (.bool (mayT t)) ∧ Chg (fun _ => False) w w' := by
  obtain ⟨ra, rn, rc⟩ := rs
  obtain ⟨ca, cn, cc⟩ := cs
  obtain ⟨na, nn, nc⟩ := ns
  obtain ⟨ea, en, ec⟩ := es
  obtain ⟨hR, hC, hN, hE⟩ := h
  obtain ⟨fr, fc, fn, fe, fl⟩ := hf
  obtain ⟨rfl, hr1⟩ := hR.len
  obtain ⟨rfl, hc1⟩ := hC.len
  obtain ⟨rfl, hn1⟩ := hN.len
  obtain ⟨rfl, he1⟩ := hE.len
  have HR := Lib.hid hR
  have HC := Lib.hid hC
  have HN := Lib.hid hN
  have HE := Lib.hid hE
  have HL := Lib.hid fl
  have HT0 : Hid (∀ wx, Chg (fun _ => False) (w.alloc (.cells #[.slice ra t.r.length rc, .slice ca t.c.length cc, .slice na t.n.length nc, .slice ea t.e.length ec] 26)) wx → wx.cell? ⟨w.heap.size, 0, none⟩ = some (.slice ra t.r.length rc) ∧ wx.cell? ⟨w.heap.size, 1, none⟩ = some (.slice ca t.c.length cc) ∧ wx.cell? ⟨w.heap.size, 2, none⟩ = some (.slice na t.n.length nc) ∧ wx.cell? ⟨w.heap.size, 3, none⟩ = some (.slice ea t.e.length ec)) :=
    Lib.hid (fun wx hx => (tabBox w (ra, t.r.length, rc) (ca, t.c.length, cc) (na, t.n.length, nc) (ea, t.e.length, ec) 26).chg hx (fun h => h))
  clear hR hC hN hE fl
  show Calls Tryd.prog 21 #[.agg #[.slice ra t.r.length rc, .slice ca t.c.length cc, .slice na t.n.length nc, .slice ea t.e.length ec]] w _
  cases hap : apartB t.r with
  | false =>
    have HF : Hid (mayT t = false) := Lib.hid (mayT_no (fun hm => by rw [hm.ap] at hap; cases hap))
    have HAP := Lib.hid hap
    clear hap
    go_enter Tryd.func21, Tryd.ntmps21
    go_wp2_with fail
    refine (apart_rng t.r ra rc B _ (HR.out.same ((Chg.refl _ _).alloc _)) fr).mono ?_
    rintro e w1 ⟨rfl, h1c⟩
    rw [HAP.out]
    have HC1 := Lib.hid (((Chg.refl _ w).alloc _).trans h1c)
    clear h1c
    go_wp2
    go_ret
    exact ⟨by rw [HF.out]; rfl, HC1.out⟩
  | true =>
    have HAP := Lib.hid hap
    clear hap
    by_cases g1 : t.c.length = t.r.length
    · by_cases g2 : 0 < t.n.length
      · by_cases g3 : t.e.length = t.n.length
        · have d1 : ((t.c.length : Int) != (t.r.length : Int)) = false := by simp [g1]
          have d2 : decide ((t.n.length : Int) < 1) = false := decide_eq_false (by omega)
          have d3 : ((t.e.length : Int) != (t.n.length : Int)) = false := by simp [g3]
          have d2' : decide (t.n.length < 1) = false := decide_eq_false (by omega)
          have HG1 := Lib.hid g1
          have HG3 := Lib.hid g3
          clear g1 g3
          go_enter Tryd.func21, Tryd.ntmps21
          go_wp2_with fail
          refine (apart_rng t.r ra rc B _ (HR.out.same ((Chg.refl _ _).alloc _)) fr).mono ?_
          rintro e w1 ⟨rfl, h1c⟩
          rw [HAP.out]
          have HC1 := Lib.hid (((Chg.refl _ w).alloc _).trans h1c)
          obtain ⟨q0, q1, q2, q3⟩ := HT0.out w1 h1c
          have HQ := Lib.hid (HT0.out w1 h1c)
          have hlt : w.heap.size < w1.heap.size := by have := h1c.size; simp at this; omega
          clear h1c
          have HM0 : Hid (MayW w w1.heap.size (ra, t.r.length, rc) (ca, t.c.length, cc) (na, t.n.length, nc) (ea, t.e.length, ec) (colsL (t.c.take 0)) (w1.alloc (.cells #[.int .i64 0] 3))) := Lib.hid (by
            have ha := (Chg.refl (fun _ => False) w1).alloc (.cells #[.int .i64 0] 3)
            exact ⟨⟨ha.cellS HQ.out.1 (fun h => h), ha.cellS HQ.out.2.1 (fun h => h), ha.cellS HQ.out.2.2.1 (fun h => h), ha.cellS HQ.out.2.2.2 (fun h => h)⟩, ⟨by simp [colsL], World.frozen?_alloc_new _ _ _ _⟩, HC1.out.alloc _, hlt⟩)
          obtain ⟨⟨y0, y1, y2, y3⟩, -, -, -⟩ := HM0.out
          unfold slV at y0 y1 y2 y3
          simp only at y0 y1 y2 y3
          go_wp2
          clear y0 y1 y2 y3
          go_loopw [38] (fun q wr => ∃ k : Nat, k ≤ t.c.length ∧ q = .int .i64 k ∧ (∀ (j : Nat) c, j < k → t.c[j]? = some c → 0 ≤ c ∧ c < t.c.length) ∧ MayW w w1.heap.size (ra, t.r.length, rc) (ca, t.c.length, cc) (na, t.n.length, nc) (ea, t.e.length, ec) (colsL (t.c.take k)) wr) (fun q _ => t.c.length - (intOf q).toNat)
          case atStart => exact ⟨0, by omega, rfl, fun j y h => absurd h (Nat.not_lt_zero _), HM0.out⟩
          case round =>
            clear HM0
            obtain ⟨k, hk, rfl, hb, hm⟩ := hrel
            have HB := Lib.hid hb
            have HM := Lib.hid hm
            obtain ⟨⟨q0, q1, q2, q3⟩, ⟨m0, m1⟩, hcw, -⟩ := hm
            unfold slV at q0 q1 q2 q3
            simp only at q0 q1 q2 q3
            have HCW := Lib.hid hcw
            clear hb hcw
            obtain ⟨v, hv⟩ : ∃ x, colsL (t.c.take k) = x := ⟨_, rfl⟩
            rw [hv] at m0
            have HV := Lib.hid hv
            by_cases hkl : k < t.c.length
            · have b9 : decide ((k : Int) < (t.c.length : Int)) = true := by simp; omega
              obtain ⟨c, g, o, hx, rfl, c0, x0, x1, -, -⟩ := (HC.out.same HCW.out).getI hkl
              have HX := Lib.hid hx
              clear hx hv
              by_cases h1 : c < 0
              · have d5 : decide (c < 0) = true := by simpa using h1
                have HF : Hid (mayT t = false) := Lib.hid (mayT_no (fun hm => by have := hm.cb c (List.mem_of_getElem? HX.out); omega))
                go_wp2
                go_ret
                exact ⟨by rw [HF.out]; rfl, HCW.out⟩
              · have d5 : decide (c < 0) = false := by simpa using h1
                by_cases h2 : (t.c.length : Int) ≤ c
                · have d6 : decide ((t.c.length : Int) ≤ c) = true := by simpa using h2
                  have HF : Hid (mayT t = false) := Lib.hid (mayT_no (fun hm => by have := hm.cb c (List.mem_of_getElem? HX.out); omega))
                  go_wp2
                  go_ret
                  exact ⟨by rw [HF.out]; rfl, HCW.out⟩
                · have d6 : decide ((t.c.length : Int) ≤ c) = false := by simpa using h2
                  have HB2 : Hid (∀ (j : Nat) c, j < k + 1 → t.c[j]? = some c → 0 ≤ c ∧ c < t.c.length) := Lib.hid (fun j y hj hy => by
                    by_cases he : j = k
                    · subst he; rw [HX.out] at hy; obtain rfl := Option.some.inj hy; omega
                    · exact HB.out j y (by omega) hy)
                  have HNV : Hid (colsL (t.c.take (k + 1)) = max v (c + 1)) := Lib.hid (by rw [colsL_take HX.out, HV.out])
                  have HM2 : Hid (MayW w w1.heap.size (ra, t.r.length, rc) (some ⟨g, o, none⟩, t.c.length, cc) (na, t.n.length, nc) (ea, t.e.length, ec) (colsL (t.c.take (k + 1))) (wr.setCell ⟨w1.heap.size, 0, none⟩ (.int .i64 (if v < c + 1 then c + 1 else v)))) := Lib.hid (by
                    rw [HNV.out, show max v (c + 1) = if v < c + 1 then c + 1 else v by split <;> omega]
                    exact HM.out.set _)
                  clear HM
                  go_wp2
                  go_roundw
                  case rel => exact ⟨k + 1, by omega, by go_num, HB2.out, HM2.out⟩
                  case measure => simp [intOf]; omega
            · obtain rfl : k = t.c.length := by omega
              rw [List.take_length] at HV
              have HM3 := HM
              rw [List.take_length, HV.out] at HM3
              have HCB : Hid (∀ c ∈ t.c, 0 ≤ c ∧ c < t.c.length) := Lib.hid (fun c hc => by
                obtain ⟨j, hj⟩ := List.getElem?_of_mem hc
                exact HB.out j c (List.getElem?_eq_some_iff.1 hj).1 hj)
              have hv0 : 0 ≤ v := by rw [← HV.out]; exact colsL_nonneg _
              have hv1 : v ≤ t.c.length := by rw [← HV.out]; exact colsL_le (by omega) (fun c hc => (HCB.out c hc).2)
              clear hv HM HB
              go_wp2
              go_loopw [57] (fun q wr => ∃ k : Nat, (k : Int) ≤ v ∧ q = .int .i64 k ∧ (∀ (j : Nat), j < k → hasB j t.c = true) ∧ MayW w w1.heap.size (ra, t.r.length, rc) (ca, t.c.length, cc) (na, t.n.length, nc) (ea, t.e.length, ec) v wr) (fun q _ => v.toNat - (intOf q).toNat)
              case atStart => exact ⟨0, by omega, rfl, fun j h => absurd h (Nat.not_lt_zero _), HM3.out⟩
              case round =>
                clear HM3 q0 q1 q2 q3 m0 m1 HCW
                obtain ⟨k, hk, rfl, hb, hm⟩ := hrel
                have HB := Lib.hid hb
                have HM := Lib.hid hm
                obtain ⟨⟨q0, q1, q2, q3⟩, ⟨m0, m1⟩, hcw, -⟩ := hm
                unfold slV at q0 q1 q2 q3
                simp only at q0 q1 q2 q3
                have HCW := Lib.hid hcw
                clear hb hcw
                by_cases hkl : (k : Int) < v
                · have b9 : decide ((k : Int) < v) = true := by simpa using hkl
                  cases hh : hasB k t.c with
                  | true =>
                    have HB2 : Hid (∀ (j : Nat), j < k + 1 → hasB j t.c = true) := Lib.hid (fun j hj => by
                      by_cases he : j = k
                      · subst he; exact hh
                      · exact HB.out j (by omega))
                    have HH := Lib.hid hh
                    clear hh
                    go_wp2_with fail
                    refine (contains_any k t.c ca cc B wr (HC.out.same HCW.out) fc).mono ?_
                    rintro e w2 ⟨rfl, h2c⟩
                    rw [HH.out]
                    have HM2 := Lib.hid (HM.out.chg h2c)
                    clear h2c HM
                    go_wp2
                    go_roundw
                    case rel => exact ⟨k + 1, by omega, by go_num, HB2.out, HM2.out⟩
                    case measure => simp [intOf]; omega
                  | false =>
                    have HF : Hid (mayT t = false) := Lib.hid (mayT_no (fun hm => by
                      have h1 := hm.fill
                      rw [fillB_false (j := k) (by rw [HV.out]; exact hkl) hh] at h1
                      cases h1))
                    have HH := Lib.hid hh
                    clear hh
                    go_wp2_with fail
                    refine (contains_any k t.c ca cc B wr (HC.out.same HCW.out) fc).mono ?_
                    rintro e w2 ⟨rfl, h2c⟩
                    rw [HH.out]
                    have HC2 := Lib.hid (HCW.out.trans h2c)
                    clear h2c
                    go_wp2
                    go_ret
                    exact ⟨by rw [HF.out]; rfl, HC2.out⟩
                · obtain rfl : (k : Int) = v := by omega
                  have b9 : decide ((k : Int) < (k : Int)) = false := by simp
                  have HFI : Hid (fillB t.c = true) := Lib.hid (fillB_true (fun j hj => HB.out j (by rw [HV.out] at hj; omega)))
                  have eg := enters_of Tryd.func45 (by kernel_rfl) rfl
                  go_wp2_with fail
                  refine (containsI_any _ _ badEnd t.e ea ec B wr eg (HE.out.same HCW.out) (gives_end wr) fe).mono ?_
                  rintro e w2 ⟨rfl, h2c⟩
                  have HM2 := Lib.hid (HM.out.chg h2c)
                  have HC2 := Lib.hid (HCW.out.trans h2c)
                  clear h2c HM HCW eg q0 q1 q2 q3 m0 m1
                  cases he : t.e.any badEnd with
                  | true =>
                    have HF : Hid (mayT t = false) := Lib.hid (mayT_ends he)
                    clear he
                    go_wp2
                    go_ret
                    exact ⟨by rw [HF.out]; rfl, HC2.out⟩
                  | false =>
                    have HF : Hid (mayT t = !t.n.any (badRow (k : Int) t.n.length)) := Lib.hid (by
                      have := mayT_good HAP.out HG1.out g2 HG3.out HCB.out HFI.out he
                      rw [HV.out] at this
                      exact this)
                    clear he
                    obtain ⟨⟨q0, q1, q2, q3⟩, ⟨m0, m1⟩, -, -⟩ := HM2.out
                    unfold slV at q0 q1 q2 q3
                    simp only at q0 q1 q2 q3
                    have eg := enters_of Tryd.func47 (by kernel_rfl) rfl
                    have HG := Lib.hid (gives_row w1.heap.size w.heap.size t.n.length B k na nc w2 m0 q2)
                    go_wp2_with fail
                    refine (containsL_any _ _ (badRow (k : Int) t.n.length) t.n na nc B w2 eg (HN.out.same HC2.out) HG.out fn HL.out).mono ?_
                    rintro e w3 ⟨rfl, h3c⟩
                    have HC3 := Lib.hid (HC2.out.trans h3c)
                    clear h3c eg
                    cases hb : t.n.any (badRow (k : Int) t.n.length) with
                    | true =>
                      rw [hb] at HF
                      go_wp2
                      go_ret
                      exact ⟨by rw [HF.out]; rfl, HC3.out⟩
                    | false =>
                      rw [hb] at HF
                      go_wp2
                      go_ret
                      exact ⟨by rw [HF.out]; rfl, HC3.out⟩
        · have d1 : ((t.c.length : Int) != (t.r.length : Int)) = false := by simp [g1]
          have d2 : decide ((t.n.length : Int) < 1) = false := decide_eq_false (by omega)
          have d2' : decide (t.n.length < 1) = false := decide_eq_false (by omega)
          have d3 : ((t.e.length : Int) != (t.n.length : Int)) = true := by simp; omega
          have HG1 := Lib.hid g1
          clear g1
          have HF : Hid (mayT t = false) := Lib.hid (mayT_no (fun hm => g3 hm.el))
          go_enter Tryd.func21, Tryd.ntmps21
          go_wp2_with fail
          refine (apart_rng t.r ra rc B _ (HR.out.same ((Chg.refl _ _).alloc _)) fr).mono ?_
          rintro e w1 ⟨rfl, h1c⟩
          rw [HAP.out]
          have HC1 := Lib.hid (((Chg.refl _ w).alloc _).trans h1c)
          obtain ⟨q0, q1, q2, q3⟩ := HT0.out w1 h1c
          clear h1c
          go_wp2
          go_ret
          exact ⟨by rw [HF.out]; rfl, HC1.out⟩
      · have d1 : ((t.c.length : Int) != (t.r.length : Int)) = false := by simp [g1]
        have d2 : decide ((t.n.length : Int) < 1) = true := decide_eq_true (by omega)
        have d2' : decide (t.n.length < 1) = true := decide_eq_true (by omega)
        have HG1 := Lib.hid g1
        clear g1
        have HF : Hid (mayT t = false) := Lib.hid (mayT_no (fun hm => g2 hm.nl))
        go_enter Tryd.func21, Tryd.ntmps21
        go_wp2_with fail
        refine (apart_rng t.r ra rc B _ (HR.out.same ((Chg.refl _ _).alloc _)) fr).mono ?_
        rintro e w1 ⟨rfl, h1c⟩
        rw [HAP.out]
        have HC1 := Lib.hid (((Chg.refl _ w).alloc _).trans h1c)
        obtain ⟨q0, q1, q2, q3⟩ := HT0.out w1 h1c
        clear h1c
        go_wp2
        go_ret
        exact ⟨by rw [HF.out]; rfl, HC1.out⟩
    · have d1 : ((t.c.length : Int) != (t.r.length : Int)) = true := by simp; omega
      have HF : Hid (mayT t = false) := Lib.hid (mayT_no (fun hm => g1 hm.cl))
      go_enter Tryd.func21, Tryd.ntmps21
      go_wp2_with fail
      refine (apart_rng t.r ra rc B _ (HR.out.same ((Chg.refl _ _).alloc _)) fr).mono ?_
      rintro e w1 ⟨rfl, h1c⟩
      rw [HAP.out]
      have HC1 := Lib.hid (((Chg.refl _ w).alloc _).trans h1c)
      obtain ⟨q0, q1, q2, q3⟩ := HT0.out w1 h1c
      clear h1c
      go_wp2
      go_ret
      exact ⟨by rw [HF.out]; rfl, HC1.out⟩
end Go.Proofs.YtfhmblbomkhcpaaDoor
