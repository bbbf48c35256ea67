/- A table's step: the program's and the document's. -/
import Derived.Test.YtfhmblbomkhcpaaDoorClass
namespace Go.Proofs.YtfhmblbomkhcpaaDoor
open Go.RowKit

/-- How a step goes. -/
theorem stepT_cases (t : TabD) (st x : Int) :
    (classL t.r x < 0 ∧ stepT t st x = -1) ∨ (0 ≤ classL t.r x ∧ (t.c.length : Int) ≤ classL t.r x ∧ stepT t st x = -1) ∨
    (0 ≤ classL t.r x ∧ classL t.r x < t.c.length ∧ st < 0 ∧ stepT t st x = -1) ∨ (0 ≤ classL t.r x ∧ classL t.r x < t.c.length ∧ 0 ≤ st ∧ (t.n.length : Int) ≤ st ∧ stepT t st x = -1) ∨
    ∃ (i s : Nat) (c : Int) (l : List Int), classL t.r x = i ∧ i < t.c.length ∧ st = s ∧ s < t.n.length ∧ t.c[i]? = some c ∧ t.n[s]? = some l ∧
      ((c < 0 ∧ stepT t st x = -1) ∨ (0 ≤ c ∧ (l.length : Int) ≤ c ∧ stepT t st x = -1) ∨ ∃ (k : Nat) (y : Int), c = k ∧ k < l.length ∧ l[k]? = some y ∧ stepT t st x = y) := by
  unfold stepT
  by_cases h1 : classL t.r x < 0
  · exact .inl ⟨h1, by rw [if_pos (.inl h1)]⟩
  · by_cases h2 : (t.c.length : Int) ≤ classL t.r x
    · exact .inr (.inl ⟨by omega, h2, by rw [if_pos (.inr (.inl h2))]⟩)
    · by_cases h3 : st < 0
      · exact .inr (.inr (.inl ⟨by omega, by omega, h3, by rw [if_pos (.inr (.inr (.inl h3)))]⟩))
      · by_cases h4 : (t.n.length : Int) ≤ st
        · exact .inr (.inr (.inr (.inl ⟨by omega, by omega, by omega, h4, by rw [if_pos (.inr (.inr (.inr h4)))]⟩)))
        · refine .inr (.inr (.inr (.inr ?_)))
          obtain ⟨i, hi⟩ : ∃ i : Nat, classL t.r x = i := ⟨(classL t.r x).toNat, by omega⟩
          obtain ⟨s, rfl⟩ : ∃ s : Nat, st = s := ⟨st.toNat, by omega⟩
          rw [hi] at h2 ⊢
          have hil : i < t.c.length := by omega
          have hsl : s < t.n.length := by omega
          have e1 : t.c.getD i 0 = t.c[i] := by rw [List.getD_eq_getElem?_getD, List.getElem?_eq_getElem hil]; rfl
          have e2 : t.n.getD s [] = t.n[s] := by rw [List.getD_eq_getElem?_getD, List.getElem?_eq_getElem hsl]; rfl
          refine ⟨i, s, t.c[i], t.n[s], rfl, hil, rfl, hsl, List.getElem?_eq_getElem hil, List.getElem?_eq_getElem hsl, ?_⟩
          rw [if_neg (by omega)]
          simp only [Int.toNat_natCast, e1, e2]
          by_cases h5 : t.c[i] < 0
          · exact .inl ⟨h5, by rw [if_pos (.inl h5)]⟩
          · by_cases h6 : (t.n[s].length : Int) ≤ t.c[i]
            · exact .inr (.inl ⟨by omega, h6, by rw [if_pos (.inr h6)]⟩)
            · obtain ⟨k, hk⟩ : ∃ k : Nat, t.c[i] = k := ⟨t.c[i].toNat, by omega⟩
              refine .inr (.inr ⟨k, t.n[s][k]'(by omega), hk, by omega, List.getElem?_eq_getElem (by omega), ?_⟩)
              rw [if_neg (by omega), hk, Int.toNat_natCast, List.getD_eq_getElem?_getD, List.getElem?_eq_getElem (by omega)]
              rfl

/-- Lists are no longer than memory holds. -/
structure Fair (t : TabD) : Prop where
  r : t.r.length ≤ 1000000000
  c : t.c.length ≤ 1000000000
  n : t.n.length ≤ 1000000000
  e : t.e.length ≤ 1000000000
  l : ∀ l ∈ t.n, l.length ≤ 1000000000

set_option maxRecDepth 100000 in
set_option maxHeartbeats 4000000 in
theorem step_any (t : TabD) (rs cs ns es : Sl) (B : Nat) (st x : Int) (w : World) (h : TabIn w B rs cs ns es t) (hf : Fair t) (hst : I.Byte st) :
    Calls Tryd.prog 37 #[tabV rs cs ns es, .int .i64 st, .int .i32 x] w fun e w' => e = .returned (.int .i64 (stepT t st x)) ∧ Chg (fun _ => False) w w' := by
  obtain ⟨ra, rn, rc⟩ := rs
  obtain ⟨ca, cn, cc⟩ := cs
  obtain ⟨na, nn, nc⟩ := ns
  obtain ⟨ea, en, ec⟩ := es
  obtain ⟨hR, hC, hN, hE⟩ := h
  obtain ⟨fr, fc, fn, -, fl⟩ := hf
  obtain ⟨rfl, hr1⟩ := hR.len
  obtain ⟨rfl, hc1⟩ := hC.len
  obtain ⟨rfl, hn1⟩ := hN.len
  obtain ⟨wt, hwt⟩ : ∃ x, x = w.alloc (.cells #[.slice ra t.r.length rc, .slice ca t.c.length cc, .slice na t.n.length nc, .slice ea en ec] 26) := ⟨_, rfl⟩
  have HCT : Hid (Chg (fun _ => False) w wt) := Lib.hid (by rw [hwt]; exact (Chg.refl _ _).alloc _)
  have HBX : Hid (∀ wx, Chg (fun _ => False) wt wx → wx.cell? ⟨w.heap.size, 0, none⟩ = some (.slice ra t.r.length rc) ∧ wx.cell? ⟨w.heap.size, 1, none⟩ = some (.slice ca t.c.length cc) ∧ wx.cell? ⟨w.heap.size, 2, none⟩ = some (.slice na t.n.length nc)) := Lib.hid (fun wx hx => by
    subst hwt
    obtain ⟨k0, k1, k2, _⟩ := (tabBox w (ra, t.r.length, rc) (ca, t.c.length, cc) (na, t.n.length, nc) (ea, en, ec) 26).chg hx (fun h => h)
    exact ⟨k0, k1, k2⟩)
  have HWT := Lib.hid hwt
  have HR := Lib.hid hR
  have HC := Lib.hid hC
  have HN := Lib.hid hN
  have HL := Lib.hid fl
  clear hR hC hN hE fl hwt
  show Calls Tryd.prog 37 #[.agg #[.slice ra t.r.length rc, .slice ca t.c.length cc, .slice na t.n.length nc, .slice ea en ec], .int .i64 st, .int .i32 x] w _
  obtain ⟨hs0, hs1⟩ := hst
  obtain ⟨q0, q1, q2⟩ := HBX.out wt (Chg.refl _ _)
  obtain ⟨cl, hcl⟩ : ∃ v, classL t.r x = v := ⟨_, rfl⟩
  have hcb := classL_lt t.r x
  have hcase := stepT_cases t st x
  rw [hcl] at hcase hcb
  have HCL := Lib.hid hcl
  clear hcl
  rcases hcase with ⟨h1, h2⟩ | ⟨h1, h2, h3⟩ | ⟨h1, h2, h3, h4⟩ | ⟨h1, h2, h3, h4, h5⟩ | ⟨i, s, cv, l, rfl, h2, rfl, h4, h5, h6, h7⟩
  · have HS := Lib.hid h2
    have d1 : decide (cl < 0) = true := by simpa using h1
    clear h2
    go_enter Tryd.func37, Tryd.ntmps37
    go_upto_region 1 with (fail)
    rw [← HWT.out]
    go_wp2_with fail
    refine (class_any t.r ra rc B x wt (HR.out.same HCT.out) fr).mono ?_
    rintro e w1 ⟨rfl, h1c⟩
    rw [HCL.out]
    have HC1 := Lib.hid h1c
    clear h1c q0 q1 q2
    obtain ⟨q0, q1, q2⟩ := HBX.out w1 HC1.out
    go_wp2
    go_ret
    exact ⟨by rw [HS.out]; rfl, HCT.out.trans HC1.out⟩
  · have HS := Lib.hid h3
    have d1 : decide (cl < 0) = false := by simp <;> omega
    have d2 : decide ((t.c.length : Int) ≤ cl) = true := by simpa using h2
    clear h3
    go_enter Tryd.func37, Tryd.ntmps37
    go_upto_region 1 with (fail)
    rw [← HWT.out]
    go_wp2_with fail
    refine (class_any t.r ra rc B x wt (HR.out.same HCT.out) fr).mono ?_
    rintro e w1 ⟨rfl, h1c⟩
    rw [HCL.out]
    have HC1 := Lib.hid h1c
    clear h1c q0 q1 q2
    obtain ⟨q0, q1, q2⟩ := HBX.out w1 HC1.out
    go_wp2
    go_ret
    exact ⟨by rw [HS.out]; rfl, HCT.out.trans HC1.out⟩
  · have HS := Lib.hid h4
    have d1 : decide (cl < 0) = false := by simp <;> omega
    have d2 : decide ((t.c.length : Int) ≤ cl) = false := by simp; omega
    have d3 : decide (st < 0) = true := by simpa using h3
    clear h4
    go_enter Tryd.func37, Tryd.ntmps37
    go_upto_region 1 with (fail)
    rw [← HWT.out]
    go_wp2_with fail
    refine (class_any t.r ra rc B x wt (HR.out.same HCT.out) fr).mono ?_
    rintro e w1 ⟨rfl, h1c⟩
    rw [HCL.out]
    have HC1 := Lib.hid h1c
    clear h1c q0 q1 q2
    obtain ⟨q0, q1, q2⟩ := HBX.out w1 HC1.out
    go_wp2
    go_ret
    exact ⟨by rw [HS.out]; rfl, HCT.out.trans HC1.out⟩
  · have HS := Lib.hid h5
    have d1 : decide (cl < 0) = false := by simp <;> omega
    have d2 : decide ((t.c.length : Int) ≤ cl) = false := by simp; omega
    have d3 : decide (st < 0) = false := by simp <;> omega
    have d4 : decide ((t.n.length : Int) ≤ st) = true := by simpa using h4
    clear h5
    go_enter Tryd.func37, Tryd.ntmps37
    go_upto_region 1 with (fail)
    rw [← HWT.out]
    go_wp2_with fail
    refine (class_any t.r ra rc B x wt (HR.out.same HCT.out) fr).mono ?_
    rintro e w1 ⟨rfl, h1c⟩
    rw [HCL.out]
    have HC1 := Lib.hid h1c
    clear h1c q0 q1 q2
    obtain ⟨q0, q1, q2⟩ := HBX.out w1 HC1.out
    go_wp2
    go_ret
    exact ⟨by rw [HS.out]; rfl, HCT.out.trans HC1.out⟩
  · have d1 : decide ((i : Int) < 0) = false := by simp <;> omega
    have d2 : decide ((t.c.length : Int) ≤ (i : Int)) = false := by simp; omega
    have d2' : decide (t.c.length ≤ i) = false := by simp; omega
    have d3 : decide ((s : Int) < 0) = false := by simp <;> omega
    have d4 : decide ((t.n.length : Int) ≤ (s : Int)) = false := by simp; omega
    have d4' : decide (t.n.length ≤ s) = false := by simp; omega
    have HCV := Lib.hid h5
    have HLV := Lib.hid h6
    have HRES := Lib.hid h7
    have hll := HL.out l (List.mem_of_getElem? h6)
    clear h5 h6 h7
    rcases HRES.out with ⟨g1, g2⟩ | ⟨g1, g2, g3⟩ | ⟨k, y, rfl, g2, g3, g4⟩
    · have HS := Lib.hid g2
      have d5 : decide (cv < 0) = true := by simpa using g1
      clear g2
      go_enter Tryd.func37, Tryd.ntmps37
      go_upto_region 1 with (fail)
      rw [← HWT.out]
      go_wp2_with fail
      refine (class_any t.r ra rc B x wt (HR.out.same HCT.out) fr).mono ?_
      rintro e w1 ⟨rfl, h1c⟩
      rw [HCL.out]
      have HC1 := Lib.hid h1c
      clear h1c q0 q1 q2
      obtain ⟨q0, q1, q2⟩ := HBX.out w1 HC1.out
      obtain ⟨cv', gc, oc, hcv, rfl, c0, cv0, cv1, -, -⟩ := (HC.out.same (HCT.out.trans HC1.out)).getI (show i < t.c.length by omega)
      rw [HCV.out] at hcv
      obtain rfl := Option.some.inj hcv
      go_wp2
      go_ret
      exact ⟨by rw [HS.out]; rfl, HCT.out.trans HC1.out⟩
    · have HS := Lib.hid g3
      have d5 : decide (cv < 0) = false := by simp <;> omega
      have d6 : decide ((l.length : Int) ≤ cv) = true := by simpa using g2
      clear g3
      go_enter Tryd.func37, Tryd.ntmps37
      go_upto_region 1 with (fail)
      rw [← HWT.out]
      go_wp2_with fail
      refine (class_any t.r ra rc B x wt (HR.out.same HCT.out) fr).mono ?_
      rintro e w1 ⟨rfl, h1c⟩
      rw [HCL.out]
      have HC1 := Lib.hid h1c
      clear h1c q0 q1 q2
      obtain ⟨q0, q1, q2⟩ := HBX.out w1 HC1.out
      obtain ⟨cv', gc, oc, hcv, rfl, c0, cv0, cv1, -, -⟩ := (HC.out.same (HCT.out.trans HC1.out)).getI (show i < t.c.length by omega)
      rw [HCV.out] at hcv
      obtain rfl := Option.some.inj hcv
      obtain ⟨l', gn, on, la, lc, gl, ol, hlv, rfl, n0, hlc, hlb, hla, -, -⟩ := (HN.out.same (HCT.out.trans HC1.out)).get (show s < t.n.length by omega)
      rw [HLV.out] at hlv
      obtain rfl := Option.some.inj hlv
      clear hlb hla
      go_wp2
      go_ret
      exact ⟨by rw [HS.out]; rfl, HCT.out.trans HC1.out⟩
    · have HS := Lib.hid g4
      have HY := Lib.hid g3
      have d5 : decide ((k : Int) < 0) = false := by simp <;> omega
      have d6 : decide ((l.length : Int) ≤ (k : Int)) = false := by simp; omega
      have d6' : decide (l.length ≤ k) = false := by simp; omega
      clear g4 g3
      go_enter Tryd.func37, Tryd.ntmps37
      go_upto_region 1 with (fail)
      rw [← HWT.out]
      go_wp2_with fail
      refine (class_any t.r ra rc B x wt (HR.out.same HCT.out) fr).mono ?_
      rintro e w1 ⟨rfl, h1c⟩
      rw [HCL.out]
      have HC1 := Lib.hid h1c
      clear h1c q0 q1 q2
      obtain ⟨q0, q1, q2⟩ := HBX.out w1 HC1.out
      obtain ⟨cv', gc, oc, hcv, rfl, c0, cv0, cv1, -, -⟩ := (HC.out.same (HCT.out.trans HC1.out)).getI (show i < t.c.length by omega)
      rw [HCV.out] at hcv
      obtain rfl := Option.some.inj hcv
      obtain ⟨l', gn, on, la, lc, gl, ol, hlv, rfl, n0, hlc, hlb, hla, -, -⟩ := (HN.out.same (HCT.out.trans HC1.out)).get (show s < t.n.length by omega)
      rw [HLV.out] at hlv
      obtain rfl := Option.some.inj hlv
      obtain ⟨rfl, -⟩ := hla (by omega)
      have y0 := (hlb.c k y HY.out).1
      clear hlb
      go_wp2
      go_ret
      exact ⟨by rw [HS.out]; rfl, HCT.out.trans HC1.out⟩
end Go.Proofs.YtfhmblbomkhcpaaDoor
