/- Was a table's twin left as it was? (It was.) harbingerlaw09.Left -/
import Derived.Test.YtfhmblbomkhcpaaDoorTwinT
namespace Go.Proofs.YtfhmblbomkhcpaaDoor
open Go.RowKit

/-- Row k of a twin. -/
theorem TwT.getN {w : World} {B : Nat} {rs cs es : Sl} {na : Option Addr} {nn nc : Nat} {t : TabD} (h : TwT w B rs cs (na, nn, nc) es t) {k : Nat} {l : List Int} (hk : t.n[k]? = some l) :
    ∃ gn hx, na = some ⟨gn, 0, none⟩ ∧ w.cell? ⟨gn, k, none⟩ = some (.slice (some ⟨hx, 0, none⟩) l.length (l.length + 2)) ∧ intE.Row w hx (l ++ [-77, -77]) := by
  obtain ⟨X, h1, h2, h3⟩ := h.n
  have hkl := (List.getElem?_eq_some_iff.1 hk).1
  have hx : X[k]? = some X[k] := List.getElem?_eq_getElem (by omega)
  obtain ⟨g, e1, e2, e3⟩ := h3 k _ l hx hk
  obtain ⟨a, go, c, hv, hc, hat, h0⟩ := h1.at'
  unfold slV at hv
  injection hv with v1 v2 v3
  obtain ⟨h4, h5⟩ := h0 (by omega)
  simp only at v1
  have hcell := hat.get hx (i := 0) rfl
  rw [e1] at hcell
  rw [show listE.sz = 1 from rfl, Nat.mul_one, Nat.add_zero, Nat.zero_add] at hcell
  exact ⟨go, g, by rw [v1, h4], hcell, e3⟩

set_option maxRecDepth 100000 in
set_option maxHeartbeats 8000000 in
theorem leftT_any (t : TabD) (ru cu nu eu rs cs ns es : Sl) (Bu B : Nat) (w : World) (hu : TwT w Bu ru cu nu eu t) (h : TabIn w B rs cs ns es t) (hf : Fair t) :
    Calls Tryd.prog 13 #[tabV ru cu nu eu, tabV rs cs ns es] w fun e w' => e = .returned (.bool true) ∧ Chg (fun _ => False) w w' := by
  have HTB := Lib.hid h
  have HUB := Lib.hid hu
  have HFR := Lib.hid hf
  obtain ⟨ra, rn, rc⟩ := rs
  obtain ⟨ca, cn, cc⟩ := cs
  obtain ⟨na, nn, nc⟩ := ns
  obtain ⟨ea, en, ec⟩ := es
  obtain ⟨rfl, hr1⟩ := h.r.len
  obtain ⟨rfl, hc1⟩ := h.c.len
  obtain ⟨rfl, hn1⟩ := h.n.len
  obtain ⟨rfl, he1⟩ := h.e.len
  obtain ⟨hr, rfl, -, hrr⟩ := hu.r
  obtain ⟨hcb, rfl, -, hcr⟩ := hu.c
  obtain ⟨he, rfl, -, her⟩ := hu.e
  obtain ⟨nua, nun, nuc⟩ := nu
  obtain ⟨rfl, hnu⟩ := hu.tab.n.len
  have HRR := Lib.hid hrr
  have HCR := Lib.hid hcr
  have HER := Lib.hid her
  have fr := hf.r
  have fc := hf.c
  have fn := hf.n
  have fe := hf.e
  clear h hu hf hrr hcr her
  obtain ⟨wt, hwt⟩ : ∃ x, x = w.alloc (.cells #[.slice (some ⟨hr, 0, none⟩) t.r.length (t.r.length + 2), .slice (some ⟨hcb, 0, none⟩) t.c.length (t.c.length + 2), .slice nua t.n.length nuc, .slice (some ⟨he, 0, none⟩) t.e.length (t.e.length + 2)] 26) := ⟨_, rfl⟩
  obtain ⟨w2, hw2⟩ : ∃ x, x = wt.alloc (.cells #[.slice ra t.r.length rc, .slice ca t.c.length cc, .slice na t.n.length nc, .slice ea t.e.length ec] 26) := ⟨_, rfl⟩
  have hst : wt.heap.size = w.heap.size + 1 := by rw [hwt]; simp
  have HC2 : Hid (Chg (fun _ => False) w w2) := Lib.hid (by rw [hw2, hwt]; exact ((Chg.refl _ _).alloc _).alloc _)
  have HU2 : Hid (∀ wx, Chg (fun _ => False) w2 wx → wx.cell? ⟨w.heap.size, 0, none⟩ = some (.slice (some ⟨hr, 0, none⟩) t.r.length (t.r.length + 2)) ∧ wx.cell? ⟨w.heap.size, 1, none⟩ = some (.slice (some ⟨hcb, 0, none⟩) t.c.length (t.c.length + 2)) ∧ wx.cell? ⟨w.heap.size, 2, none⟩ = some (.slice nua t.n.length nuc) ∧ wx.cell? ⟨w.heap.size, 3, none⟩ = some (.slice (some ⟨he, 0, none⟩) t.e.length (t.e.length + 2))) := Lib.hid (fun wx hx => by
    have h1 : Chg (fun _ => False) wt wx := by rw [hw2] at hx; exact ((Chg.refl _ wt).alloc _).trans hx
    subst hwt
    exact (tabBox w (some ⟨hr, 0, none⟩, t.r.length, t.r.length + 2) (some ⟨hcb, 0, none⟩, t.c.length, t.c.length + 2) (nua, t.n.length, nuc) (some ⟨he, 0, none⟩, t.e.length, t.e.length + 2) 26).chg h1 (fun h => h))
  have HT2 : Hid (∀ wx, Chg (fun _ => False) w2 wx → wx.cell? ⟨w.heap.size + 1, 0, none⟩ = some (.slice ra t.r.length rc) ∧ wx.cell? ⟨w.heap.size + 1, 1, none⟩ = some (.slice ca t.c.length cc) ∧ wx.cell? ⟨w.heap.size + 1, 2, none⟩ = some (.slice na t.n.length nc) ∧ wx.cell? ⟨w.heap.size + 1, 3, none⟩ = some (.slice ea t.e.length ec)) := Lib.hid (fun wx hx => by
    rw [← hst]
    subst hw2
    exact (tabBox wt (ra, t.r.length, rc) (ca, t.c.length, cc) (na, t.n.length, nc) (ea, t.e.length, ec) 26).chg hx (fun h => h))
  have HWT : Hid (w2 = (w.alloc (.cells #[.slice (some ⟨hr, 0, none⟩) t.r.length (t.r.length + 2), .slice (some ⟨hcb, 0, none⟩) t.c.length (t.c.length + 2), .slice nua t.n.length nuc, .slice (some ⟨he, 0, none⟩) t.e.length (t.e.length + 2)] 26)).alloc (.cells #[.slice ra t.r.length rc, .slice ca t.c.length cc, .slice na t.n.length nc, .slice ea t.e.length ec] 26)) := Lib.hid (by rw [hw2, hwt])
  obtain ⟨q0, q1, q2, q3⟩ := HT2.out w2 (Chg.refl _ _)
  obtain ⟨p0, p1, p2, p3⟩ := HU2.out w2 (Chg.refl _ _)
  clear hwt hw2 hst wt
  show Calls Tryd.prog 13 #[.agg #[.slice (some ⟨hr, 0, none⟩) t.r.length (t.r.length + 2), .slice (some ⟨hcb, 0, none⟩) t.c.length (t.c.length + 2), .slice nua t.n.length nuc, .slice (some ⟨he, 0, none⟩) t.e.length (t.e.length + 2)], .agg #[.slice ra t.r.length rc, .slice ca t.c.length cc, .slice na t.n.length nc, .slice ea t.e.length ec]] w _
  go_enter Tryd.func13, Tryd.ntmps13
  go_upto_region 1 with (fail)
  rw [← HWT.out]
  go_wp2_with fail
  refine (leftRanges t.r ra hr rc B w2 (HRR.out.chg HC2.out (fun h => h)) (HTB.out.same HC2.out).r fr).mono ?_
  rintro e w3 ⟨rfl, hc⟩
  have HC3 := Lib.hid hc
  clear q0 q1 q2 q3 p0 p1 p2 p3 hc
  obtain ⟨q0, q1, q2, q3⟩ := HT2.out w3 HC3.out
  obtain ⟨p0, p1, p2, p3⟩ := HU2.out w3 HC3.out
  go_wp2_with fail
  refine (leftInt t.c ca hcb cc B w3 (HCR.out.chg (HC2.out.trans HC3.out) (fun h => h)) (HTB.out.same (HC2.out.trans HC3.out)).c fc).mono ?_
  rintro e w4 ⟨rfl, hc⟩
  have HC4 := Lib.hid (HC3.out.trans hc)
  clear q0 q1 q2 q3 p0 p1 p2 p3 hc HC3
  obtain ⟨q0, q1, q2, q3⟩ := HT2.out w4 HC4.out
  obtain ⟨p0, p1, p2, p3⟩ := HU2.out w4 HC4.out
  go_wp2_with fail
  refine (leftInt t.e ea he ec B w4 (HER.out.chg (HC2.out.trans HC4.out) (fun h => h)) (HTB.out.same (HC2.out.trans HC4.out)).e fe).mono ?_
  rintro e w5 ⟨rfl, hc⟩
  have HC5 := Lib.hid (HC4.out.trans hc)
  clear q0 q1 q2 q3 p0 p1 p2 p3 hc HC4
  go_wp2
  go_loopw [5] (fun q wr => ∃ k : Nat, k ≤ t.n.length ∧ q = .int .i64 k ∧ Chg (fun _ => False) w2 wr) (fun q _ => t.n.length - (intOf q).toNat)
  case atStart => exact ⟨0, by omega, rfl, HC5.out⟩
  case round =>
    clear HC5
    obtain ⟨k, hk, rfl, hc⟩ := hrel
    have HC := Lib.hid hc
    clear hc
    by_cases hkl : k < t.n.length
    · have b1 : decide ((k : Int) < (t.n.length : Int)) = true := by simp; omega
      obtain ⟨l, gn, on, la, lc, hl, hna, n0, hin, -, -⟩ := (HTB.out.same (HC2.out.trans HC.out)).n.getIn hkl
      obtain ⟨gu, hx, hua, u0, hrow⟩ := (HUB.out.same (HC2.out.trans HC.out)).getN hl
      subst hna hua
      have HIN := Lib.hid hin
      have HN0 := Lib.hid (show _ ∧ _ from ⟨n0, u0⟩)
      have HROW := Lib.hid hrow
      have hll := HFR.out.l l (List.mem_of_getElem? hl)
      clear hl hin n0 u0 hrow
      obtain ⟨q0, q1, q2, q3⟩ := HT2.out wr HC.out
      obtain ⟨p0, p1, p2, p3⟩ := HU2.out wr HC.out
      go_upto_region 6 with (fail)
      clear q0 q1 q2 q3 p0 p1 p2 p3
      refine wp_region_same (fun w' => Chg (fun _ => False) wr w') (by kernel_rfl) (by kernel_rfl) ?_ ?_
      · exact (Chg.refl _ _).drew
      (refine wpC_read rfl (fun _ _ _ h => h) (fun K hK => ?_); apply Exists.intro; refine ⟨fun _ w' _ hC => ?_, ?_⟩; ((skip); go_simp; try with_reducible rfl); (try go_simp); refine hK _ ?_; clear hK K); (refine wpC_read rfl (fun _ _ _ h => h) (fun K hK => ?_); apply Exists.intro; refine ⟨fun _ w' _ hC => ?_, ?_⟩; ((obtain ⟨q0, q1, q2, q3⟩ := HT2.out w' (HC.out.trans hC); obtain ⟨p0, p1, p2, p3⟩ := HU2.out w' (HC.out.trans hC); have n0 := hC.cellS HN0.out.1 (fun h => h); have u0 := hC.cellS HN0.out.2 (fun h => h)); go_simp; try with_reducible rfl); (try go_simp); refine hK _ ?_; clear hK K); (refine wpC_read rfl (fun _ _ _ h => h) (fun K hK => ?_); apply Exists.intro; refine ⟨fun _ w' _ hC => ?_, ?_⟩; ((skip); go_simp; try with_reducible rfl); (try go_simp); refine hK _ ?_; clear hK K); (refine wpC_read rfl (fun _ _ _ h => h) (fun K hK => ?_); apply Exists.intro; refine ⟨fun _ w' _ hC => ?_, ?_⟩; ((skip); go_simp; try with_reducible rfl); (try go_simp); refine hK _ ?_; clear hK K); (refine wpC_read rfl (fun _ _ _ h => h) (fun K hK => ?_); apply Exists.intro; refine ⟨fun _ w' _ hC => ?_, ?_⟩; ((obtain ⟨q0, q1, q2, q3⟩ := HT2.out w' (HC.out.trans hC); obtain ⟨p0, p1, p2, p3⟩ := HU2.out w' (HC.out.trans hC); have n0 := hC.cellS HN0.out.1 (fun h => h); have u0 := hC.cellS HN0.out.2 (fun h => h)); go_simp; try with_reducible rfl); (try go_simp); refine hK _ ?_; clear hK K); (refine wpC_read rfl (fun _ _ _ h => h) (fun K hK => ?_); apply Exists.intro; refine ⟨fun _ w' _ hC => ?_, ?_⟩; ((skip); go_simp; try with_reducible rfl); (try go_simp); refine hK _ ?_; clear hK K); (refine wpC_read rfl (fun _ _ _ h => h) (fun K hK => ?_); apply Exists.intro; refine ⟨fun _ w' _ hC => ?_, ?_⟩; ((obtain ⟨q0, q1, q2, q3⟩ := HT2.out w' (HC.out.trans hC); obtain ⟨p0, p1, p2, p3⟩ := HU2.out w' (HC.out.trans hC); have n0 := hC.cellS HN0.out.1 (fun h => h); have u0 := hC.cellS HN0.out.2 (fun h => h)); go_simp; try with_reducible rfl); (try go_simp); refine hK _ ?_; clear hK K); (refine wpC_read rfl (fun _ _ _ h => h) (fun K hK => ?_); apply Exists.intro; refine ⟨fun _ w' _ hC => ?_, ?_⟩; ((skip); go_simp; try with_reducible rfl); (try go_simp); refine hK _ ?_; clear hK K); (refine wpC_read rfl (fun _ _ _ h => h) (fun K hK => ?_); apply Exists.intro; refine ⟨fun _ w' _ hC => ?_, ?_⟩; ((skip); go_simp; try with_reducible rfl); (try go_simp); refine hK _ ?_; clear hK K); (refine wpC_read rfl (fun _ _ _ h => h) (fun K hK => ?_); apply Exists.intro; refine ⟨fun _ w' _ hC => ?_, ?_⟩; ((obtain ⟨q0, q1, q2, q3⟩ := HT2.out w' (HC.out.trans hC); obtain ⟨p0, p1, p2, p3⟩ := HU2.out w' (HC.out.trans hC); have n0 := hC.cellS HN0.out.1 (fun h => h); have u0 := hC.cellS HN0.out.2 (fun h => h)); go_simp; try with_reducible rfl); (try go_simp); refine hK _ ?_; clear hK K)
      refine wpC_call rfl (Value.bool true )  33  ( #[.slice (some ⟨hx, 0, none⟩) l.length (l.length + 2), .slice la l.length lc]) (fun w' => by go_simp) (fun _ w' _ hC => ?_) (fun K hK => ?_)
      · refine (leftInt l la hx lc B w' (HROW.out.chg hC (fun h => h)) (HIN.out.same hC) hll).mono ?_
        rintro e w2 ⟨rfl, hc⟩
        exact ⟨rfl, hC.trans hc⟩
      ((try go_simp); refine hK _ ?_; clear hK K)
      (refine wpC_read rfl (fun _ _ _ h => h) (fun K hK => ?_); apply Exists.intro; refine ⟨fun _ w' _ hC => ?_, ?_⟩; ((skip); go_simp; try with_reducible rfl); (try go_simp); refine hK _ ?_; clear hK K)
      refine wpC_nil ?_
      intro w6 hC2
      have HCW := Lib.hid (HC.out.trans hC2)
      clear hC2
      go_wp2
      go_roundw
      case rel => exact ⟨k + 1, by omega, by go_num, HCW.out⟩
      case measure => simp [intOf]; omega
    · obtain rfl : k = t.n.length := by omega
      have b1 : decide ((t.n.length : Int) < (t.n.length : Int)) = false := by simp
      obtain ⟨q0, q1, q2, q3⟩ := HT2.out wr HC.out
      have HCW := Lib.hid (HC2.out.trans HC.out)
      go_wp2
      go_ret
      exact ⟨rfl, HCW.out⟩
end Go.Proofs.YtfhmblbomkhcpaaDoor
