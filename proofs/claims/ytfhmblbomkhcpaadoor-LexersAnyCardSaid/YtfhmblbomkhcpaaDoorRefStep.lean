/- The document's step (printed by wip/gen/refstep.py). -/
import Derived.Test.YtfhmblbomkhcpaaDoorStep
namespace Go.Proofs.YtfhmblbomkhcpaaDoor
open Go.RowKit

set_option maxRecDepth 100000 in
set_option maxHeartbeats 4000000 in
theorem refStep_any (t : TabD) (rs cs ns es : Sl) (B : Nat) (st x : Int) (w : World) (h : TabIn w B rs cs ns es t) (hf : Fair t) (hst : I.Byte st) :
    Calls Tryd.prog 39 #[tabV rs cs ns es, .int .i64 st, .int .i32 x] w fun e w' => e = .returned (.int .i64 (stepT t st x)) ∧ Chg (fun _ => False) w w' := by
  obtain ⟨ra, rn, rc⟩ := rs
  obtain ⟨ca, cn, cc⟩ := cs
  obtain ⟨na, nn, nc⟩ := ns
  obtain ⟨ea, en, ec⟩ := es
  obtain ⟨hR, hC, hN, hE⟩ := h
  obtain ⟨fr, fc, fn, -, fl⟩ := hf
  obtain ⟨rfl, hr1⟩ := hR.len
  obtain ⟨rfl, hc1⟩ := hC.len
  obtain ⟨rfl, hn1⟩ := hN.len
  obtain ⟨wt, hwt⟩ : ∃ x, x = w.alloc (.cells #[.slice ra t.r.length rc, .slice ca t.c.length cc, .slice na t.n.length nc, .slice ea en ec] 38) := ⟨_, rfl⟩
  have HCT : Hid (Chg (fun _ => False) w wt) := Lib.hid (by rw [hwt]; exact (Chg.refl _ _).alloc _)
  have HBX : Hid (∀ wx, Chg (fun _ => False) wt wx → wx.cell? ⟨w.heap.size, 0, none⟩ = some (.slice ra t.r.length rc) ∧ wx.cell? ⟨w.heap.size, 1, none⟩ = some (.slice ca t.c.length cc) ∧ wx.cell? ⟨w.heap.size, 2, none⟩ = some (.slice na t.n.length nc)) := Lib.hid (fun wx hx => by
    subst hwt
    obtain ⟨k0, k1, k2, _⟩ := (tabBox w (ra, t.r.length, rc) (ca, t.c.length, cc) (na, t.n.length, nc) (ea, en, ec) 38).chg hx (fun h => h)
    exact ⟨k0, k1, k2⟩)
  have HWT := Lib.hid hwt
  have HR := Lib.hid hR
  have HC := Lib.hid hC
  have HN := Lib.hid hN
  have HL := Lib.hid fl
  clear hR hC hN hE fl hwt
  show Calls Tryd.prog 39 #[.agg #[.slice ra t.r.length rc, .slice ca t.c.length cc, .slice na t.n.length nc, .slice ea en ec], .int .i64 st, .int .i32 x] w _
  obtain ⟨hs0, hs1⟩ := hst
  obtain ⟨q0, q1, q2⟩ := HBX.out wt (Chg.refl _ _)
  obtain ⟨cl, hcl⟩ : ∃ v, classL t.r x = v := ⟨_, rfl⟩
  have hcb := classL_lt t.r x
  have hcase := stepT_cases t st x
  rw [hcl] at hcase hcb
  have HCL := Lib.hid hcl
  clear hcl
  rcases hcase with ⟨h1, h2⟩ | ⟨h1, h2, h3⟩ | ⟨h1, h2, h3, h4⟩ | ⟨h1, h2, h3, h4, h5⟩ | ⟨i, s, cv, l, rfl, h2, rfl, h4, h5, h6, h7⟩
  · have HS := Lib.hid h2
    have d1 : decide (cl < 0) = true := by simpa using h1
    clear h2
    go_enter Tryd.func39, Tryd.ntmps39
    go_upto_region 1 with (fail)
    rw [← HWT.out]
    go_wp2_with fail
    refine (refClass_any t.r ra rc B x wt (HR.out.same HCT.out) fr).mono ?_
    rintro e w1 ⟨rfl, h1c⟩
    rw [HCL.out]
    have HC1 := Lib.hid h1c
    clear h1c q0 q1 q2
    have HFX : Hid (∀ wx, Chg (fun _ => False) w1 wx → wx.cell? ⟨w.heap.size, 0, none⟩ = some (.slice ra t.r.length rc) ∧ wx.cell? ⟨w.heap.size, 1, none⟩ = some (.slice ca t.c.length cc) ∧ wx.cell? ⟨w.heap.size, 2, none⟩ = some (.slice na t.n.length nc)) := Lib.hid (fun wx hx => ⟨(HBX.out wx (HC1.out.trans hx)).1, (HBX.out wx (HC1.out.trans hx)).2.1, (HBX.out wx (HC1.out.trans hx)).2.2⟩)
    go_upto_region 2 with (fail)
    refine wp_region_same (fun w' => Chg (fun _ => False) w1 w') (by kernel_rfl) (by kernel_rfl) ?_ ?_
    · exact (Chg.refl _ _).drew
    (refine wpC_read rfl (fun _ _ _ h => h) (fun K hK => ?_); apply Exists.intro; refine ⟨fun _ w' _ hC => ?_, ?_⟩; ((skip); go_simp; try with_reducible rfl); (try go_simp); refine hK _ ?_; clear hK K)
    (refine wpC_read rfl (fun _ _ _ h => h) (fun K hK => ?_); apply Exists.intro; refine ⟨fun _ w' _ hC => ?_, ?_⟩; ((skip); go_simp; try with_reducible rfl); (try go_simp); refine hK _ ?_; clear hK K)
    (refine wpC_read rfl (fun _ _ _ h => h) (fun K hK => ?_); apply Exists.intro; refine ⟨fun _ w' _ hC => ?_, ?_⟩; ((skip); go_simp; try with_reducible rfl); (try go_simp); refine hK _ ?_; clear hK K)
    (refine wpC_skip rfl (fun _ _ _ h => h) (fun K hK => ?_); (try go_simp); refine hK _ ?_; clear hK K)
    (refine wpC_skip rfl (fun _ _ _ h => h) (fun K hK => ?_); (try go_simp); refine hK _ ?_; clear hK K)
    (refine wpC_skip rfl (fun _ _ _ h => h) (fun K hK => ?_); (try go_simp); refine hK _ ?_; clear hK K)
    (refine wpC_skip rfl (fun _ _ _ h => h) (fun K hK => ?_); (try go_simp); refine hK _ ?_; clear hK K)
    (refine wpC_skip rfl (fun _ _ _ h => h) (fun K hK => ?_); (try go_simp); refine hK _ ?_; clear hK K)
    (refine wpC_read rfl (fun _ _ _ h => h) (fun K hK => ?_); apply Exists.intro; refine ⟨fun _ w' _ hC => ?_, ?_⟩; ((skip); go_simp; try with_reducible rfl); (try go_simp); refine hK _ ?_; clear hK K)
    (refine wpC_read rfl (fun _ _ _ h => h) (fun K hK => ?_); apply Exists.intro; refine ⟨fun _ w' _ hC => ?_, ?_⟩; ((skip); go_simp; try with_reducible rfl); (try go_simp); refine hK _ ?_; clear hK K)
    (refine wpC_skip rfl (fun _ _ _ h => h) (fun K hK => ?_); (try go_simp); refine hK _ ?_; clear hK K)
    (refine wpC_skip rfl (fun _ _ _ h => h) (fun K hK => ?_); (try go_simp); refine hK _ ?_; clear hK K)
    (refine wpC_read rfl (fun _ _ _ h => h) (fun K hK => ?_); apply Exists.intro; refine ⟨fun _ w' _ hC => ?_, ?_⟩; ((skip); go_simp; try with_reducible rfl); (try go_simp); refine hK _ ?_; clear hK K)
    (refine wpC_read rfl (fun _ _ _ h => h) (fun K hK => ?_); apply Exists.intro; refine ⟨fun _ w' _ hC => ?_, ?_⟩; ((skip); go_simp; try with_reducible rfl); (try go_simp); refine hK _ ?_; clear hK K)
    (refine wpC_skip rfl (fun _ _ _ h => h) (fun K hK => ?_); (try go_simp); refine hK _ ?_; clear hK K)
    (refine wpC_skip rfl (fun _ _ _ h => h) (fun K hK => ?_); (try go_simp); refine hK _ ?_; clear hK K)
    (refine wpC_skip rfl (fun _ _ _ h => h) (fun K hK => ?_); (try go_simp); refine hK _ ?_; clear hK K)
    (refine wpC_skip rfl (fun _ _ _ h => h) (fun K hK => ?_); (try go_simp); refine hK _ ?_; clear hK K)
    (refine wpC_skip rfl (fun _ _ _ h => h) (fun K hK => ?_); (try go_simp); refine hK _ ?_; clear hK K)
    (refine wpC_read rfl (fun _ _ _ h => h) (fun K hK => ?_); apply Exists.intro; refine ⟨fun _ w' _ hC => ?_, ?_⟩; ((skip); go_simp; try with_reducible rfl); (try go_simp); refine hK _ ?_; clear hK K)
    (refine wpC_read rfl (fun _ _ _ h => h) (fun K hK => ?_); apply Exists.intro; refine ⟨fun _ w' _ hC => ?_, ?_⟩; ((skip); go_simp; try with_reducible rfl); (try go_simp); refine hK _ ?_; clear hK K)
    (refine wpC_skip rfl (fun _ _ _ h => h) (fun K hK => ?_); (try go_simp); refine hK _ ?_; clear hK K)
    (refine wpC_skip rfl (fun _ _ _ h => h) (fun K hK => ?_); (try go_simp); refine hK _ ?_; clear hK K)
    (refine wpC_skip rfl (fun _ _ _ h => h) (fun K hK => ?_); (try go_simp); refine hK _ ?_; clear hK K)
    (refine wpC_skip rfl (fun _ _ _ h => h) (fun K hK => ?_); (try go_simp); refine hK _ ?_; clear hK K)
    (refine wpC_skip rfl (fun _ _ _ h => h) (fun K hK => ?_); (try go_simp); refine hK _ ?_; clear hK K)
    (refine wpC_skip rfl (fun _ _ _ h => h) (fun K hK => ?_); (try go_simp); refine hK _ ?_; clear hK K)
    (refine wpC_read rfl (fun _ _ _ h => h) (fun K hK => ?_); apply Exists.intro; refine ⟨fun _ w' _ hC => ?_, ?_⟩; ((skip); go_simp; try with_reducible rfl); (try go_simp); refine hK _ ?_; clear hK K)
    (refine wpC_read rfl (fun _ _ _ h => h) (fun K hK => ?_); apply Exists.intro; refine ⟨fun _ w' _ hC => ?_, ?_⟩; ((skip); go_simp; try with_reducible rfl); (try go_simp); refine hK _ ?_; clear hK K)
    (refine wpC_skip rfl (fun _ _ _ h => h) (fun K hK => ?_); (try go_simp); refine hK _ ?_; clear hK K)
    (refine wpC_skip rfl (fun _ _ _ h => h) (fun K hK => ?_); (try go_simp); refine hK _ ?_; clear hK K)
    (refine wpC_skip rfl (fun _ _ _ h => h) (fun K hK => ?_); (try go_simp); refine hK _ ?_; clear hK K)
    (refine wpC_skip rfl (fun _ _ _ h => h) (fun K hK => ?_); (try go_simp); refine hK _ ?_; clear hK K)
    (refine wpC_skip rfl (fun _ _ _ h => h) (fun K hK => ?_); (try go_simp); refine hK _ ?_; clear hK K)
    (refine wpC_skip rfl (fun _ _ _ h => h) (fun K hK => ?_); (try go_simp); refine hK _ ?_; clear hK K)
    (refine wpC_skip rfl (fun _ _ _ h => h) (fun K hK => ?_); (try go_simp); refine hK _ ?_; clear hK K)
    (refine wpC_skip rfl (fun _ _ _ h => h) (fun K hK => ?_); (try go_simp); refine hK _ ?_; clear hK K)
    (refine wpC_skip rfl (fun _ _ _ h => h) (fun K hK => ?_); (try go_simp); refine hK _ ?_; clear hK K)
    (refine wpC_skip rfl (fun _ _ _ h => h) (fun K hK => ?_); (try go_simp); refine hK _ ?_; clear hK K)
    (refine wpC_skip rfl (fun _ _ _ h => h) (fun K hK => ?_); (try go_simp); refine hK _ ?_; clear hK K)
    (refine wpC_skip rfl (fun _ _ _ h => h) (fun K hK => ?_); (try go_simp); refine hK _ ?_; clear hK K)
    (refine wpC_read rfl (fun _ _ _ h => h) (fun K hK => ?_); apply Exists.intro; refine ⟨fun _ w' _ hC => ?_, ?_⟩; ((skip); go_simp; try with_reducible rfl); (try go_simp); refine hK _ ?_; clear hK K)
    refine wpC_nil ?_
    intro w2 hC2
    have HC2 := Lib.hid (HC1.out.trans hC2)
    clear hC2
    go_wp2
    go_ret
    exact ⟨by rw [HS.out]; rfl, HCT.out.trans HC2.out⟩
  · have HS := Lib.hid h3
    have d1 : decide (cl < 0) = false := by simp; omega
    have d2 : decide ((t.c.length : Int) ≤ cl) = true := by simpa using h2
    clear h3
    go_enter Tryd.func39, Tryd.ntmps39
    go_upto_region 1 with (fail)
    rw [← HWT.out]
    go_wp2_with fail
    refine (refClass_any t.r ra rc B x wt (HR.out.same HCT.out) fr).mono ?_
    rintro e w1 ⟨rfl, h1c⟩
    rw [HCL.out]
    have HC1 := Lib.hid h1c
    clear h1c q0 q1 q2
    have HFX : Hid (∀ wx, Chg (fun _ => False) w1 wx → wx.cell? ⟨w.heap.size, 0, none⟩ = some (.slice ra t.r.length rc) ∧ wx.cell? ⟨w.heap.size, 1, none⟩ = some (.slice ca t.c.length cc) ∧ wx.cell? ⟨w.heap.size, 2, none⟩ = some (.slice na t.n.length nc)) := Lib.hid (fun wx hx => ⟨(HBX.out wx (HC1.out.trans hx)).1, (HBX.out wx (HC1.out.trans hx)).2.1, (HBX.out wx (HC1.out.trans hx)).2.2⟩)
    go_upto_region 2 with (fail)
    refine wp_region_same (fun w' => Chg (fun _ => False) w1 w') (by kernel_rfl) (by kernel_rfl) ?_ ?_
    · exact (Chg.refl _ _).drew
    (refine wpC_read rfl (fun _ _ _ h => h) (fun K hK => ?_); apply Exists.intro; refine ⟨fun _ w' _ hC => ?_, ?_⟩; ((skip); go_simp; try with_reducible rfl); (try go_simp); refine hK _ ?_; clear hK K)
    (refine wpC_read rfl (fun _ _ _ h => h) (fun K hK => ?_); apply Exists.intro; refine ⟨fun _ w' _ hC => ?_, ?_⟩; ((skip); go_simp; try with_reducible rfl); (try go_simp); refine hK _ ?_; clear hK K)
    (refine wpC_read rfl (fun _ _ _ h => h) (fun K hK => ?_); apply Exists.intro; refine ⟨fun _ w' _ hC => ?_, ?_⟩; ((skip); go_simp; try with_reducible rfl); (try go_simp); refine hK _ ?_; clear hK K)
    (refine wpC_read rfl (fun _ _ _ h => h) (fun K hK => ?_); apply Exists.intro; refine ⟨fun _ w' _ hC => ?_, ?_⟩; ((skip); go_simp; try with_reducible rfl); (try go_simp); refine hK _ ?_; clear hK K)
    (refine wpC_read rfl (fun _ _ _ h => h) (fun K hK => ?_); apply Exists.intro; refine ⟨fun _ w' _ hC => ?_, ?_⟩; ((skip); go_simp; try with_reducible rfl); (try go_simp); refine hK _ ?_; clear hK K)
    (refine wpC_read rfl (fun _ _ _ h => h) (fun K hK => ?_); apply Exists.intro; refine ⟨fun _ w' _ hC => ?_, ?_⟩; ((obtain ⟨q0, q1, q2⟩ := HFX.out w' hC); go_simp; try with_reducible rfl); (try go_simp); refine hK _ ?_; clear hK K)
    (refine wpC_read rfl (fun _ _ _ h => h) (fun K hK => ?_); apply Exists.intro; refine ⟨fun _ w' _ hC => ?_, ?_⟩; ((skip); go_simp; try with_reducible rfl); (try go_simp); refine hK _ ?_; clear hK K)
    (refine wpC_read rfl (fun _ _ _ h => h) (fun K hK => ?_); apply Exists.intro; refine ⟨fun _ w' _ hC => ?_, ?_⟩; ((skip); go_simp; try with_reducible rfl); (try go_simp); refine hK _ ?_; clear hK K)
    (refine wpC_read rfl (fun _ _ _ h => h) (fun K hK => ?_); apply Exists.intro; refine ⟨fun _ w' _ hC => ?_, ?_⟩; ((skip); go_simp; try with_reducible rfl); (try go_simp); refine hK _ ?_; clear hK K)
    (refine wpC_read rfl (fun _ _ _ h => h) (fun K hK => ?_); apply Exists.intro; refine ⟨fun _ w' _ hC => ?_, ?_⟩; ((skip); go_simp; try with_reducible rfl); (try go_simp); refine hK _ ?_; clear hK K)
    (refine wpC_skip rfl (fun _ _ _ h => h) (fun K hK => ?_); (try go_simp); refine hK _ ?_; clear hK K)
    (refine wpC_skip rfl (fun _ _ _ h => h) (fun K hK => ?_); (try go_simp); refine hK _ ?_; clear hK K)
    (refine wpC_read rfl (fun _ _ _ h => h) (fun K hK => ?_); apply Exists.intro; refine ⟨fun _ w' _ hC => ?_, ?_⟩; ((skip); go_simp; try with_reducible rfl); (try go_simp); refine hK _ ?_; clear hK K)
    (refine wpC_read rfl (fun _ _ _ h => h) (fun K hK => ?_); apply Exists.intro; refine ⟨fun _ w' _ hC => ?_, ?_⟩; ((skip); go_simp; try with_reducible rfl); (try go_simp); refine hK _ ?_; clear hK K)
    (refine wpC_skip rfl (fun _ _ _ h => h) (fun K hK => ?_); (try go_simp); refine hK _ ?_; clear hK K)
    (refine wpC_skip rfl (fun _ _ _ h => h) (fun K hK => ?_); (try go_simp); refine hK _ ?_; clear hK K)
    (refine wpC_skip rfl (fun _ _ _ h => h) (fun K hK => ?_); (try go_simp); refine hK _ ?_; clear hK K)
    (refine wpC_skip rfl (fun _ _ _ h => h) (fun K hK => ?_); (try go_simp); refine hK _ ?_; clear hK K)
    (refine wpC_skip rfl (fun _ _ _ h => h) (fun K hK => ?_); (try go_simp); refine hK _ ?_; clear hK K)
    (refine wpC_read rfl (fun _ _ _ h => h) (fun K hK => ?_); apply Exists.intro; refine ⟨fun _ w' _ hC => ?_, ?_⟩; ((skip); go_simp; try with_reducible rfl); (try go_simp); refine hK _ ?_; clear hK K)
    (refine wpC_read rfl (fun _ _ _ h => h) (fun K hK => ?_); apply Exists.intro; refine ⟨fun _ w' _ hC => ?_, ?_⟩; ((skip); go_simp; try with_reducible rfl); (try go_simp); refine hK _ ?_; clear hK K)
    (refine wpC_skip rfl (fun _ _ _ h => h) (fun K hK => ?_); (try go_simp); refine hK _ ?_; clear hK K)
    (refine wpC_skip rfl (fun _ _ _ h => h) (fun K hK => ?_); (try go_simp); refine hK _ ?_; clear hK K)
    (refine wpC_skip rfl (fun _ _ _ h => h) (fun K hK => ?_); (try go_simp); refine hK _ ?_; clear hK K)
    (refine wpC_skip rfl (fun _ _ _ h => h) (fun K hK => ?_); (try go_simp); refine hK _ ?_; clear hK K)
    (refine wpC_skip rfl (fun _ _ _ h => h) (fun K hK => ?_); (try go_simp); refine hK _ ?_; clear hK K)
    (refine wpC_skip rfl (fun _ _ _ h => h) (fun K hK => ?_); (try go_simp); refine hK _ ?_; clear hK K)
    (refine wpC_read rfl (fun _ _ _ h => h) (fun K hK => ?_); apply Exists.intro; refine ⟨fun _ w' _ hC => ?_, ?_⟩; ((skip); go_simp; try with_reducible rfl); (try go_simp); refine hK _ ?_; clear hK K)
    (refine wpC_read rfl (fun _ _ _ h => h) (fun K hK => ?_); apply Exists.intro; refine ⟨fun _ w' _ hC => ?_, ?_⟩; ((skip); go_simp; try with_reducible rfl); (try go_simp); refine hK _ ?_; clear hK K)
    (refine wpC_skip rfl (fun _ _ _ h => h) (fun K hK => ?_); (try go_simp); refine hK _ ?_; clear hK K)
    (refine wpC_skip rfl (fun _ _ _ h => h) (fun K hK => ?_); (try go_simp); refine hK _ ?_; clear hK K)
    (refine wpC_skip rfl (fun _ _ _ h => h) (fun K hK => ?_); (try go_simp); refine hK _ ?_; clear hK K)
    (refine wpC_skip rfl (fun _ _ _ h => h) (fun K hK => ?_); (try go_simp); refine hK _ ?_; clear hK K)
    (refine wpC_skip rfl (fun _ _ _ h => h) (fun K hK => ?_); (try go_simp); refine hK _ ?_; clear hK K)
    (refine wpC_skip rfl (fun _ _ _ h => h) (fun K hK => ?_); (try go_simp); refine hK _ ?_; clear hK K)
    (refine wpC_skip rfl (fun _ _ _ h => h) (fun K hK => ?_); (try go_simp); refine hK _ ?_; clear hK K)
    (refine wpC_skip rfl (fun _ _ _ h => h) (fun K hK => ?_); (try go_simp); refine hK _ ?_; clear hK K)
    (refine wpC_skip rfl (fun _ _ _ h => h) (fun K hK => ?_); (try go_simp); refine hK _ ?_; clear hK K)
    (refine wpC_skip rfl (fun _ _ _ h => h) (fun K hK => ?_); (try go_simp); refine hK _ ?_; clear hK K)
    (refine wpC_skip rfl (fun _ _ _ h => h) (fun K hK => ?_); (try go_simp); refine hK _ ?_; clear hK K)
    (refine wpC_skip rfl (fun _ _ _ h => h) (fun K hK => ?_); (try go_simp); refine hK _ ?_; clear hK K)
    (refine wpC_read rfl (fun _ _ _ h => h) (fun K hK => ?_); apply Exists.intro; refine ⟨fun _ w' _ hC => ?_, ?_⟩; ((skip); go_simp; try with_reducible rfl); (try go_simp); refine hK _ ?_; clear hK K)
    refine wpC_nil ?_
    intro w2 hC2
    have HC2 := Lib.hid (HC1.out.trans hC2)
    clear hC2
    go_wp2
    go_ret
    exact ⟨by rw [HS.out]; rfl, HCT.out.trans HC2.out⟩
  · have HS := Lib.hid h4
    have d1 : decide (cl < 0) = false := by simp; omega
    have d2 : decide ((t.c.length : Int) ≤ cl) = false := by simp; omega
    have d3 : decide (st < 0) = true := by simpa using h3
    clear h4
    go_enter Tryd.func39, Tryd.ntmps39
    go_upto_region 1 with (fail)
    rw [← HWT.out]
    go_wp2_with fail
    refine (refClass_any t.r ra rc B x wt (HR.out.same HCT.out) fr).mono ?_
    rintro e w1 ⟨rfl, h1c⟩
    rw [HCL.out]
    have HC1 := Lib.hid h1c
    clear h1c q0 q1 q2
    have HFX : Hid (∀ wx, Chg (fun _ => False) w1 wx → wx.cell? ⟨w.heap.size, 0, none⟩ = some (.slice ra t.r.length rc) ∧ wx.cell? ⟨w.heap.size, 1, none⟩ = some (.slice ca t.c.length cc) ∧ wx.cell? ⟨w.heap.size, 2, none⟩ = some (.slice na t.n.length nc)) := Lib.hid (fun wx hx => ⟨(HBX.out wx (HC1.out.trans hx)).1, (HBX.out wx (HC1.out.trans hx)).2.1, (HBX.out wx (HC1.out.trans hx)).2.2⟩)
    go_upto_region 2 with (fail)
    refine wp_region_same (fun w' => Chg (fun _ => False) w1 w') (by kernel_rfl) (by kernel_rfl) ?_ ?_
    · exact (Chg.refl _ _).drew
    (refine wpC_read rfl (fun _ _ _ h => h) (fun K hK => ?_); apply Exists.intro; refine ⟨fun _ w' _ hC => ?_, ?_⟩; ((skip); go_simp; try with_reducible rfl); (try go_simp); refine hK _ ?_; clear hK K)
    (refine wpC_read rfl (fun _ _ _ h => h) (fun K hK => ?_); apply Exists.intro; refine ⟨fun _ w' _ hC => ?_, ?_⟩; ((skip); go_simp; try with_reducible rfl); (try go_simp); refine hK _ ?_; clear hK K)
    (refine wpC_read rfl (fun _ _ _ h => h) (fun K hK => ?_); apply Exists.intro; refine ⟨fun _ w' _ hC => ?_, ?_⟩; ((skip); go_simp; try with_reducible rfl); (try go_simp); refine hK _ ?_; clear hK K)
    (refine wpC_read rfl (fun _ _ _ h => h) (fun K hK => ?_); apply Exists.intro; refine ⟨fun _ w' _ hC => ?_, ?_⟩; ((skip); go_simp; try with_reducible rfl); (try go_simp); refine hK _ ?_; clear hK K)
    (refine wpC_read rfl (fun _ _ _ h => h) (fun K hK => ?_); apply Exists.intro; refine ⟨fun _ w' _ hC => ?_, ?_⟩; ((skip); go_simp; try with_reducible rfl); (try go_simp); refine hK _ ?_; clear hK K)
    (refine wpC_read rfl (fun _ _ _ h => h) (fun K hK => ?_); apply Exists.intro; refine ⟨fun _ w' _ hC => ?_, ?_⟩; ((obtain ⟨q0, q1, q2⟩ := HFX.out w' hC); go_simp; try with_reducible rfl); (try go_simp); refine hK _ ?_; clear hK K)
    (refine wpC_read rfl (fun _ _ _ h => h) (fun K hK => ?_); apply Exists.intro; refine ⟨fun _ w' _ hC => ?_, ?_⟩; ((skip); go_simp; try with_reducible rfl); (try go_simp); refine hK _ ?_; clear hK K)
    (refine wpC_read rfl (fun _ _ _ h => h) (fun K hK => ?_); apply Exists.intro; refine ⟨fun _ w' _ hC => ?_, ?_⟩; ((skip); go_simp; try with_reducible rfl); (try go_simp); refine hK _ ?_; clear hK K)
    (refine wpC_read rfl (fun _ _ _ h => h) (fun K hK => ?_); apply Exists.intro; refine ⟨fun _ w' _ hC => ?_, ?_⟩; ((skip); go_simp; try with_reducible rfl); (try go_simp); refine hK _ ?_; clear hK K)
    (refine wpC_read rfl (fun _ _ _ h => h) (fun K hK => ?_); apply Exists.intro; refine ⟨fun _ w' _ hC => ?_, ?_⟩; ((skip); go_simp; try with_reducible rfl); (try go_simp); refine hK _ ?_; clear hK K)
    (refine wpC_read rfl (fun _ _ _ h => h) (fun K hK => ?_); apply Exists.intro; refine ⟨fun _ w' _ hC => ?_, ?_⟩; ((skip); go_simp; try with_reducible rfl); (try go_simp); refine hK _ ?_; clear hK K)
    (refine wpC_read rfl (fun _ _ _ h => h) (fun K hK => ?_); apply Exists.intro; refine ⟨fun _ w' _ hC => ?_, ?_⟩; ((skip); go_simp; try with_reducible rfl); (try go_simp); refine hK _ ?_; clear hK K)
    (refine wpC_read rfl (fun _ _ _ h => h) (fun K hK => ?_); apply Exists.intro; refine ⟨fun _ w' _ hC => ?_, ?_⟩; ((skip); go_simp; try with_reducible rfl); (try go_simp); refine hK _ ?_; clear hK K)
    (refine wpC_read rfl (fun _ _ _ h => h) (fun K hK => ?_); apply Exists.intro; refine ⟨fun _ w' _ hC => ?_, ?_⟩; ((skip); go_simp; try with_reducible rfl); (try go_simp); refine hK _ ?_; clear hK K)
    (refine wpC_skip rfl (fun _ _ _ h => h) (fun K hK => ?_); (try go_simp); refine hK _ ?_; clear hK K)
    (refine wpC_skip rfl (fun _ _ _ h => h) (fun K hK => ?_); (try go_simp); refine hK _ ?_; clear hK K)
    (refine wpC_skip rfl (fun _ _ _ h => h) (fun K hK => ?_); (try go_simp); refine hK _ ?_; clear hK K)
    (refine wpC_skip rfl (fun _ _ _ h => h) (fun K hK => ?_); (try go_simp); refine hK _ ?_; clear hK K)
    (refine wpC_skip rfl (fun _ _ _ h => h) (fun K hK => ?_); (try go_simp); refine hK _ ?_; clear hK K)
    (refine wpC_read rfl (fun _ _ _ h => h) (fun K hK => ?_); apply Exists.intro; refine ⟨fun _ w' _ hC => ?_, ?_⟩; ((skip); go_simp; try with_reducible rfl); (try go_simp); refine hK _ ?_; clear hK K)
    (refine wpC_read rfl (fun _ _ _ h => h) (fun K hK => ?_); apply Exists.intro; refine ⟨fun _ w' _ hC => ?_, ?_⟩; ((skip); go_simp; try with_reducible rfl); (try go_simp); refine hK _ ?_; clear hK K)
    (refine wpC_skip rfl (fun _ _ _ h => h) (fun K hK => ?_); (try go_simp); refine hK _ ?_; clear hK K)
    (refine wpC_skip rfl (fun _ _ _ h => h) (fun K hK => ?_); (try go_simp); refine hK _ ?_; clear hK K)
    (refine wpC_skip rfl (fun _ _ _ h => h) (fun K hK => ?_); (try go_simp); refine hK _ ?_; clear hK K)
    (refine wpC_skip rfl (fun _ _ _ h => h) (fun K hK => ?_); (try go_simp); refine hK _ ?_; clear hK K)
    (refine wpC_skip rfl (fun _ _ _ h => h) (fun K hK => ?_); (try go_simp); refine hK _ ?_; clear hK K)
    (refine wpC_skip rfl (fun _ _ _ h => h) (fun K hK => ?_); (try go_simp); refine hK _ ?_; clear hK K)
    (refine wpC_read rfl (fun _ _ _ h => h) (fun K hK => ?_); apply Exists.intro; refine ⟨fun _ w' _ hC => ?_, ?_⟩; ((skip); go_simp; try with_reducible rfl); (try go_simp); refine hK _ ?_; clear hK K)
    (refine wpC_read rfl (fun _ _ _ h => h) (fun K hK => ?_); apply Exists.intro; refine ⟨fun _ w' _ hC => ?_, ?_⟩; ((skip); go_simp; try with_reducible rfl); (try go_simp); refine hK _ ?_; clear hK K)
    (refine wpC_skip rfl (fun _ _ _ h => h) (fun K hK => ?_); (try go_simp); refine hK _ ?_; clear hK K)
    (refine wpC_skip rfl (fun _ _ _ h => h) (fun K hK => ?_); (try go_simp); refine hK _ ?_; clear hK K)
    (refine wpC_skip rfl (fun _ _ _ h => h) (fun K hK => ?_); (try go_simp); refine hK _ ?_; clear hK K)
    (refine wpC_skip rfl (fun _ _ _ h => h) (fun K hK => ?_); (try go_simp); refine hK _ ?_; clear hK K)
    (refine wpC_skip rfl (fun _ _ _ h => h) (fun K hK => ?_); (try go_simp); refine hK _ ?_; clear hK K)
    (refine wpC_skip rfl (fun _ _ _ h => h) (fun K hK => ?_); (try go_simp); refine hK _ ?_; clear hK K)
    (refine wpC_skip rfl (fun _ _ _ h => h) (fun K hK => ?_); (try go_simp); refine hK _ ?_; clear hK K)
    (refine wpC_skip rfl (fun _ _ _ h => h) (fun K hK => ?_); (try go_simp); refine hK _ ?_; clear hK K)
    (refine wpC_skip rfl (fun _ _ _ h => h) (fun K hK => ?_); (try go_simp); refine hK _ ?_; clear hK K)
    (refine wpC_skip rfl (fun _ _ _ h => h) (fun K hK => ?_); (try go_simp); refine hK _ ?_; clear hK K)
    (refine wpC_skip rfl (fun _ _ _ h => h) (fun K hK => ?_); (try go_simp); refine hK _ ?_; clear hK K)
    (refine wpC_skip rfl (fun _ _ _ h => h) (fun K hK => ?_); (try go_simp); refine hK _ ?_; clear hK K)
    (refine wpC_read rfl (fun _ _ _ h => h) (fun K hK => ?_); apply Exists.intro; refine ⟨fun _ w' _ hC => ?_, ?_⟩; ((skip); go_simp; try with_reducible rfl); (try go_simp); refine hK _ ?_; clear hK K)
    refine wpC_nil ?_
    intro w2 hC2
    have HC2 := Lib.hid (HC1.out.trans hC2)
    clear hC2
    go_wp2
    go_ret
    exact ⟨by rw [HS.out]; rfl, HCT.out.trans HC2.out⟩
  · have HS := Lib.hid h5
    have d1 : decide (cl < 0) = false := by simp; omega
    have d2 : decide ((t.c.length : Int) ≤ cl) = false := by simp; omega
    have d3 : decide (st < 0) = false := by simp; omega
    have d4 : decide ((t.n.length : Int) ≤ st) = true := by simpa using h4
    clear h5
    go_enter Tryd.func39, Tryd.ntmps39
    go_upto_region 1 with (fail)
    rw [← HWT.out]
    go_wp2_with fail
    refine (refClass_any t.r ra rc B x wt (HR.out.same HCT.out) fr).mono ?_
    rintro e w1 ⟨rfl, h1c⟩
    rw [HCL.out]
    have HC1 := Lib.hid h1c
    clear h1c q0 q1 q2
    have HFX : Hid (∀ wx, Chg (fun _ => False) w1 wx → wx.cell? ⟨w.heap.size, 0, none⟩ = some (.slice ra t.r.length rc) ∧ wx.cell? ⟨w.heap.size, 1, none⟩ = some (.slice ca t.c.length cc) ∧ wx.cell? ⟨w.heap.size, 2, none⟩ = some (.slice na t.n.length nc)) := Lib.hid (fun wx hx => ⟨(HBX.out wx (HC1.out.trans hx)).1, (HBX.out wx (HC1.out.trans hx)).2.1, (HBX.out wx (HC1.out.trans hx)).2.2⟩)
    go_upto_region 2 with (fail)
    refine wp_region_same (fun w' => Chg (fun _ => False) w1 w') (by kernel_rfl) (by kernel_rfl) ?_ ?_
    · exact (Chg.refl _ _).drew
    (refine wpC_read rfl (fun _ _ _ h => h) (fun K hK => ?_); apply Exists.intro; refine ⟨fun _ w' _ hC => ?_, ?_⟩; ((skip); go_simp; try with_reducible rfl); (try go_simp); refine hK _ ?_; clear hK K)
    (refine wpC_read rfl (fun _ _ _ h => h) (fun K hK => ?_); apply Exists.intro; refine ⟨fun _ w' _ hC => ?_, ?_⟩; ((skip); go_simp; try with_reducible rfl); (try go_simp); refine hK _ ?_; clear hK K)
    (refine wpC_read rfl (fun _ _ _ h => h) (fun K hK => ?_); apply Exists.intro; refine ⟨fun _ w' _ hC => ?_, ?_⟩; ((skip); go_simp; try with_reducible rfl); (try go_simp); refine hK _ ?_; clear hK K)
    (refine wpC_read rfl (fun _ _ _ h => h) (fun K hK => ?_); apply Exists.intro; refine ⟨fun _ w' _ hC => ?_, ?_⟩; ((skip); go_simp; try with_reducible rfl); (try go_simp); refine hK _ ?_; clear hK K)
    (refine wpC_read rfl (fun _ _ _ h => h) (fun K hK => ?_); apply Exists.intro; refine ⟨fun _ w' _ hC => ?_, ?_⟩; ((skip); go_simp; try with_reducible rfl); (try go_simp); refine hK _ ?_; clear hK K)
    (refine wpC_read rfl (fun _ _ _ h => h) (fun K hK => ?_); apply Exists.intro; refine ⟨fun _ w' _ hC => ?_, ?_⟩; ((obtain ⟨q0, q1, q2⟩ := HFX.out w' hC); go_simp; try with_reducible rfl); (try go_simp); refine hK _ ?_; clear hK K)
    (refine wpC_read rfl (fun _ _ _ h => h) (fun K hK => ?_); apply Exists.intro; refine ⟨fun _ w' _ hC => ?_, ?_⟩; ((skip); go_simp; try with_reducible rfl); (try go_simp); refine hK _ ?_; clear hK K)
    (refine wpC_read rfl (fun _ _ _ h => h) (fun K hK => ?_); apply Exists.intro; refine ⟨fun _ w' _ hC => ?_, ?_⟩; ((skip); go_simp; try with_reducible rfl); (try go_simp); refine hK _ ?_; clear hK K)
    (refine wpC_read rfl (fun _ _ _ h => h) (fun K hK => ?_); apply Exists.intro; refine ⟨fun _ w' _ hC => ?_, ?_⟩; ((skip); go_simp; try with_reducible rfl); (try go_simp); refine hK _ ?_; clear hK K)
    (refine wpC_read rfl (fun _ _ _ h => h) (fun K hK => ?_); apply Exists.intro; refine ⟨fun _ w' _ hC => ?_, ?_⟩; ((skip); go_simp; try with_reducible rfl); (try go_simp); refine hK _ ?_; clear hK K)
    (refine wpC_read rfl (fun _ _ _ h => h) (fun K hK => ?_); apply Exists.intro; refine ⟨fun _ w' _ hC => ?_, ?_⟩; ((skip); go_simp; try with_reducible rfl); (try go_simp); refine hK _ ?_; clear hK K)
    (refine wpC_read rfl (fun _ _ _ h => h) (fun K hK => ?_); apply Exists.intro; refine ⟨fun _ w' _ hC => ?_, ?_⟩; ((skip); go_simp; try with_reducible rfl); (try go_simp); refine hK _ ?_; clear hK K)
    (refine wpC_read rfl (fun _ _ _ h => h) (fun K hK => ?_); apply Exists.intro; refine ⟨fun _ w' _ hC => ?_, ?_⟩; ((skip); go_simp; try with_reducible rfl); (try go_simp); refine hK _ ?_; clear hK K)
    (refine wpC_read rfl (fun _ _ _ h => h) (fun K hK => ?_); apply Exists.intro; refine ⟨fun _ w' _ hC => ?_, ?_⟩; ((skip); go_simp; try with_reducible rfl); (try go_simp); refine hK _ ?_; clear hK K)
    (refine wpC_read rfl (fun _ _ _ h => h) (fun K hK => ?_); apply Exists.intro; refine ⟨fun _ w' _ hC => ?_, ?_⟩; ((skip); go_simp; try with_reducible rfl); (try go_simp); refine hK _ ?_; clear hK K)
    (refine wpC_read rfl (fun _ _ _ h => h) (fun K hK => ?_); apply Exists.intro; refine ⟨fun _ w' _ hC => ?_, ?_⟩; ((skip); go_simp; try with_reducible rfl); (try go_simp); refine hK _ ?_; clear hK K)
    (refine wpC_read rfl (fun _ _ _ h => h) (fun K hK => ?_); apply Exists.intro; refine ⟨fun _ w' _ hC => ?_, ?_⟩; ((obtain ⟨q0, q1, q2⟩ := HFX.out w' hC); go_simp; try with_reducible rfl); (try go_simp); refine hK _ ?_; clear hK K)
    (refine wpC_read rfl (fun _ _ _ h => h) (fun K hK => ?_); apply Exists.intro; refine ⟨fun _ w' _ hC => ?_, ?_⟩; ((skip); go_simp; try with_reducible rfl); (try go_simp); refine hK _ ?_; clear hK K)
    (refine wpC_read rfl (fun _ _ _ h => h) (fun K hK => ?_); apply Exists.intro; refine ⟨fun _ w' _ hC => ?_, ?_⟩; ((skip); go_simp; try with_reducible rfl); (try go_simp); refine hK _ ?_; clear hK K)
    (refine wpC_read rfl (fun _ _ _ h => h) (fun K hK => ?_); apply Exists.intro; refine ⟨fun _ w' _ hC => ?_, ?_⟩; ((skip); go_simp; try with_reducible rfl); (try go_simp); refine hK _ ?_; clear hK K)
    (refine wpC_read rfl (fun _ _ _ h => h) (fun K hK => ?_); apply Exists.intro; refine ⟨fun _ w' _ hC => ?_, ?_⟩; ((skip); go_simp; try with_reducible rfl); (try go_simp); refine hK _ ?_; clear hK K)
    (refine wpC_skip rfl (fun _ _ _ h => h) (fun K hK => ?_); (try go_simp); refine hK _ ?_; clear hK K)
    (refine wpC_skip rfl (fun _ _ _ h => h) (fun K hK => ?_); (try go_simp); refine hK _ ?_; clear hK K)
    (refine wpC_skip rfl (fun _ _ _ h => h) (fun K hK => ?_); (try go_simp); refine hK _ ?_; clear hK K)
    (refine wpC_skip rfl (fun _ _ _ h => h) (fun K hK => ?_); (try go_simp); refine hK _ ?_; clear hK K)
    (refine wpC_skip rfl (fun _ _ _ h => h) (fun K hK => ?_); (try go_simp); refine hK _ ?_; clear hK K)
    (refine wpC_skip rfl (fun _ _ _ h => h) (fun K hK => ?_); (try go_simp); refine hK _ ?_; clear hK K)
    (refine wpC_read rfl (fun _ _ _ h => h) (fun K hK => ?_); apply Exists.intro; refine ⟨fun _ w' _ hC => ?_, ?_⟩; ((skip); go_simp; try with_reducible rfl); (try go_simp); refine hK _ ?_; clear hK K)
    (refine wpC_read rfl (fun _ _ _ h => h) (fun K hK => ?_); apply Exists.intro; refine ⟨fun _ w' _ hC => ?_, ?_⟩; ((skip); go_simp; try with_reducible rfl); (try go_simp); refine hK _ ?_; clear hK K)
    (refine wpC_skip rfl (fun _ _ _ h => h) (fun K hK => ?_); (try go_simp); refine hK _ ?_; clear hK K)
    (refine wpC_skip rfl (fun _ _ _ h => h) (fun K hK => ?_); (try go_simp); refine hK _ ?_; clear hK K)
    (refine wpC_skip rfl (fun _ _ _ h => h) (fun K hK => ?_); (try go_simp); refine hK _ ?_; clear hK K)
    (refine wpC_skip rfl (fun _ _ _ h => h) (fun K hK => ?_); (try go_simp); refine hK _ ?_; clear hK K)
    (refine wpC_skip rfl (fun _ _ _ h => h) (fun K hK => ?_); (try go_simp); refine hK _ ?_; clear hK K)
    (refine wpC_skip rfl (fun _ _ _ h => h) (fun K hK => ?_); (try go_simp); refine hK _ ?_; clear hK K)
    (refine wpC_skip rfl (fun _ _ _ h => h) (fun K hK => ?_); (try go_simp); refine hK _ ?_; clear hK K)
    (refine wpC_skip rfl (fun _ _ _ h => h) (fun K hK => ?_); (try go_simp); refine hK _ ?_; clear hK K)
    (refine wpC_skip rfl (fun _ _ _ h => h) (fun K hK => ?_); (try go_simp); refine hK _ ?_; clear hK K)
    (refine wpC_skip rfl (fun _ _ _ h => h) (fun K hK => ?_); (try go_simp); refine hK _ ?_; clear hK K)
    (refine wpC_skip rfl (fun _ _ _ h => h) (fun K hK => ?_); (try go_simp); refine hK _ ?_; clear hK K)
    (refine wpC_skip rfl (fun _ _ _ h => h) (fun K hK => ?_); (try go_simp); refine hK _ ?_; clear hK K)
    (refine wpC_read rfl (fun _ _ _ h => h) (fun K hK => ?_); apply Exists.intro; refine ⟨fun _ w' _ hC => ?_, ?_⟩; ((skip); go_simp; try with_reducible rfl); (try go_simp); refine hK _ ?_; clear hK K)
    refine wpC_nil ?_
    intro w2 hC2
    have HC2 := Lib.hid (HC1.out.trans hC2)
    clear hC2
    go_wp2
    go_ret
    exact ⟨by rw [HS.out]; rfl, HCT.out.trans HC2.out⟩
  · have d1 : decide ((i : Int) < 0) = false := by simp <;> omega
    have d2 : decide ((t.c.length : Int) ≤ (i : Int)) = false := by simp; omega
    have d2' : decide (t.c.length ≤ i) = false := by simp; omega
    have d3 : decide ((s : Int) < 0) = false := by simp <;> omega
    have d4 : decide ((t.n.length : Int) ≤ (s : Int)) = false := by simp; omega
    have d4' : decide (t.n.length ≤ s) = false := by simp; omega
    have HCV := Lib.hid h5
    have HLV := Lib.hid h6
    have HRES := Lib.hid h7
    have hll := HL.out l (List.mem_of_getElem? h6)
    clear h5 h6 h7
    rcases HRES.out with ⟨g1, g2⟩ | ⟨g1, g2, g3⟩ | ⟨k, y, rfl, g2, g3, g4⟩
    · have HS := Lib.hid g2
      have d5 : decide (cv < 0) = true := by simpa using g1
      clear g2
      go_enter Tryd.func39, Tryd.ntmps39
      go_upto_region 1 with (fail)
      rw [← HWT.out]
      go_wp2_with fail
      refine (refClass_any t.r ra rc B x wt (HR.out.same HCT.out) fr).mono ?_
      rintro e w1 ⟨rfl, h1c⟩
      rw [HCL.out]
      have HC1 := Lib.hid h1c
      clear h1c q0 q1 q2
      obtain ⟨cv', gc, oc, hcv, rfl, c0, cv0, cv1, -, -⟩ := (HC.out.same (HCT.out.trans HC1.out)).getI (show i < t.c.length by omega)
      rw [HCV.out] at hcv
      obtain rfl := Option.some.inj hcv
      have HFX : Hid (∀ wx, Chg (fun _ => False) w1 wx → wx.cell? ⟨w.heap.size, 0, none⟩ = some (.slice ra t.r.length rc) ∧ wx.cell? ⟨w.heap.size, 1, none⟩ = some (.slice (some ⟨gc, oc, none⟩) t.c.length cc) ∧ wx.cell? ⟨w.heap.size, 2, none⟩ = some (.slice na t.n.length nc) ∧ wx.cell? ⟨gc, oc + i, none⟩ = some (.int .i64 cv)) := Lib.hid (fun wx hx => ⟨(HBX.out wx (HC1.out.trans hx)).1, (HBX.out wx (HC1.out.trans hx)).2.1, (HBX.out wx (HC1.out.trans hx)).2.2, hx.cellS c0 (fun h => h)⟩)
      clear c0 
      go_upto_region 2 with (fail)
      refine wp_region_same (fun w' => Chg (fun _ => False) w1 w') (by kernel_rfl) (by kernel_rfl) ?_ ?_
      · exact (Chg.refl _ _).drew
      (refine wpC_read rfl (fun _ _ _ h => h) (fun K hK => ?_); apply Exists.intro; refine ⟨fun _ w' _ hC => ?_, ?_⟩; ((skip); go_simp; try with_reducible rfl); (try go_simp); refine hK _ ?_; clear hK K)
      (refine wpC_read rfl (fun _ _ _ h => h) (fun K hK => ?_); apply Exists.intro; refine ⟨fun _ w' _ hC => ?_, ?_⟩; ((skip); go_simp; try with_reducible rfl); (try go_simp); refine hK _ ?_; clear hK K)
      (refine wpC_read rfl (fun _ _ _ h => h) (fun K hK => ?_); apply Exists.intro; refine ⟨fun _ w' _ hC => ?_, ?_⟩; ((skip); go_simp; try with_reducible rfl); (try go_simp); refine hK _ ?_; clear hK K)
      (refine wpC_read rfl (fun _ _ _ h => h) (fun K hK => ?_); apply Exists.intro; refine ⟨fun _ w' _ hC => ?_, ?_⟩; ((skip); go_simp; try with_reducible rfl); (try go_simp); refine hK _ ?_; clear hK K)
      (refine wpC_read rfl (fun _ _ _ h => h) (fun K hK => ?_); apply Exists.intro; refine ⟨fun _ w' _ hC => ?_, ?_⟩; ((skip); go_simp; try with_reducible rfl); (try go_simp); refine hK _ ?_; clear hK K)
      (refine wpC_read rfl (fun _ _ _ h => h) (fun K hK => ?_); apply Exists.intro; refine ⟨fun _ w' _ hC => ?_, ?_⟩; ((obtain ⟨q0, q1, q2, c0⟩ := HFX.out w' hC); go_simp; try with_reducible rfl); (try go_simp); refine hK _ ?_; clear hK K)
      (refine wpC_read rfl (fun _ _ _ h => h) (fun K hK => ?_); apply Exists.intro; refine ⟨fun _ w' _ hC => ?_, ?_⟩; ((skip); go_simp; try with_reducible rfl); (try go_simp); refine hK _ ?_; clear hK K)
      (refine wpC_read rfl (fun _ _ _ h => h) (fun K hK => ?_); apply Exists.intro; refine ⟨fun _ w' _ hC => ?_, ?_⟩; ((skip); go_simp; try with_reducible rfl); (try go_simp); refine hK _ ?_; clear hK K)
      (refine wpC_read rfl (fun _ _ _ h => h) (fun K hK => ?_); apply Exists.intro; refine ⟨fun _ w' _ hC => ?_, ?_⟩; ((skip); go_simp; try with_reducible rfl); (try go_simp); refine hK _ ?_; clear hK K)
      (refine wpC_read rfl (fun _ _ _ h => h) (fun K hK => ?_); apply Exists.intro; refine ⟨fun _ w' _ hC => ?_, ?_⟩; ((skip); go_simp; try with_reducible rfl); (try go_simp); refine hK _ ?_; clear hK K)
      (refine wpC_read rfl (fun _ _ _ h => h) (fun K hK => ?_); apply Exists.intro; refine ⟨fun _ w' _ hC => ?_, ?_⟩; ((skip); go_simp; try with_reducible rfl); (try go_simp); refine hK _ ?_; clear hK K)
      (refine wpC_read rfl (fun _ _ _ h => h) (fun K hK => ?_); apply Exists.intro; refine ⟨fun _ w' _ hC => ?_, ?_⟩; ((skip); go_simp; try with_reducible rfl); (try go_simp); refine hK _ ?_; clear hK K)
      (refine wpC_read rfl (fun _ _ _ h => h) (fun K hK => ?_); apply Exists.intro; refine ⟨fun _ w' _ hC => ?_, ?_⟩; ((skip); go_simp; try with_reducible rfl); (try go_simp); refine hK _ ?_; clear hK K)
      (refine wpC_read rfl (fun _ _ _ h => h) (fun K hK => ?_); apply Exists.intro; refine ⟨fun _ w' _ hC => ?_, ?_⟩; ((skip); go_simp; try with_reducible rfl); (try go_simp); refine hK _ ?_; clear hK K)
      (refine wpC_read rfl (fun _ _ _ h => h) (fun K hK => ?_); apply Exists.intro; refine ⟨fun _ w' _ hC => ?_, ?_⟩; ((skip); go_simp; try with_reducible rfl); (try go_simp); refine hK _ ?_; clear hK K)
      (refine wpC_read rfl (fun _ _ _ h => h) (fun K hK => ?_); apply Exists.intro; refine ⟨fun _ w' _ hC => ?_, ?_⟩; ((skip); go_simp; try with_reducible rfl); (try go_simp); refine hK _ ?_; clear hK K)
      (refine wpC_read rfl (fun _ _ _ h => h) (fun K hK => ?_); apply Exists.intro; refine ⟨fun _ w' _ hC => ?_, ?_⟩; ((obtain ⟨q0, q1, q2, c0⟩ := HFX.out w' hC); go_simp; try with_reducible rfl); (try go_simp); refine hK _ ?_; clear hK K)
      (refine wpC_read rfl (fun _ _ _ h => h) (fun K hK => ?_); apply Exists.intro; refine ⟨fun _ w' _ hC => ?_, ?_⟩; ((skip); go_simp; try with_reducible rfl); (try go_simp); refine hK _ ?_; clear hK K)
      (refine wpC_read rfl (fun _ _ _ h => h) (fun K hK => ?_); apply Exists.intro; refine ⟨fun _ w' _ hC => ?_, ?_⟩; ((skip); go_simp; try with_reducible rfl); (try go_simp); refine hK _ ?_; clear hK K)
      (refine wpC_read rfl (fun _ _ _ h => h) (fun K hK => ?_); apply Exists.intro; refine ⟨fun _ w' _ hC => ?_, ?_⟩; ((skip); go_simp; try with_reducible rfl); (try go_simp); refine hK _ ?_; clear hK K)
      (refine wpC_read rfl (fun _ _ _ h => h) (fun K hK => ?_); apply Exists.intro; refine ⟨fun _ w' _ hC => ?_, ?_⟩; ((skip); go_simp; try with_reducible rfl); (try go_simp); refine hK _ ?_; clear hK K)
      (refine wpC_read rfl (fun _ _ _ h => h) (fun K hK => ?_); apply Exists.intro; refine ⟨fun _ w' _ hC => ?_, ?_⟩; ((skip); go_simp; try with_reducible rfl); (try go_simp); refine hK _ ?_; clear hK K)
      (refine wpC_read rfl (fun _ _ _ h => h) (fun K hK => ?_); apply Exists.intro; refine ⟨fun _ w' _ hC => ?_, ?_⟩; ((obtain ⟨q0, q1, q2, c0⟩ := HFX.out w' hC); go_simp; try with_reducible rfl); (try go_simp); refine hK _ ?_; clear hK K)
      (refine wpC_read rfl (fun _ _ _ h => h) (fun K hK => ?_); apply Exists.intro; refine ⟨fun _ w' _ hC => ?_, ?_⟩; ((skip); go_simp; try with_reducible rfl); (try go_simp); refine hK _ ?_; clear hK K)
      (refine wpC_read rfl (fun _ _ _ h => h) (fun K hK => ?_); apply Exists.intro; refine ⟨fun _ w' _ hC => ?_, ?_⟩; ((skip); go_simp; try with_reducible rfl); (try go_simp); refine hK _ ?_; clear hK K)
      (refine wpC_read rfl (fun _ _ _ h => h) (fun K hK => ?_); apply Exists.intro; refine ⟨fun _ w' _ hC => ?_, ?_⟩; ((obtain ⟨q0, q1, q2, c0⟩ := HFX.out w' hC); go_simp; try with_reducible rfl); (try go_simp); refine hK _ ?_; clear hK K)
      (refine wpC_read rfl (fun _ _ _ h => h) (fun K hK => ?_); apply Exists.intro; refine ⟨fun _ w' _ hC => ?_, ?_⟩; ((skip); go_simp; try with_reducible rfl); (try go_simp); refine hK _ ?_; clear hK K)
      (refine wpC_read rfl (fun _ _ _ h => h) (fun K hK => ?_); apply Exists.intro; refine ⟨fun _ w' _ hC => ?_, ?_⟩; ((skip); go_simp; try with_reducible rfl); (try go_simp); refine hK _ ?_; clear hK K)
      (refine wpC_read rfl (fun _ _ _ h => h) (fun K hK => ?_); apply Exists.intro; refine ⟨fun _ w' _ hC => ?_, ?_⟩; ((skip); go_simp; try with_reducible rfl); (try go_simp); refine hK _ ?_; clear hK K)
      (refine wpC_skip rfl (fun _ _ _ h => h) (fun K hK => ?_); (try go_simp); refine hK _ ?_; clear hK K)
      (refine wpC_skip rfl (fun _ _ _ h => h) (fun K hK => ?_); (try go_simp); refine hK _ ?_; clear hK K)
      (refine wpC_skip rfl (fun _ _ _ h => h) (fun K hK => ?_); (try go_simp); refine hK _ ?_; clear hK K)
      (refine wpC_skip rfl (fun _ _ _ h => h) (fun K hK => ?_); (try go_simp); refine hK _ ?_; clear hK K)
      (refine wpC_skip rfl (fun _ _ _ h => h) (fun K hK => ?_); (try go_simp); refine hK _ ?_; clear hK K)
      (refine wpC_skip rfl (fun _ _ _ h => h) (fun K hK => ?_); (try go_simp); refine hK _ ?_; clear hK K)
      (refine wpC_skip rfl (fun _ _ _ h => h) (fun K hK => ?_); (try go_simp); refine hK _ ?_; clear hK K)
      (refine wpC_skip rfl (fun _ _ _ h => h) (fun K hK => ?_); (try go_simp); refine hK _ ?_; clear hK K)
      (refine wpC_skip rfl (fun _ _ _ h => h) (fun K hK => ?_); (try go_simp); refine hK _ ?_; clear hK K)
      (refine wpC_skip rfl (fun _ _ _ h => h) (fun K hK => ?_); (try go_simp); refine hK _ ?_; clear hK K)
      (refine wpC_skip rfl (fun _ _ _ h => h) (fun K hK => ?_); (try go_simp); refine hK _ ?_; clear hK K)
      (refine wpC_skip rfl (fun _ _ _ h => h) (fun K hK => ?_); (try go_simp); refine hK _ ?_; clear hK K)
      (refine wpC_read rfl (fun _ _ _ h => h) (fun K hK => ?_); apply Exists.intro; refine ⟨fun _ w' _ hC => ?_, ?_⟩; ((skip); go_simp; try with_reducible rfl); (try go_simp); refine hK _ ?_; clear hK K)
      refine wpC_nil ?_
      intro w2 hC2
      have HC2 := Lib.hid (HC1.out.trans hC2)
      clear hC2
      go_wp2
      go_ret
      exact ⟨by rw [HS.out]; rfl, HCT.out.trans HC2.out⟩
    · have HS := Lib.hid g3
      have d5 : decide (cv < 0) = false := by simp; omega
      have d6 : decide ((l.length : Int) ≤ cv) = true := by simpa using g2
      clear g3
      go_enter Tryd.func39, Tryd.ntmps39
      go_upto_region 1 with (fail)
      rw [← HWT.out]
      go_wp2_with fail
      refine (refClass_any t.r ra rc B x wt (HR.out.same HCT.out) fr).mono ?_
      rintro e w1 ⟨rfl, h1c⟩
      rw [HCL.out]
      have HC1 := Lib.hid h1c
      clear h1c q0 q1 q2
      obtain ⟨cv', gc, oc, hcv, rfl, c0, cv0, cv1, -, -⟩ := (HC.out.same (HCT.out.trans HC1.out)).getI (show i < t.c.length by omega)
      rw [HCV.out] at hcv
      obtain rfl := Option.some.inj hcv
      obtain ⟨l', gn, on, la, lc, gl, ol, hlv, rfl, n0, hlc, hlb, hla, -, -⟩ := (HN.out.same (HCT.out.trans HC1.out)).get (show s < t.n.length by omega)
      rw [HLV.out] at hlv
      obtain rfl := Option.some.inj hlv
      clear hlb hla
      have HFX : Hid (∀ wx, Chg (fun _ => False) w1 wx → wx.cell? ⟨w.heap.size, 0, none⟩ = some (.slice ra t.r.length rc) ∧ wx.cell? ⟨w.heap.size, 1, none⟩ = some (.slice (some ⟨gc, oc, none⟩) t.c.length cc) ∧ wx.cell? ⟨w.heap.size, 2, none⟩ = some (.slice (some ⟨gn, on, none⟩) t.n.length nc) ∧ wx.cell? ⟨gc, oc + i, none⟩ = some (.int .i64 cv) ∧ wx.cell? ⟨gn, on + s, none⟩ = some (.slice la l.length lc)) := Lib.hid (fun wx hx => ⟨(HBX.out wx (HC1.out.trans hx)).1, (HBX.out wx (HC1.out.trans hx)).2.1, (HBX.out wx (HC1.out.trans hx)).2.2, hx.cellS c0 (fun h => h), hx.cellS n0 (fun h => h)⟩)
      clear c0 n0 
      go_upto_region 2 with (fail)
      refine wp_region_same (fun w' => Chg (fun _ => False) w1 w') (by kernel_rfl) (by kernel_rfl) ?_ ?_
      · exact (Chg.refl _ _).drew
      (refine wpC_read rfl (fun _ _ _ h => h) (fun K hK => ?_); apply Exists.intro; refine ⟨fun _ w' _ hC => ?_, ?_⟩; ((skip); go_simp; try with_reducible rfl); (try go_simp); refine hK _ ?_; clear hK K)
      (refine wpC_read rfl (fun _ _ _ h => h) (fun K hK => ?_); apply Exists.intro; refine ⟨fun _ w' _ hC => ?_, ?_⟩; ((skip); go_simp; try with_reducible rfl); (try go_simp); refine hK _ ?_; clear hK K)
      (refine wpC_read rfl (fun _ _ _ h => h) (fun K hK => ?_); apply Exists.intro; refine ⟨fun _ w' _ hC => ?_, ?_⟩; ((skip); go_simp; try with_reducible rfl); (try go_simp); refine hK _ ?_; clear hK K)
      (refine wpC_read rfl (fun _ _ _ h => h) (fun K hK => ?_); apply Exists.intro; refine ⟨fun _ w' _ hC => ?_, ?_⟩; ((skip); go_simp; try with_reducible rfl); (try go_simp); refine hK _ ?_; clear hK K)
      (refine wpC_read rfl (fun _ _ _ h => h) (fun K hK => ?_); apply Exists.intro; refine ⟨fun _ w' _ hC => ?_, ?_⟩; ((skip); go_simp; try with_reducible rfl); (try go_simp); refine hK _ ?_; clear hK K)
      (refine wpC_read rfl (fun _ _ _ h => h) (fun K hK => ?_); apply Exists.intro; refine ⟨fun _ w' _ hC => ?_, ?_⟩; ((obtain ⟨q0, q1, q2, c0, n0⟩ := HFX.out w' hC); go_simp; try with_reducible rfl); (try go_simp); refine hK _ ?_; clear hK K)
      (refine wpC_read rfl (fun _ _ _ h => h) (fun K hK => ?_); apply Exists.intro; refine ⟨fun _ w' _ hC => ?_, ?_⟩; ((skip); go_simp; try with_reducible rfl); (try go_simp); refine hK _ ?_; clear hK K)
      (refine wpC_read rfl (fun _ _ _ h => h) (fun K hK => ?_); apply Exists.intro; refine ⟨fun _ w' _ hC => ?_, ?_⟩; ((skip); go_simp; try with_reducible rfl); (try go_simp); refine hK _ ?_; clear hK K)
      (refine wpC_read rfl (fun _ _ _ h => h) (fun K hK => ?_); apply Exists.intro; refine ⟨fun _ w' _ hC => ?_, ?_⟩; ((skip); go_simp; try with_reducible rfl); (try go_simp); refine hK _ ?_; clear hK K)
      (refine wpC_read rfl (fun _ _ _ h => h) (fun K hK => ?_); apply Exists.intro; refine ⟨fun _ w' _ hC => ?_, ?_⟩; ((skip); go_simp; try with_reducible rfl); (try go_simp); refine hK _ ?_; clear hK K)
      (refine wpC_read rfl (fun _ _ _ h => h) (fun K hK => ?_); apply Exists.intro; refine ⟨fun _ w' _ hC => ?_, ?_⟩; ((skip); go_simp; try with_reducible rfl); (try go_simp); refine hK _ ?_; clear hK K)
      (refine wpC_read rfl (fun _ _ _ h => h) (fun K hK => ?_); apply Exists.intro; refine ⟨fun _ w' _ hC => ?_, ?_⟩; ((skip); go_simp; try with_reducible rfl); (try go_simp); refine hK _ ?_; clear hK K)
      (refine wpC_read rfl (fun _ _ _ h => h) (fun K hK => ?_); apply Exists.intro; refine ⟨fun _ w' _ hC => ?_, ?_⟩; ((skip); go_simp; try with_reducible rfl); (try go_simp); refine hK _ ?_; clear hK K)
      (refine wpC_read rfl (fun _ _ _ h => h) (fun K hK => ?_); apply Exists.intro; refine ⟨fun _ w' _ hC => ?_, ?_⟩; ((skip); go_simp; try with_reducible rfl); (try go_simp); refine hK _ ?_; clear hK K)
      (refine wpC_read rfl (fun _ _ _ h => h) (fun K hK => ?_); apply Exists.intro; refine ⟨fun _ w' _ hC => ?_, ?_⟩; ((skip); go_simp; try with_reducible rfl); (try go_simp); refine hK _ ?_; clear hK K)
      (refine wpC_read rfl (fun _ _ _ h => h) (fun K hK => ?_); apply Exists.intro; refine ⟨fun _ w' _ hC => ?_, ?_⟩; ((skip); go_simp; try with_reducible rfl); (try go_simp); refine hK _ ?_; clear hK K)
      (refine wpC_read rfl (fun _ _ _ h => h) (fun K hK => ?_); apply Exists.intro; refine ⟨fun _ w' _ hC => ?_, ?_⟩; ((obtain ⟨q0, q1, q2, c0, n0⟩ := HFX.out w' hC); go_simp; try with_reducible rfl); (try go_simp); refine hK _ ?_; clear hK K)
      (refine wpC_read rfl (fun _ _ _ h => h) (fun K hK => ?_); apply Exists.intro; refine ⟨fun _ w' _ hC => ?_, ?_⟩; ((skip); go_simp; try with_reducible rfl); (try go_simp); refine hK _ ?_; clear hK K)
      (refine wpC_read rfl (fun _ _ _ h => h) (fun K hK => ?_); apply Exists.intro; refine ⟨fun _ w' _ hC => ?_, ?_⟩; ((skip); go_simp; try with_reducible rfl); (try go_simp); refine hK _ ?_; clear hK K)
      (refine wpC_read rfl (fun _ _ _ h => h) (fun K hK => ?_); apply Exists.intro; refine ⟨fun _ w' _ hC => ?_, ?_⟩; ((skip); go_simp; try with_reducible rfl); (try go_simp); refine hK _ ?_; clear hK K)
      (refine wpC_read rfl (fun _ _ _ h => h) (fun K hK => ?_); apply Exists.intro; refine ⟨fun _ w' _ hC => ?_, ?_⟩; ((skip); go_simp; try with_reducible rfl); (try go_simp); refine hK _ ?_; clear hK K)
      (refine wpC_read rfl (fun _ _ _ h => h) (fun K hK => ?_); apply Exists.intro; refine ⟨fun _ w' _ hC => ?_, ?_⟩; ((skip); go_simp; try with_reducible rfl); (try go_simp); refine hK _ ?_; clear hK K)
      (refine wpC_read rfl (fun _ _ _ h => h) (fun K hK => ?_); apply Exists.intro; refine ⟨fun _ w' _ hC => ?_, ?_⟩; ((obtain ⟨q0, q1, q2, c0, n0⟩ := HFX.out w' hC); go_simp; try with_reducible rfl); (try go_simp); refine hK _ ?_; clear hK K)
      (refine wpC_read rfl (fun _ _ _ h => h) (fun K hK => ?_); apply Exists.intro; refine ⟨fun _ w' _ hC => ?_, ?_⟩; ((skip); go_simp; try with_reducible rfl); (try go_simp); refine hK _ ?_; clear hK K)
      (refine wpC_read rfl (fun _ _ _ h => h) (fun K hK => ?_); apply Exists.intro; refine ⟨fun _ w' _ hC => ?_, ?_⟩; ((skip); go_simp; try with_reducible rfl); (try go_simp); refine hK _ ?_; clear hK K)
      (refine wpC_read rfl (fun _ _ _ h => h) (fun K hK => ?_); apply Exists.intro; refine ⟨fun _ w' _ hC => ?_, ?_⟩; ((obtain ⟨q0, q1, q2, c0, n0⟩ := HFX.out w' hC); go_simp; try with_reducible rfl); (try go_simp); refine hK _ ?_; clear hK K)
      (refine wpC_read rfl (fun _ _ _ h => h) (fun K hK => ?_); apply Exists.intro; refine ⟨fun _ w' _ hC => ?_, ?_⟩; ((skip); go_simp; try with_reducible rfl); (try go_simp); refine hK _ ?_; clear hK K)
      (refine wpC_read rfl (fun _ _ _ h => h) (fun K hK => ?_); apply Exists.intro; refine ⟨fun _ w' _ hC => ?_, ?_⟩; ((skip); go_simp; try with_reducible rfl); (try go_simp); refine hK _ ?_; clear hK K)
      (refine wpC_read rfl (fun _ _ _ h => h) (fun K hK => ?_); apply Exists.intro; refine ⟨fun _ w' _ hC => ?_, ?_⟩; ((skip); go_simp; try with_reducible rfl); (try go_simp); refine hK _ ?_; clear hK K)
      (refine wpC_read rfl (fun _ _ _ h => h) (fun K hK => ?_); apply Exists.intro; refine ⟨fun _ w' _ hC => ?_, ?_⟩; ((skip); go_simp; try with_reducible rfl); (try go_simp); refine hK _ ?_; clear hK K)
      (refine wpC_read rfl (fun _ _ _ h => h) (fun K hK => ?_); apply Exists.intro; refine ⟨fun _ w' _ hC => ?_, ?_⟩; ((obtain ⟨q0, q1, q2, c0, n0⟩ := HFX.out w' hC); go_simp; try with_reducible rfl); (try go_simp); refine hK _ ?_; clear hK K)
      (refine wpC_read rfl (fun _ _ _ h => h) (fun K hK => ?_); apply Exists.intro; refine ⟨fun _ w' _ hC => ?_, ?_⟩; ((skip); go_simp; try with_reducible rfl); (try go_simp); refine hK _ ?_; clear hK K)
      (refine wpC_read rfl (fun _ _ _ h => h) (fun K hK => ?_); apply Exists.intro; refine ⟨fun _ w' _ hC => ?_, ?_⟩; ((skip); go_simp; try with_reducible rfl); (try go_simp); refine hK _ ?_; clear hK K)
      (refine wpC_read rfl (fun _ _ _ h => h) (fun K hK => ?_); apply Exists.intro; refine ⟨fun _ w' _ hC => ?_, ?_⟩; ((obtain ⟨q0, q1, q2, c0, n0⟩ := HFX.out w' hC); go_simp; try with_reducible rfl); (try go_simp); refine hK _ ?_; clear hK K)
      (refine wpC_read rfl (fun _ _ _ h => h) (fun K hK => ?_); apply Exists.intro; refine ⟨fun _ w' _ hC => ?_, ?_⟩; ((skip); go_simp; try with_reducible rfl); (try go_simp); refine hK _ ?_; clear hK K)
      (refine wpC_read rfl (fun _ _ _ h => h) (fun K hK => ?_); apply Exists.intro; refine ⟨fun _ w' _ hC => ?_, ?_⟩; ((obtain ⟨q0, q1, q2, c0, n0⟩ := HFX.out w' hC); go_simp; try with_reducible rfl); (try go_simp); refine hK _ ?_; clear hK K)
      (refine wpC_read rfl (fun _ _ _ h => h) (fun K hK => ?_); apply Exists.intro; refine ⟨fun _ w' _ hC => ?_, ?_⟩; ((skip); go_simp; try with_reducible rfl); (try go_simp); refine hK _ ?_; clear hK K)
      (refine wpC_read rfl (fun _ _ _ h => h) (fun K hK => ?_); apply Exists.intro; refine ⟨fun _ w' _ hC => ?_, ?_⟩; ((skip); go_simp; try with_reducible rfl); (try go_simp); refine hK _ ?_; clear hK K)
      (refine wpC_read rfl (fun _ _ _ h => h) (fun K hK => ?_); apply Exists.intro; refine ⟨fun _ w' _ hC => ?_, ?_⟩; ((obtain ⟨q0, q1, q2, c0, n0⟩ := HFX.out w' hC); go_simp; try with_reducible rfl); (try go_simp); refine hK _ ?_; clear hK K)
      (refine wpC_read rfl (fun _ _ _ h => h) (fun K hK => ?_); apply Exists.intro; refine ⟨fun _ w' _ hC => ?_, ?_⟩; ((skip); go_simp; try with_reducible rfl); (try go_simp); refine hK _ ?_; clear hK K)
      (refine wpC_read rfl (fun _ _ _ h => h) (fun K hK => ?_); apply Exists.intro; refine ⟨fun _ w' _ hC => ?_, ?_⟩; ((skip); go_simp; try with_reducible rfl); (try go_simp); refine hK _ ?_; clear hK K)
      (refine wpC_read rfl (fun _ _ _ h => h) (fun K hK => ?_); apply Exists.intro; refine ⟨fun _ w' _ hC => ?_, ?_⟩; ((skip); go_simp; try with_reducible rfl); (try go_simp); refine hK _ ?_; clear hK K)
      refine wpC_nil ?_
      intro w2 hC2
      have HC2 := Lib.hid (HC1.out.trans hC2)
      clear hC2
      go_wp2
      go_ret
      exact ⟨by rw [HS.out]; rfl, HCT.out.trans HC2.out⟩
    · have HS := Lib.hid g4
      have HY := Lib.hid g3
      have d5 : decide ((k : Int) < 0) = false := by simp <;> omega
      have d6 : decide ((l.length : Int) ≤ (k : Int)) = false := by simp; omega
      have d6' : decide (l.length ≤ k) = false := by simp; omega
      clear g4 g3
      go_enter Tryd.func39, Tryd.ntmps39
      go_upto_region 1 with (fail)
      rw [← HWT.out]
      go_wp2_with fail
      refine (refClass_any t.r ra rc B x wt (HR.out.same HCT.out) fr).mono ?_
      rintro e w1 ⟨rfl, h1c⟩
      rw [HCL.out]
      have HC1 := Lib.hid h1c
      clear h1c q0 q1 q2
      obtain ⟨cv', gc, oc, hcv, rfl, c0, cv0, cv1, -, -⟩ := (HC.out.same (HCT.out.trans HC1.out)).getI (show i < t.c.length by omega)
      rw [HCV.out] at hcv
      obtain rfl := Option.some.inj hcv
      obtain ⟨l', gn, on, la, lc, gl, ol, hlv, rfl, n0, hlc, hlb, hla, -, -⟩ := (HN.out.same (HCT.out.trans HC1.out)).get (show s < t.n.length by omega)
      rw [HLV.out] at hlv
      obtain rfl := Option.some.inj hlv
      obtain ⟨rfl, -⟩ := hla (by omega)
      have HY0 := Lib.hid (hlb.c k y HY.out).1
      clear hlb hla
      have HFX : Hid (∀ wx, Chg (fun _ => False) w1 wx → wx.cell? ⟨w.heap.size, 0, none⟩ = some (.slice ra t.r.length rc) ∧ wx.cell? ⟨w.heap.size, 1, none⟩ = some (.slice (some ⟨gc, oc, none⟩) t.c.length cc) ∧ wx.cell? ⟨w.heap.size, 2, none⟩ = some (.slice (some ⟨gn, on, none⟩) t.n.length nc) ∧ wx.cell? ⟨gc, oc + i, none⟩ = some (.int .i64 k) ∧ wx.cell? ⟨gn, on + s, none⟩ = some (.slice (some ⟨gl, ol, none⟩) l.length lc)) := Lib.hid (fun wx hx => ⟨(HBX.out wx (HC1.out.trans hx)).1, (HBX.out wx (HC1.out.trans hx)).2.1, (HBX.out wx (HC1.out.trans hx)).2.2, hx.cellS c0 (fun h => h), hx.cellS n0 (fun h => h)⟩)
      clear c0 n0 
      go_upto_region 2 with (fail)
      refine wp_region_same (fun w' => Chg (fun _ => False) w1 w') (by kernel_rfl) (by kernel_rfl) ?_ ?_
      · exact (Chg.refl _ _).drew
      (refine wpC_read rfl (fun _ _ _ h => h) (fun K hK => ?_); apply Exists.intro; refine ⟨fun _ w' _ hC => ?_, ?_⟩; ((skip); go_simp; try with_reducible rfl); (try go_simp); refine hK _ ?_; clear hK K)
      (refine wpC_read rfl (fun _ _ _ h => h) (fun K hK => ?_); apply Exists.intro; refine ⟨fun _ w' _ hC => ?_, ?_⟩; ((skip); go_simp; try with_reducible rfl); (try go_simp); refine hK _ ?_; clear hK K)
      (refine wpC_read rfl (fun _ _ _ h => h) (fun K hK => ?_); apply Exists.intro; refine ⟨fun _ w' _ hC => ?_, ?_⟩; ((skip); go_simp; try with_reducible rfl); (try go_simp); refine hK _ ?_; clear hK K)
      (refine wpC_read rfl (fun _ _ _ h => h) (fun K hK => ?_); apply Exists.intro; refine ⟨fun _ w' _ hC => ?_, ?_⟩; ((skip); go_simp; try with_reducible rfl); (try go_simp); refine hK _ ?_; clear hK K)
      (refine wpC_read rfl (fun _ _ _ h => h) (fun K hK => ?_); apply Exists.intro; refine ⟨fun _ w' _ hC => ?_, ?_⟩; ((skip); go_simp; try with_reducible rfl); (try go_simp); refine hK _ ?_; clear hK K)
      (refine wpC_read rfl (fun _ _ _ h => h) (fun K hK => ?_); apply Exists.intro; refine ⟨fun _ w' _ hC => ?_, ?_⟩; ((obtain ⟨q0, q1, q2, c0, n0⟩ := HFX.out w' hC); go_simp; try with_reducible rfl); (try go_simp); refine hK _ ?_; clear hK K)
      (refine wpC_read rfl (fun _ _ _ h => h) (fun K hK => ?_); apply Exists.intro; refine ⟨fun _ w' _ hC => ?_, ?_⟩; ((skip); go_simp; try with_reducible rfl); (try go_simp); refine hK _ ?_; clear hK K)
      (refine wpC_read rfl (fun _ _ _ h => h) (fun K hK => ?_); apply Exists.intro; refine ⟨fun _ w' _ hC => ?_, ?_⟩; ((skip); go_simp; try with_reducible rfl); (try go_simp); refine hK _ ?_; clear hK K)
      (refine wpC_read rfl (fun _ _ _ h => h) (fun K hK => ?_); apply Exists.intro; refine ⟨fun _ w' _ hC => ?_, ?_⟩; ((skip); go_simp; try with_reducible rfl); (try go_simp); refine hK _ ?_; clear hK K)
      (refine wpC_read rfl (fun _ _ _ h => h) (fun K hK => ?_); apply Exists.intro; refine ⟨fun _ w' _ hC => ?_, ?_⟩; ((skip); go_simp; try with_reducible rfl); (try go_simp); refine hK _ ?_; clear hK K)
      (refine wpC_read rfl (fun _ _ _ h => h) (fun K hK => ?_); apply Exists.intro; refine ⟨fun _ w' _ hC => ?_, ?_⟩; ((skip); go_simp; try with_reducible rfl); (try go_simp); refine hK _ ?_; clear hK K)
      (refine wpC_read rfl (fun _ _ _ h => h) (fun K hK => ?_); apply Exists.intro; refine ⟨fun _ w' _ hC => ?_, ?_⟩; ((skip); go_simp; try with_reducible rfl); (try go_simp); refine hK _ ?_; clear hK K)
      (refine wpC_read rfl (fun _ _ _ h => h) (fun K hK => ?_); apply Exists.intro; refine ⟨fun _ w' _ hC => ?_, ?_⟩; ((skip); go_simp; try with_reducible rfl); (try go_simp); refine hK _ ?_; clear hK K)
      (refine wpC_read rfl (fun _ _ _ h => h) (fun K hK => ?_); apply Exists.intro; refine ⟨fun _ w' _ hC => ?_, ?_⟩; ((skip); go_simp; try with_reducible rfl); (try go_simp); refine hK _ ?_; clear hK K)
      (refine wpC_read rfl (fun _ _ _ h => h) (fun K hK => ?_); apply Exists.intro; refine ⟨fun _ w' _ hC => ?_, ?_⟩; ((skip); go_simp; try with_reducible rfl); (try go_simp); refine hK _ ?_; clear hK K)
      (refine wpC_read rfl (fun _ _ _ h => h) (fun K hK => ?_); apply Exists.intro; refine ⟨fun _ w' _ hC => ?_, ?_⟩; ((skip); go_simp; try with_reducible rfl); (try go_simp); refine hK _ ?_; clear hK K)
      (refine wpC_read rfl (fun _ _ _ h => h) (fun K hK => ?_); apply Exists.intro; refine ⟨fun _ w' _ hC => ?_, ?_⟩; ((obtain ⟨q0, q1, q2, c0, n0⟩ := HFX.out w' hC); go_simp; try with_reducible rfl); (try go_simp); refine hK _ ?_; clear hK K)
      (refine wpC_read rfl (fun _ _ _ h => h) (fun K hK => ?_); apply Exists.intro; refine ⟨fun _ w' _ hC => ?_, ?_⟩; ((skip); go_simp; try with_reducible rfl); (try go_simp); refine hK _ ?_; clear hK K)
      (refine wpC_read rfl (fun _ _ _ h => h) (fun K hK => ?_); apply Exists.intro; refine ⟨fun _ w' _ hC => ?_, ?_⟩; ((skip); go_simp; try with_reducible rfl); (try go_simp); refine hK _ ?_; clear hK K)
      (refine wpC_read rfl (fun _ _ _ h => h) (fun K hK => ?_); apply Exists.intro; refine ⟨fun _ w' _ hC => ?_, ?_⟩; ((skip); go_simp; try with_reducible rfl); (try go_simp); refine hK _ ?_; clear hK K)
      (refine wpC_read rfl (fun _ _ _ h => h) (fun K hK => ?_); apply Exists.intro; refine ⟨fun _ w' _ hC => ?_, ?_⟩; ((skip); go_simp; try with_reducible rfl); (try go_simp); refine hK _ ?_; clear hK K)
      (refine wpC_read rfl (fun _ _ _ h => h) (fun K hK => ?_); apply Exists.intro; refine ⟨fun _ w' _ hC => ?_, ?_⟩; ((skip); go_simp; try with_reducible rfl); (try go_simp); refine hK _ ?_; clear hK K)
      (refine wpC_read rfl (fun _ _ _ h => h) (fun K hK => ?_); apply Exists.intro; refine ⟨fun _ w' _ hC => ?_, ?_⟩; ((obtain ⟨q0, q1, q2, c0, n0⟩ := HFX.out w' hC); go_simp; try with_reducible rfl); (try go_simp); refine hK _ ?_; clear hK K)
      (refine wpC_read rfl (fun _ _ _ h => h) (fun K hK => ?_); apply Exists.intro; refine ⟨fun _ w' _ hC => ?_, ?_⟩; ((skip); go_simp; try with_reducible rfl); (try go_simp); refine hK _ ?_; clear hK K)
      (refine wpC_read rfl (fun _ _ _ h => h) (fun K hK => ?_); apply Exists.intro; refine ⟨fun _ w' _ hC => ?_, ?_⟩; ((skip); go_simp; try with_reducible rfl); (try go_simp); refine hK _ ?_; clear hK K)
      (refine wpC_read rfl (fun _ _ _ h => h) (fun K hK => ?_); apply Exists.intro; refine ⟨fun _ w' _ hC => ?_, ?_⟩; ((obtain ⟨q0, q1, q2, c0, n0⟩ := HFX.out w' hC); go_simp; try with_reducible rfl); (try go_simp); refine hK _ ?_; clear hK K)
      (refine wpC_read rfl (fun _ _ _ h => h) (fun K hK => ?_); apply Exists.intro; refine ⟨fun _ w' _ hC => ?_, ?_⟩; ((skip); go_simp; try with_reducible rfl); (try go_simp); refine hK _ ?_; clear hK K)
      (refine wpC_read rfl (fun _ _ _ h => h) (fun K hK => ?_); apply Exists.intro; refine ⟨fun _ w' _ hC => ?_, ?_⟩; ((skip); go_simp; try with_reducible rfl); (try go_simp); refine hK _ ?_; clear hK K)
      (refine wpC_read rfl (fun _ _ _ h => h) (fun K hK => ?_); apply Exists.intro; refine ⟨fun _ w' _ hC => ?_, ?_⟩; ((skip); go_simp; try with_reducible rfl); (try go_simp); refine hK _ ?_; clear hK K)
      (refine wpC_read rfl (fun _ _ _ h => h) (fun K hK => ?_); apply Exists.intro; refine ⟨fun _ w' _ hC => ?_, ?_⟩; ((skip); go_simp; try with_reducible rfl); (try go_simp); refine hK _ ?_; clear hK K)
      (refine wpC_read rfl (fun _ _ _ h => h) (fun K hK => ?_); apply Exists.intro; refine ⟨fun _ w' _ hC => ?_, ?_⟩; ((obtain ⟨q0, q1, q2, c0, n0⟩ := HFX.out w' hC); go_simp; try with_reducible rfl); (try go_simp); refine hK _ ?_; clear hK K)
      (refine wpC_read rfl (fun _ _ _ h => h) (fun K hK => ?_); apply Exists.intro; refine ⟨fun _ w' _ hC => ?_, ?_⟩; ((skip); go_simp; try with_reducible rfl); (try go_simp); refine hK _ ?_; clear hK K)
      (refine wpC_read rfl (fun _ _ _ h => h) (fun K hK => ?_); apply Exists.intro; refine ⟨fun _ w' _ hC => ?_, ?_⟩; ((skip); go_simp; try with_reducible rfl); (try go_simp); refine hK _ ?_; clear hK K)
      (refine wpC_read rfl (fun _ _ _ h => h) (fun K hK => ?_); apply Exists.intro; refine ⟨fun _ w' _ hC => ?_, ?_⟩; ((obtain ⟨q0, q1, q2, c0, n0⟩ := HFX.out w' hC); go_simp; try with_reducible rfl); (try go_simp); refine hK _ ?_; clear hK K)
      (refine wpC_read rfl (fun _ _ _ h => h) (fun K hK => ?_); apply Exists.intro; refine ⟨fun _ w' _ hC => ?_, ?_⟩; ((skip); go_simp; try with_reducible rfl); (try go_simp); refine hK _ ?_; clear hK K)
      (refine wpC_read rfl (fun _ _ _ h => h) (fun K hK => ?_); apply Exists.intro; refine ⟨fun _ w' _ hC => ?_, ?_⟩; ((obtain ⟨q0, q1, q2, c0, n0⟩ := HFX.out w' hC); go_simp; try with_reducible rfl); (try go_simp); refine hK _ ?_; clear hK K)
      (refine wpC_read rfl (fun _ _ _ h => h) (fun K hK => ?_); apply Exists.intro; refine ⟨fun _ w' _ hC => ?_, ?_⟩; ((skip); go_simp; try with_reducible rfl); (try go_simp); refine hK _ ?_; clear hK K)
      (refine wpC_read rfl (fun _ _ _ h => h) (fun K hK => ?_); apply Exists.intro; refine ⟨fun _ w' _ hC => ?_, ?_⟩; ((skip); go_simp; try with_reducible rfl); (try go_simp); refine hK _ ?_; clear hK K)
      (refine wpC_read rfl (fun _ _ _ h => h) (fun K hK => ?_); apply Exists.intro; refine ⟨fun _ w' _ hC => ?_, ?_⟩; ((obtain ⟨q0, q1, q2, c0, n0⟩ := HFX.out w' hC); go_simp; try with_reducible rfl); (try go_simp); refine hK _ ?_; clear hK K)
      (refine wpC_read rfl (fun _ _ _ h => h) (fun K hK => ?_); apply Exists.intro; refine ⟨fun _ w' _ hC => ?_, ?_⟩; ((skip); go_simp; try with_reducible rfl); (try go_simp); refine hK _ ?_; clear hK K)
      (refine wpC_read rfl (fun _ _ _ h => h) (fun K hK => ?_); apply Exists.intro; refine ⟨fun _ w' _ hC => ?_, ?_⟩; ((skip); go_simp; try with_reducible rfl); (try go_simp); refine hK _ ?_; clear hK K)
      (refine wpC_read rfl (fun _ _ _ h => h) (fun K hK => ?_); apply Exists.intro; refine ⟨fun _ w' _ hC => ?_, ?_⟩; ((skip); go_simp; try with_reducible rfl); (try go_simp); refine hK _ ?_; clear hK K)
      refine wpC_nil ?_
      intro w2 hC2
      have HC2 := Lib.hid (HC1.out.trans hC2)
      have y0 := hC2.cellS HY0.out (fun h => h)
      obtain ⟨q0, q1, q2, c0, n0⟩ := HFX.out w2 hC2
      clear hC2
      go_wp2
      go_upto_region 4 with (fail)
      go_still (by kernel_rfl)
      go_wp2
      go_ret
      exact ⟨by rw [HS.out]; rfl, HCT.out.trans HC2.out.drew⟩
end Go.Proofs.YtfhmblbomkhcpaaDoor
