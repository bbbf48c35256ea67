/- A lexer by a table: the program's New (printed by wip/gen/newp.py). -/
import Derived.Test.YtfhmblbomkhcpaaDoorNewA
namespace Go.Proofs.YtfhmblbomkhcpaaDoor
open Go.RowKit

theorem OwnT.start {bo B : Nat} {w : World} {R : List (Int × Int)} {C : List Int} {E : List Int} {v0 v1 v3 : Value} (c0 : w.cell? ⟨bo, 0, none⟩ = some v0) (c1 : w.cell? ⟨bo, 1, none⟩ = some v1) (c2 : w.cell? ⟨bo, 2, none⟩ = some (.slice none 0 0)) (c3 : w.cell? ⟨bo, 3, none⟩ = some v3)
    (z2 : w.frozen? ⟨bo, 2, none⟩ = false) (r : rngE.Own w B v0 R) (c : intE.Own w B v1 C) (e : intE.Own w B v3 E) (hB : B ≤ bo) (hb : (∀ g, v0.ownBlock = some g → g ≠ bo) ∧ (∀ g, v1.ownBlock = some g → g ≠ bo) ∧ (∀ g, v3.ownBlock = some g → g ≠ bo)) : OwnT bo B w R C [] E v0 v1 (.slice none 0 0) v3 :=
  ⟨c0, c1, c2, c3, z2, r, c, ⟨[], .nil _ _, rfl, (fun j x l hx => by simp at hx)⟩, e, hB, (fun g hg => by cases hg), hb⟩
/-- A variable of four cells is written over. -/
theorem store4 {W : World} {b : Nat} {u0 u1 u2 u3 : Value} (v0 v1 v2 v3 : Value) (h0 : W.cell? ⟨b, 0, none⟩ = some u0) (h1 : W.cell? ⟨b, 1, none⟩ = some u1) (h2 : W.cell? ⟨b, 2, none⟩ = some u2) (h3 : W.cell? ⟨b, 3, none⟩ = some u3) :
    let V := (((W.setCell ⟨b, 0, none⟩ v0).setCell ⟨b, 1, none⟩ v1).setCell ⟨b, 2, none⟩ v2).setCell ⟨b, 3, none⟩ v3
    V.cell? ⟨b, 0, none⟩ = some v0 ∧ V.cell? ⟨b, 1, none⟩ = some v1 ∧ V.cell? ⟨b, 2, none⟩ = some v2 ∧ V.cell? ⟨b, 3, none⟩ = some v3 ∧ Chg (· = b) W V ∧ V.frozen? ⟨b, 2, none⟩ = W.frozen? ⟨b, 2, none⟩ := by
  obtain ⟨k0, k1, k2, k4⟩ := store3 v0 v1 v2 h0 h1 h2
  have k3 : (((W.setCell ⟨b, 0, none⟩ v0).setCell ⟨b, 1, none⟩ v1).setCell ⟨b, 2, none⟩ v2).cell? ⟨b, 3, none⟩ = some u3 := by
    rw [World.cell?_setCell_other _ _ _ _ (by intro e; injection e with _ e; cases e), World.cell?_setCell_other _ _ _ _ (by intro e; injection e with _ e; cases e), World.cell?_setCell_other _ _ _ _ (by intro e; injection e with _ e; cases e)]
    exact h3
  refine ⟨?_, ?_, ?_, World.cell?_setCell_same _ _ _ k3, k4.trans (setCellChg _ _ _ _), ?_⟩
  · rw [World.cell?_setCell_other _ _ _ _ (by intro e; injection e with _ e; cases e)]; exact k0
  · rw [World.cell?_setCell_other _ _ _ _ (by intro e; injection e with _ e; cases e)]; exact k1
  · rw [World.cell?_setCell_other _ _ _ _ (by intro e; injection e with _ e; cases e)]; exact k2
  · simp only [World.frozen?_setCell]
theorem gives_drop (b : Nat) (n : Nat) (da : Option Addr) (dc : Nat) (w : World) (h : w.cell? ⟨b, 0, none⟩ = some (.slice da n dc)) : GivesI 27 #[.pointer (some ⟨b, 0, none⟩)] (badDrop n) w := by
  intro x w' hx hc
  have h2 := hc.cellS h (fun h => h)
  show Calls Tryd.prog 27 #[.int .i64 x, .pointer (some ⟨b, 0, none⟩)] w' _
  go_enter Tryd.func27, Tryd.ntmps27
  go_wp2
  go_ret
  exact ⟨rfl, Chg.refl _ _⟩

/-- What the program's New answers. -/
def NewPostP (t : TabD) (d : List Bool) (w : World) (e : Ending) (w' : World) : Prop :=
  if newOk t d = true then ∃ b rs cs ns es ds, e = .returned (.tuple #[.pointer (some ⟨b, 0, none⟩), .int .i64 0]) ∧ LexAt w' b w.heap.size rs cs ns es ds t d ∧ w.heap.size ≤ b ∧ b < w'.heap.size ∧ Chg (fun _ => False) w w'
  else e = .returned (.tuple #[.pointer none, .int .i64 1]) ∧ Chg (fun _ => False) w w'
theorem NewPostP.bad {t : TabD} {d : List Bool} {w w' : World} (h : newOk t d = false) (hc : Chg (fun _ => False) w w') : NewPostP t d w (.returned (.tuple #[.pointer none, .int .i64 1])) w' := by
  unfold NewPostP
  rw [if_neg (by rw [h]; decide)]
  exact ⟨rfl, hc⟩
set_option maxRecDepth 100000 in
set_option maxHeartbeats 8000000 in
theorem new_any (t : TabD) (d : List Bool) (rs cs ns es ds : Sl) (B : Nat) (w : World) (h : TabIn w B rs cs ns es t) (hf : Fair t) (hd : boolE.In w B ds d) (hdl : d.length ≤ 1000000000) :
    Calls Tryd.prog 10 #[tabV rs cs ns es, slV ds] w (NewPostP t d w) := by
  have HTB := Lib.hid h
  have HD := Lib.hid hd
  have HFR := Lib.hid hf
  obtain ⟨ra, rn, rc⟩ := rs
  obtain ⟨ca, cn, cc⟩ := cs
  obtain ⟨na, nn, nc⟩ := ns
  obtain ⟨ea, en, ec⟩ := es
  obtain ⟨da, dn, dc⟩ := ds
  obtain ⟨rfl, hr1⟩ := h.r.len
  obtain ⟨rfl, hc1⟩ := h.c.len
  obtain ⟨rfl, hn1⟩ := h.n.len
  obtain ⟨rfl, he1⟩ := h.e.len
  obtain ⟨rfl, hd1⟩ := hd.len
  have fr := hf.r
  have fc := hf.c
  have fn := hf.n
  have fe := hf.e
  clear h hd hf
  obtain ⟨wt, hwt⟩ : ∃ x, x = w.alloc (.cells #[.slice ra t.r.length rc, .slice ca t.c.length cc, .slice na t.n.length nc, .slice ea t.e.length ec] 26) := ⟨_, rfl⟩
  obtain ⟨wz, hwz⟩ : ∃ x, x = wt.alloc (.cells #[.slice da d.length dc] 27) := ⟨_, rfl⟩
  have hst : wt.heap.size = w.heap.size + 1 := by rw [hwt]; simp
  have HC0 : Hid (Chg (fun _ => False) w wz) := Lib.hid (by rw [hwz, hwt]; exact ((Chg.refl _ _).alloc _).alloc _)
  have HT0 : Hid (∀ wx, Chg (fun _ => False) wz wx → (wx.cell? ⟨w.heap.size, 0, none⟩ = some (.slice ra t.r.length rc) ∧ wx.cell? ⟨w.heap.size, 1, none⟩ = some (.slice ca t.c.length cc) ∧ wx.cell? ⟨w.heap.size, 2, none⟩ = some (.slice na t.n.length nc) ∧ wx.cell? ⟨w.heap.size, 3, none⟩ = some (.slice ea t.e.length ec)) ∧ wx.cell? ⟨w.heap.size + 1, 0, none⟩ = some (.slice da d.length dc)) := Lib.hid (fun wx hx => by
    rw [← hst]
    have h1 : Chg (fun _ => False) wt wx := by rw [hwz] at hx; exact ((Chg.refl _ wt).alloc _).trans hx
    refine ⟨?_, ?_⟩
    · subst hwt
      exact (tabBox w (ra, t.r.length, rc) (ca, t.c.length, cc) (na, t.n.length, nc) (ea, t.e.length, ec) 26).chg h1 (fun h => h)
    · subst hwz
      exact hx.cellS (by simp) (fun h => h))
  have HWT := Lib.hid hwt
  have HWZ := Lib.hid hwz
  have HST := Lib.hid hst
  obtain ⟨⟨q0, q1, q2, q3⟩, q4⟩ := HT0.out wz (Chg.refl _ _)
  clear hwt hwz hst
  have eg := enters_of Tryd.func27 (by kernel_rfl) rfl
  show Calls Tryd.prog 10 #[.agg #[.slice ra t.r.length rc, .slice ca t.c.length cc, .slice na t.n.length nc, .slice ea t.e.length ec], .slice da d.length dc] w _
  cases hm : mayT t with
  | false =>
    have HM := Lib.hid hm
    have HF := Lib.hid (newOk_bad (d := d) hm)
    clear hm
    go_enter Tryd.func10, Tryd.ntmps10
    go_upto_region 1 with (fail)
    rw [← HWT.out]
    rw [← HWZ.out]
    go_wp2_with fail
    refine (may_any t (ra, t.r.length, rc) (ca, t.c.length, cc) (na, t.n.length, nc) (ea, t.e.length, ec) B _ (HTB.out.same HC0.out) HFR.out).mono ?_
    rintro e w1 ⟨rfl, hc⟩
    rw [HM.out]
    have HC1 := Lib.hid (HC0.out.trans hc)
    have HT1 := Lib.hid (fun wx (hx : Chg (fun _ => False) w1 wx) => HT0.out wx (hc.trans hx))
    clear hc q0 q1 q2 q3 q4
    go_wp2
    go_ret2
    exact NewPostP.bad HF.out HC1.out
  | true =>
    have HM := Lib.hid hm
    clear hm
    go_enter Tryd.func10, Tryd.ntmps10
    go_upto_region 1 with (fail)
    rw [← HWT.out]
    rw [← HWZ.out]
    go_wp2_with fail
    refine (may_any t (ra, t.r.length, rc) (ca, t.c.length, cc) (na, t.n.length, nc) (ea, t.e.length, ec) B _ (HTB.out.same HC0.out) HFR.out).mono ?_
    rintro e w1 ⟨rfl, hc⟩
    rw [HM.out]
    have HC1 := Lib.hid (HC0.out.trans hc)
    have HT1 := Lib.hid (fun wx (hx : Chg (fun _ => False) w1 wx) => HT0.out wx (hc.trans hx))
    clear hc q0 q1 q2 q3 q4
    obtain ⟨⟨q0, q1, q2, q3⟩, q4⟩ := HT1.out w1 (Chg.refl _ _)
    have HG := Lib.hid (gives_drop (w.heap.size + 1) d.length da dc w1 q4)
    go_wp2_with fail
    refine (containsI_any _ _ (badDrop d.length) t.e ea ec B w1 eg (HTB.out.same HC1.out).e HG.out fe).mono ?_
    rintro e w2 ⟨rfl, hc⟩
    have HC2 := Lib.hid (HC1.out.trans hc)
    have HT2 := Lib.hid (fun wx (hx : Chg (fun _ => False) w2 wx) => HT1.out wx (hc.trans hx))
    clear hc q0 q1 q2 q3 q4 eg
    obtain ⟨⟨q0, q1, q2, q3⟩, q4⟩ := HT2.out w2 (Chg.refl _ _)
    cases hb : t.e.any (badDrop d.length) with
    | true =>
      have HF : Hid (newOk t d = false) := Lib.hid (by unfold newOk; rw [hb, Bool.not_true, Bool.and_false])
      clear hb
      go_wp2
      go_ret2
      exact NewPostP.bad HF.out HC2.out
    | false =>
      have HF : Hid (newOk t d = true) := Lib.hid (by unfold newOk; rw [hb, HM.out]; rfl)
      clear hb
      go_upto_region 3 with (fail)
      go_cut [6] (fun s6 wx => ∃ (bo : Nat) (v0 v1 v3 : Value), s6 = .pointer (some ⟨bo, 0, none⟩) ∧ OwnT bo w2.heap.size wx t.r t.c [] t.e v0 v1 (.slice none 0 0) v3 ∧ Chg (fun _ => False) w2 wx)
      case first =>
        refine wp_region_held (S := Chg (fun _ => False) w2) (by kernel_rfl) ?_
        show wpAnyH _ _ _ _ _ 12 (Array.replicate 12 false) _ w2.drew
        obtain ⟨wd, hwd⟩ : ∃ x, w2.drew = x := ⟨_, rfl⟩
        have HSS : Hid (Chg (fun _ => False) w2 wd) := Lib.hid (by rw [← hwd]; exact (Chg.refl _ _).drew)
        rw [hwd]
        clear hwd q0 q1 q2 q3 q4
        (refine held_read (i := 0) rfl (by kernel_rfl) (by kernel_rfl) (by kernel_rfl) (fun _ _ _ _ h => h) rfl HSS.out (fun K hK => ?_); apply Exists.intro; refine ⟨fun w' hC => ?_, ?_⟩; ((skip); go_simp; try with_reducible rfl); (try go_simp); refine hK _ ?_; clear hK K)
        (refine held_read (i := 1) rfl (by kernel_rfl) (by kernel_rfl) (by kernel_rfl) (fun _ _ _ _ h => h) rfl HSS.out (fun K hK => ?_); apply Exists.intro; refine ⟨fun w' hC => ?_, ?_⟩; ((obtain ⟨⟨q0, q1, q2, q3⟩, q4⟩ := HT2.out w' hC); go_simp; try with_reducible rfl); (try go_simp); refine hK _ ?_; clear hK K)
        (refine held_read (i := 3) rfl (by kernel_rfl) (by kernel_rfl) (by kernel_rfl) (fun _ _ _ _ h => h) rfl HSS.out (fun K hK => ?_); apply Exists.intro; refine ⟨fun w' hC => ?_, ?_⟩; ((skip); go_simp; try with_reducible rfl); (try go_simp); refine hK _ ?_; clear hK K)
        (refine held_read (i := 4) rfl (by kernel_rfl) (by kernel_rfl) (by kernel_rfl) (fun _ _ _ _ h => h) rfl HSS.out (fun K hK => ?_); apply Exists.intro; refine ⟨fun w' hC => ?_, ?_⟩; ((obtain ⟨⟨q0, q1, q2, q3⟩, q4⟩ := HT2.out w' hC); go_simp; try with_reducible rfl); (try go_simp); refine hK _ ?_; clear hK K)
        (refine held_read (i := 6) rfl (by kernel_rfl) (by kernel_rfl) (by kernel_rfl) (fun _ _ _ _ h => h) rfl HSS.out (fun K hK => ?_); apply Exists.intro; refine ⟨fun w' hC => ?_, ?_⟩; ((skip); go_simp; try with_reducible rfl); (try go_simp); refine hK _ ?_; clear hK K)
        (refine held_read (i := 7) rfl (by kernel_rfl) (by kernel_rfl) (by kernel_rfl) (fun _ _ _ _ h => h) rfl HSS.out (fun K hK => ?_); apply Exists.intro; refine ⟨fun w' hC => ?_, ?_⟩; ((obtain ⟨⟨q0, q1, q2, q3⟩, q4⟩ := HT2.out w' hC); go_simp; try with_reducible rfl); (try go_simp); refine hK _ ?_; clear hK K)
        have HSS0 := HSS
        refine held_call_or (i := 2) (j := 10) (by kernel_rfl) rfl rfl rfl rfl 28 #[.slice ra t.r.length rc] (fun v w'' => (∃ a k, v = .slice a t.r.length k) ∧ rngE.Own w'' wd.heap.size v t.r ∧ Chg (fun _ => False) wd w'') (by go_simp) ?_ ?_ ?_
        · refine (cloneRng t.r ra rc B wd (HTB.out.same (HC2.out.trans HSS.out)).r fr).mono ?_
          rintro e wy ⟨v, rfl, ho, hc⟩
          obtain ⟨a', k', hv, _, _⟩ := ho.clip
          exact ⟨v, rfl, HSS.out.trans hc, ⟨a', k', hv⟩, ho, hc⟩
        · rintro v x0 hs ⟨⟨a0, k0, rfl⟩, ho, hc⟩ K hK
          have HO0 := Lib.hid ho
          have HX0 := Lib.hid hc
          have HB0 : Hid (wd.heap.size ≤ x0.heap.size ∧ w2.heap.size ≤ wd.heap.size) := Lib.hid ⟨hc.size, HSS.out.size⟩
          have HS0 := Lib.hid hs
          clear ho hc hs
          (try go_simp)
          refine hK _ ?_
          clear hK K
          refine held_call_or (i := 5) (j := 10) (by kernel_rfl) rfl rfl rfl rfl 29 #[.slice ca t.c.length cc] (fun v w'' => (∃ a k, v = .slice a t.c.length k) ∧ intE.Own w'' x0.heap.size v t.c ∧ Chg (fun _ => False) x0 w'') (by go_simp) ?_ ?_ ?_
          · refine (cloneInt t.c ca cc B x0 (HTB.out.same (HC2.out.trans HS0.out)).c fc).mono ?_
            rintro e wy ⟨v, rfl, ho, hc⟩
            obtain ⟨a', k', hv, _, _⟩ := ho.clip
            exact ⟨v, rfl, HS0.out.trans hc, ⟨a', k', hv⟩, ho, hc⟩
          · rintro v x1 hs ⟨⟨a1, k1, rfl⟩, ho, hc⟩ K hK
            have HO1 := Lib.hid ho
            have HX1 := Lib.hid hc
            have HB1 : Hid (x0.heap.size ≤ x1.heap.size ∧ w2.heap.size ≤ x0.heap.size) := Lib.hid ⟨hc.size, HS0.out.size⟩
            have HS1 := Lib.hid hs
            clear ho hc hs
            (try go_simp)
            refine hK _ ?_
            clear hK K
            refine held_call_or (i := 8) (j := 10) (by kernel_rfl) rfl rfl rfl rfl 29 #[.slice ea t.e.length ec] (fun v w'' => (∃ a k, v = .slice a t.e.length k) ∧ intE.Own w'' x1.heap.size v t.e ∧ Chg (fun _ => False) x1 w'') (by go_simp) ?_ ?_ ?_
            · refine (cloneInt t.e ea ec B x1 (HTB.out.same (HC2.out.trans HS1.out)).e fe).mono ?_
              rintro e wy ⟨v, rfl, ho, hc⟩
              obtain ⟨a', k', hv, _, _⟩ := ho.clip
              exact ⟨v, rfl, HS1.out.trans hc, ⟨a', k', hv⟩, ho, hc⟩
            · rintro v x2 hs ⟨⟨a3, k3, rfl⟩, ho, hc⟩ K hK
              have HO3 := Lib.hid ho
              have HX3 := Lib.hid hc
              have HB3 : Hid (x1.heap.size ≤ x2.heap.size ∧ w2.heap.size ≤ x1.heap.size) := Lib.hid ⟨hc.size, HS1.out.size⟩
              have HS2 := Lib.hid hs
              clear ho hc hs
              (try go_simp)
              refine hK _ ?_
              clear hK K
              have HSS := HS2
              (refine held_read (i := 9) rfl (by kernel_rfl) (by kernel_rfl) (by kernel_rfl) (fun _ _ _ _ h => h) rfl HSS.out (fun K hK => ?_); apply Exists.intro; refine ⟨fun w' hC => ?_, ?_⟩; ((skip); go_simp; try with_reducible rfl); (try go_simp); refine hK _ ?_; clear hK K)
              refine held_turn (i := 10) (by kernel_rfl) rfl rfl (fun K hK => ?_)
              apply Exists.intro
              apply Exists.intro
              refine ⟨?_, ?_, ?_⟩
              (go_simp; try first | with_reducible rfl | exact ⟨rfl, rfl⟩)
              exact HS2.out.alloc _
              (try go_simp)
              refine hK _ _ ?_
              clear hK K
              obtain ⟨x3, hn⟩ : ∃ x, x2.alloc (.cells #[.slice none 0 0, .slice none 0 0, .slice none 0 0, .slice none 0 0] 26) = x := ⟨_, rfl⟩
              have HS3 : Hid (Chg (fun _ => False) w2 x3) := Lib.hid (by rw [← hn]; exact HS2.out.alloc _)
              have HAL : Hid (Chg (fun _ => False) x2 x3 ∧ x2.heap.size < x3.heap.size) := Lib.hid (by rw [← hn]; exact ⟨(Chg.refl _ _).alloc _, by simp⟩)
              obtain ⟨y0, y1, y2, y3, y4⟩ : x3.cell? ⟨x2.heap.size, 0, none⟩ = some (.slice none 0 0) ∧ x3.cell? ⟨x2.heap.size, 1, none⟩ = some (.slice none 0 0) ∧ x3.cell? ⟨x2.heap.size, 2, none⟩ = some (.slice none 0 0) ∧ x3.cell? ⟨x2.heap.size, 3, none⟩ = some (.slice none 0 0) ∧ (∀ j, x3.frozen? ⟨x2.heap.size, j, none⟩ = false) := by
                rw [← hn]
                exact ⟨by rw [World.cell?_alloc_new]; rfl, by rw [World.cell?_alloc_new]; rfl, by rw [World.cell?_alloc_new]; rfl, by rw [World.cell?_alloc_new]; rfl, fun j => World.frozen?_alloc_new _ _ _ _⟩
              have HY := Lib.hid (show _ ∧ _ ∧ _ ∧ _ ∧ _ from ⟨y0, y1, y2, y3, y4⟩)
              rw [hn]
              clear hn y0 y1 y2 y3 y4
              have hch : Chg (fun _ => False) x3 x3 := (Chg.refl (fun _ => False) _)
              obtain ⟨y0, y1, y2, y3, y4⟩ : x3.cell? ⟨x2.heap.size, 0, none⟩ = some (.slice none 0 0) ∧ x3.cell? ⟨x2.heap.size, 1, none⟩ = some (.slice none 0 0) ∧ x3.cell? ⟨x2.heap.size, 2, none⟩ = some (.slice none 0 0) ∧ x3.cell? ⟨x2.heap.size, 3, none⟩ = some (.slice none 0 0) ∧ (∀ j, x3.frozen? ⟨x2.heap.size, j, none⟩ = false) :=
                ⟨hch.cellS HY.out.1 (fun h => h), hch.cellS HY.out.2.1 (fun h => h), hch.cellS HY.out.2.2.1 (fun h => h), hch.cellS HY.out.2.2.2.1 (fun h => h), fun j => (hch.frozen (p := ⟨x2.heap.size, j, none⟩) HAL.out.2 (fun h => h)).trans (HY.out.2.2.2.2 j)⟩
              have z0 := y4 0
              have z1 := y4 1
              have z2 := y4 2
              have z3 := y4 3
              have hst4 := store4 (.slice a0 t.r.length k0) (.slice a1 t.c.length k1) (.slice none 0 0) (.slice a3 t.e.length k3) y0 y1 y2 y3
              have HFIN : Hid (OwnT x2.heap.size w2.heap.size ((((x3.setCell ⟨x2.heap.size, 0, none⟩ (.slice a0 t.r.length k0)).setCell ⟨x2.heap.size, 1, none⟩ (.slice a1 t.c.length k1)).setCell ⟨x2.heap.size, 2, none⟩ (.slice none 0 0)).setCell ⟨x2.heap.size, 3, none⟩ (.slice a3 t.e.length k3)) t.r t.c [] t.e (.slice a0 t.r.length k0) (.slice a1 t.c.length k1) (.slice none 0 0) (.slice a3 t.e.length k3) ∧ Chg (fun _ => False) w2 ((((x3.setCell ⟨x2.heap.size, 0, none⟩ (.slice a0 t.r.length k0)).setCell ⟨x2.heap.size, 1, none⟩ (.slice a1 t.c.length k1)).setCell ⟨x2.heap.size, 2, none⟩ (.slice none 0 0)).setCell ⟨x2.heap.size, 3, none⟩ (.slice a3 t.e.length k3))) := Lib.hid (by
                have s0 := HB0.out; have s1 := HB1.out; have s3 := HB3.out; have sa := HAL.out.2
                have o0 := HO0.out.chgB ((((Chg.refl (fun _ => False) _).trans HX1.out).trans HX3.out).trans HAL.out.1) (fun _ _ h => h)
                have n0 : ∀ g, (Value.slice a0 t.r.length k0).ownBlock = some g → g ≠ x2.heap.size := fun g hg e => by
                  have := HO0.out.blk hg
                  omega
                have o1 := HO1.out.chgB (((Chg.refl (fun _ => False) _).trans HX3.out).trans HAL.out.1) (fun _ _ h => h)
                have n1 : ∀ g, (Value.slice a1 t.c.length k1).ownBlock = some g → g ≠ x2.heap.size := fun g hg e => by
                  have := HO1.out.blk hg
                  omega
                have o3 := HO3.out.chgB ((Chg.refl (fun _ => False) _).trans HAL.out.1) (fun _ _ h => h)
                have n3 : ∀ g, (Value.slice a3 t.e.length k3).ownBlock = some g → g ≠ x2.heap.size := fun g hg e => by
                  have := HO3.out.blk hg
                  omega
                have hw2 : w2.heap.size ≤ x2.heap.size := by
                  have := HS2.out.size
                  omega
                refine ⟨OwnT.start hst4.1 hst4.2.1 hst4.2.2.1 hst4.2.2.2.1 (hst4.2.2.2.2.2.trans (y4 2)) ((o0.lower s0.2).chgB hst4.2.2.2.2.1 n0) ((o1.lower s1.2).chgB hst4.2.2.2.2.1 n1) ((o3.lower s3.2).chgB hst4.2.2.2.2.1 n3) hw2 ⟨n0, n1, n3⟩, ?_⟩
                exact ((HS3.out.any (S := fun k => w2.heap.size ≤ k)).trans (hst4.2.2.2.2.1.mono (fun k _ e => by omega))).fresh)
              clear hch hst4 y4
              refine held_store (i := 11) (by kernel_rfl) rfl rfl (fun K hK => ?_)
              apply Exists.intro
              refine ⟨?_, ?_, ?_⟩
              (go_simp; try first | with_reducible rfl | exact ⟨rfl, rfl⟩)
              exact HFIN.out.2
              (try go_simp)
              refine hK _ _ ?_
              clear hK K
              refine wpAnyH_done (by kernel_rfl) ?_ _
              go_wp2
              go_meet
              exact ⟨_, _, _, _, rfl, HFIN.out.1, HFIN.out.2⟩
            · intro K hK
              apply Exists.intro
              apply Exists.intro
              refine ⟨?_, ?_, ?_⟩
              (go_simp; try first | with_reducible rfl | exact ⟨rfl, rfl⟩)
              exact HS1.out.alloc _
              (try go_simp)
              refine hK _ _ ?_
              clear hK K
              obtain ⟨x2, hn⟩ : ∃ x, x1.alloc (.cells #[.slice none 0 0, .slice none 0 0, .slice none 0 0, .slice none 0 0] 26) = x := ⟨_, rfl⟩
              have HS2 : Hid (Chg (fun _ => False) w2 x2) := Lib.hid (by rw [← hn]; exact HS1.out.alloc _)
              have HAL : Hid (Chg (fun _ => False) x1 x2 ∧ x1.heap.size < x2.heap.size) := Lib.hid (by rw [← hn]; exact ⟨(Chg.refl _ _).alloc _, by simp⟩)
              obtain ⟨y0, y1, y2, y3, y4⟩ : x2.cell? ⟨x1.heap.size, 0, none⟩ = some (.slice none 0 0) ∧ x2.cell? ⟨x1.heap.size, 1, none⟩ = some (.slice none 0 0) ∧ x2.cell? ⟨x1.heap.size, 2, none⟩ = some (.slice none 0 0) ∧ x2.cell? ⟨x1.heap.size, 3, none⟩ = some (.slice none 0 0) ∧ (∀ j, x2.frozen? ⟨x1.heap.size, j, none⟩ = false) := by
                rw [← hn]
                exact ⟨by rw [World.cell?_alloc_new]; rfl, by rw [World.cell?_alloc_new]; rfl, by rw [World.cell?_alloc_new]; rfl, by rw [World.cell?_alloc_new]; rfl, fun j => World.frozen?_alloc_new _ _ _ _⟩
              have HY := Lib.hid (show _ ∧ _ ∧ _ ∧ _ ∧ _ from ⟨y0, y1, y2, y3, y4⟩)
              rw [hn]
              clear hn y0 y1 y2 y3 y4
              refine held_call (i := 8) (by kernel_rfl) rfl rfl 29 #[.slice ea t.e.length ec] (fun v w'' => (∃ a k, v = .slice a t.e.length k) ∧ intE.Own w'' x2.heap.size v t.e ∧ Chg (fun _ => False) x2 w'') (by go_simp) ?_ ?_
              · refine (cloneInt t.e ea ec B x2 (HTB.out.same (HC2.out.trans HS2.out)).e fe).mono ?_
                rintro e wy ⟨v, rfl, ho, hc⟩
                obtain ⟨a', k', hv, _, _⟩ := ho.clip
                exact ⟨v, rfl, HS2.out.trans hc, ⟨a', k', hv⟩, ho, hc⟩
              rintro v x3 hs ⟨⟨a3, k3, rfl⟩, ho, hc⟩ K hK
              have HO3 := Lib.hid ho
              have HX3 := Lib.hid hc
              have HB3 : Hid (x2.heap.size ≤ x3.heap.size ∧ w2.heap.size ≤ x2.heap.size) := Lib.hid ⟨hc.size, HS2.out.size⟩
              have HS3 := Lib.hid hs
              clear ho hc hs
              (try go_simp)
              refine hK _ ?_
              clear hK K
              have HSS := HS3
              (refine held_read (i := 9) rfl (by kernel_rfl) (by kernel_rfl) (by kernel_rfl) (fun _ _ _ _ h => h) rfl HSS.out (fun K hK => ?_); apply Exists.intro; refine ⟨fun w' hC => ?_, ?_⟩; ((skip); go_simp; try with_reducible rfl); (try go_simp); refine hK _ ?_; clear hK K)
              have hch : Chg (fun _ => False) x2 x3 := ((Chg.refl (fun _ => False) _).trans HX3.out)
              obtain ⟨y0, y1, y2, y3, y4⟩ : x3.cell? ⟨x1.heap.size, 0, none⟩ = some (.slice none 0 0) ∧ x3.cell? ⟨x1.heap.size, 1, none⟩ = some (.slice none 0 0) ∧ x3.cell? ⟨x1.heap.size, 2, none⟩ = some (.slice none 0 0) ∧ x3.cell? ⟨x1.heap.size, 3, none⟩ = some (.slice none 0 0) ∧ (∀ j, x3.frozen? ⟨x1.heap.size, j, none⟩ = false) :=
                ⟨hch.cellS HY.out.1 (fun h => h), hch.cellS HY.out.2.1 (fun h => h), hch.cellS HY.out.2.2.1 (fun h => h), hch.cellS HY.out.2.2.2.1 (fun h => h), fun j => (hch.frozen (p := ⟨x1.heap.size, j, none⟩) HAL.out.2 (fun h => h)).trans (HY.out.2.2.2.2 j)⟩
              have z0 := y4 0
              have z1 := y4 1
              have z2 := y4 2
              have z3 := y4 3
              have hst4 := store4 (.slice a0 t.r.length k0) (.slice a1 t.c.length k1) (.slice none 0 0) (.slice a3 t.e.length k3) y0 y1 y2 y3
              have HFIN : Hid (OwnT x1.heap.size w2.heap.size ((((x3.setCell ⟨x1.heap.size, 0, none⟩ (.slice a0 t.r.length k0)).setCell ⟨x1.heap.size, 1, none⟩ (.slice a1 t.c.length k1)).setCell ⟨x1.heap.size, 2, none⟩ (.slice none 0 0)).setCell ⟨x1.heap.size, 3, none⟩ (.slice a3 t.e.length k3)) t.r t.c [] t.e (.slice a0 t.r.length k0) (.slice a1 t.c.length k1) (.slice none 0 0) (.slice a3 t.e.length k3) ∧ Chg (fun _ => False) w2 ((((x3.setCell ⟨x1.heap.size, 0, none⟩ (.slice a0 t.r.length k0)).setCell ⟨x1.heap.size, 1, none⟩ (.slice a1 t.c.length k1)).setCell ⟨x1.heap.size, 2, none⟩ (.slice none 0 0)).setCell ⟨x1.heap.size, 3, none⟩ (.slice a3 t.e.length k3))) := Lib.hid (by
                have s0 := HB0.out; have s1 := HB1.out; have s3 := HB3.out; have sa := HAL.out.2
                have o0 := HO0.out.chgB ((((Chg.refl (fun _ => False) _).trans HX1.out).trans HAL.out.1).trans HX3.out) (fun _ _ h => h)
                have n0 : ∀ g, (Value.slice a0 t.r.length k0).ownBlock = some g → g ≠ x1.heap.size := fun g hg e => by
                  have := HO0.out.blk hg
                  omega
                have o1 := HO1.out.chgB (((Chg.refl (fun _ => False) _).trans HAL.out.1).trans HX3.out) (fun _ _ h => h)
                have n1 : ∀ g, (Value.slice a1 t.c.length k1).ownBlock = some g → g ≠ x1.heap.size := fun g hg e => by
                  have := HO1.out.blk hg
                  omega
                have o3 := HO3.out.chgB (Chg.refl (fun _ => False) _) (fun _ _ h => h)
                have n3 : ∀ g, (Value.slice a3 t.e.length k3).ownBlock = some g → g ≠ x1.heap.size := fun g hg e => by
                  have := HO3.out.blk hg
                  omega
                have hw2 : w2.heap.size ≤ x1.heap.size := by
                  have := HS1.out.size
                  omega
                refine ⟨OwnT.start hst4.1 hst4.2.1 hst4.2.2.1 hst4.2.2.2.1 (hst4.2.2.2.2.2.trans (y4 2)) ((o0.lower s0.2).chgB hst4.2.2.2.2.1 n0) ((o1.lower s1.2).chgB hst4.2.2.2.2.1 n1) ((o3.lower s3.2).chgB hst4.2.2.2.2.1 n3) hw2 ⟨n0, n1, n3⟩, ?_⟩
                exact ((HS3.out.any (S := fun k => w2.heap.size ≤ k)).trans (hst4.2.2.2.2.1.mono (fun k _ e => by omega))).fresh)
              clear hch hst4 y4
              refine held_store (i := 11) (by kernel_rfl) rfl rfl (fun K hK => ?_)
              apply Exists.intro
              refine ⟨?_, ?_, ?_⟩
              (go_simp; try first | with_reducible rfl | exact ⟨rfl, rfl⟩)
              exact HFIN.out.2
              (try go_simp)
              refine hK _ _ ?_
              clear hK K
              refine wpAnyH_done (by kernel_rfl) ?_ _
              go_wp2
              go_meet
              exact ⟨_, _, _, _, rfl, HFIN.out.1, HFIN.out.2⟩
          · intro K hK
            apply Exists.intro
            apply Exists.intro
            refine ⟨?_, ?_, ?_⟩
            (go_simp; try first | with_reducible rfl | exact ⟨rfl, rfl⟩)
            exact HS0.out.alloc _
            (try go_simp)
            refine hK _ _ ?_
            clear hK K
            obtain ⟨x1, hn⟩ : ∃ x, x0.alloc (.cells #[.slice none 0 0, .slice none 0 0, .slice none 0 0, .slice none 0 0] 26) = x := ⟨_, rfl⟩
            have HS1 : Hid (Chg (fun _ => False) w2 x1) := Lib.hid (by rw [← hn]; exact HS0.out.alloc _)
            have HAL : Hid (Chg (fun _ => False) x0 x1 ∧ x0.heap.size < x1.heap.size) := Lib.hid (by rw [← hn]; exact ⟨(Chg.refl _ _).alloc _, by simp⟩)
            obtain ⟨y0, y1, y2, y3, y4⟩ : x1.cell? ⟨x0.heap.size, 0, none⟩ = some (.slice none 0 0) ∧ x1.cell? ⟨x0.heap.size, 1, none⟩ = some (.slice none 0 0) ∧ x1.cell? ⟨x0.heap.size, 2, none⟩ = some (.slice none 0 0) ∧ x1.cell? ⟨x0.heap.size, 3, none⟩ = some (.slice none 0 0) ∧ (∀ j, x1.frozen? ⟨x0.heap.size, j, none⟩ = false) := by
              rw [← hn]
              exact ⟨by rw [World.cell?_alloc_new]; rfl, by rw [World.cell?_alloc_new]; rfl, by rw [World.cell?_alloc_new]; rfl, by rw [World.cell?_alloc_new]; rfl, fun j => World.frozen?_alloc_new _ _ _ _⟩
            have HY := Lib.hid (show _ ∧ _ ∧ _ ∧ _ ∧ _ from ⟨y0, y1, y2, y3, y4⟩)
            rw [hn]
            clear hn y0 y1 y2 y3 y4
            refine held_call (i := 5) (by kernel_rfl) rfl rfl 29 #[.slice ca t.c.length cc] (fun v w'' => (∃ a k, v = .slice a t.c.length k) ∧ intE.Own w'' x1.heap.size v t.c ∧ Chg (fun _ => False) x1 w'') (by go_simp) ?_ ?_
            · refine (cloneInt t.c ca cc B x1 (HTB.out.same (HC2.out.trans HS1.out)).c fc).mono ?_
              rintro e wy ⟨v, rfl, ho, hc⟩
              obtain ⟨a', k', hv, _, _⟩ := ho.clip
              exact ⟨v, rfl, HS1.out.trans hc, ⟨a', k', hv⟩, ho, hc⟩
            rintro v x2 hs ⟨⟨a1, k1, rfl⟩, ho, hc⟩ K hK
            have HO1 := Lib.hid ho
            have HX1 := Lib.hid hc
            have HB1 : Hid (x1.heap.size ≤ x2.heap.size ∧ w2.heap.size ≤ x1.heap.size) := Lib.hid ⟨hc.size, HS1.out.size⟩
            have HS2 := Lib.hid hs
            clear ho hc hs
            (try go_simp)
            refine hK _ ?_
            clear hK K
            refine held_call (i := 8) (by kernel_rfl) rfl rfl 29 #[.slice ea t.e.length ec] (fun v w'' => (∃ a k, v = .slice a t.e.length k) ∧ intE.Own w'' x2.heap.size v t.e ∧ Chg (fun _ => False) x2 w'') (by go_simp) ?_ ?_
            · refine (cloneInt t.e ea ec B x2 (HTB.out.same (HC2.out.trans HS2.out)).e fe).mono ?_
              rintro e wy ⟨v, rfl, ho, hc⟩
              obtain ⟨a', k', hv, _, _⟩ := ho.clip
              exact ⟨v, rfl, HS2.out.trans hc, ⟨a', k', hv⟩, ho, hc⟩
            rintro v x3 hs ⟨⟨a3, k3, rfl⟩, ho, hc⟩ K hK
            have HO3 := Lib.hid ho
            have HX3 := Lib.hid hc
            have HB3 : Hid (x2.heap.size ≤ x3.heap.size ∧ w2.heap.size ≤ x2.heap.size) := Lib.hid ⟨hc.size, HS2.out.size⟩
            have HS3 := Lib.hid hs
            clear ho hc hs
            (try go_simp)
            refine hK _ ?_
            clear hK K
            have HSS := HS3
            (refine held_read (i := 9) rfl (by kernel_rfl) (by kernel_rfl) (by kernel_rfl) (fun _ _ _ _ h => h) rfl HSS.out (fun K hK => ?_); apply Exists.intro; refine ⟨fun w' hC => ?_, ?_⟩; ((skip); go_simp; try with_reducible rfl); (try go_simp); refine hK _ ?_; clear hK K)
            have hch : Chg (fun _ => False) x1 x3 := (((Chg.refl (fun _ => False) _).trans HX1.out).trans HX3.out)
            obtain ⟨y0, y1, y2, y3, y4⟩ : x3.cell? ⟨x0.heap.size, 0, none⟩ = some (.slice none 0 0) ∧ x3.cell? ⟨x0.heap.size, 1, none⟩ = some (.slice none 0 0) ∧ x3.cell? ⟨x0.heap.size, 2, none⟩ = some (.slice none 0 0) ∧ x3.cell? ⟨x0.heap.size, 3, none⟩ = some (.slice none 0 0) ∧ (∀ j, x3.frozen? ⟨x0.heap.size, j, none⟩ = false) :=
              ⟨hch.cellS HY.out.1 (fun h => h), hch.cellS HY.out.2.1 (fun h => h), hch.cellS HY.out.2.2.1 (fun h => h), hch.cellS HY.out.2.2.2.1 (fun h => h), fun j => (hch.frozen (p := ⟨x0.heap.size, j, none⟩) HAL.out.2 (fun h => h)).trans (HY.out.2.2.2.2 j)⟩
            have z0 := y4 0
            have z1 := y4 1
            have z2 := y4 2
            have z3 := y4 3
            have hst4 := store4 (.slice a0 t.r.length k0) (.slice a1 t.c.length k1) (.slice none 0 0) (.slice a3 t.e.length k3) y0 y1 y2 y3
            have HFIN : Hid (OwnT x0.heap.size w2.heap.size ((((x3.setCell ⟨x0.heap.size, 0, none⟩ (.slice a0 t.r.length k0)).setCell ⟨x0.heap.size, 1, none⟩ (.slice a1 t.c.length k1)).setCell ⟨x0.heap.size, 2, none⟩ (.slice none 0 0)).setCell ⟨x0.heap.size, 3, none⟩ (.slice a3 t.e.length k3)) t.r t.c [] t.e (.slice a0 t.r.length k0) (.slice a1 t.c.length k1) (.slice none 0 0) (.slice a3 t.e.length k3) ∧ Chg (fun _ => False) w2 ((((x3.setCell ⟨x0.heap.size, 0, none⟩ (.slice a0 t.r.length k0)).setCell ⟨x0.heap.size, 1, none⟩ (.slice a1 t.c.length k1)).setCell ⟨x0.heap.size, 2, none⟩ (.slice none 0 0)).setCell ⟨x0.heap.size, 3, none⟩ (.slice a3 t.e.length k3))) := Lib.hid (by
              have s0 := HB0.out; have s1 := HB1.out; have s3 := HB3.out; have sa := HAL.out.2
              have o0 := HO0.out.chgB ((((Chg.refl (fun _ => False) _).trans HAL.out.1).trans HX1.out).trans HX3.out) (fun _ _ h => h)
              have n0 : ∀ g, (Value.slice a0 t.r.length k0).ownBlock = some g → g ≠ x0.heap.size := fun g hg e => by
                have := HO0.out.blk hg
                omega
              have o1 := HO1.out.chgB ((Chg.refl (fun _ => False) _).trans HX3.out) (fun _ _ h => h)
              have n1 : ∀ g, (Value.slice a1 t.c.length k1).ownBlock = some g → g ≠ x0.heap.size := fun g hg e => by
                have := HO1.out.blk hg
                omega
              have o3 := HO3.out.chgB (Chg.refl (fun _ => False) _) (fun _ _ h => h)
              have n3 : ∀ g, (Value.slice a3 t.e.length k3).ownBlock = some g → g ≠ x0.heap.size := fun g hg e => by
                have := HO3.out.blk hg
                omega
              have hw2 : w2.heap.size ≤ x0.heap.size := by
                have := HS0.out.size
                omega
              refine ⟨OwnT.start hst4.1 hst4.2.1 hst4.2.2.1 hst4.2.2.2.1 (hst4.2.2.2.2.2.trans (y4 2)) ((o0.lower s0.2).chgB hst4.2.2.2.2.1 n0) ((o1.lower s1.2).chgB hst4.2.2.2.2.1 n1) ((o3.lower s3.2).chgB hst4.2.2.2.2.1 n3) hw2 ⟨n0, n1, n3⟩, ?_⟩
              exact ((HS3.out.any (S := fun k => w2.heap.size ≤ k)).trans (hst4.2.2.2.2.1.mono (fun k _ e => by omega))).fresh)
            clear hch hst4 y4
            refine held_store (i := 11) (by kernel_rfl) rfl rfl (fun K hK => ?_)
            apply Exists.intro
            refine ⟨?_, ?_, ?_⟩
            (go_simp; try first | with_reducible rfl | exact ⟨rfl, rfl⟩)
            exact HFIN.out.2
            (try go_simp)
            refine hK _ _ ?_
            clear hK K
            refine wpAnyH_done (by kernel_rfl) ?_ _
            go_wp2
            go_meet
            exact ⟨_, _, _, _, rfl, HFIN.out.1, HFIN.out.2⟩
        · intro K hK
          apply Exists.intro
          apply Exists.intro
          refine ⟨?_, ?_, ?_⟩
          (go_simp; try first | with_reducible rfl | exact ⟨rfl, rfl⟩)
          exact HSS.out.alloc _
          (try go_simp)
          refine hK _ _ ?_
          clear hK K
          obtain ⟨x0, hn⟩ : ∃ x, wd.alloc (.cells #[.slice none 0 0, .slice none 0 0, .slice none 0 0, .slice none 0 0] 26) = x := ⟨_, rfl⟩
          have HS0 : Hid (Chg (fun _ => False) w2 x0) := Lib.hid (by rw [← hn]; exact HSS.out.alloc _)
          have HAL : Hid (Chg (fun _ => False) wd x0 ∧ wd.heap.size < x0.heap.size) := Lib.hid (by rw [← hn]; exact ⟨(Chg.refl _ _).alloc _, by simp⟩)
          obtain ⟨y0, y1, y2, y3, y4⟩ : x0.cell? ⟨wd.heap.size, 0, none⟩ = some (.slice none 0 0) ∧ x0.cell? ⟨wd.heap.size, 1, none⟩ = some (.slice none 0 0) ∧ x0.cell? ⟨wd.heap.size, 2, none⟩ = some (.slice none 0 0) ∧ x0.cell? ⟨wd.heap.size, 3, none⟩ = some (.slice none 0 0) ∧ (∀ j, x0.frozen? ⟨wd.heap.size, j, none⟩ = false) := by
            rw [← hn]
            exact ⟨by rw [World.cell?_alloc_new]; rfl, by rw [World.cell?_alloc_new]; rfl, by rw [World.cell?_alloc_new]; rfl, by rw [World.cell?_alloc_new]; rfl, fun j => World.frozen?_alloc_new _ _ _ _⟩
          have HY := Lib.hid (show _ ∧ _ ∧ _ ∧ _ ∧ _ from ⟨y0, y1, y2, y3, y4⟩)
          rw [hn]
          clear hn y0 y1 y2 y3 y4
          refine held_call (i := 2) (by kernel_rfl) rfl rfl 28 #[.slice ra t.r.length rc] (fun v w'' => (∃ a k, v = .slice a t.r.length k) ∧ rngE.Own w'' x0.heap.size v t.r ∧ Chg (fun _ => False) x0 w'') (by go_simp) ?_ ?_
          · refine (cloneRng t.r ra rc B x0 (HTB.out.same (HC2.out.trans HS0.out)).r fr).mono ?_
            rintro e wy ⟨v, rfl, ho, hc⟩
            obtain ⟨a', k', hv, _, _⟩ := ho.clip
            exact ⟨v, rfl, HS0.out.trans hc, ⟨a', k', hv⟩, ho, hc⟩
          rintro v x1 hs ⟨⟨a0, k0, rfl⟩, ho, hc⟩ K hK
          have HO0 := Lib.hid ho
          have HX0 := Lib.hid hc
          have HB0 : Hid (x0.heap.size ≤ x1.heap.size ∧ w2.heap.size ≤ x0.heap.size) := Lib.hid ⟨hc.size, HS0.out.size⟩
          have HS1 := Lib.hid hs
          clear ho hc hs
          (try go_simp)
          refine hK _ ?_
          clear hK K
          refine held_call (i := 5) (by kernel_rfl) rfl rfl 29 #[.slice ca t.c.length cc] (fun v w'' => (∃ a k, v = .slice a t.c.length k) ∧ intE.Own w'' x1.heap.size v t.c ∧ Chg (fun _ => False) x1 w'') (by go_simp) ?_ ?_
          · refine (cloneInt t.c ca cc B x1 (HTB.out.same (HC2.out.trans HS1.out)).c fc).mono ?_
            rintro e wy ⟨v, rfl, ho, hc⟩
            obtain ⟨a', k', hv, _, _⟩ := ho.clip
            exact ⟨v, rfl, HS1.out.trans hc, ⟨a', k', hv⟩, ho, hc⟩
          rintro v x2 hs ⟨⟨a1, k1, rfl⟩, ho, hc⟩ K hK
          have HO1 := Lib.hid ho
          have HX1 := Lib.hid hc
          have HB1 : Hid (x1.heap.size ≤ x2.heap.size ∧ w2.heap.size ≤ x1.heap.size) := Lib.hid ⟨hc.size, HS1.out.size⟩
          have HS2 := Lib.hid hs
          clear ho hc hs
          (try go_simp)
          refine hK _ ?_
          clear hK K
          refine held_call (i := 8) (by kernel_rfl) rfl rfl 29 #[.slice ea t.e.length ec] (fun v w'' => (∃ a k, v = .slice a t.e.length k) ∧ intE.Own w'' x2.heap.size v t.e ∧ Chg (fun _ => False) x2 w'') (by go_simp) ?_ ?_
          · refine (cloneInt t.e ea ec B x2 (HTB.out.same (HC2.out.trans HS2.out)).e fe).mono ?_
            rintro e wy ⟨v, rfl, ho, hc⟩
            obtain ⟨a', k', hv, _, _⟩ := ho.clip
            exact ⟨v, rfl, HS2.out.trans hc, ⟨a', k', hv⟩, ho, hc⟩
          rintro v x3 hs ⟨⟨a3, k3, rfl⟩, ho, hc⟩ K hK
          have HO3 := Lib.hid ho
          have HX3 := Lib.hid hc
          have HB3 : Hid (x2.heap.size ≤ x3.heap.size ∧ w2.heap.size ≤ x2.heap.size) := Lib.hid ⟨hc.size, HS2.out.size⟩
          have HS3 := Lib.hid hs
          clear ho hc hs
          (try go_simp)
          refine hK _ ?_
          clear hK K
          have HSS := HS3
          (refine held_read (i := 9) rfl (by kernel_rfl) (by kernel_rfl) (by kernel_rfl) (fun _ _ _ _ h => h) rfl HSS.out (fun K hK => ?_); apply Exists.intro; refine ⟨fun w' hC => ?_, ?_⟩; ((skip); go_simp; try with_reducible rfl); (try go_simp); refine hK _ ?_; clear hK K)
          have hch : Chg (fun _ => False) x0 x3 := ((((Chg.refl (fun _ => False) _).trans HX0.out).trans HX1.out).trans HX3.out)
          obtain ⟨y0, y1, y2, y3, y4⟩ : x3.cell? ⟨wd.heap.size, 0, none⟩ = some (.slice none 0 0) ∧ x3.cell? ⟨wd.heap.size, 1, none⟩ = some (.slice none 0 0) ∧ x3.cell? ⟨wd.heap.size, 2, none⟩ = some (.slice none 0 0) ∧ x3.cell? ⟨wd.heap.size, 3, none⟩ = some (.slice none 0 0) ∧ (∀ j, x3.frozen? ⟨wd.heap.size, j, none⟩ = false) :=
            ⟨hch.cellS HY.out.1 (fun h => h), hch.cellS HY.out.2.1 (fun h => h), hch.cellS HY.out.2.2.1 (fun h => h), hch.cellS HY.out.2.2.2.1 (fun h => h), fun j => (hch.frozen (p := ⟨wd.heap.size, j, none⟩) HAL.out.2 (fun h => h)).trans (HY.out.2.2.2.2 j)⟩
          have z0 := y4 0
          have z1 := y4 1
          have z2 := y4 2
          have z3 := y4 3
          have hst4 := store4 (.slice a0 t.r.length k0) (.slice a1 t.c.length k1) (.slice none 0 0) (.slice a3 t.e.length k3) y0 y1 y2 y3
          have HFIN : Hid (OwnT wd.heap.size w2.heap.size ((((x3.setCell ⟨wd.heap.size, 0, none⟩ (.slice a0 t.r.length k0)).setCell ⟨wd.heap.size, 1, none⟩ (.slice a1 t.c.length k1)).setCell ⟨wd.heap.size, 2, none⟩ (.slice none 0 0)).setCell ⟨wd.heap.size, 3, none⟩ (.slice a3 t.e.length k3)) t.r t.c [] t.e (.slice a0 t.r.length k0) (.slice a1 t.c.length k1) (.slice none 0 0) (.slice a3 t.e.length k3) ∧ Chg (fun _ => False) w2 ((((x3.setCell ⟨wd.heap.size, 0, none⟩ (.slice a0 t.r.length k0)).setCell ⟨wd.heap.size, 1, none⟩ (.slice a1 t.c.length k1)).setCell ⟨wd.heap.size, 2, none⟩ (.slice none 0 0)).setCell ⟨wd.heap.size, 3, none⟩ (.slice a3 t.e.length k3))) := Lib.hid (by
            have s0 := HB0.out; have s1 := HB1.out; have s3 := HB3.out; have sa := HAL.out.2
            have o0 := HO0.out.chgB (((Chg.refl (fun _ => False) _).trans HX1.out).trans HX3.out) (fun _ _ h => h)
            have n0 : ∀ g, (Value.slice a0 t.r.length k0).ownBlock = some g → g ≠ wd.heap.size := fun g hg e => by
              have := HO0.out.blk hg
              omega
            have o1 := HO1.out.chgB ((Chg.refl (fun _ => False) _).trans HX3.out) (fun _ _ h => h)
            have n1 : ∀ g, (Value.slice a1 t.c.length k1).ownBlock = some g → g ≠ wd.heap.size := fun g hg e => by
              have := HO1.out.blk hg
              omega
            have o3 := HO3.out.chgB (Chg.refl (fun _ => False) _) (fun _ _ h => h)
            have n3 : ∀ g, (Value.slice a3 t.e.length k3).ownBlock = some g → g ≠ wd.heap.size := fun g hg e => by
              have := HO3.out.blk hg
              omega
            have hw2 : w2.heap.size ≤ wd.heap.size := by
              have := HSS0.out.size
              omega
            refine ⟨OwnT.start hst4.1 hst4.2.1 hst4.2.2.1 hst4.2.2.2.1 (hst4.2.2.2.2.2.trans (y4 2)) ((o0.lower s0.2).chgB hst4.2.2.2.2.1 n0) ((o1.lower s1.2).chgB hst4.2.2.2.2.1 n1) ((o3.lower s3.2).chgB hst4.2.2.2.2.1 n3) hw2 ⟨n0, n1, n3⟩, ?_⟩
            exact ((HS3.out.any (S := fun k => w2.heap.size ≤ k)).trans (hst4.2.2.2.2.1.mono (fun k _ e => by omega))).fresh)
          clear hch hst4 y4
          refine held_store (i := 11) (by kernel_rfl) rfl rfl (fun K hK => ?_)
          apply Exists.intro
          refine ⟨?_, ?_, ?_⟩
          (go_simp; try first | with_reducible rfl | exact ⟨rfl, rfl⟩)
          exact HFIN.out.2
          (try go_simp)
          refine hK _ _ ?_
          clear hK K
          refine wpAnyH_done (by kernel_rfl) ?_ _
          go_wp2
          go_meet
          exact ⟨_, _, _, _, rfl, HFIN.out.1, HFIN.out.2⟩
      case rest =>
        obtain ⟨bo, v0, v1, v3, rfl, ho, hc⟩ := hcut
        have HO0 : Hid (OwnT bo w2.heap.size wc t.r t.c (t.n.take 0) t.e v0 v1 (.slice none 0 0) v3) := Lib.hid (by simpa using ho)
        have HC3 := Lib.hid hc
        clear ho hc
        obtain ⟨⟨q0, q1, q2, q3⟩, q4⟩ := HT2.out wc HC3.out
        go_wp2
        go_loopw [31] (fun q wr => ∃ (k : Nat) (v2 : Value), k ≤ t.n.length ∧ q = .int .i64 k ∧ OwnT bo w2.heap.size wr t.r t.c (t.n.take k) t.e v0 v1 v2 v3 ∧ Chg (fun _ => False) w2 wr) (fun q _ => t.n.length - (intOf q).toNat)
        case atStart => exact ⟨0, _, by omega, rfl, HO0.out, HC3.out⟩
        case round =>
          clear HO0 HC3 q0 q1 q2 q3 q4
          obtain ⟨k, v2, hk, rfl, ho, hc⟩ := hrel
          have HO := Lib.hid ho
          have HCW := Lib.hid hc
          have HCV := Lib.hid (HC2.out.trans hc)
          clear hc
          by_cases hkl : k < t.n.length
          · have b1 : decide ((k : Int) < (t.n.length : Int)) = true := by simp; omega
            obtain ⟨l, gn, on, la, lc, hl, hna, n0, hin, -, -⟩ := (HTB.out.same HCV.out).n.getIn hkl
            subst hna
            have HL := Lib.hid hl
            have HIN := Lib.hid hin
            have hll := HFR.out.l l (List.mem_of_getElem? hl)
            obtain ⟨va, vn, vc, rfl⟩ : ∃ a n c, v2 = .slice a n c := by obtain ⟨X, h1, _⟩ := ho.n; exact h1.shape3
            have hvn : vn = k ∧ vn ≤ vc := by
              obtain ⟨X, h1, h2, _⟩ := ho.n
              obtain ⟨a', c', h3, h4, _⟩ := h1.clip
              injection h3 with e1 e2 e3
              rw [List.length_take] at h2
              omega
            obtain ⟨rfl, hvc⟩ := hvn
            have HTK : Hid (t.n.take (vn + 1) = t.n.take vn ++ [l]) := Lib.hid (by rw [List.take_add_one, hl]; rfl)
            clear hl hin ho
            go_upto_region 7 with (fail)
            clear n0
            obtain ⟨wd, hwd⟩ : ∃ x, wr.drew = x := ⟨_, rfl⟩
            have HDD : Hid (Chg (fun _ => False) wr wd) := Lib.hid (by rw [← hwd]; exact (Chg.refl _ _).drew)
            have HOD := Lib.hid (HO.out.same HDD.out)
            refine wp_region_late (fun x => Chg (fun _ => False) wd x) (fun i => decide (5 ≤ i)) (by kernel_rfl) ?_
            show wpAnyL _ _ _ _ _ _ 8 (Array.replicate 8 false) _ wr.drew
            rw [hwd]
            clear hwd
            have HSS : Hid (Chg (fun _ => False) wd wd) := Lib.hid (Chg.refl _ _)
            (refine late_read (i := 0) rfl (by kernel_rfl) (fun _ _ _ _ h => h) rfl HSS.out (fun K hK => ?_); apply Exists.intro; refine ⟨fun w' hC => ?_, ?_⟩; ((skip); go_simp; try with_reducible rfl); (try go_simp); refine hK _ ?_; clear hK K)
            (refine late_read (i := 1) rfl (by kernel_rfl) (fun _ _ _ _ h => h) rfl HSS.out (fun K hK => ?_); apply Exists.intro; refine ⟨fun w' hC => ?_, ?_⟩; ((have q := hC.cellS HOD.out.c2 (fun h => h)); go_simp; try with_reducible rfl); (try go_simp); refine hK _ ?_; clear hK K)
            (refine late_read (i := 2) rfl (by kernel_rfl) (fun _ _ _ _ h => h) rfl HSS.out (fun K hK => ?_); apply Exists.intro; refine ⟨fun w' hC => ?_, ?_⟩; ((skip); go_simp; try with_reducible rfl); (try go_simp); refine hK _ ?_; clear hK K)
            refine late_call (i := 3) (by kernel_rfl) rfl rfl 29 #[.slice la l.length lc] (fun v w'' => (∃ a k, v = .slice a l.length k) ∧ intE.Own w'' wd.heap.size v l ∧ Chg (fun _ => False) wd w'') (by go_simp) ?_ ?_
            · refine (cloneInt l la lc B wd (HIN.out.same HDD.out) hll).mono ?_
              rintro e wy ⟨v, rfl, ho, hc⟩
              obtain ⟨a', k', hv, _, _⟩ := ho.clip
              exact ⟨v, rfl, fun _ => hc, ⟨a', k', hv⟩, ho, hc⟩
            rintro v w5 - ⟨⟨xa, xc, rfl⟩, ho, hc⟩ K hK
            have HX := Lib.hid ho
            have HX5 := Lib.hid hc
            clear ho hc
            (try go_simp)
            refine hK _ ?_
            clear hK K
            (refine late_turn (i := 4) (by kernel_rfl) rfl rfl (fun K hK => ?_); apply Exists.intro; apply Exists.intro; refine ⟨?_, ?_, ?_⟩; ((skip); go_simp; try first | with_reducible rfl | exact ⟨rfl, rfl⟩); (exact fun _ => HX5.out.alloc _); (try go_simp); refine hK _ _ ?_; clear hK K)
            obtain ⟨w6, hw6⟩ : ∃ x, x = w5.alloc (.cells #[.slice xa l.length xc] 23) := ⟨_, rfl⟩
            have HC56 : Hid (Chg (fun _ => False) w5 w6) := Lib.hid (by rw [hw6]; exact (Chg.refl _ _).alloc _)
            have HSRC : Hid (Src Tryd.prog listE.sz listE.sl (.slice (some ⟨w5.heap.size, 0, none⟩) 1 1) 1 (listE.encs [(xa, l.length, xc)]) w6) := Lib.hid (by rw [hw6]; exact listE.srcLit (Y := [(xa, l.length, xc)]) 1 (fun _ _ => trivial))
            have HO6 := Lib.hid (HOD.out.same (HX5.out.trans HC56.out))
            rw [← hw6]
            clear hw6
            refine late_append (i := 5) (by kernel_rfl) rfl rfl (.tmp 36) (.tmp 39) 24 24 rfl (.slice va vn vc) (.slice (some ⟨w5.heap.size, 0, none⟩) 1 1) rfl rfl (fun v' w1 => (∃ X, listE.Own w6 w2.heap.size (.slice va vn vc) X ∧ X.length = (t.n.take vn).length ∧ (∀ (j : Nat) y m, X[j]? = some y → (t.n.take vn)[j]? = some m → intE.Own w6 w2.heap.size (slV y) m ∧ (∀ g, (Value.slice va vn vc).ownBlock = some g → (slV y).ownBlock ≠ some g) ∧ ∀ g, (slV y).ownBlock = some g → g ≠ bo) ∧ listE.Own w1 w2.heap.size v' (X ++ [(xa, l.length, xc)])) ∧ Chg (fun k => (Value.slice va vn vc).ownBlock = some k) w6 w1 ∧ (v'.ownBlock = (Value.slice va vn vc).ownBlock ∨ v'.ownBlock = some w6.heap.size) ∧ ∃ a n c, v' = .slice a n c) ?_ ?_
            · obtain ⟨X, hX, hXl, hXn⟩ := HO6.out.n
              obtain ⟨v', w1, hrun, h1, h2, ⟨h3, h4⟩, -⟩ := hX.append (by have := (HCW.out.trans (HDD.out.trans (HX5.out.trans HC56.out))).size; omega) 24 (.slice (some ⟨w5.heap.size, 0, none⟩) 1 1) [(xa, l.length, xc)] HSRC.out (fun _ _ => trivial) (by have := HFR.out.n; rw [hXl, List.length_take]; simp; omega) 24
              exact ⟨v', w1, hrun, (fun h => absurd h (by decide)), ⟨X, hX, hXl, hXn, h1⟩, h3, h4, h1.shape3⟩
            rintro v' w1 - ⟨h1, h2, h3, va', vn', vc', rfl⟩ K hK
            have hpush := HO6.out.push (x := (xa, l.length, xc)) (l := l) ((HX.out.chgB HC56.out (fun _ _ h => h)).lower (HCW.out.trans HDD.out).size) (fun g hg e => by
              have k1 := (HX.out.blk e).1
              obtain ⟨X, hX, _⟩ := HOD.out.n
              have k2 := (hX.blk hg).2
              omega) (fun g hg => by
              have k1 := HX.out.blk hg
              have k2 := HOD.out.lt
              have k3 := HC56.out.size
              exact ⟨by omega, by omega⟩) h1 h2 h3
            rw [← HTK.out] at hpush
            obtain ⟨⟨k1, k2⟩, hfin⟩ := hpush
            have HFIN := Lib.hid hfin
            have HCF : Hid (Chg (fun _ => False) w2 (w1.setCell ⟨bo, 2, none⟩ (.slice va' vn' vc'))) := Lib.hid (by
              have hb1 := HO6.out.hB
              refine (((HCW.out.trans (HDD.out.trans (HX5.out.trans HC56.out))).any (S := fun k => w2.heap.size ≤ k)).trans ((h2.mono (T := fun k => w2.heap.size ≤ k) (fun k _ e => ?_)).trans ((setCellChg w1 bo 2 _).mono (fun k _ e => by omega)))).fresh
              obtain ⟨X, hX, _⟩ := HO6.out.n
              exact (hX.blk e).1)
            clear h1 h2 h3 hfin
            (try go_simp)
            refine hK _ ?_
            clear hK K
            (refine late_turn (i := 6) (by kernel_rfl) rfl rfl (fun K hK => ?_); apply Exists.intro; apply Exists.intro; refine ⟨?_, ?_, ?_⟩; ((skip); go_simp; try first | with_reducible rfl | exact ⟨rfl, rfl⟩); (exact fun h => absurd h (by decide)); (try go_simp); refine hK _ _ ?_; clear hK K)
            (refine late_store (i := 7) (by kernel_rfl) rfl rfl (fun K hK => ?_); apply Exists.intro; refine ⟨?_, (fun h => absurd h (by decide)), ?_⟩; ((skip); go_simp; try first | with_reducible rfl | exact ⟨rfl, rfl⟩); (try go_simp); refine hK _ _ ?_; clear hK K)
            refine late_done (by kernel_rfl) ?_ _
            clear k1 k2
            go_wp2
            go_roundw
            case rel => exact ⟨vn + 1, _, by omega, by go_num, HFIN.out, HCF.out⟩
            case measure => simp [intOf]; omega
          · obtain rfl : k = t.n.length := by omega
            have b1 : decide ((t.n.length : Int) < (t.n.length : Int)) = false := by simp
            rw [List.take_length] at ho
            obtain ⟨⟨xr, yr, zr⟩, ⟨xc, yc, zc⟩, ⟨xn, yn, zn⟩, ⟨xe, ye, ze⟩, rfl, rfl, rfl, rfl, htab⟩ := ho.tab
            have HTAB := Lib.hid htab
            have HOT : Hid (∀ wx, Chg (fun _ => False) wr wx → wx.cell? ⟨bo, 0, none⟩ = some (.slice xr yr zr) ∧ wx.cell? ⟨bo, 1, none⟩ = some (.slice xc yc zc) ∧ wx.cell? ⟨bo, 2, none⟩ = some (.slice xn yn zn) ∧ wx.cell? ⟨bo, 3, none⟩ = some (.slice xe ye ze)) := Lib.hid (fun wx hx => ⟨hx.cellS ho.c0 (fun h => h), hx.cellS ho.c1 (fun h => h), hx.cellS ho.c2 (fun h => h), hx.cellS ho.c3 (fun h => h)⟩)
            clear ho htab HO
            go_upto_region 9 with (fail)
            refine wp_region_held (S := Chg (fun _ => False) wr) (by kernel_rfl) ?_
            show wpAnyH _ _ _ _ _ 7 (Array.replicate 7 false) _ wr.drew
            obtain ⟨wd, hwd⟩ : ∃ x, wr.drew = x := ⟨_, rfl⟩
            have HSS : Hid (Chg (fun _ => False) wr wd) := Lib.hid (by rw [← hwd]; exact (Chg.refl _ _).drew)
            rw [hwd]
            clear hwd
            have HSD := HSS
            (refine held_read (i := 0) rfl (by kernel_rfl) (by kernel_rfl) (by kernel_rfl) (fun _ _ _ _ h => h) rfl HSS.out (fun K hK => ?_); apply Exists.intro; refine ⟨fun w' hC => ?_, ?_⟩; ((obtain ⟨q0, q1, q2, q3⟩ := HOT.out w' hC); go_simp; try with_reducible rfl); (try go_simp); refine hK _ ?_; clear hK K)
            (refine held_read (i := 1) rfl (by kernel_rfl) (by kernel_rfl) (by kernel_rfl) (fun _ _ _ _ h => h) rfl HSS.out (fun K hK => ?_); apply Exists.intro; refine ⟨fun w' hC => ?_, ?_⟩; ((obtain ⟨-, q4⟩ := HT2.out w' (HCW.out.trans hC)); go_simp; try with_reducible rfl); (try go_simp); refine hK _ ?_; clear hK K)
            refine held_call (i := 2) (by kernel_rfl) rfl rfl 30 #[.slice da d.length dc] (fun v w'' => (∃ a k, v = .slice a d.length k ∧ d.length ≤ k) ∧ boolE.Own w'' wd.heap.size v d ∧ Chg (fun _ => False) wd w'') (by go_simp) ?_ ?_
            · refine (cloneBool d da dc B wd (HD.out.same (HCV.out.trans HSS.out)) hdl).mono ?_
              rintro e wy ⟨v, rfl, ho, hc⟩
              obtain ⟨a', k', hv, hk', _⟩ := ho.clip
              exact ⟨v, rfl, HSS.out.trans hc, ⟨a', k', hv, hk'⟩, ho, hc⟩
            rintro v w5 hs ⟨⟨xa, xd, rfl, hxd⟩, ho, hc⟩ K hK
            have HX := Lib.hid ho
            have HSS := Lib.hid hs
            have HWD := Lib.hid hc
            clear ho hc hs
            (try go_simp)
            refine hK _ ?_
            clear hK K
            (refine held_read (i := 3) rfl (by kernel_rfl) (by kernel_rfl) (by kernel_rfl) (fun _ _ _ _ h => h) rfl HSS.out (fun K hK => ?_); apply Exists.intro; refine ⟨fun w' hC => ?_, ?_⟩; ((skip); go_simp; try with_reducible rfl); (try go_simp); refine hK _ ?_; clear hK K)
            refine held_turn (i := 4) (by kernel_rfl) rfl rfl (fun K hK => ?_)
            apply Exists.intro
            apply Exists.intro
            refine ⟨?_, ?_, ?_⟩
            (go_simp; try first | with_reducible rfl | exact ⟨rfl, rfl⟩)
            exact HSS.out.alloc _
            (try go_simp)
            refine hK _ _ ?_
            clear hK K
            have HSS := Lib.hid (HSS.out.alloc (.cells #[.slice xr yr zr, .slice xc yc zc, .slice xn yn zn, .slice xe ye ze, .slice xa d.length xd] 53))
            (refine held_one (i := 5) (by kernel_rfl) rfl rfl HSS.out (fun K hK => ?_); apply Exists.intro; refine ⟨?_, ?_⟩; ((skip); go_simp; try with_reducible rfl); (try go_simp); refine hK _ ?_; clear hK K)
            (refine held_one (i := 6) (by kernel_rfl) rfl rfl HSS.out (fun K hK => ?_); apply Exists.intro; refine ⟨?_, ?_⟩; ((skip); go_simp; try with_reducible rfl); (try go_simp); refine hK _ ?_; clear hK K)
            refine wpAnyH_done (by kernel_rfl) ?_ _
            go_wp2
            go_ret2
            unfold NewPostP
            rw [if_pos HF.out]
            have hc2 := (Chg.refl (fun _ => False) w5).alloc (.cells #[.slice xr yr zr, .slice xc yc zc, .slice xn yn zn, .slice xe ye ze, .slice xa d.length xd] 53)
            have hwr5 : Chg (fun _ => False) wr (w5.alloc (.cells #[.slice xr yr zr, .slice xc yc zc, .slice xn yn zn, .slice xe ye ze, .slice xa d.length xd] 53)) := HSS.out
            have hw25 := HCV.out.trans hwr5
            refine ⟨w5.heap.size, (xr, yr, zr), (xc, yc, zc), (xn, yn, zn), (xe, ye, ze), (xa, d.length, xd), rfl, ⟨lexBox w5 (xr, yr, zr) (xc, yc, zc) (xn, yn, zn) (xe, ye, ze) (xa, d.length, xd) _, (HTAB.out.same hwr5).lower HC2.out.size, ((HX.out.in' hxd).same hc2).lower ?_⟩, ?_, by simp, hw25⟩
            · have := HCV.out.size; have := HSD.out.size; omega
            · have := HCV.out.size; have := HSD.out.size; have := HWD.out.size; omega
end Go.Proofs.YtfhmblbomkhcpaaDoor
