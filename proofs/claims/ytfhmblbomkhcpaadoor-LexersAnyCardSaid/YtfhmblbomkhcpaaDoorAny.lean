/- Whatever table, whatever is dropped: the walk of harbingerlaw11.LexersAny (printed by wip/gen/any.py). -/
import Derived.Test.YtfhmblbomkhcpaaDoorLeftT
import Derived.Test.YtfhmblbomkhcpaaDoorToksC
import Derived.Test.YtfhmblbomkhcpaaDoorBookT
namespace Go.Proofs.YtfhmblbomkhcpaaDoor
open Go.RowKit

theorem Elt.Row.set1 {α : Type} {E : Elt α} {w : World} {g : Nat} {C : List α} (h : E.Row w g C) {k : Nat} (hk : k < C.length) {x : α} {u : Value} (hx : E.ok x) (hz : E.sz = 1) (hu : E.enc x = [u]) : E.Row (w.setCell ⟨g, k, none⟩ u) g (C.set k x) := by
  have := Elt.Row.set h hk hx
  rw [hz, hu, Nat.mul_one] at this
  exact this
theorem Elt.Row.get1 {α : Type} {E : Elt α} {w : World} {g : Nat} {C : List α} (h : E.Row w g C) {k : Nat} {x : α} {u : Value} (hk : C[k]? = some x) (hz : E.sz = 1) (hu : E.enc x = [u]) : w.cell? ⟨g, k, none⟩ = some u :=
  h.cell hk (i := 0) (by rw [hu]; rfl) (by rw [hz]; omega)
/-- A page of tokens that have no room behind. -/
theorem tokPg {w : World} {B : Nat} {a : Option Addr} {L : List TokD} (h : tokE.Own w B (.slice a L.length L.length) L) (hl : L.length ≤ 16384) (m bh : TokD) : ∃ p : PgT, p.v = .slice a L.length L.length ∧ p.mark = m ∧ p.behind = bh ∧ PageTSt w p 0 ∧ ∀ g, p.g = some g → B ≤ g ∧ g < w.heap.size := by
  rcases h with ⟨h1, h2⟩ | ⟨g, C, h1, h2, h3, h4, h5⟩
  · subst h2
    injection h1 with e1
    subst e1
    exact ⟨⟨none, 0, 0, m, bh⟩, rfl, rfl, rfl, ⟨Nat.le_refl _, fun _ => rfl, by simp, fun g hg => by cases hg⟩, fun g hg => by cases hg⟩
  · injection h1 with e1 e2 e3
    subst e1
    refine ⟨⟨some g, L.length, L.length, m, bh⟩, rfl, rfl, rfl, ⟨Nat.le_refl _, (fun h => by cases h), by show L.length ≤ _; omega, fun g' hg => ?_⟩, fun g' hg => ?_⟩
    · obtain rfl := Option.some.inj hg
      exact ⟨C, h3, e3.symm, fun h => absurd h (by omega), fun h => absurd h (by omega)⟩
    · obtain rfl := Option.some.inj hg
      exact ⟨h2, h3.lt⟩

set_option maxRecDepth 100000 in
set_option maxHeartbeats 16000000 in
theorem anyL_any (t : TabD) (rs cs ns es : Sl) (B : Nat) (s : ByteArray) (da : Option Addr) (dc : Nat) (D : List Bool) (w : World) (h : TabIn w B rs cs ns es t) (hv : Vast t) (hT : Tabs w) (hD : boolE.In w B (da, D.length, dc) D) :
    Calls Tryd.prog 3 #[tabV rs cs ns es, .slice da D.length dc, .string s] w fun e w' => e = .returned (.bool true) ∧ Chg (fun _ => False) w w' := by
  have HT := Lib.hid hT
  have HTB := Lib.hid h
  have HV := Lib.hid hv
  obtain ⟨ra, rn, rc⟩ := rs
  obtain ⟨ca, cn, cc⟩ := cs
  obtain ⟨na, nn, nc⟩ := ns
  obtain ⟨ea, en, ec⟩ := es
  obtain ⟨rfl, he1⟩ := h.e.len
  have HD := Lib.hid hD
  have hdl : D.length ≤ dc := hD.2.1
  clear h hv hT hD
  obtain ⟨wa, hwa⟩ : ∃ x, x = w.alloc (.cells #[.slice ra rn rc, .slice ca cn cc, .slice na nn nc, .slice ea t.e.length ec] 26) := ⟨_, rfl⟩
  have HT0 : Hid (∀ wx, Chg (fun _ => False) wa wx → (wx.cell? ⟨w.heap.size, 0, none⟩ = some (.slice ra rn rc) ∧ wx.cell? ⟨w.heap.size, 1, none⟩ = some (.slice ca cn cc) ∧ wx.cell? ⟨w.heap.size, 2, none⟩ = some (.slice na nn nc) ∧ wx.cell? ⟨w.heap.size, 3, none⟩ = some (.slice ea t.e.length ec))) := Lib.hid (fun wx hx => by
    subst hwa
    exact (tabBox w (ra, rn, rc) (ca, cn, cc) (na, nn, nc) (ea, t.e.length, ec) 26).chg hx (fun h => h))
  have HC0 : Hid (Chg (fun _ => False) w wa) := Lib.hid (by rw [hwa]; exact (Chg.refl _ _).alloc _)
  have HWA := Lib.hid hwa
  clear hwa
  obtain ⟨q0, q1, q2, q3⟩ := HT0.out wa (Chg.refl _ _)
  show Calls Tryd.prog 3 #[.agg #[.slice ra rn rc, .slice ca cn cc, .slice na nn nc, .slice ea t.e.length ec], .slice da D.length dc, .string s] w _
  cases hgr : greatT t with
  | true =>
    have HG := Lib.hid hgr
    clear hgr
    go_enter Tryd.func3, Tryd.ntmps3
    go_upto_region 1 with (fail)
    rw [← HWA.out]
    go_wp2_with fail
    refine (great_any t (ra, rn, rc) (ca, cn, cc) (na, nn, nc) (ea, t.e.length, ec) B wa (HTB.out.same HC0.out) HV.out).mono ?_
    rintro e w1 ⟨rfl, hc⟩
    rw [HG.out]
    have HC1 := Lib.hid (HC0.out.trans hc)
    have HC01 := Lib.hid hc
    clear hc q0 q1 q2 q3
    go_wp2_with fail
    refine (lives_any w1 (HT.out.same HC1.out)).mono ?_
    rintro e wl ⟨rfl, hc⟩
    have HCL := Lib.hid (HC1.out.trans hc)
    clear hc
    go_wp2
    go_ret
    exact ⟨rfl, HCL.out⟩
  | false =>
    have HG := Lib.hid hgr
    have HF := Lib.hid (greatT_fair hgr).1
    have hel : t.e.length ≤ 6000 := (greatT_fair hgr).2
    clear hgr
    by_cases hdz : 100 < D.length
    · have d1 : decide (100 < (D.length : Int)) = true := by simp; omega
      have d2 : decide (100 < D.length) = true := by simp; omega
      go_enter Tryd.func3, Tryd.ntmps3
      go_upto_region 1 with (fail)
      rw [← HWA.out]
      go_wp2_with fail
      refine (great_any t (ra, rn, rc) (ca, cn, cc) (na, nn, nc) (ea, t.e.length, ec) B wa (HTB.out.same HC0.out) HV.out).mono ?_
      rintro e w1 ⟨rfl, hc⟩
      rw [HG.out]
      have HC1 := Lib.hid (HC0.out.trans hc)
      have HC01 := Lib.hid hc
      clear hc q0 q1 q2 q3
      go_wp2_with fail
      refine (lives_any w1 (HT.out.same HC1.out)).mono ?_
      rintro e wl ⟨rfl, hc⟩
      have HCL := Lib.hid (HC1.out.trans hc)
      clear hc
      go_wp2
      go_ret
      exact ⟨rfl, HCL.out⟩
    · have d1 : decide (100 < (D.length : Int)) = false := by simp; omega
      have d2 : decide (100 < D.length) = false := by simp; omega
      by_cases hsz : 2000 < s.size
      · have d3 : decide (2000 < (s.size : Int)) = true := by simp; omega
        have d4 : decide (2000 < s.size) = true := by simp; omega
        go_enter Tryd.func3, Tryd.ntmps3
        go_upto_region 1 with (fail)
        rw [← HWA.out]
        go_wp2_with fail
        refine (great_any t (ra, rn, rc) (ca, cn, cc) (na, nn, nc) (ea, t.e.length, ec) B wa (HTB.out.same HC0.out) HV.out).mono ?_
        rintro e w1 ⟨rfl, hc⟩
        rw [HG.out]
        have HC1 := Lib.hid (HC0.out.trans hc)
        have HC01 := Lib.hid hc
        clear hc q0 q1 q2 q3
        go_wp2_with fail
        refine (lives_any w1 (HT.out.same HC1.out)).mono ?_
        rintro e wl ⟨rfl, hc⟩
        have HCL := Lib.hid (HC1.out.trans hc)
        clear hc
        go_wp2
        go_ret
        exact ⟨rfl, HCL.out⟩
      · have d3 : decide (2000 < (s.size : Int)) = false := by simp; omega
        have d4 : decide (2000 < s.size) = false := by simp; omega
        cases hok : newOk t D with
        | false =>
          have HN := Lib.hid hok
          clear hok
          go_enter Tryd.func3, Tryd.ntmps3
          go_upto_region 1 with (fail)
          rw [← HWA.out]
          go_wp2_with fail
          refine (great_any t (ra, rn, rc) (ca, cn, cc) (na, nn, nc) (ea, t.e.length, ec) B wa (HTB.out.same HC0.out) HV.out).mono ?_
          rintro e w1 ⟨rfl, hc⟩
          rw [HG.out]
          have HC1 := Lib.hid (HC0.out.trans hc)
          have HC01 := Lib.hid hc
          clear hc q0 q1 q2 q3
          obtain ⟨q0, q1, q2, q3⟩ := HT0.out w1 HC01.out
          go_wp2_with fail
          refine (twinT_any t (ra, rn, rc) (ca, cn, cc) (na, nn, nc) (ea, t.e.length, ec) B w1 (HTB.out.same HC1.out) HF.out).mono ?_
          rintro e w2 ⟨ru, cu, ⟨nua, nun, nuc⟩, eu, he, htw, hc⟩
          obtain ⟨hr, rfl, hrB, -⟩ := htw.r
          obtain ⟨hcc, rfl, hcB, -⟩ := htw.c
          obtain ⟨hee, rfl, heB, her⟩ := htw.e
          obtain ⟨rfl, hnu⟩ := htw.tab.n.len
          have he : e = .returned (.agg #[.slice (some ⟨hr, 0, none⟩) t.r.length (t.r.length + 2), .slice (some ⟨hcc, 0, none⟩) t.c.length (t.c.length + 2), .slice nua t.n.length nuc, .slice (some ⟨hee, 0, none⟩) t.e.length (t.e.length + 2)]) := he
          subst he
          have HTW := Lib.hid htw
          have HER := Lib.hid her
          have HEB := Lib.hid heB
          have HC2 := Lib.hid (HC1.out.trans hc)
          have HC02 := Lib.hid (HC01.out.trans hc)
          clear htw her heB hrB hcB hnu hc q0 q1 q2 q3
          go_upto_region 4 with (fail)
          obtain ⟨w3, hw3⟩ : ∃ x, w2.alloc (.cells #[.slice (some ⟨hr, 0, none⟩) t.r.length (t.r.length + 2), .slice (some ⟨hcc, 0, none⟩) t.c.length (t.c.length + 2), .slice nua t.n.length nuc, .slice (some ⟨hee, 0, none⟩) t.e.length (t.e.length + 2)] 26) = x := ⟨_, rfl⟩
          have HC23 : Hid (Chg (fun _ => False) w2 w3) := Lib.hid (by rw [← hw3]; exact (Chg.refl _ _).alloc _)
          have HS3 : Hid (w3.heap.size = w2.heap.size + 1) := Lib.hid (by rw [← hw3]; simp)
          have HU3 : Hid (∀ wx, Chg (fun k => k ≠ w2.heap.size) w3 wx → (wx.cell? ⟨w2.heap.size, 0, none⟩ = some (.slice (some ⟨hr, 0, none⟩) t.r.length (t.r.length + 2)) ∧ wx.cell? ⟨w2.heap.size, 1, none⟩ = some (.slice (some ⟨hcc, 0, none⟩) t.c.length (t.c.length + 2)) ∧ wx.cell? ⟨w2.heap.size, 2, none⟩ = some (.slice nua t.n.length nuc) ∧ wx.cell? ⟨w2.heap.size, 3, none⟩ = some (.slice (some ⟨hee, 0, none⟩) t.e.length (t.e.length + 2)))) := Lib.hid (fun wx hx => by
            subst hw3
            exact (tabBox w2 (some ⟨hr, 0, none⟩, t.r.length, t.r.length + 2) (some ⟨hcc, 0, none⟩, t.c.length, t.c.length + 2) (nua, t.n.length, nuc) (some ⟨hee, 0, none⟩, t.e.length, t.e.length + 2) 26).chg hx (fun h => h rfl))
          rw [hw3]
          clear hw3
          obtain ⟨p0, p1, p2, p3⟩ := HU3.out w3 (Chg.refl _ _)
          go_wp2_with (at_builtin; refine Elt.wpList_append2 boolE rfl _ _ 27 27 rfl rfl w3.heap.size (.slice none 0 0) [] D (.slice da D.length dc) rfl rfl (Elt.Own.nil _ _) (Nat.le_refl _) (HD.out.same (HC2.out.trans HC23.out)).src (fun _ _ => trivial) (by simp; omega) ?_; intro vd w4 HO4 HC34 HC34b; have HO4 := Lib.hid (List.nil_append D ▸ HO4.out); obtain ⟨dva, dvc, hvd, hdvc, -⟩ := HO4.out.clip; subst hvd; have HC34 := Lib.hid HC34.out.fresh; clear HC34b p0 p1 p2 p3; obtain ⟨p0, p1, p2, p3⟩ := HU3.out w4 HC34.out.any)
          have HC4 := Lib.hid (HC2.out.trans (HC23.out.trans HC34.out))
          have HTU := Lib.hid ((HTW.out.same (HC23.out.trans HC34.out)).tab.lower (Nat.zero_le _))
          refine (new_any t D (some ⟨hr, 0, none⟩, t.r.length, t.r.length + 2) (some ⟨hcc, 0, none⟩, t.c.length, t.c.length + 2) (nua, t.n.length, nuc) (some ⟨hee, 0, none⟩, t.e.length, t.e.length + 2) (dva, D.length, dvc) 0 w4 HTU.out HF.out ((HO4.out.in' hdvc).lower (Nat.zero_le _)) (by omega)).mono ?_
          intro e w5 hp
          unfold NewPostP at hp
          rw [if_neg (by rw [HN.out]; decide)] at hp
          obtain ⟨rfl, hc⟩ := hp
          have HC45 := Lib.hid hc
          clear hc p0 p1 p2 p3
          obtain ⟨q0, q1, q2, q3⟩ := HT0.out w5 (HC02.out.trans (HC23.out.trans (HC34.out.trans HC45.out)))
          go_wp2_with fail
          refine (other_any (ra, rn, rc) (ca, cn, cc) (na, nn, nc) (ea, t.e.length, ec) w5).mono ?_
          rintro e w6 ⟨he, hc⟩
          have he : e = .returned (.agg #[.slice ra rn rc, .slice ca cn cc, .slice na nn nc, .slice ea t.e.length ec]) := he
          subst he
          have HC56 := Lib.hid hc
          clear hc q0 q1 q2 q3
          go_wp2_with fail
          refine (refNew_any t D (ra, rn, rc) (ca, cn, cc) (na, nn, nc) (ea, t.e.length, ec) (da, D.length, dc) B w6 (HTB.out.same (HC4.out.trans (HC45.out.trans HC56.out))) HF.out (HD.out.same (HC4.out.trans (HC45.out.trans HC56.out)))).mono ?_
          intro e w7 hp
          unfold NewPost at hp
          rw [if_neg (by rw [HN.out]; decide)] at hp
          obtain ⟨rfl, hc⟩ := hp
          have HC67 := Lib.hid hc
          clear hc
          have HC7 := Lib.hid (HC4.out.trans (HC45.out.trans (HC56.out.trans HC67.out)))
          obtain ⟨q0, q1, q2, q3⟩ := HT0.out w7 (HC02.out.trans (HC23.out.trans (HC34.out.trans (HC45.out.trans (HC56.out.trans HC67.out)))))
          obtain ⟨p0, p1, p2, p3⟩ := HU3.out w7 (HC34.out.trans (HC45.out.trans (HC56.out.trans HC67.out))).any
          go_wp2_with fail
          refine (leftT_any t (some ⟨hr, 0, none⟩, t.r.length, t.r.length + 2) (some ⟨hcc, 0, none⟩, t.c.length, t.c.length + 2) (nua, t.n.length, nuc) (some ⟨hee, 0, none⟩, t.e.length, t.e.length + 2) (ra, rn, rc) (ca, cn, cc) (na, nn, nc) (ea, t.e.length, ec) w1.heap.size B w7 (HTW.out.same (HC23.out.trans (HC34.out.trans (HC45.out.trans (HC56.out.trans HC67.out))))) (HTB.out.same HC7.out) HF.out).mono ?_
          rintro e w8 ⟨rfl, hc⟩
          have HC78 := Lib.hid hc
          have HC8 := Lib.hid (HC7.out.trans hc)
          clear hc q0 q1 q2 q3 p0 p1 p2 p3
          go_wp2_with fail
          refine (lives_any w8 (HT.out.same HC8.out)).mono ?_
          rintro e wl ⟨rfl, hc⟩
          have HCL := Lib.hid (HC8.out.trans hc)
          clear hc
          go_wp2
          go_ret
          exact ⟨rfl, HCL.out⟩
        | true =>
          have HN := Lib.hid hok
          clear hok
          go_enter Tryd.func3, Tryd.ntmps3
          go_upto_region 1 with (fail)
          rw [← HWA.out]
          go_wp2_with fail
          refine (great_any t (ra, rn, rc) (ca, cn, cc) (na, nn, nc) (ea, t.e.length, ec) B wa (HTB.out.same HC0.out) HV.out).mono ?_
          rintro e w1 ⟨rfl, hc⟩
          rw [HG.out]
          have HC1 := Lib.hid (HC0.out.trans hc)
          have HC01 := Lib.hid hc
          clear hc q0 q1 q2 q3
          obtain ⟨q0, q1, q2, q3⟩ := HT0.out w1 HC01.out
          go_wp2_with fail
          refine (twinT_any t (ra, rn, rc) (ca, cn, cc) (na, nn, nc) (ea, t.e.length, ec) B w1 (HTB.out.same HC1.out) HF.out).mono ?_
          rintro e w2 ⟨ru, cu, ⟨nua, nun, nuc⟩, eu, he, htw, hc⟩
          obtain ⟨hr, rfl, hrB, -⟩ := htw.r
          obtain ⟨hcc, rfl, hcB, -⟩ := htw.c
          obtain ⟨hee, rfl, heB, her⟩ := htw.e
          obtain ⟨rfl, hnu⟩ := htw.tab.n.len
          have he : e = .returned (.agg #[.slice (some ⟨hr, 0, none⟩) t.r.length (t.r.length + 2), .slice (some ⟨hcc, 0, none⟩) t.c.length (t.c.length + 2), .slice nua t.n.length nuc, .slice (some ⟨hee, 0, none⟩) t.e.length (t.e.length + 2)]) := he
          subst he
          have HTW := Lib.hid htw
          have HER := Lib.hid her
          have HEB := Lib.hid heB
          have HC2 := Lib.hid (HC1.out.trans hc)
          have HC02 := Lib.hid (HC01.out.trans hc)
          clear htw her heB hrB hcB hnu hc q0 q1 q2 q3
          go_upto_region 4 with (fail)
          obtain ⟨w3, hw3⟩ : ∃ x, w2.alloc (.cells #[.slice (some ⟨hr, 0, none⟩) t.r.length (t.r.length + 2), .slice (some ⟨hcc, 0, none⟩) t.c.length (t.c.length + 2), .slice nua t.n.length nuc, .slice (some ⟨hee, 0, none⟩) t.e.length (t.e.length + 2)] 26) = x := ⟨_, rfl⟩
          have HC23 : Hid (Chg (fun _ => False) w2 w3) := Lib.hid (by rw [← hw3]; exact (Chg.refl _ _).alloc _)
          have HS3 : Hid (w3.heap.size = w2.heap.size + 1) := Lib.hid (by rw [← hw3]; simp)
          have HU3 : Hid (∀ wx, Chg (fun k => k ≠ w2.heap.size) w3 wx → (wx.cell? ⟨w2.heap.size, 0, none⟩ = some (.slice (some ⟨hr, 0, none⟩) t.r.length (t.r.length + 2)) ∧ wx.cell? ⟨w2.heap.size, 1, none⟩ = some (.slice (some ⟨hcc, 0, none⟩) t.c.length (t.c.length + 2)) ∧ wx.cell? ⟨w2.heap.size, 2, none⟩ = some (.slice nua t.n.length nuc) ∧ wx.cell? ⟨w2.heap.size, 3, none⟩ = some (.slice (some ⟨hee, 0, none⟩) t.e.length (t.e.length + 2)))) := Lib.hid (fun wx hx => by
            subst hw3
            exact (tabBox w2 (some ⟨hr, 0, none⟩, t.r.length, t.r.length + 2) (some ⟨hcc, 0, none⟩, t.c.length, t.c.length + 2) (nua, t.n.length, nuc) (some ⟨hee, 0, none⟩, t.e.length, t.e.length + 2) 26).chg hx (fun h => h rfl))
          rw [hw3]
          clear hw3
          obtain ⟨p0, p1, p2, p3⟩ := HU3.out w3 (Chg.refl _ _)
          go_wp2_with (at_builtin; refine Elt.wpList_append2 boolE rfl _ _ 27 27 rfl rfl w3.heap.size (.slice none 0 0) [] D (.slice da D.length dc) rfl rfl (Elt.Own.nil _ _) (Nat.le_refl _) (HD.out.same (HC2.out.trans HC23.out)).src (fun _ _ => trivial) (by simp; omega) ?_; intro vd w4 HO4 HC34 HC34b; have HO4 := Lib.hid (List.nil_append D ▸ HO4.out); obtain ⟨dva, dvc, hvd, hdvc, -⟩ := HO4.out.clip; subst hvd; have HC34 := Lib.hid HC34.out.fresh; clear HC34b p0 p1 p2 p3; obtain ⟨p0, p1, p2, p3⟩ := HU3.out w4 HC34.out.any)
          have HC4 := Lib.hid (HC2.out.trans (HC23.out.trans HC34.out))
          have HTU := Lib.hid ((HTW.out.same (HC23.out.trans HC34.out)).tab.lower (Nat.zero_le _))
          refine (new_any t D (some ⟨hr, 0, none⟩, t.r.length, t.r.length + 2) (some ⟨hcc, 0, none⟩, t.c.length, t.c.length + 2) (nua, t.n.length, nuc) (some ⟨hee, 0, none⟩, t.e.length, t.e.length + 2) (dva, D.length, dvc) 0 w4 HTU.out HF.out ((HO4.out.in' hdvc).lower (Nat.zero_le _)) (by omega)).mono ?_
          intro e w5 hp
          unfold NewPostP at hp
          rw [if_pos HN.out] at hp
          obtain ⟨b, xr, xc, xn, xe, xd, rfl, hlex, hbx, hbx2, hc⟩ := hp
          have HC45 := Lib.hid hc
          have HLX := Lib.hid hlex
          have HBX := Lib.hid (show _ ∧ _ from ⟨hbx, hbx2⟩)
          clear hc hlex hbx hbx2 p0 p1 p2 p3
          obtain ⟨q0, q1, q2, q3⟩ := HT0.out w5 (HC02.out.trans (HC23.out.trans (HC34.out.trans HC45.out)))
          go_wp2_with fail
          refine (other_any (ra, rn, rc) (ca, cn, cc) (na, nn, nc) (ea, t.e.length, ec) w5).mono ?_
          rintro e w6 ⟨he, hc⟩
          have he : e = .returned (.agg #[.slice ra rn rc, .slice ca cn cc, .slice na nn nc, .slice ea t.e.length ec]) := he
          subst he
          have HC56 := Lib.hid hc
          clear hc q0 q1 q2 q3
          go_wp2_with fail
          refine (refNew_any t D (ra, rn, rc) (ca, cn, cc) (na, nn, nc) (ea, t.e.length, ec) (da, D.length, dc) B w6 (HTB.out.same (HC4.out.trans (HC45.out.trans HC56.out))) HF.out (HD.out.same (HC4.out.trans (HC45.out.trans HC56.out)))).mono ?_
          intro e w7 hp
          unfold NewPost at hp
          rw [if_pos HN.out] at hp
          obtain ⟨y, rfl, hley, hby, hby2, hc⟩ := hp
          have HC67 := Lib.hid hc
          have HLY := Lib.hid hley
          have HBY := Lib.hid (show _ ∧ _ from ⟨hby, hby2⟩)
          clear hc hley hby hby2
          have HC7 := Lib.hid (HC4.out.trans (HC45.out.trans (HC56.out.trans HC67.out)))
          obtain ⟨q0, q1, q2, q3⟩ := HT0.out w7 (HC02.out.trans (HC23.out.trans (HC34.out.trans (HC45.out.trans (HC56.out.trans HC67.out)))))
          obtain ⟨p0, p1, p2, p3⟩ := HU3.out w7 (HC34.out.trans (HC45.out.trans (HC56.out.trans HC67.out))).any
          go_wp2_with fail
          refine (leftT_any t (some ⟨hr, 0, none⟩, t.r.length, t.r.length + 2) (some ⟨hcc, 0, none⟩, t.c.length, t.c.length + 2) (nua, t.n.length, nuc) (some ⟨hee, 0, none⟩, t.e.length, t.e.length + 2) (ra, rn, rc) (ca, cn, cc) (na, nn, nc) (ea, t.e.length, ec) w1.heap.size B w7 (HTW.out.same (HC23.out.trans (HC34.out.trans (HC45.out.trans (HC56.out.trans HC67.out))))) (HTB.out.same HC7.out) HF.out).mono ?_
          rintro e w8 ⟨rfl, hc⟩
          have HC78 := Lib.hid hc
          have HC8 := Lib.hid (HC7.out.trans hc)
          clear hc q0 q1 q2 q3 p0 p1 p2 p3
          obtain ⟨p0, p1, p2, p3⟩ := HU3.out w8 (HC34.out.trans (HC45.out.trans (HC56.out.trans (HC67.out.trans HC78.out)))).any
          have HCX := Lib.hid (HC56.out.trans (HC67.out.trans HC78.out))
          have HEL : Hid (hee < w2.heap.size) := Lib.hid HER.out.lt
          have HC28 := Lib.hid (HC23.out.trans (HC34.out.trans (HC45.out.trans (HC56.out.trans (HC67.out.trans HC78.out)))))
          have HEE := Lib.hid (HER.out.chg HC28.out (fun h => h))
          go_wp2
          clear p0 p1 p2 p3
          go_loopw [13] (fun q wr => ∃ k : Nat, k ≤ t.e.length ∧ q = .int .i64 k ∧ (∃ C, intE.Row wr hee C ∧ C.length = t.e.length + 2) ∧ Chg (fun x => x = hee) w8 wr) (fun q _ => t.e.length - (intOf q).toNat)
          case atStart => exact ⟨0, by omega, rfl, ⟨_, HEE.out, by simp⟩, Chg.refl _ _⟩
          case round =>
            clear HEE
            obtain ⟨k, hk, rfl, ⟨C, hrow, hCl⟩, hc⟩ := hrel
            have HCW := Lib.hid hc
            have HROW := Lib.hid hrow
            have HCL := Lib.hid hCl
            clear hc hCl
            obtain ⟨p0, p1, p2, p3⟩ := HU3.out wr ((HC34.out.trans (HC45.out.trans (HC56.out.trans (HC67.out.trans HC78.out)))).any.trans (HCW.out.mono (fun k _ e => by have := HEL.out; omega)))
            by_cases hkl : k < t.e.length
            · have b1 : decide ((k : Int) < (t.e.length : Int)) = true := by simp; omega
              obtain ⟨x, hx⟩ : ∃ x, C[k]? = some x := ⟨_, List.getElem?_eq_getElem (by have := HCL.out; omega)⟩
              have c0 := hrow.get1 hx rfl rfl
              have z0 := hrow.z k
              have HRW := Lib.hid (hrow.set1 (k := k) (x := -1) (u := .int .i64 (-1)) (by have := HCL.out; omega) (by constructor <;> omega) rfl rfl)
              have HLN : Hid ((C.set k (-1)).length = t.e.length + 2) := Lib.hid (by rw [List.length_set]; exact HCL.out)
              have HCC := Lib.hid (HCW.out.trans (setCellChg wr hee k (.int .i64 (-1))))
              clear hrow hx
              go_wp2
              go_roundw
              case rel => exact ⟨k + 1, by omega, by go_num, ⟨_, HRW.out, HLN.out⟩, HCC.out⟩
              case measure => simp [intOf]; omega
            · obtain rfl : k = t.e.length := by omega
              have b1 : decide ((t.e.length : Int) < (t.e.length : Int)) = false := by simp
              clear hrow
              have HCX9 := Lib.hid (HCX.out.any.trans HCW.out)
              have HC9 : Hid (Chg (fun _ => False) w wr) := Lib.hid ((HC8.out.any (S := fun k => w.heap.size ≤ k)).trans (HCW.out.mono (fun k _ e => by have := HEB.out; have := HC1.out.size; omega))).fresh
              obtain ⟨w9, hw9⟩ : ∃ x, x = wr := ⟨_, rfl⟩
              rw [← hw9] at HCX9 HC9 HCW p0 p1 p2 p3 ⊢
              have HC89 := HCW
              have HLX9 := Lib.hid ((HLX.out.same (HC56.out.trans (HC67.out.trans HC78.out))).chgB HC89.out (fun e => by have := HBX.out.1; have := HEL.out; have := (HC23.out.trans HC34.out).size; omega) (fun g hg e => by have := HEL.out; have := (HC23.out.trans HC34.out).size; omega))
              have HLY9 : Hid (LexAt w9 y B (ra, rn, rc) (ca, cn, cc) (na, nn, nc) (ea, t.e.length, ec) (da, D.length, dc) t D) := Lib.hid (by
                have hs := HEL.out
                have hs2 := (HC23.out.trans (HC34.out.trans (HC45.out.trans HC56.out))).size
                have hs3 := HBY.out.1
                obtain ⟨k0, k1, k2, k3, k4⟩ := (HLY.out.same HC78.out).c
                have hy : ¬ y = hee := by omega
                exact ⟨⟨HC89.out.cellS k0 hy, HC89.out.cellS k1 hy, HC89.out.cellS k2 hy, HC89.out.cellS k3 hy, HC89.out.cellS k4 hy⟩, HTB.out.same HC9.out, HD.out.same HC9.out⟩)
              have HO9 := Lib.hid (((HO4.out.chg (HC45.out.trans (HC56.out.trans (HC67.out.trans HC78.out))) (fun _ _ _ h => h)).chg HC89.out (fun g hg _ e => by have := HEL.out; have := HS3.out; omega)))
              have HROWD : Hid (∀ g, dva = some ⟨g, 0, none⟩ → ∃ C, boolE.Row w9 g C ∧ D.length ≤ C.length ∧ w3.heap.size ≤ g ∧ g < w4.heap.size) := Lib.hid (fun g hg => by
                subst hg
                obtain ⟨hg1, hg2⟩ := HO4.out.blk (g := g) rfl
                rcases HO9.out with ⟨h, _⟩ | ⟨g', C', h1, h2, h3, h4, h5⟩
                · cases h
                · injection h1 with e1 e2 e3
                  injection e1 with e1
                  injection e1 with e1
                  subst e1
                  exact ⟨C', h3, h4.length_le, hg1, hg2⟩)
              have HDV : Hid (0 < D.length → ∃ g, dva = some ⟨g, 0, none⟩) := Lib.hid (fun h => by
                obtain ⟨a, g, c, h1, h2, h3, h4⟩ := HO4.out.at'
                injection h1 with e1 e2 e3
                exact ⟨g, e1.trans (h4 h).1⟩)
              clear HCX HCX9 HROW HCL hw9 HCW
              go_wp2
              clear p0 p1 p2 p3
              go_loopw [14] (fun q wr => ∃ k : Nat, k ≤ D.length ∧ q = .int .i64 k ∧ (∀ g, dva = some ⟨g, 0, none⟩ → ∃ C, boolE.Row wr g C ∧ D.length ≤ C.length) ∧ Chg (fun x => w3.heap.size ≤ x ∧ x < w4.heap.size) w9 wr) (fun q _ => D.length - (intOf q).toNat)
              case atStart => exact ⟨0, by omega, rfl, fun g hg => by obtain ⟨C, h1, h2, -⟩ := HROWD.out g hg; exact ⟨C, h1, h2⟩, Chg.refl _ _⟩
              case round =>
                obtain ⟨k, hk, rfl, hrow, hc⟩ := hrel
                have HCW := Lib.hid hc
                clear hc
                by_cases hkl : k < D.length
                · have b2 : decide ((k : Int) < (D.length : Int)) = true := by simp; omega
                  obtain ⟨gd, rfl⟩ := HDV.out (by omega)
                  obtain ⟨C, hR, hCl⟩ := hrow gd rfl
                  obtain ⟨-, -, -, hg1, hg2⟩ := HROWD.out gd rfl
                  obtain ⟨x, hx⟩ : ∃ x, C[k]? = some x := ⟨_, List.getElem?_eq_getElem (by omega)⟩
                  have c0 := hR.get1 hx rfl rfl
                  have z0 := hR.z k
                  have HRW := Lib.hid (hR.set1 (k := k) (x := !x) (u := .bool !x) (by omega) trivial rfl rfl)
                  have HLN : Hid (D.length ≤ (C.set k (!x)).length) := Lib.hid (by rw [List.length_set]; exact hCl)
                  have HCC := Lib.hid (HCW.out.trans ((setCellChg wr gd k (.bool !x)).mono (T := fun x => w3.heap.size ≤ x ∧ x < w4.heap.size) (fun k _ e => by rw [e]; exact ⟨hg1, hg2⟩)))
                  clear hrow hR hx hCl
                  go_wp2
                  go_roundw
                  case rel => exact ⟨k + 1, by omega, by go_num, (fun g hg => by injection hg with hg; injection hg with hg; subst hg; exact ⟨_, HRW.out, HLN.out⟩), HCC.out⟩
                  case measure => simp [intOf]; omega
                · obtain rfl : k = D.length := by omega
                  have b2 : decide ((D.length : Int) < (D.length : Int)) = false := by simp
                  clear hrow
                  have HC10 : Hid (Chg (fun _ => False) w wr) := Lib.hid ((HC9.out.any (S := fun k => w.heap.size ≤ k)).trans (HCW.out.mono (fun k _ e => by have := (HC2.out.trans HC23.out).size; omega))).fresh
                  have HLX1 := Lib.hid (HLX9.out.chgB HCW.out (fun e => by have := HBX.out.1; omega) (fun g hg e => by omega))
                  have HLY1 : Hid (LexAt wr y B (ra, rn, rc) (ca, cn, cc) (na, nn, nc) (ea, t.e.length, ec) (da, D.length, dc) t D) := Lib.hid (by
                    have hs2 := (HC45.out.trans HC56.out).size
                    have hs3 := HBY.out.1
                    obtain ⟨k0, k1, k2, k3, k4⟩ := HLY9.out.c
                    have hy : ¬ (w3.heap.size ≤ y ∧ y < w4.heap.size) := by omega
                    exact ⟨⟨HCW.out.cellS k0 hy, HCW.out.cellS k1 hy, HCW.out.cellS k2 hy, HCW.out.cellS k3 hy, HCW.out.cellS k4 hy⟩, HTB.out.same HC10.out, HD.out.same HC10.out⟩)
                  clear HROWD HDV HO9 HLX9 HLY9 HC9 HC89 HER HTW HO4 HLX HLY HCW
                  obtain ⟨wb, hwb⟩ : ∃ x, x = wr := ⟨_, rfl⟩
                  rw [← hwb] at HC10 HLX1 HLY1 ⊢
                  clear hwb
                  have hq : (s.size : Int).tdiv 8 = ((s.size / 8 : Nat) : Int) := by rw [Int.tdiv_eq_ediv_of_nonneg (by omega)]; omega
                  go_wp2
                  go_loopw [15] (fun q wr => ∃ z : Int, -1 ≤ z ∧ z ≤ 3000 ∧ q = .int .i64 z ∧ Chg (fun _ => False) wb wr) (fun q _ => (s.size + 1 - intOf q).toNat)
                  case atStart => exact ⟨-1, by omega, by omega, rfl, Chg.refl _ _⟩
                  case round =>
                    obtain ⟨z, hz1, hz2, rfl, hc⟩ := hrel
                    have HCW := Lib.hid hc
                    clear hc
                    by_cases hzl : z ≤ s.size
                    · have b3 : decide (z ≤ (s.size : Int)) = true := by simpa using hzl
                      go_wp2_with fail
                      refine (long_any b w4.heap.size xr xc xn xe xd t D s z wr (HLX1.out.same HCW.out) HF.out (newOk_spec HN.out).1 (HT.out.same (HC10.out.trans HCW.out)) (by omega) ⟨by omega, by omega⟩).mono ?_
                      rintro e wx ⟨rfl, hc⟩
                      have HCY := Lib.hid (HCW.out.trans hc)
                      clear hc
                      go_wp2_with fail
                      refine (refLong_any y B (ra, rn, rc) (ca, cn, cc) (na, nn, nc) (ea, t.e.length, ec) (da, D.length, dc) t D s z wx (HLY1.out.same HCY.out) HF.out (newOk_spec HN.out).1 (by omega) ⟨by omega, by omega⟩).mono ?_
                      rintro e wy ⟨rfl, hc⟩
                      have HCZ := Lib.hid (HCY.out.trans hc)
                      clear hc
                      go_wp2
                      go_roundw
                      case rel => exact ⟨z + 1 + (s.size / 8 : Nat), by omega, by omega, by go_num, HCZ.out⟩
                      case measure => simp [intOf]; omega
                    · have b3 : decide (z ≤ (s.size : Int)) = false := by simp; omega
                      have HLX2 := Lib.hid (HLX1.out.same HCW.out)
                      have HLY2 := Lib.hid (HLY1.out.same HCW.out)
                      have HC11 := Lib.hid (HC10.out.trans HCW.out)
                      clear HLX1 HLY1 HC10 HCW hq
                      go_wp2_with fail
                      refine (toksC_any b w4.heap.size xr xc xn xe xd t D s wr HLX2.out HF.out (newOk_spec HN.out).1 (HT.out.same HC11.out) (by omega) (newOk_spec HN.out).2).mono ?_
                      rintro e x1 ⟨la, L, p, q, htk, rfl, hol, hll, hc⟩
                      have HTK := Lib.hid htk
                      have HOL := Lib.hid hol
                      have HX1 := Lib.hid hc
                      clear htk hol hc
                      go_wp2_with fail
                      refine (refToks_any y B (ra, rn, rc) (ca, cn, cc) (na, nn, nc) (ea, t.e.length, ec) (da, D.length, dc) t D s x1 (HLY2.out.same HX1.out) HF.out (newOk_spec HN.out).1 (by omega) (newOk_spec HN.out).2).mono ?_
                      rintro e x2 ⟨v, he, hom, hc⟩
                      rw [HTK.out] at he hom
                      obtain ⟨ma, mc, rfl, hmc, -⟩ := hom.clip
                      simp only at he
                      subst he
                      have HOM := Lib.hid hom
                      have HX2 := Lib.hid hc
                      clear hom hc
                      go_wp2_with fail
                      refine (sameTokens L la ma L.length mc wr.heap.size x1.heap.size x2 ((HOL.out.in' (Nat.le_refl _)).same HX2.out) (HOM.out.in' hmc) (by omega)).mono ?_
                      rintro e x3 ⟨rfl, hc⟩
                      have HX3 := Lib.hid hc
                      clear hc
                      go_wp2_with fail
                      refine (toksC_any b w4.heap.size xr xc xn xe xd t D s x3 (HLX2.out.same (HX1.out.trans (HX2.out.trans HX3.out))) HF.out (newOk_spec HN.out).1 (HT.out.same (HC11.out.trans (HX1.out.trans (HX2.out.trans HX3.out)))) (by omega) (newOk_spec HN.out).2).mono ?_
                      rintro e x4 ⟨ka, K, p2, q2, htk, rfl, hok, hkl', hc⟩
                      have HX4 := Lib.hid hc
                      obtain ⟨P0, hv0, hm0, hb0, hs0, hg0⟩ := tokPg (HOL.out.chg (HX2.out.trans (HX3.out.trans hc)) (fun _ _ _ h => h)) hll (1, ⟨#[]⟩, 0) (0, ⟨#[]⟩, 1)
                      obtain ⟨P1, hv1, hm1, hb1, hs1, hg1⟩ := tokPg hok hkl' (2, ⟨#[]⟩, 0) (0, ⟨#[]⟩, 2)
                      have HP0 := Lib.hid (show _ ∧ _ ∧ _ ∧ _ ∧ _ from ⟨hv0, hm0, hb0, hs0, hg0⟩)
                      have HP1 := Lib.hid (show _ ∧ _ ∧ _ ∧ _ ∧ _ from ⟨hv1, hm1, hb1, hs1, hg1⟩)
                      have HLT0 : Hid (∀ g, P0.g = some g → g < x3.heap.size) := Lib.hid (fun g hg => by
                        have h1 := hs0.row g hg
                        obtain ⟨p', e1, -, -, -, e5⟩ := tokPg HOL.out hll (1, ⟨#[]⟩, 0) (0, ⟨#[]⟩, 1)
                        have e6 : p'.g = P0.g := by
                          have := e1.trans hv0.symm
                          unfold PgT.v at this
                          injection this with e7
                          cases h8 : p'.g <;> cases h9 : P0.g <;> rw [h8, h9] at e7 <;> simp at e7 ⊢
                          exact e7
                        have := (e5 g (e6.trans hg)).2
                        have := (HX2.out.trans HX3.out).size
                        omega)
                      clear htk hc hok hv0 hm0 hb0 hs0 hg0 hv1 hm1 hb1 hs1 hg1
                      go_wp2_with fail
                      have HB0 : Hid (BookAt (x4.alloc (.cells #[.slice none 0 0] 49)) (x4.heap.size + 1) x4.heap.size (.slice none 0 0) []) :=
                        Lib.hid ⟨by rw [World.cell?_alloc_new]; rfl, World.frozen?_alloc_new _ _ _ _, ⟨rfl, .inl ⟨rfl, rfl⟩⟩, by simp, by omega⟩
                      have HCB0 := Lib.hid ((Chg.refl (fun _ => False) x4).alloc (.cells #[.slice none 0 0] 49))
                      have HBT := Lib.hid (bookTokens_any (x4.heap.size + 1) x4.heap.size _ [] P0 _ HB0.out (by simp) HP0.out.2.1 HP0.out.2.2.1)
                      rw [HP0.out.1] at HBT
                      refine HBT.out.mono ?_
                      rintro e x5 ⟨v5, rfl, hk5, hc5⟩
                      have HK5 := Lib.hid hk5
                      have HC5 := Lib.hid (HCB0.out.any.trans (hc5.mono (T := fun k => x4.heap.size ≤ k) (fun k _ e => by omega)))
                      clear hk5 hc5 HB0 HCB0 HBT
                      have HBT := Lib.hid (bookTokens_any (x4.heap.size + 1) x4.heap.size v5 _ P1 x5 HK5.out (by simp) HP1.out.2.1 HP1.out.2.2.1)
                      rw [HP1.out.1] at HBT
                      go_wp2_with fail
                      refine HBT.out.mono ?_
                      rintro e x6 ⟨v6, rfl, hk6, hc6⟩
                      have HK6 := Lib.hid hk6
                      have HC6 := Lib.hid (HC5.out.trans (hc6.mono (T := fun k => x4.heap.size ≤ k) (fun k _ e => by omega)))
                      clear hk6 hc6 HBT HK5 HC5
                      have HAP := Lib.hid (apart_any (x4.heap.size + 1) x4.heap.size v6 _ x6 HK6.out (by simp) (fun k p hp => by
                        have hlt := HC6.out
                        match k with
                        | 0 =>
                          simp only [List.nil_append, List.singleton_append, List.getElem?_cons_zero, Option.some.injEq] at hp
                          subst hp
                          exact PageTSt.chg HP0.out.2.2.2.1 hlt (fun g hg e => by have := (HP0.out.2.2.2.2 g hg).2; omega)
                        | 1 =>
                          simp only [List.nil_append, List.singleton_append, List.getElem?_cons_zero, List.getElem?_cons_succ, Option.some.injEq] at hp
                          subst hp
                          exact PageTSt.chg HP1.out.2.2.2.1 hlt (fun g hg e => by have := (HP1.out.2.2.2.2 g hg).2; omega)
                        | k + 2 => simp at hp) (fun p hp g hg => by
                        simp only [List.nil_append, List.singleton_append, List.mem_cons, List.not_mem_nil, or_false] at hp
                        rcases hp with rfl | rfl
                        · exact (HP0.out.2.2.2.2 g hg).2
                        · exact (HP1.out.2.2.2.2 g hg).2) (fun i j p q hi hj hij g hg hg2 => by
                        have hi2 := (List.getElem?_eq_some_iff.1 hi).1
                        have hj2 := (List.getElem?_eq_some_iff.1 hj).1
                        simp at hi2 hj2
                        have l0 := HLT0.out g
                        have l1 := HP1.out.2.2.2.2 g
                        match i, j with
                        | 0, 0 => exact absurd rfl hij
                        | 1, 1 => exact absurd rfl hij
                        | 0, 1 =>
                          simp at hi hj
                          subst hi hj
                          have := l0 hg
                          have := (l1 hg2).1
                          omega
                        | 1, 0 =>
                          simp at hi hj
                          subst hi hj
                          have := l0 hg2
                          have := (l1 hg).1
                          omega
                        | i + 2, j => omega
                        | i, j + 2 => omega))
                      go_wp2_with fail
                      refine HAP.out.mono ?_
                      rintro e x7 ⟨rfl, hc7⟩
                      have HCE : Hid (Chg (fun _ => False) w x7) := Lib.hid (((HC11.out.trans (HX1.out.trans (HX2.out.trans (HX3.out.trans HX4.out)))).any (S := fun k => w.heap.size ≤ k)).trans ((HC6.out.mono (fun k _ e => by have := (HC11.out.trans (HX1.out.trans (HX2.out.trans (HX3.out.trans HX4.out)))).size; omega)).trans (hc7.mono (fun k _ ⟨p, hp, hg⟩ => by
                        simp only [List.nil_append, List.singleton_append, List.mem_cons, List.not_mem_nil, or_false] at hp
                        have := (HC11.out.trans (HX1.out.trans (HX2.out.trans HX3.out))).size
                        have := HC11.out.size
                        rcases hp with rfl | rfl
                        · have := (HP0.out.2.2.2.2 k hg).1; omega
                        · have := (HP1.out.2.2.2.2 k hg).1; omega)))).fresh
                      clear hc7
                      go_wp2_with fail
                      refine (lives_any x7 (HT.out.same HCE.out)).mono ?_
                      rintro e wl ⟨rfl, hc⟩
                      have HCL := Lib.hid (HCE.out.trans hc)
                      clear hc
                      go_wp2
                      go_ret
                      exact ⟨rfl, HCL.out⟩
end Go.Proofs.YtfhmblbomkhcpaaDoor
