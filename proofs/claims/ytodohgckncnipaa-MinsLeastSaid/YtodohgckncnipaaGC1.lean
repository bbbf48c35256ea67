/- 'MinsAlike': the walk. -/
import Derived.Test.YtodohgckncnipaaGB2
import Derived.Test.YtodohgckncnipaaGB3
/- 'MinsAlike': the walk. -/
namespace Go.Proofs.Ytodohgckncnipaa
open Go.RowKit

theorem post_weak {t : TabD} {w w' : World} {e : Ending} (h : LeastPost t w e w') : ∃ (rs cs ns es : Sl) (x : Int), e = .returned (.tuple #[.agg #[.slice rs.1 rs.2.1 rs.2.2, .slice cs.1 cs.2.1 cs.2.2, .slice ns.1 ns.2.1 ns.2.2, .slice es.1 es.2.1 es.2.2], .int .i64 x]) ∧ (mayT t = true → x = 0 ∧ TabIn w' 0 rs cs ns es (leastT t)) ∧ (mayT t = false → x = 1 ∧ TabIn w' 0 rs cs ns es ⟨[], [], [], []⟩) ∧ Chg (fun _ => False) w w' := by
  unfold LeastPost at h
  have nl : ∀ {α : Type} (E : Elt α) (w : World), E.In w 0 (none, 0, 0) [] := fun E w => ⟨rfl, Nat.le_refl _, 0, 0, .nil _ _ _ _, fun h => absurd h (by simp)⟩
  cases hm : mayT t with
  | true =>
    rw [if_pos hm] at h
    obtain ⟨rs, cs, ns, es, he, ho, hc⟩ := h
    exact ⟨rs, cs, ns, es, 0, he, fun _ => ⟨rfl, ho⟩, (fun h => by cases h), hc⟩
  | false =>
    rw [if_neg (by rw [hm]; decide)] at h
    exact ⟨(none, 0, 0), (none, 0, 0), (none, 0, 0), (none, 0, 0), 1, h.1, (fun h => by cases h), fun _ => ⟨rfl, nl _ _, nl _ _, ⟨[], nl _ _, rfl, fun j x l hx => by simp at hx⟩, nl _ _⟩, h.2⟩
theorem alikeB_same (t u : TabD) : alikeB t u = (mayT t && (mayT u && sameB (leastT t) (leastT u))) := rfl

set_option maxRecDepth 100000 in
set_option maxHeartbeats 8000000 in
theorem lawAlike_any (t u : TabD) (rs cs ns es rs' cs' ns' es' : Sl) (B B' : Nat) (w : World) (h : TabIn w B rs cs ns es t) (h' : TabIn w B' rs' cs' ns' es' u) (hv : Vast t) (hv' : Vast u) :
    Calls Try.prog 4 #[tabV rs cs ns es, tabV rs' cs' ns' es'] w fun e w' => e = .returned (.bool true) ∧ Chg (fun _ => False) w w' := by
  have HTB := Lib.hid h
  have HTU := Lib.hid h'
  have HV := Lib.hid hv
  have HVU := Lib.hid hv'
  obtain ⟨ra, rn, rc⟩ := rs
  obtain ⟨ca, cn, cc⟩ := cs
  obtain ⟨na, nn, nc⟩ := ns
  obtain ⟨ea, en, ec⟩ := es
  obtain ⟨ra', rn', rc'⟩ := rs'
  obtain ⟨ca', cn', cc'⟩ := cs'
  obtain ⟨na', nn', nc'⟩ := ns'
  obtain ⟨ea', en', ec'⟩ := es'
  clear h h' hv hv'
  obtain ⟨wt, hwt⟩ : ∃ x, x = w.alloc (.cells #[.slice ra rn rc, .slice ca cn cc, .slice na nn nc, .slice ea en ec] 26) := ⟨_, rfl⟩
  obtain ⟨wa, hwa⟩ : ∃ x, x = wt.alloc (.cells #[.slice ra' rn' rc', .slice ca' cn' cc', .slice na' nn' nc', .slice ea' en' ec'] 26) := ⟨_, rfl⟩
  have hct : Chg (fun _ => False) w wt := by rw [hwt]; exact (Chg.refl _ _).alloc _
  have hca : Chg (fun _ => False) wt wa := by rw [hwa]; exact (Chg.refl _ _).alloc _
  have hst : wt.heap.size = w.heap.size + 1 := by rw [hwt]; simp
  have HC0 := Lib.hid (hct.trans hca)
  have HBX : Hid (∀ wx, Chg (fun _ => False) wa wx → wx.cell? ⟨w.heap.size, 0, none⟩ = some (.slice ra rn rc) ∧ wx.cell? ⟨w.heap.size, 1, none⟩ = some (.slice ca cn cc) ∧ wx.cell? ⟨w.heap.size, 2, none⟩ = some (.slice na nn nc) ∧ wx.cell? ⟨w.heap.size, 3, none⟩ = some (.slice ea en ec)) := Lib.hid (fun wx hx => by
    have h1 : BoxT wt w.heap.size (ra, rn, rc) (ca, cn, cc) (na, nn, nc) (ea, en, ec) := by rw [hwt]; exact tabBox w (ra, rn, rc) (ca, cn, cc) (na, nn, nc) (ea, en, ec) 26
    exact h1.chg (hca.trans hx) (fun h => h))
  have HBU : Hid (∀ wx, Chg (fun _ => False) wa wx → wx.cell? ⟨w.heap.size + 1, 0, none⟩ = some (.slice ra' rn' rc') ∧ wx.cell? ⟨w.heap.size + 1, 1, none⟩ = some (.slice ca' cn' cc') ∧ wx.cell? ⟨w.heap.size + 1, 2, none⟩ = some (.slice na' nn' nc') ∧ wx.cell? ⟨w.heap.size + 1, 3, none⟩ = some (.slice ea' en' ec')) := Lib.hid (fun wx hx => by
    have h1 : BoxT wa (w.heap.size + 1) (ra', rn', rc') (ca', cn', cc') (na', nn', nc') (ea', en', ec') := by rw [← hst, hwa]; exact tabBox wt (ra', rn', rc') (ca', cn', cc') (na', nn', nc') (ea', en', ec') 26
    exact h1.chg hx (fun h => h))
  have HWA := Lib.hid (show _ ∧ _ from ⟨hwt, hwa⟩)
  clear hwt hwa hct hca hst
  obtain ⟨q0, q1, q2, q3⟩ := HBX.out wa (Chg.refl _ _)
  show Calls Try.prog 4 #[.agg #[.slice ra rn rc, .slice ca cn cc, .slice na nn nc, .slice ea en ec], .agg #[.slice ra' rn' rc', .slice ca' cn' cc', .slice na' nn' nc', .slice ea' en' ec']] w _
  go_enter Try.func4, Try.ntmps4
  go_upto_region 1 with (fail)
  rw [← HWA.out.1, ← HWA.out.2]
  go_wp2_with fail
  refine (great10_any t (ra, rn, rc) (ca, cn, cc) (na, nn, nc) (ea, en, ec) B wa (HTB.out.same HC0.out) HV.out).mono ?_
  rintro e w1 ⟨rfl, hc⟩
  have HC1 := Lib.hid hc
  clear hc q0 q1 q2 q3
  cases hg : great10 t with
  | true =>
    clear hg
    go_wp2_with fail
    refine (lives_any w1).mono ?_
    rintro e w2 ⟨rfl, hc⟩
    have HC2 := Lib.hid (HC0.out.trans (HC1.out.trans hc))
    clear hc
    go_wp2
    go_ret
    exact ⟨rfl, HC2.out⟩
  | false =>
    have HFT := Lib.hid (greatT_fair (t := t) (by unfold great10 at hg; exact (Bool.or_eq_false_iff.1 hg).1)).1
    clear hg
    obtain ⟨p0, p1, p2, p3⟩ := HBU.out w1 HC1.out
    go_wp2_with fail
    refine (great10_any u (ra', rn', rc') (ca', cn', cc') (na', nn', nc') (ea', en', ec') B' w1 (HTU.out.same (HC0.out.trans HC1.out)) HVU.out).mono ?_
    rintro e w2 ⟨rfl, hc⟩
    have HC2 := Lib.hid (HC1.out.trans hc)
    clear hc p0 p1 p2 p3
    cases hg : great10 u with
    | true =>
      clear hg
      go_wp2_with fail
      refine (lives_any w2).mono ?_
      rintro e w3 ⟨rfl, hc⟩
      have HC3 := Lib.hid (HC0.out.trans (HC2.out.trans hc))
      clear hc
      go_wp2
      go_ret
      exact ⟨rfl, HC3.out⟩
    | false =>
      have HFU := Lib.hid (greatT_fair (t := u) (by unfold great10 at hg; exact (Bool.or_eq_false_iff.1 hg).1)).1
      clear hg
      obtain ⟨q0, q1, q2, q3⟩ := HBX.out w2 HC2.out
      go_wp2_with fail
      refine (other_any (ra, rn, rc) (ca, cn, cc) (na, nn, nc) (ea, en, ec) w2).mono ?_
      rintro e w3 ⟨he, hc⟩
      have he : e = .returned (.agg #[.slice ra rn rc, .slice ca cn cc, .slice na nn nc, .slice ea en ec]) := he
      subst he
      have HC3 := Lib.hid (HC2.out.trans hc)
      clear hc q0 q1 q2 q3
      go_wp2_with fail
      refine (refLeast_any t (ra, rn, rc) (ca, cn, cc) (na, nn, nc) (ea, en, ec) B w3 (HTB.out.same (HC0.out.trans HC3.out)) HFT.out).mono ?_
      intro e w4 hp
      obtain ⟨⟨r1a, r1n, r1c⟩, ⟨c1a, c1n, c1c⟩, ⟨n1a, n1n, n1c⟩, ⟨e1a, e1n, e1c⟩, x, rfl, hx1, hx2, hc⟩ := post_weak hp
      simp only at hx1 hx2 ⊢
      have HX := Lib.hid (show _ ∧ _ from ⟨hx1, hx2⟩)
      obtain ⟨w5, hw5⟩ : ∃ X, X = w4.alloc (.cells #[.slice r1a r1n r1c, .slice c1a c1n c1c, .slice n1a n1n n1c, .slice e1a e1n e1c] 33) := ⟨_, rfl⟩
      have HC45 : Hid (Chg (fun _ => False) w4 w5) := Lib.hid (by rw [hw5]; exact (Chg.refl _ _).alloc _)
      have HC5 := Lib.hid (HC3.out.trans (hc.trans HC45.out))
      have HB5 : Hid (BoxT w5 w4.heap.size (r1a, r1n, r1c) (c1a, c1n, c1c) (n1a, n1n, n1c) (e1a, e1n, e1c)) := Lib.hid (by rw [hw5]; exact tabBox w4 (r1a, r1n, r1c) (c1a, c1n, c1c) (n1a, n1n, n1c) (e1a, e1n, e1c) 33)
      have HW5 := Lib.hid hw5
      clear hc hx1 hx2 hw5 hp
      go_upto_region 4 with (fail)
      rw [← HW5.out]
      obtain ⟨p0, p1, p2, p3⟩ := HBU.out w5 HC5.out
      go_wp2_with fail
      refine (other_any (ra', rn', rc') (ca', cn', cc') (na', nn', nc') (ea', en', ec') w5).mono ?_
      rintro e w6 ⟨he, hc⟩
      have he : e = .returned (.agg #[.slice ra' rn' rc', .slice ca' cn' cc', .slice na' nn' nc', .slice ea' en' ec']) := he
      subst he
      have HC56 := Lib.hid hc
      clear hc p0 p1 p2 p3
      go_wp2_with fail
      refine (refLeast_any u (ra', rn', rc') (ca', cn', cc') (na', nn', nc') (ea', en', ec') B' w6 (HTU.out.same (HC0.out.trans (HC5.out.trans HC56.out))) HFU.out).mono ?_
      intro e w7 hp
      obtain ⟨⟨r2a, r2n, r2c⟩, ⟨c2a, c2n, c2c⟩, ⟨n2a, n2n, n2c⟩, ⟨e2a, e2n, e2c⟩, y, rfl, hy1, hy2, hc⟩ := post_weak hp
      simp only at hy1 hy2 ⊢
      have HY := Lib.hid (show _ ∧ _ from ⟨hy1, hy2⟩)
      obtain ⟨w8, hw8⟩ : ∃ X, X = w7.alloc (.cells #[.slice r2a r2n r2c, .slice c2a c2n c2c, .slice n2a n2n n2c, .slice e2a e2n e2c] 33) := ⟨_, rfl⟩
      have HC78 : Hid (Chg (fun _ => False) w7 w8) := Lib.hid (by rw [hw8]; exact (Chg.refl _ _).alloc _)
      have HC58 := Lib.hid (HC56.out.trans (hc.trans HC78.out))
      have HC8 := Lib.hid (HC5.out.trans HC58.out)
      have HB8 : Hid (BoxT w8 w7.heap.size (r2a, r2n, r2c) (c2a, c2n, c2c) (n2a, n2n, n2c) (e2a, e2n, e2c)) := Lib.hid (by rw [hw8]; exact tabBox w7 (r2a, r2n, r2c) (c2a, c2n, c2c) (n2a, n2n, n2c) (e2a, e2n, e2c) 33)
      have HB58 := Lib.hid (HB5.out.chg HC58.out (fun h => h))
      have HW8 := Lib.hid hw8
      clear hc hy1 hy2 hw8 hp
      go_upto_region 5 with (fail)
      rw [← HW8.out]
      go_cut [9] (fun v w' => v = .bool (alikeB t u) ∧ Chg (fun _ => False) w8 w')
      case first =>
        cases hmt : mayT t with
        | false =>
          have HA : Hid (alikeB t u = false) := Lib.hid (by rw [alikeB_same, hmt, Bool.false_and])
          obtain rfl := (HX.out.2 hmt).1
          clear hmt
          go_wp2_with fail
          go_meet
          exact ⟨by rw [HA.out], Chg.refl _ _⟩
        | true =>
          obtain ⟨hx0, htx⟩ := HX.out.1 hmt
          subst hx0
          cases hmu : mayT u with
          | false =>
            have HA : Hid (alikeB t u = false) := Lib.hid (by rw [alikeB_same, hmu, Bool.false_and, Bool.and_false])
            obtain rfl := (HY.out.2 hmu).1
            clear hmt hmu htx
            go_wp2_with fail
            go_meet
            exact ⟨by rw [HA.out], Chg.refl _ _⟩
          | true =>
            obtain ⟨hy0, hty⟩ := HY.out.1 hmu
            subst hy0
            have HA : Hid (alikeB t u = sameB (leastT t) (leastT u)) := Lib.hid (by rw [alikeB_same, hmt, hmu, Bool.true_and, Bool.true_and])
            have HFL := Lib.hid (least_fair (mayT_iff.1 hmt) HFT.out)
            have HTX := Lib.hid (htx.same (HC45.out.trans HC58.out))
            have HTY := Lib.hid (hty.same HC78.out)
            have x0 : w8.cell? ⟨w4.heap.size, 0, none⟩ = some (.slice r1a r1n r1c) := HB58.out.1
            have x1 : w8.cell? ⟨w4.heap.size, 1, none⟩ = some (.slice c1a c1n c1c) := HB58.out.2.1
            have x2 : w8.cell? ⟨w4.heap.size, 2, none⟩ = some (.slice n1a n1n n1c) := HB58.out.2.2.1
            have x3 : w8.cell? ⟨w4.heap.size, 3, none⟩ = some (.slice e1a e1n e1c) := HB58.out.2.2.2
            have y0 : w8.cell? ⟨w7.heap.size, 0, none⟩ = some (.slice r2a r2n r2c) := HB8.out.1
            have y1 : w8.cell? ⟨w7.heap.size, 1, none⟩ = some (.slice c2a c2n c2c) := HB8.out.2.1
            have y2 : w8.cell? ⟨w7.heap.size, 2, none⟩ = some (.slice n2a n2n n2c) := HB8.out.2.2.1
            have y3 : w8.cell? ⟨w7.heap.size, 3, none⟩ = some (.slice e2a e2n e2c) := HB8.out.2.2.2
            clear hmt hmu htx hty HX HY
            go_wp2_with fail
            refine (same9_any (leastT t) (leastT u) (r1a, r1n, r1c) (c1a, c1n, c1c) (n1a, n1n, n1c) (e1a, e1n, e1c) (r2a, r2n, r2c) (c2a, c2n, c2c) (n2a, n2n, n2c) (e2a, e2n, e2c) 0 0 w8 HTX.out HTY.out HFL.out).mono ?_
            rintro e w9 ⟨rfl, hc⟩
            have HC9 := Lib.hid hc
            obtain ⟨b, hb⟩ : ∃ b, sameB (leastT t) (leastT u) = b := ⟨_, rfl⟩
            have HBB := Lib.hid hb
            rw [hb]
            clear hc hb x0 x1 x2 x3 y0 y1 y2 y3
            go_wp2_with fail
            go_meet
            exact ⟨by rw [HA.out, HBB.out], HC9.out⟩
      case rest =>
        obtain ⟨rfl, hc⟩ := hcut
        have HC9 := Lib.hid (HC8.out.trans hc)
        obtain ⟨b, hb⟩ : ∃ b, alikeB t u = b := ⟨_, rfl⟩
        have HBB := Lib.hid hb
        rw [hb]
        obtain ⟨q0, q1, q2, q3⟩ := HBX.out wc HC9.out
        obtain ⟨p0, p1, p2, p3⟩ := HBU.out wc HC9.out
        clear hc hb
        go_wp2_with fail
        refine (alike_any t u (ra, rn, rc) (ca, cn, cc) (na, nn, nc) (ea, en, ec) (ra', rn', rc') (ca', cn', cc') (na', nn', nc') (ea', en', ec') B B' wc (HTB.out.same (HC0.out.trans HC9.out)) (HTU.out.same (HC0.out.trans HC9.out)) HFT.out HFU.out).mono ?_
        rintro e w10 ⟨rfl, hc⟩
        rw [HBB.out]
        have HC10 := Lib.hid (HC9.out.trans hc)
        have b1 : (b == b) = true := by simp
        clear hc q0 q1 q2 q3 p0 p1 p2 p3
        go_wp2_with fail
        refine (lives_any w10).mono ?_
        rintro e w11 ⟨rfl, hc⟩
        have HC11 := Lib.hid (HC0.out.trans (HC10.out.trans hc))
        clear hc
        go_wp2
        go_ret
        exact ⟨rfl, HC11.out⟩
end Go.Proofs.Ytodohgckncnipaa
