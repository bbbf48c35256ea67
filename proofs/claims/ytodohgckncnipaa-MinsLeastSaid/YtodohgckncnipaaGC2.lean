/- 'MinsLeast': the walk. 'MinsLeast' for whatever table is handed in: true, and all reads as it did. No condition. -/
import Derived.Test.YtodohgckncnipaaGC1
import Derived.Test.YtodohgckncnipaaGB4
import Derived.SizedLaws
import Derived.OpenShut
import Derived.ShutString
import Derived.ChangeOld
import Derived.ProofKit
/- 'MinsLeast': the walk. -/
namespace Go.Proofs.Ytodohgckncnipaa
open Go.RowKit

/-- What both of the least tables are, and the error. -/
def resT (t : TabD) : TabD := if mayT t = true then leastT t else ⟨[], [], [], []⟩
def errT (t : TabD) : Int := if mayT t = true then 0 else 1
theorem res_fair {t : TabD} (hf : Fair t) : Fair (resT t) := by
  unfold resT
  cases hm : mayT t with
  | true => rw [if_pos rfl]; exact least_fair (mayT_iff.1 hm) hf
  | false => rw [if_neg (by decide)]; exact ⟨by simp, by simp, by simp, by simp, by simp⟩
theorem res_len (t : TabD) : (resT t).n.length ≤ t.n.length := by
  unfold resT
  cases hm : mayT t with
  | true =>
    rw [if_pos rfl]
    have ho := (order_ok (mayT_iff.1 hm)).1.len_le
    rw [least_nlen]; exact ho
  | false => rw [if_neg (by decide)]; simp
/-- The program's Least: a table, its lists, each its own page. -/
theorem least_pgs {t : TabD} {w w' : World} {e : Ending} (h : LeastOwn t w e w') : ∃ (rs cs ns es : Sl) (X : List Sl), e = .returned (.tuple #[.agg #[.slice rs.1 rs.2.1 rs.2.2, .slice cs.1 cs.2.1 cs.2.2, .slice ns.1 ns.2.1 ns.2.2, .slice es.1 es.2.1 es.2.2], .int .i64 (errT t)]) ∧ TabIn w' w.heap.size rs cs ns es (resT t) ∧ X.length = (resT t).n.length ∧ TabPg w' w.heap.size w'.heap.size rs cs ns es X ∧ Chg (fun _ => False) w w' := by
  unfold LeastOwn at h
  unfold resT errT
  cases hm : mayT t with
  | true =>
    rw [if_pos hm] at h
    obtain ⟨rs, cs, ns, es, τ, he, ho, hc⟩ := h
    obtain ⟨X, h1, h2⟩ := ho.pgs
    exact ⟨rs, cs, ns, es, X, he, ho.tab, h1, h2, hc⟩
  | false =>
    rw [if_neg (by rw [hm]; decide)] at h
    have nl : ∀ {α : Type} (E : Elt α) (w : World) (B : Nat), E.In w B (none, 0, 0) [] := fun E w B => .nil E w B
    have np : ∀ {α : Type} (E : Elt α) (w : World), PgOk E w (none, 0, 0) := fun E w => ⟨Nat.le_refl _, fun _ => rfl, by simp, rfl, fun g hg => by cases hg⟩
    refine ⟨(none, 0, 0), (none, 0, 0), (none, 0, 0), (none, 0, 0), [], h.1, ⟨nl _ _ _, nl _ _ _, ⟨[], nl _ _ _, rfl, fun j x l hx => by simp at hx⟩, nl _ _ _⟩, rfl, ⟨nl _ _ _, (fun g o hg => by cases hg), np _ _, np _ _, np _ _, (fun x hx => (List.not_mem_nil hx).elim), fun s hs g hg => ?_, ?_⟩, h.2⟩
    · simp only [List.mem_cons, List.not_mem_nil, or_false] at hs
      rcases hs with rfl | rfl | rfl <;> cases hg
    · refine List.pairwise_cons.2 ⟨(fun s hs g hg => by cases hg), List.pairwise_cons.2 ⟨(fun s hs g hg => by cases hg), List.pairwise_cons.2 ⟨(fun s hs g hg => by cases hg), .nil⟩⟩⟩
/-- The document's. -/
theorem post_res {t : TabD} {w w' : World} {e : Ending} (h : LeastPost t w e w') : ∃ (rs cs ns es : Sl), e = .returned (.tuple #[.agg #[.slice rs.1 rs.2.1 rs.2.2, .slice cs.1 cs.2.1 cs.2.2, .slice ns.1 ns.2.1 ns.2.2, .slice es.1 es.2.1 es.2.2], .int .i64 (errT t)]) ∧ TabIn w' 0 rs cs ns es (resT t) ∧ Chg (fun _ => False) w w' := by
  obtain ⟨rs, cs, ns, es, x, he, h1, h2, hc⟩ := post_weak h
  unfold resT errT
  cases hm : mayT t with
  | true =>
    obtain ⟨rfl, h3⟩ := h1 hm
    exact ⟨rs, cs, ns, es, he, h3, hc⟩
  | false =>
    obtain ⟨rfl, h3⟩ := h2 hm
    exact ⟨rs, cs, ns, es, he, h3, hc⟩

set_option maxRecDepth 100000 in
set_option maxHeartbeats 8000000 in
theorem lawLeast_any (t : TabD) (rs cs ns es : Sl) (B : Nat) (w : World) (h : TabIn w B rs cs ns es t) (hv : Vast t) :
    Calls Try.prog 3 #[tabV rs cs ns es] w fun e w' => e = .returned (.bool true) ∧ Chg (fun _ => False) w w' := by
  have HTB := Lib.hid h
  have HV := Lib.hid hv
  obtain ⟨ra, rn, rc⟩ := rs
  obtain ⟨ca, cn, cc⟩ := cs
  obtain ⟨na, nn, nc⟩ := ns
  obtain ⟨ea, en, ec⟩ := es
  clear h hv
  obtain ⟨wa, hwa⟩ : ∃ x, x = w.alloc (.cells #[.slice ra rn rc, .slice ca cn cc, .slice na nn nc, .slice ea en ec] 26) := ⟨_, rfl⟩
  have HC0 : Hid (Chg (fun _ => False) w wa) := Lib.hid (by rw [hwa]; exact (Chg.refl _ _).alloc _)
  have HBX : Hid (∀ wx, Chg (fun _ => False) wa wx → wx.cell? ⟨w.heap.size, 0, none⟩ = some (.slice ra rn rc) ∧ wx.cell? ⟨w.heap.size, 1, none⟩ = some (.slice ca cn cc) ∧ wx.cell? ⟨w.heap.size, 2, none⟩ = some (.slice na nn nc) ∧ wx.cell? ⟨w.heap.size, 3, none⟩ = some (.slice ea en ec)) := Lib.hid (fun wx hx => by
    have h1 : BoxT wa w.heap.size (ra, rn, rc) (ca, cn, cc) (na, nn, nc) (ea, en, ec) := by rw [hwa]; exact tabBox w (ra, rn, rc) (ca, cn, cc) (na, nn, nc) (ea, en, ec) 26
    exact h1.chg hx (fun h => h))
  have HWA := Lib.hid hwa
  clear hwa
  obtain ⟨q0, q1, q2, q3⟩ := HBX.out wa (Chg.refl _ _)
  show Calls Try.prog 3 #[.agg #[.slice ra rn rc, .slice ca cn cc, .slice na nn nc, .slice ea en ec]] w _
  go_enter Try.func3, Try.ntmps3
  go_upto_region 1 with (fail)
  rw [← HWA.out]
  go_wp2_with fail
  refine (great10_any t (ra, rn, rc) (ca, cn, cc) (na, nn, nc) (ea, en, ec) B wa (HTB.out.same HC0.out) HV.out).mono ?_
  rintro e w1 ⟨rfl, hc⟩
  have HC1 := Lib.hid hc
  clear hc q0 q1 q2 q3
  cases hg : great10 t with
  | true =>
    clear hg
    go_wp2_with fail
    refine (lives_any w1).mono ?_
    rintro e w2 ⟨rfl, hc⟩
    have HC2 := Lib.hid (HC0.out.trans (HC1.out.trans hc))
    clear hc
    go_wp2
    go_ret
    exact ⟨rfl, HC2.out⟩
  | false =>
    have HFT := Lib.hid (greatT_fair (t := t) (by unfold great10 at hg; exact (Bool.or_eq_false_iff.1 hg).1)).1
    have HN40 : Hid (t.n.length ≤ 40) := Lib.hid (by
      unfold great10 at hg
      have := (Bool.or_eq_false_iff.1 hg).2
      simpa using this)
    clear hg
    obtain ⟨q0, q1, q2, q3⟩ := HBX.out w1 HC1.out
    go_wp2_with fail
    refine (twinT_any t (ra, rn, rc) (ca, cn, cc) (na, nn, nc) (ea, en, ec) B w1 (HTB.out.same (HC0.out.trans HC1.out)) HFT.out).mono ?_
    rintro e w2 ⟨⟨r1a, r1n, r1c⟩, ⟨c1a, c1n, c1c⟩, ⟨n1a, n1n, n1c⟩, ⟨e1a, e1n, e1c⟩, he, hu, hc⟩
    have he : e = .returned (.agg #[.slice r1a r1n r1c, .slice c1a c1n c1c, .slice n1a n1n n1c, .slice e1a e1n e1c]) := he
    subst he
    obtain ⟨w3, hw3⟩ : ∃ X, X = w2.alloc (.cells #[.slice r1a r1n r1c, .slice c1a c1n c1c, .slice n1a n1n n1c, .slice e1a e1n e1c] 26) := ⟨_, rfl⟩
    have HC23 : Hid (Chg (fun _ => False) w2 w3) := Lib.hid (by rw [hw3]; exact (Chg.refl _ _).alloc _)
    have HC3 := Lib.hid (HC1.out.trans (hc.trans HC23.out))
    have HU := Lib.hid hu
    have HB3 : Hid (BoxT w3 w2.heap.size (r1a, r1n, r1c) (c1a, c1n, c1c) (n1a, n1n, n1c) (e1a, e1n, e1c)) := Lib.hid (by rw [hw3]; exact tabBox w2 (r1a, r1n, r1c) (c1a, c1n, c1c) (n1a, n1n, n1c) (e1a, e1n, e1c) 26)
    have HW3 := Lib.hid hw3
    have HSZ1 : Hid (w.heap.size ≤ w1.heap.size ∧ w2.heap.size ≤ w3.heap.size) := Lib.hid ⟨(HC0.out.trans HC1.out).size, HC23.out.size⟩
    clear hc hu hw3 q0 q1 q2 q3
    go_upto_region 4 with (fail)
    rw [← HW3.out]
    have hbx := HB3.out
    obtain ⟨p0, p1, p2, p3⟩ := hbx
    try simp only at p0 p1 p2 p3
    go_wp2_with fail
    refine (least_any t (r1a, r1n, r1c) (c1a, c1n, c1c) (n1a, n1n, n1c) (e1a, e1n, e1c) w1.heap.size w3 (HU.out.tab.same HC23.out) HFT.out).mono ?_
    intro e w4 hp
    obtain ⟨⟨r2a, r2n, r2c⟩, ⟨c2a, c2n, c2c⟩, ⟨n2a, n2n, n2c⟩, ⟨e2a, e2n, e2c⟩, X, he, hT, hXl, hPg, hc⟩ := least_pgs hp
    simp only at he
    obtain ⟨x, hx⟩ : ∃ x, errT t = x := ⟨_, rfl⟩
    rw [hx] at he
    subst he
    have HX := Lib.hid hx
    have HA := Lib.hid (show _ ∧ _ ∧ _ from ⟨hT, hXl, hPg⟩)
    obtain ⟨w5, hw5⟩ : ∃ X, X = w4.alloc (.cells #[.slice r2a r2n r2c, .slice c2a c2n c2c, .slice n2a n2n n2c, .slice e2a e2n e2c] 26) := ⟨_, rfl⟩
    have HC45 : Hid (Chg (fun _ => False) w4 w5) := Lib.hid (by rw [hw5]; exact (Chg.refl _ _).alloc _)
    have HC35 := Lib.hid (hc.trans HC45.out)
    have HC5 := Lib.hid (HC3.out.trans HC35.out)
    have HB5 : Hid (BoxT w5 w4.heap.size (r2a, r2n, r2c) (c2a, c2n, c2c) (n2a, n2n, n2c) (e2a, e2n, e2c)) := Lib.hid (by rw [hw5]; exact tabBox w4 (r2a, r2n, r2c) (c2a, c2n, c2c) (n2a, n2n, n2c) (e2a, e2n, e2c) 26)
    have HW5 := Lib.hid hw5
    have HSZ4 : Hid (w3.heap.size ≤ w4.heap.size ∧ w4.heap.size ≤ w5.heap.size) := Lib.hid ⟨hc.size, HC45.out.size⟩
    clear hc hx hT hXl hPg hw5 hp p0 p1 p2 p3
    go_upto_region 5 with (fail)
    rw [← HW5.out]
    obtain ⟨q0, q1, q2, q3⟩ := HBX.out w5 HC5.out
    go_wp2_with fail
    refine (other_any (ra, rn, rc) (ca, cn, cc) (na, nn, nc) (ea, en, ec) w5).mono ?_
    rintro e w6 ⟨he, hc⟩
    have he : e = .returned (.agg #[.slice ra rn rc, .slice ca cn cc, .slice na nn nc, .slice ea en ec]) := he
    subst he
    have HC56 := Lib.hid hc
    clear hc q0 q1 q2 q3
    go_wp2_with fail
    refine (refLeast_any t (ra, rn, rc) (ca, cn, cc) (na, nn, nc) (ea, en, ec) B w6 (HTB.out.same (HC0.out.trans (HC5.out.trans HC56.out))) HFT.out).mono ?_
    intro e w7 hp
    obtain ⟨⟨r3a, r3n, r3c⟩, ⟨c3a, c3n, c3c⟩, ⟨n3a, n3n, n3c⟩, ⟨e3a, e3n, e3c⟩, he, hT, hc⟩ := post_res hp
    simp only at he
    rw [HX.out] at he
    subst he
    have HTX := Lib.hid hT
    obtain ⟨w8, hw8⟩ : ∃ X, X = w7.alloc (.cells #[.slice r3a r3n r3c, .slice c3a c3n c3c, .slice n3a n3n n3c, .slice e3a e3n e3c] 33) := ⟨_, rfl⟩
    have HC78 : Hid (Chg (fun _ => False) w7 w8) := Lib.hid (by rw [hw8]; exact (Chg.refl _ _).alloc _)
    have HC58 := Lib.hid (HC56.out.trans (hc.trans HC78.out))
    have HC8 := Lib.hid (HC5.out.trans HC58.out)
    have HB8 : Hid (BoxT w8 w7.heap.size (r3a, r3n, r3c) (c3a, c3n, c3c) (n3a, n3n, n3c) (e3a, e3n, e3c)) := Lib.hid (by rw [hw8]; exact tabBox w7 (r3a, r3n, r3c) (c3a, c3n, c3c) (n3a, n3n, n3c) (e3a, e3n, e3c) 33)
    have HBU8 : Hid (∀ wx, Chg (fun _ => False) w8 wx → BoxT wx w2.heap.size (r1a, r1n, r1c) (c1a, c1n, c1c) (n1a, n1n, n1c) (e1a, e1n, e1c) ∧ BoxT wx w4.heap.size (r2a, r2n, r2c) (c2a, c2n, c2c) (n2a, n2n, n2c) (e2a, e2n, e2c)) := Lib.hid (fun wx hx => ⟨HB3.out.chg (HC35.out.trans (HC58.out.trans hx)) (fun h => h), HB5.out.chg (HC58.out.trans hx) (fun h => h)⟩)
    have HW8 := Lib.hid hw8
    clear hc hT hw8 hp
    go_upto_region 6 with (fail)
    rw [← HW8.out]
    have b0 : (x != x) = false := by simp
    obtain ⟨x0, x1, x2, x3⟩ := (HBU8.out w8 (Chg.refl _ _)).2
    have hbx := HB8.out
    obtain ⟨y0, y1, y2, y3⟩ := hbx
    try simp only at x0 x1 x2 x3 y0 y1 y2 y3
    go_wp2_with fail
    refine (same9_any (resT t) (resT t) (r2a, r2n, r2c) (c2a, c2n, c2c) (n2a, n2n, n2c) (e2a, e2n, e2c) (r3a, r3n, r3c) (c3a, c3n, c3c) (n3a, n3n, n3c) (e3a, e3n, e3c) w3.heap.size 0 w8 (HA.out.1.same (HC45.out.trans HC58.out)) (HTX.out.same HC78.out) (res_fair HFT.out)).mono ?_
    rintro e w9 ⟨rfl, hc⟩
    rw [show sameB (resT t) (resT t) = true from sameB_iff.2 rfl]
    have HC89 := Lib.hid hc
    clear hc x0 x1 x2 x3 y0 y1 y2 y3
    obtain ⟨x0, x1, x2, x3⟩ := (HBU8.out w9 HC89.out).1
    try simp only at x0 x1 x2 x3
    obtain ⟨q0, q1, q2, q3⟩ := HBX.out w9 (HC8.out.trans HC89.out)
    go_wp2_with fail
    refine (leftT_any t (r1a, r1n, r1c) (c1a, c1n, c1c) (n1a, n1n, n1c) (e1a, e1n, e1c) (ra, rn, rc) (ca, cn, cc) (na, nn, nc) (ea, en, ec) w1.heap.size B w9 (HU.out.same (HC23.out.trans (HC35.out.trans (HC58.out.trans HC89.out)))) (HTB.out.same (HC0.out.trans (HC8.out.trans HC89.out))) HFT.out).mono ?_
    rintro e w10 ⟨rfl, hc⟩
    have HC810 := Lib.hid (HC89.out.trans hc)
    clear hc x0 x1 x2 x3 q0 q1 q2 q3
    obtain ⟨XU, hXU, hPU⟩ := HU.out.pgs HFT.out
    obtain ⟨wb, hwb⟩ : ∃ X, X = w10.alloc (.cells #[.slice none 0 0] 41) := ⟨_, rfl⟩
    have hcb : Chg (fun _ => False) w10 wb := by rw [hwb]; exact (Chg.refl _ _).alloc _
    have HB0 : Hid (BookAt wb (w10.heap.size + 1) w10.heap.size (.slice none 0 0) []) := Lib.hid (by rw [hwb]; exact ⟨by rw [World.cell?_alloc_new]; rfl, World.frozen?_alloc_new _ _ _ _, ⟨rfl, .inl ⟨rfl, rfl⟩⟩, by simp, by omega⟩)
    have HCB := Lib.hid hcb
    have hS0 := HSZ1.out
    have hS4 := HSZ4.out
    have hS8 := HC58.out.size
    have hS10 := HC810.out.size
    have HPA := Lib.hid (HA.out.2.2.same (HC45.out.trans (HC58.out.trans HC810.out)))
    have HPU := Lib.hid (hPU.same (HC23.out.trans (HC35.out.trans (HC58.out.trans HC810.out))))
    have HXL : Hid (X.length ≤ 40 ∧ XU.length ≤ 40) := Lib.hid ⟨by rw [HA.out.2.1]; exact Nat.le_trans (res_len t) HN40.out, by rw [hXU]; exact HN40.out⟩
    have HW := Lib.hid hwb
    have HLB : Hid (∀ g : Nat, (g < w4.heap.size ∨ g < w2.heap.size) → g < w10.heap.size) := Lib.hid (fun g hg => by omega)
    obtain ⟨x0, x1, x2, x3⟩ := (HBU8.out wb (HC810.out.trans hcb)).2
    try simp only at x0 x1 x2 x3
    clear hcb hwb hPU hXU hS0 hS4 hS8 hS10
    go_upto_region 9 with (fail)
    rw [← HW.out]
    go_wp2_with fail
    refine (lists9_any (r2a, r2n, r2c) (c2a, c2n, c2c) (n2a, n2n, n2c) (e2a, e2n, e2c) X (w10.heap.size + 1) w10.heap.size (.slice none 0 0) [] wb HB0.out (HPA.out.n.same HCB.out) (fun g o hg => HLB.out g (.inl (HPA.out.nb g o hg))) HPA.out.plain (by simp) (by have := HXL.out.1; omega)).mono ?_
    rintro e w11 ⟨v1, rfl, hk1, hc⟩
    rw [List.nil_append, List.length_nil] at hk1
    have HK1 := Lib.hid hk1
    have HC11 : Hid (Chg (fun k => w10.heap.size ≤ k) w10 w11) := Lib.hid (HCB.out.any.trans (hc.mono (fun k _ e => by
      rcases e with e | e
      · omega
      · cases e)))
    clear hc hk1 x0 x1 x2 x3
    obtain ⟨x0, x1, x2, x3⟩ := (HBU8.out w11 (HC810.out.trans HC11.out.fresh)).1
    try simp only at x0 x1 x2 x3
    go_wp2_with fail
    refine (lists9_any (r1a, r1n, r1c) (c1a, c1n, c1c) (n1a, n1n, n1c) (e1a, e1n, e1c) XU (w10.heap.size + 1) w10.heap.size v1 _ w11 HK1.out (HPU.out.n.same HC11.out.fresh) (fun g o hg => HLB.out g (.inr (HPU.out.nb g o hg))) HPU.out.plain (by rw [tabPages_len]; have := HXL.out.1; omega) (by have := HXL.out.2; omega)).mono ?_
    rintro e w12 ⟨v2, rfl, hk2, hc⟩
    have HK2 := Lib.hid hk2
    have HC12 := Lib.hid (HC11.out.trans (hc.mono (T := fun k => w10.heap.size ≤ k) (fun k _ e => by
      rcases e with e | e
      · omega
      · have := (own_lt HK1.out e).1; omega)))
    clear hc hk2 x0 x1 x2 x3
    have hS0 := HSZ1.out
    have hS4 := HSZ4.out
    have HPG := Lib.hid (pages_two (HPA.out.same HC12.out.fresh) (HPU.out.same HC12.out.fresh) hS0.2 (n := (tabPages 0 (r2a, r2n, r2c) (c2a, c2n, c2c) (e2a, e2n, e2c) X).length) (by rw [tabPages_len]; have := HXL.out; omega) (by have := HXL.out; omega))
    have hLEN : (tabPages 0 (r2a, r2n, r2c) (c2a, c2n, c2c) (e2a, e2n, e2c) X ++ tabPages (tabPages 0 (r2a, r2n, r2c) (c2a, c2n, c2c) (e2a, e2n, e2c) X).length (r1a, r1n, r1c) (c1a, c1n, c1c) (e1a, e1n, e1c) XU).length ≤ 120 := by
      rw [List.length_append, tabPages_len, tabPages_len]; have := HXL.out; omega
    have HLO : Hid (∀ p ∈ tabPages 0 (r2a, r2n, r2c) (c2a, c2n, c2c) (e2a, e2n, e2c) X ++ tabPages (tabPages 0 (r2a, r2n, r2c) (c2a, c2n, c2c) (e2a, e2n, e2c) X).length (r1a, r1n, r1c) (c1a, c1n, c1c) (e1a, e1n, e1c) XU, ∀ g, p.g = some g → w.heap.size ≤ g) := Lib.hid (fun p hp g hg => by
      rcases List.mem_append.1 hp with h1 | h1
      · have := (HPA.out.lo' _ p h1 g hg).1
        have := HC3.out.size
        have := HC0.out.size
        omega
      · have := (HPU.out.lo' _ p h1 g hg).1; omega)
    have HAP := Lib.hid (apart_any _ _ v2 _ w12 HK2.out hLEN HPG.out.1 (fun p hp g hg => HLB.out g (by have := HPG.out.2.2 p hp g hg; omega)) HPG.out.2.1)
    clear hLEN hS0 hS4
    go_wp2_with fail
    refine HAP.out.mono ?_
    rintro e w13 ⟨rfl, hc⟩
    have HC13 : Hid (Chg (fun k => w.heap.size ≤ k) w w13) := Lib.hid ((HC0.out.trans (HC8.out.trans (HC810.out.trans HC12.out.fresh))).any.trans (hc.mono (fun k _ ⟨p, hp, hg⟩ => HLO.out p hp k hg)))
    clear hc
    go_wp2_with fail
    refine (lives_any w13).mono ?_
    rintro e w14 ⟨rfl, hc⟩
    have HC14 := Lib.hid (HC13.out.trans hc.any).fresh
    clear hc
    go_wp2
    go_ret
    exact ⟨rfl, HC14.out⟩
end Go.Proofs.Ytodohgckncnipaa
/- 'MinsLeast' for whatever table is handed in: true, and all reads as it did. No condition. -/
namespace Go.Proofs.Ytodohgckncnipaa.minsLeast
open Go.ChangeShapes Go.WideShapes Go.ChangeAt Go.RowKit Go.Deep Go.WideMaps

set_option maxRecDepth 100000 in
theorem lifted (os : Os) (started : os.Started) (H : Type) (enc : TypeId × Value → H) :
    ReturnsInHanded {} Try.checked os 3 .any (Rows.minsLeastSpec.pre6 enc Try.prog Try.f3 Rows.minsLeastRow.domain false) (Rows.minsLeastSpec.post enc Try.prog Try.f3 false true false false) := by
  refine returnsInHanded_of_change_sized (C := Try.checked) own started (by kernel_rfl) Try.func3
    (ChangeSpec.witness6 (enc := enc) (C := Try.checked) false ⟨#[], #[.agg #[.slice none 0 0, .slice none 0 0, .slice none 0 0, .slice none 0 0]], []⟩ 8 (by kernel_rfl) (by kernel_rfl) (by kernel_rfl) (by kernel_rfl)) ?_
  intro W base args ds gs before hval0 hW hcnd hsz0 _
  have hval : ∀ (j : Nat) t v, Try.f3.params[j]? = some t → args[j]? = some v → Value.okWide Try.prog W .any base t v := hval0
  have hW' := hW
  obtain ⟨p, q, hA0, hV, rfl, hfz, hnd⟩ := hW
  have hA : DataW.TrodAll enc Try.prog W 0 (fun _ => true) true Try.f3.params.toList args.toList ds p := hA0
  rw [Try.params3] at hA hval hsz0
  obtain ⟨v0, vs0, d0, ds0, p0, q0, hargs, rfl, rfl, h0, r0⟩ := trodAll_cons hA
  obtain ⟨rfl, rfl, rfl⟩ := trodAll_nil r0
  obtain rfl : args = #[v0] := by cases args; simp_all
  obtain ⟨rfl, rfl⟩ := trodVars_none hV
  have k0 := h0
  have lt0 : ∀ x ∈ p0, x.block < W.heap.size := by obtain ⟨m, hm⟩ := k0; exact DataW.trod_lt m _ _ _ hm
  have hszA : ∀ n ∈ d0.weights Try.prog 26, n ≤ reachBytes := fun n hn => by
    have := List.all_eq_true.1 hsz0 n (DataW.weights_mem_each (j := 0) rfl rfl n hn)
    simpa using this
  obtain ⟨t, rs, cs, ns, es, rfl, hT, hV9⟩ := open_tab (hval 0 26 v0 rfl rfl) h0 hszA
  clear hA0 hval0
  refine (lawLeast_any t rs cs ns es 0 W hT hV9).mono fun e W' ⟨he, hc⟩ => ?_
  subst he
  have bel := hc.to_below
  exact ⟨_, rfl, _, _, _, [], _, [], hW', trodAll_mk1 (shut_bool Try.underlying4 _), (trodAll_cons_mk (Below.trod laidOut (by kernel_rfl) (of_decide_eq_true (by kernel_rfl)) k0 bel lt0) trodAll_mk0), rfl, bel.frame _, fun h => by cases h⟩

theorem proved : Rows.MinsLeastSaid :=
  OpenClaim.holds_of_wide 3 Try.f3 rfl rfl rfl rfl rfl rfl rfl ⟨rfl, rfl, rfl, rfl, rfl⟩ rfl rfl rfl rfl rfl (by kernel_rfl) Try.func3 (by kernel_rfl)
    (of_decide_eq_true (by kernel_rfl)) (by unfold Func.isWrapper; first | (rw [if_pos (by decide +kernel)]; kernel_rfl) | (rw [if_neg (by decide +kernel)]; exact ⟨rfl, rfl⟩))
    (fun os started H enc _ => lifted os started H enc)
#print axioms proved
end Go.Proofs.Ytodohgckncnipaa.minsLeast
