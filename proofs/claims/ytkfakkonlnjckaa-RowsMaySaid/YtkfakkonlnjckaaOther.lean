/- A table as the document has it: the law's Other. -/
import Derived.Test.YtkfakkonlnjckaaRefMake
namespace Go.Proofs.Ytkfakkonlnjckaa
open Go.RowKit

/-- The rows of a copy that is being made. -/
structure OthSt (bt : Nat) (w : World) (W : Int) (R : List RowD) (v u : Value) : Prop where
  c0 : w.cell? ⟨bt, 0, none⟩ = some (.int .i64 W)
  c1 : w.cell? ⟨bt, 1, none⟩ = some v
  z1 : w.frozen? ⟨bt, 1, none⟩ = false
  c2 : w.cell? ⟨bt, 2, none⟩ = some u
  rows : ∃ X : List (Int × Sl), rowR.Own w (bt + 1) v X ∧ X.length = R.length ∧ ∀ (j : Nat) x r, X[j]? = some x → R[j]? = some r → RowIn cellR w (bt + 1) x r ∧ (0 < r.2.length → ∀ g o, x.2.1 = some ⟨g, o, none⟩ → v.ownBlock ≠ some g ∧ bt < g)
theorem OthSt.lt {bt : Nat} {w : World} {W : Int} {R : List RowD} {v u : Value} (h : OthSt bt w W R v u) : bt < w.heap.size := World.block_lt_of_cell? _ _ h.c0
theorem OthSt.start (w : World) (W : Int) (u : Value) (e : TypeId) : OthSt w.heap.size (w.alloc (.cells #[.int .i64 W, .slice none 0 0, u] e)) W [] (.slice none 0 0) u :=
  ⟨by rw [World.cell?_alloc_new]; rfl, by rw [World.cell?_alloc_new]; rfl, World.frozen?_alloc_new _ _ _ _, by rw [World.cell?_alloc_new]; rfl, [], .nil _ _, rfl, fun j x r hx => by simp at hx⟩
/-- It stays where only other, newer blocks are written. -/
theorem OthSt.same {bt : Nat} {w w' : World} {W : Int} {R : List RowD} {v u : Value} (h : OthSt bt w W R v u) (hc : Chg (fun _ => False) w w') : OthSt bt w' W R v u := by
  obtain ⟨X, h1, h2, h3⟩ := h.rows
  exact ⟨hc.cellS h.c0 (fun h => h), hc.cellS h.c1 (fun h => h), (hc.frozen (p := ⟨bt, 1, none⟩) h.lt (fun h => h)).trans h.z1, hc.cellS h.c2 (fun h => h),
    X, h1.chg hc (fun _ _ _ h => h), h2, fun j x r hx hr => ⟨(h3 j x r hx hr).1.same hc, (h3 j x r hx hr).2⟩⟩
theorem OthSt.addRow {bt : Nat} {w w1 : World} {W : Int} {R : List RowD} {v v' u : Value} (h : OthSt bt w W R v u) {x : Int × Sl} {r : RowD} (hx : RowIn cellR w (bt + 1) x r) (hxa : 0 < r.2.length → ∀ g o, x.2.1 = some ⟨g, o, none⟩ → v.ownBlock ≠ some g ∧ bt < g)
    (ho : ∀ X, rowR.Own w (bt + 1) v X → X.length = R.length → rowR.Own w1 (bt + 1) v' (X ++ [x])) (hc : Chg (fun k => v.ownBlock = some k) w w1) (hv : v'.ownBlock = v.ownBlock ∨ v'.ownBlock = some w.heap.size) :
    (w1.cell? ⟨bt, 1, none⟩ = some v ∧ w1.frozen? ⟨bt, 1, none⟩ = false) ∧ OthSt bt (w1.setCell ⟨bt, 1, none⟩ v') W (R ++ [r]) v' u ∧ Chg (fun k => bt ≤ k) w (w1.setCell ⟨bt, 1, none⟩ v') := by
  obtain ⟨X, h1, h2, h3⟩ := h.rows
  have hlt := h.lt
  have hbl : ∀ g, v.ownBlock = some g → bt + 1 ≤ g ∧ g < w.heap.size := fun g hg => h1.blk hg
  have hnb : ¬ v.ownBlock = some bt := fun e => by have := (hbl bt e).1; omega
  have c1 := hc.cellS h.c1 hnb
  have z1 := (hc.frozen (p := ⟨bt, 1, none⟩) hlt hnb).trans h.z1
  have hs := setCellChg w1 bt 1 v'
  have hgt : ∀ g, g < w.heap.size → v.ownBlock ≠ some g → v'.ownBlock ≠ some g := fun g hg hne e => by
    rcases hv with hv | hv
    · rw [hv] at e; exact hne e
    · rw [hv] at e; obtain rfl := Option.some.inj e; omega
  have hcs : Chg (fun k => v.ownBlock = some k ∨ k = bt) w (w1.setCell ⟨bt, 1, none⟩ v') := (hc.mono (fun k _ e => .inl e)).trans (hs.mono (fun k _ e => .inr e))
  have keep : ∀ (y : Int × Sl) (q : RowD), RowIn cellR w (bt + 1) y q → (0 < q.2.length → ∀ g o, y.2.1 = some ⟨g, o, none⟩ → v.ownBlock ≠ some g ∧ bt < g) →
      RowIn cellR (w1.setCell ⟨bt, 1, none⟩ v') (bt + 1) y q ∧ (0 < q.2.length → ∀ g o, y.2.1 = some ⟨g, o, none⟩ → v'.ownBlock ≠ some g ∧ bt < g) := fun y q hy hya => by
    refine ⟨hy.chg0 hcs (fun hp g o hg e => ?_), fun hp g o hg => ?_⟩
    · obtain ⟨k1, k3⟩ := hya hp g o hg
      rcases e with e | e
      · exact k1 e
      · omega
    · obtain ⟨k1, k3⟩ := hya hp g o hg
      obtain ⟨_, _, g', o', k4, k5⟩ := hy.2.2
      have hlt : g < w.heap.size := by
        have h6 := (k5 hp).1
        rw [hg] at h6
        injection h6 with h6
        injection h6 with h6
        subst h6
        exact k4.lt (by intro e; rw [e] at hp; simp at hp)
      exact ⟨hgt g hlt k1, k3⟩
  refine ⟨⟨c1, z1⟩, ⟨Chg.cellNe (hc.cellS h.c0 hnb) (by intro e; injection e with _ e; cases e), World.cell?_setCell_same _ _ _ c1, (World.frozen?_setCell _ _ _ _).trans z1, Chg.cellNe (hc.cellS h.c2 hnb) (by intro e; injection e with _ e; cases e),
    X ++ [x], (ho X h1 h2).chg hs (fun g hg _ e => by omega), by simp [h2], fun j y q hy hq => ?_⟩, hcs.mono (fun k _ e => by
      rcases e with e | e
      · have := (hbl k e).1; omega
      · omega)⟩
  by_cases hj : j < X.length
  · rw [List.getElem?_append_left hj] at hy
    rw [List.getElem?_append_left (by omega)] at hq
    exact keep y q (h3 j y q hy hq).1 (h3 j y q hy hq).2
  · have hjl := (List.getElem?_eq_some_iff.1 hy).1
    simp at hjl
    obtain rfl : j = X.length := by omega
    rw [List.getElem?_append_right (Nat.le_refl _), Nat.sub_self] at hy
    rw [h2, List.getElem?_append_right (Nat.le_refl _), Nat.sub_self] at hq
    obtain rfl := Option.some.inj hy
    obtain rfl := Option.some.inj hq
    exact keep _ _ hx hxa
theorem OthSt.final {bt : Nat} {w w' : World} {W : Int} {R : List RowD} {a : Option Addr} {n c : Nat} {u : Value} (h : OthSt bt w W R (.slice a n c) u) (hc : Chg (fun k => k < bt) w w') : RowsIn cellR rowR w' (bt + 1) (a, n, c) R ∧ n = R.length ∧ n ≤ c := by
  obtain ⟨X, h1, h2, h3⟩ := h.rows
  have h1' := h1.chg hc (fun g hg _ e => by omega)
  obtain ⟨a', g, c', hv, hle, -⟩ := h1.at'
  injection hv with e1 e2 e3
  subst e1 e2 e3
  exact ⟨⟨X, h1'.in' hle, h2, fun j x r hx hr => (h3 j x r hx hr).1.chg0 hc (fun hp g o hg e => by have := ((h3 j x r hx hr).2 hp g o hg).2; omega)⟩, h2, hle⟩

set_option maxRecDepth 100000 in
set_option maxHeartbeats 8000000 in
theorem other_any (W : Int) (R : List RowD) (ra : Option Addr) (rc B n : Nat) (oa : Option Addr) (oc : Nat) (w : World) (hR : RowsIn cellE rowE w B (ra, R.length, rc) R) (hrl : R.length ≤ 100000000) (hcl : ∀ r ∈ R, r.2.length ≤ 1000000000) :
    Calls Try.prog 30 #[.agg #[.int .i64 W, .slice ra R.length rc, .slice oa n oc]] w fun e w' => ∃ rb rbc, e = .returned (.agg #[.int .i64 W, .slice rb R.length rbc, .slice oa n oc]) ∧ RowsIn cellR rowR w' w.heap.size (rb, R.length, rbc) R ∧ Chg (fun _ => False) w w' := by
  obtain ⟨wt, hwt⟩ : ∃ x, x = w.alloc (.cells #[.int .i64 W, .slice ra R.length rc, .slice oa n oc] 45) := ⟨_, rfl⟩
  obtain ⟨wz, hwz⟩ : ∃ x, x = wt.alloc (.cells #[.int .i64 0, .slice none 0 0, .slice none 0 0] 50) := ⟨_, rfl⟩
  have hst : wt.heap.size = w.heap.size + 1 := by rw [hwt]; simp
  have hsz : wz.heap.size = w.heap.size + 2 := by rw [hwz]; simp [hst]
  have HCT : Hid (Chg (fun _ => False) w wt) := Lib.hid (by rw [hwt]; exact (Chg.refl _ _).alloc _)
  have HCZ : Hid (Chg (fun _ => False) w wz) := Lib.hid (by rw [hwz]; exact HCT.out.alloc _)
  have HBT : Hid (∀ wx, Chg (fun j => w.heap.size + 1 ≤ j) wt wx → wx.cell? ⟨w.heap.size, 0, none⟩ = some (.int .i64 W) ∧ wx.cell? ⟨w.heap.size, 1, none⟩ = some (.slice ra R.length rc) ∧ wx.cell? ⟨w.heap.size, 2, none⟩ = some (.slice oa n oc)) := Lib.hid (fun wx hx => by
    subst hwt
    exact ⟨hx.cellS (by simp) (by show ¬ w.heap.size + 1 ≤ w.heap.size; omega), hx.cellS (by simp) (by show ¬ w.heap.size + 1 ≤ w.heap.size; omega), hx.cellS (by simp) (by show ¬ w.heap.size + 1 ≤ w.heap.size; omega)⟩)
  have HBZ : Hid (∀ wx, Chg (fun j => wz.heap.size ≤ j) wz wx → (wx.cell? ⟨w.heap.size + 1, 0, none⟩ = some (.int .i64 0) ∧ wx.cell? ⟨w.heap.size + 1, 1, none⟩ = some (.slice none 0 0) ∧ wx.cell? ⟨w.heap.size + 1, 2, none⟩ = some (.slice none 0 0)) ∧ ∀ j, wx.frozen? ⟨w.heap.size + 1, j, none⟩ = false) := Lib.hid (fun wx hx => by
    have hne : ¬ wz.heap.size ≤ w.heap.size + 1 := by omega
    subst hwz
    rw [← hst] at hne ⊢
    exact ⟨⟨hx.cellS (by simp) hne, hx.cellS (by simp) hne, hx.cellS (by simp) hne⟩, fun j => (hx.frozen (p := ⟨wt.heap.size, j, none⟩) (by simp) hne).trans (World.frozen?_alloc_new _ _ _ _)⟩)
  have HTZ : Hid (∀ wx, Chg (fun j => wz.heap.size ≤ j) wz wx → Chg (fun j => w.heap.size + 1 ≤ j) wt wx) := Lib.hid (fun wx hx => by
    have h2 : Chg (fun j => w.heap.size + 1 ≤ j) wz wx := hx.mono (fun k _ e => by omega)
    rw [hwz] at h2
    exact ((Chg.refl _ wt).alloc _).trans h2)
  have HT0 : Hid (OthSt wz.heap.size (wz.alloc (.cells #[.int .i64 W, .slice none 0 0, .slice oa n oc] 50)) W [] (.slice none 0 0) (.slice oa n oc)) := Lib.hid (OthSt.start _ _ _ _)
  have HC1 : Hid (Chg (fun j => wz.heap.size ≤ j) wz (wz.alloc (.cells #[.int .i64 W, .slice none 0 0, .slice oa n oc] 50))) := Lib.hid ((Chg.refl _ _).alloc _)
  have HWT := Lib.hid hwt
  have HWZ := Lib.hid hwz
  have HR := Lib.hid hR
  have HRL := Lib.hid hcl
  have HSZ := Lib.hid hsz
  obtain ⟨q0, q1, q2⟩ := HBT.out wz (HTZ.out wz (Chg.refl _ _))
  clear hR hcl hwt hwz hst hsz
  go_enter Try.func30, Try.ntmps30
  go_upto_region 1 with (fail)
  rw [← HWT.out]
  rw [← HWZ.out]
  go_wp2
  clear q0 q1 q2
  go_loopw [4] (fun q wr => ∃ (k : Nat) (v : Value), k ≤ R.length ∧ q = .int .i64 k ∧ OthSt wz.heap.size wr W (R.take k) v (.slice oa n oc) ∧ Chg (fun j => wz.heap.size ≤ j) wz wr) (fun q _ => R.length - (intOf q).toNat)
  case atStart => exact ⟨0, _, by omega, rfl, HT0.out, HC1.out⟩
  case round =>
    clear HT0 HC1
    obtain ⟨k, v, hk, rfl, ht, hc⟩ := hrel
    have HT := Lib.hid ht
    have HC := Lib.hid hc
    have HCW := Lib.hid (((HCZ.out.any (S := fun j => w.heap.size ≤ j)).trans (hc.mono (fun k _ e => by have := HSZ.out; omega))).fresh)
    have HLT : Hid (wz.heap.size < wr.heap.size) := Lib.hid ht.lt
    obtain ⟨q0, q1, q2⟩ := HBT.out wr (HTZ.out wr hc)
    clear ht hc
    by_cases hkl : k < R.length
    · have b16 : decide ((k : Int) < (R.length : Int)) = true := by simp; omega
      obtain ⟨r, g, o, xa, xc, hr, rfl, k0, k1, hby, hin, hgw, -⟩ := (HR.out.same HCW.out).get rfl (fun _ => rfl) hkl
      obtain ⟨rd, rl⟩ := r
      simp only at k0 k1 hby hin
      have HIN := Lib.hid hin
      have HBY := Lib.hid hby
      have HK1 := Lib.hid k1
      have hlen : rl.length ≤ 1000000000 := HRL.out _ (List.mem_of_getElem? hr)
      have HTK : Hid (R.take (k + 1) = R.take k ++ [(rd, rl)]) := Lib.hid (by rw [List.take_add_one, hr]; rfl)
      have HVB : Hid (∀ g, v.ownBlock = some g → g < wr.heap.size) := Lib.hid (fun g hg => by obtain ⟨X, h1, _⟩ := HT.out.rows; exact (h1.blk hg).2)
      have HF0 : Hid (Fld cellR wr.heap.size 1 (wr.alloc (.cells #[.int .i64 rd, .slice none 0 0] 33)) (.slice none 0 0) []) := Lib.hid ⟨by rw [World.cell?_alloc_new]; rfl, World.frozen?_alloc_new _ _ _ _, .nil _ _⟩
      have HX0 : Hid ((wr.alloc (.cells #[.int .i64 rd, .slice none 0 0] 33)).cell? ⟨wr.heap.size, 0, none⟩ = some (.int .i64 rd)) := Lib.hid (by rw [World.cell?_alloc_new]; rfl)
      have HCH := Lib.hid ((Chg.refl (fun j => wr.heap.size ≤ j) wr).alloc (.cells #[.int .i64 rd, .slice none 0 0] 33))
      clear hr hby hin
      go_upto_region 6 with (fail)
      clear k0 k1 q0 q1 q2
      go_wp2
      obtain ⟨wo, rfl⟩ : ∃ wo : World, wo = wr := ⟨_, rfl⟩
      go_loopw [6] (fun q wr => ∃ (m : Nat) (u : Value), m ≤ rl.length ∧ q = .int .i64 m ∧ Fld cellR wo.heap.size 1 wr u (rl.take m) ∧ wr.cell? ⟨wo.heap.size, 0, none⟩ = some (.int .i64 rd) ∧ Chg (fun j => wo.heap.size ≤ j) wo wr) (fun q _ => rl.length - (intOf q).toNat)
      case atStart => exact ⟨0, _, by omega, rfl, HF0.out, HX0.out, HCH.out⟩
      case round =>
        clear HF0 HX0 HCH
        obtain ⟨m, u, hm, rfl, hf, hc0, hcx⟩ := hrel
        have HF := Lib.hid hf
        have HCX := Lib.hid hcx
        have HC02 := Lib.hid hc0
        obtain ⟨ua, ul, uc, rfl⟩ := hf.own.shape3
        obtain ⟨q0, q1, q2⟩ := HBT.out wr (HTZ.out wr (HC.out.trans (hcx.mono (fun k _ e => by have := HLT.out; omega))))
        have k1 := hcx.fresh.cellS HK1.out (fun h => h)
        clear hf hcx hc0
        by_cases hml : m < rl.length
        · have b34 : decide ((m : Int) < (rl.length : Int)) = true := by simp; omega
          obtain ⟨p, g2, o2, a0, a1, hp, rfl, he, c0, c1, hpok, -, hg2⟩ := (HIN.out.same HCX.out.fresh).get2 rfl hml
          obtain ⟨rfl, rfl⟩ := pairOf he
          obtain ⟨p0, p1⟩ := p
          simp only at c0 c1
          have hg2o : g2 < wo.heap.size := by
            obtain ⟨_, _, g3, o3, h3, h4⟩ := HIN.out
            have h5 := (h4 (by omega)).1
            injection h5 with h5
            injection h5 with h5
            subst h5
            exact h3.lt (by intro e; rw [e] at hml; simp at hml)
          have HPOK : Hid (∀ x ∈ [(p0, p1)], cellR.ok x) := Lib.hid (by intro x hx; rw [List.mem_singleton] at hx; subst hx; exact hpok)
          have HTE : Hid (rl.take (m + 1) = rl.take m ++ [(p0, p1)]) := Lib.hid (by rw [List.take_add_one, hp]; rfl)
          have HLE : Hid ((rl.take m).length + 1 ≤ 1000000000000) := Lib.hid (by have := List.length_take_le m rl; omega)
          clear hp he hpok
          go_upto_region 9 with (fail)
          obtain ⟨we, hwe⟩ : ∃ we, we = wr.drew := ⟨_, rfl⟩
          have HWE2 : Hid (wr.drew = we) := Lib.hid hwe.symm
          have HWF : Hid (Chg (fun _ => False) wr we) := Lib.hid (by rw [hwe]; exact (Chg.refl _ _).drew)
          have HF1 := Lib.hid ((HF.out.chg HWF.out (fun _ _ _ h => h)).chg ((Chg.refl (fun _ => False) we).alloc (.cells #[.int .i64 p0, .int .i64 p1] 85)) (fun _ _ _ h => h))
          have HBS : Hid (wo.heap.size + 1 ≤ (we.alloc (.cells #[.int .i64 p0, .int .i64 p1] 85)).heap.size) := Lib.hid (by have := HF1.out.lt; omega)
          have HFIN : Hid (∀ v' w1, cellR.Own w1 (wo.heap.size + 1) v' (rl.take m ++ [(p0, p1)]) → Chg (fun j => wo.heap.size + 1 ≤ j) (we.alloc (.cells #[.int .i64 p0, .int .i64 p1] 85)) w1 →
              (w1.cell? ⟨wo.heap.size, 1, none⟩ = some (.slice ua ul uc) ∧ w1.frozen? ⟨wo.heap.size, 1, none⟩ = false) ∧ Fld cellR wo.heap.size 1 (w1.setCell ⟨wo.heap.size, 1, none⟩ v') v' (rl.take (m + 1)) ∧ (w1.setCell ⟨wo.heap.size, 1, none⟩ v').cell? ⟨wo.heap.size, 0, none⟩ = some (.int .i64 rd) ∧ Chg (fun j => wo.heap.size ≤ j) wo (w1.setCell ⟨wo.heap.size, 1, none⟩ v')) := Lib.hid (by
            intro v' w1 h1 h2
            obtain ⟨k1, k2, k3, k4⟩ := HF1.out.step h1 h2
            exact ⟨k1, by rw [HTE.out]; exact k2, k4 0 _ (by omega) (((HWF.out.trans ((Chg.refl (fun _ => False) we).alloc _)).cellS HC02.out (fun h => h))), HCX.out.trans (HWF.out.any.trans (((Chg.refl _ we).alloc _).trans k3))⟩)
          clear hwe
          refine wp_region_late (fun x => Chg (fun j => wo.heap.size + 1 ≤ j) we x) (fun i => decide (i = 26)) (by kernel_rfl) ?_
          show wpAnyL _ _ _ _ _ _ 27 (Array.replicate 27 false) _ wr.drew
          rw [HWE2.out]
          have HSS : Hid (Chg (fun j => wo.heap.size + 1 ≤ j) we we) := Lib.hid (Chg.refl _ _)
          have hws := HSZ.out
          have hlt := HLT.out
          have hn1 : ¬ wo.heap.size + 1 ≤ w.heap.size := by omega
          have hn2 : ¬ wo.heap.size + 1 ≤ g := by omega
          have hn3 : ¬ wo.heap.size + 1 ≤ g2 := by omega
          have hn4 : ¬ wo.heap.size + 1 ≤ wo.heap.size := by omega
          have HQ : Hid (∀ x, Chg (fun j => wo.heap.size + 1 ≤ j) we x → x.cell? ⟨w.heap.size, 1, none⟩ = some (.slice (some ⟨g, o, none⟩) R.length rc) ∧ x.cell? ⟨g, o + k * 2 + 1, none⟩ = some (.slice (some ⟨g2, o2, none⟩) rl.length xc) ∧ x.cell? ⟨g2, o2 + m * 2, none⟩ = some (.int .i64 p0) ∧ x.cell? ⟨g2, o2 + m * 2 + 1, none⟩ = some (.int .i64 p1) ∧ x.cell? ⟨wo.heap.size, 1, none⟩ = some (.slice ua ul uc)) := Lib.hid (fun x hx =>
            ⟨hx.cellS (HWF.out.cellS q1 (fun h => h)) hn1, hx.cellS (HWF.out.cellS k1 (fun h => h)) hn2, hx.cellS (HWF.out.cellS c0 (fun h => h)) hn3, hx.cellS (HWF.out.cellS c1 (fun h => h)) hn3, hx.cellS (HWF.out.cellS HF.out.c (fun h => h)) hn4⟩)
          clear q0 q1 q2 k1 c0 c1 hn1 hn2 hn3 hn4 hws hlt
          (refine late_read (i := 0) rfl (by kernel_rfl) (fun _ _ _ _ h => h) rfl HSS.out (fun K hK => ?_); apply Exists.intro; refine ⟨fun w' hC => ?_, ?_⟩; ((skip); go_simp; try with_reducible rfl); (try go_simp); refine hK _ ?_; clear hK K)
          (refine late_read (i := 1) rfl (by kernel_rfl) (fun _ _ _ _ h => h) rfl HSS.out (fun K hK => ?_); apply Exists.intro; refine ⟨fun w' hC => ?_, ?_⟩; ((obtain ⟨z1, z2, z3, z4, z5⟩ := HQ.out _ hC); go_simp; try with_reducible rfl); (try go_simp); refine hK _ ?_; clear hK K)
          (refine late_read (i := 2) rfl (by kernel_rfl) (fun _ _ _ _ h => h) rfl HSS.out (fun K hK => ?_); apply Exists.intro; refine ⟨fun w' hC => ?_, ?_⟩; ((skip); go_simp; try with_reducible rfl); (try go_simp); refine hK _ ?_; clear hK K)
          (refine late_read (i := 3) rfl (by kernel_rfl) (fun _ _ _ _ h => h) rfl HSS.out (fun K hK => ?_); apply Exists.intro; refine ⟨fun w' hC => ?_, ?_⟩; ((obtain ⟨z1, z2, z3, z4, z5⟩ := HQ.out _ hC); go_simp; try with_reducible rfl); (try go_simp); refine hK _ ?_; clear hK K)
          (refine late_read (i := 4) rfl (by kernel_rfl) (fun _ _ _ _ h => h) rfl HSS.out (fun K hK => ?_); apply Exists.intro; refine ⟨fun w' hC => ?_, ?_⟩; ((skip); go_simp; try with_reducible rfl); (try go_simp); refine hK _ ?_; clear hK K)
          (refine late_read (i := 5) rfl (by kernel_rfl) (fun _ _ _ _ h => h) rfl HSS.out (fun K hK => ?_); apply Exists.intro; refine ⟨fun w' hC => ?_, ?_⟩; ((skip); go_simp; try with_reducible rfl); (try go_simp); refine hK _ ?_; clear hK K)
          (refine late_read (i := 6) rfl (by kernel_rfl) (fun _ _ _ _ h => h) rfl HSS.out (fun K hK => ?_); apply Exists.intro; refine ⟨fun w' hC => ?_, ?_⟩; ((skip); go_simp; try with_reducible rfl); (try go_simp); refine hK _ ?_; clear hK K)
          (refine late_read (i := 7) rfl (by kernel_rfl) (fun _ _ _ _ h => h) rfl HSS.out (fun K hK => ?_); apply Exists.intro; refine ⟨fun w' hC => ?_, ?_⟩; ((obtain ⟨z1, z2, z3, z4, z5⟩ := HQ.out _ hC); go_simp; try with_reducible rfl); (try go_simp); refine hK _ ?_; clear hK K)
          (refine late_read (i := 8) rfl (by kernel_rfl) (fun _ _ _ _ h => h) rfl HSS.out (fun K hK => ?_); apply Exists.intro; refine ⟨fun w' hC => ?_, ?_⟩; ((skip); go_simp; try with_reducible rfl); (try go_simp); refine hK _ ?_; clear hK K)
          (refine late_read (i := 9) rfl (by kernel_rfl) (fun _ _ _ _ h => h) rfl HSS.out (fun K hK => ?_); apply Exists.intro; refine ⟨fun w' hC => ?_, ?_⟩; ((skip); go_simp; try with_reducible rfl); (try go_simp); refine hK _ ?_; clear hK K)
          (refine late_read (i := 10) rfl (by kernel_rfl) (fun _ _ _ _ h => h) rfl HSS.out (fun K hK => ?_); apply Exists.intro; refine ⟨fun w' hC => ?_, ?_⟩; ((skip); go_simp; try with_reducible rfl); (try go_simp); refine hK _ ?_; clear hK K)
          (refine late_read (i := 11) rfl (by kernel_rfl) (fun _ _ _ _ h => h) rfl HSS.out (fun K hK => ?_); apply Exists.intro; refine ⟨fun w' hC => ?_, ?_⟩; ((obtain ⟨z1, z2, z3, z4, z5⟩ := HQ.out _ hC); go_simp; try with_reducible rfl); (try go_simp); refine hK _ ?_; clear hK K)
          (refine late_read (i := 12) rfl (by kernel_rfl) (fun _ _ _ _ h => h) rfl HSS.out (fun K hK => ?_); apply Exists.intro; refine ⟨fun w' hC => ?_, ?_⟩; ((skip); go_simp; try with_reducible rfl); (try go_simp); refine hK _ ?_; clear hK K)
          (refine late_read (i := 13) rfl (by kernel_rfl) (fun _ _ _ _ h => h) rfl HSS.out (fun K hK => ?_); apply Exists.intro; refine ⟨fun w' hC => ?_, ?_⟩; ((obtain ⟨z1, z2, z3, z4, z5⟩ := HQ.out _ hC); go_simp; try with_reducible rfl); (try go_simp); refine hK _ ?_; clear hK K)
          (refine late_read (i := 14) rfl (by kernel_rfl) (fun _ _ _ _ h => h) rfl HSS.out (fun K hK => ?_); apply Exists.intro; refine ⟨fun w' hC => ?_, ?_⟩; ((skip); go_simp; try with_reducible rfl); (try go_simp); refine hK _ ?_; clear hK K)
          (refine late_read (i := 15) rfl (by kernel_rfl) (fun _ _ _ _ h => h) rfl HSS.out (fun K hK => ?_); apply Exists.intro; refine ⟨fun w' hC => ?_, ?_⟩; ((skip); go_simp; try with_reducible rfl); (try go_simp); refine hK _ ?_; clear hK K)
          (refine late_read (i := 16) rfl (by kernel_rfl) (fun _ _ _ _ h => h) rfl HSS.out (fun K hK => ?_); apply Exists.intro; refine ⟨fun w' hC => ?_, ?_⟩; ((skip); go_simp; try with_reducible rfl); (try go_simp); refine hK _ ?_; clear hK K)
          (refine late_read (i := 17) rfl (by kernel_rfl) (fun _ _ _ _ h => h) rfl HSS.out (fun K hK => ?_); apply Exists.intro; refine ⟨fun w' hC => ?_, ?_⟩; ((obtain ⟨z1, z2, z3, z4, z5⟩ := HQ.out _ hC); go_simp; try with_reducible rfl); (try go_simp); refine hK _ ?_; clear hK K)
          (refine late_read (i := 18) rfl (by kernel_rfl) (fun _ _ _ _ h => h) rfl HSS.out (fun K hK => ?_); apply Exists.intro; refine ⟨fun w' hC => ?_, ?_⟩; ((skip); go_simp; try with_reducible rfl); (try go_simp); refine hK _ ?_; clear hK K)
          (refine late_read (i := 19) rfl (by kernel_rfl) (fun _ _ _ _ h => h) rfl HSS.out (fun K hK => ?_); apply Exists.intro; refine ⟨fun w' hC => ?_, ?_⟩; ((skip); go_simp; try with_reducible rfl); (try go_simp); refine hK _ ?_; clear hK K)
          (refine late_read (i := 20) rfl (by kernel_rfl) (fun _ _ _ _ h => h) rfl HSS.out (fun K hK => ?_); apply Exists.intro; refine ⟨fun w' hC => ?_, ?_⟩; ((skip); go_simp; try with_reducible rfl); (try go_simp); refine hK _ ?_; clear hK K)
          (refine late_read (i := 21) rfl (by kernel_rfl) (fun _ _ _ _ h => h) rfl HSS.out (fun K hK => ?_); apply Exists.intro; refine ⟨fun w' hC => ?_, ?_⟩; ((obtain ⟨z1, z2, z3, z4, z5⟩ := HQ.out _ hC); go_simp; try with_reducible rfl); (try go_simp); refine hK _ ?_; clear hK K)
          (refine late_read (i := 22) rfl (by kernel_rfl) (fun _ _ _ _ h => h) rfl HSS.out (fun K hK => ?_); apply Exists.intro; refine ⟨fun w' hC => ?_, ?_⟩; ((skip); go_simp; try with_reducible rfl); (try go_simp); refine hK _ ?_; clear hK K)
          (refine late_turn (i := 23) (by kernel_rfl) rfl rfl (fun K hK => ?_); apply Exists.intro; apply Exists.intro; refine ⟨?_, ?_, ?_⟩; ((skip); go_simp; try first | with_reducible rfl | exact ⟨rfl, rfl⟩); (exact fun _ => HSS.out.alloc _); (try go_simp); refine hK _ _ ?_; clear hK K)
          refine late_append (i := 24) (by kernel_rfl) rfl rfl (.tmp 38) (.tmp 60) 31 31 rfl (.slice ua ul uc) (.slice (some ⟨we.heap.size, 0, none⟩) 1 1) rfl rfl (fun v' w1 => cellR.Own w1 (wo.heap.size + 1) v' (rl.take m ++ [(p0, p1)]) ∧ Chg (fun j => wo.heap.size + 1 ≤ j) (we.alloc (.cells #[.int .i64 p0, .int .i64 p1] 85)) w1) ?_ ?_
          · obtain ⟨v', w1, hrun, h1, h2, -⟩ := HF1.out.own.append HBS.out 31 (.slice (some ⟨we.heap.size, 0, none⟩) 1 1) [(p0, p1)] (cellR.srcLit 1 HPOK.out) HPOK.out HLE.out 31
            exact ⟨v', w1, hrun, fun _ => (HSS.out.alloc _).trans h2, h1, h2⟩
          rintro v' w1 hs ⟨h1, h2⟩ K hK
          obtain ⟨va', vl', vc', hv'⟩ := h1.shape3
          subst hv'
          obtain ⟨⟨k1, k2⟩, hf⟩ := HFIN.out _ w1 h1 h2
          have HFF := Lib.hid hf
          have HSL := Lib.hid (hs (by decide))
          clear hf h1 h2 hs
          (try go_simp)
          refine hK _ ?_
          clear hK K
          (refine late_turn (i := 25) (by kernel_rfl) rfl rfl (fun K hK => ?_); apply Exists.intro; apply Exists.intro; refine ⟨?_, ?_, ?_⟩; ((skip); go_simp; try first | with_reducible rfl | exact ⟨rfl, rfl⟩); (exact fun _ => HSL.out); (try go_simp); refine hK _ _ ?_; clear hK K)
          (refine late_store (i := 26) (by kernel_rfl) rfl rfl (fun K hK => ?_); apply Exists.intro; refine ⟨?_, (fun h => absurd h (by decide)), ?_⟩; ((skip); go_simp; try first | with_reducible rfl | exact ⟨rfl, rfl⟩); (try go_simp); refine hK _ _ ?_; clear hK K)
          refine late_done (by kernel_rfl) ?_ _
          go_wp2
          go_roundw
          case rel => exact ⟨m + 1, _, by omega, by go_num, HFF.out.1, HFF.out.2.1, HFF.out.2.2⟩
          case measure => simp [intOf]; omega
        · obtain rfl : m = rl.length := by omega
          have b34 : decide ((rl.length : Int) < (rl.length : Int)) = false := by simp
          rw [List.take_length] at HF
          obtain ⟨ua', ug, uc', hu', hle, -, -⟩ := HF.out.own.at'
          injection hu' with e1 e2 e3
          subst e1 e2 e3
          have HTX := Lib.hid (HT.out.same HCX.out.fresh)
          have x0 := HC02.out
          have x1 := HF.out.c
          have c1 := HTX.out.c1
          obtain ⟨va, vl, vc, rfl⟩ : ∃ a n c, v = .slice a n c := by obtain ⟨X, h1, _⟩ := HT.out.rows; exact h1.shape3
          have HTE := Lib.hid (HTX.out.same ((Chg.refl (fun _ => False) wr).alloc (.cells #[.int .i64 rd, .slice ua rl.length uc] 33)))
          have HXE : Hid (RowIn cellR (wr.alloc (.cells #[.int .i64 rd, .slice ua rl.length uc] 33)) (wz.heap.size + 1) (rd, ua, rl.length, uc) (rd, rl)) := Lib.hid
            ⟨rfl, HBY.out, (((HF.out.own.in' hle).lower (B' := wz.heap.size + 1) (by have := HLT.out; omega))).same ((Chg.refl _ _).alloc _)⟩
          have HXA : Hid (0 < rl.length → ∀ g o, ua = some ⟨g, o, none⟩ → (Value.slice va vl vc).ownBlock ≠ some g ∧ wz.heap.size < g) := Lib.hid (fun hp g o hg => by
            obtain ⟨_, _, g', o', -, h4⟩ := HF.out.own.in' hle
            obtain ⟨h5, h6⟩ := h4 hp
            rw [hg] at h5
            injection h5 with h5
            injection h5 with h5
            subst h5
            have := HLT.out
            exact ⟨fun e => by have := HVB.out _ e; omega, by omega⟩)
          obtain ⟨XX, hXX, hXl, -⟩ := HTE.out.rows
          have HXX := Lib.hid hXX
          have HXL := Lib.hid hXl
          have HOKR : Hid (∀ y ∈ [(rd, ua, rl.length, uc)], rowR.ok y) := Lib.hid (by intro y hy; rw [List.mem_singleton] at hy; subst hy; exact HBY.out)
          have HBR : Hid (wz.heap.size + 1 ≤ (wr.alloc (.cells #[.int .i64 rd, .slice ua rl.length uc] 33)).heap.size) := Lib.hid HTE.out.lt
          have HLR : Hid (XX.length + 1 ≤ 1000000000000) := Lib.hid (by rw [hXl, List.length_take]; omega)
          have HCN := Lib.hid (HC.out.trans (HCX.out.mono (T := fun j => wz.heap.size ≤ j) (fun k _ e => by have := HLT.out; omega)))
          clear hXX hXl
          go_wp2_with (at_builtin; refine Elt.wpList_append2 rowR rfl (.tmp 64) (.tmp 66) 48 48 rfl rfl (wz.heap.size + 1) (.slice va vl vc) XX [(rd, ua, rl.length, uc)] (.slice (some ⟨wr.heap.size, 0, none⟩) 1 1) rfl rfl HXX.out HBR.out (rowR.srcLit 1 HOKR.out) HOKR.out HLR.out ?_; intro v' w5 K1 K2 K3; obtain ⟨va', vl', vc', hv'⟩ := K1.out.shape3; subst hv'; obtain ⟨⟨k1, k2⟩, hf1, hf2⟩ := HTE.out.addRow HXE.out HXA.out (fun X' hX' _ => (by rw [rowOwnR_unique hX' HXX.out]; exact K1.out)) K3.out.1 K3.out.2; have HFT := Lib.hid hf1; have HFC := Lib.hid (((Chg.refl (fun k => wz.heap.size ≤ k) wr).alloc (.cells #[.int .i64 rd, .slice ua rl.length uc] 33)).trans hf2); clear hf1 hf2)
          clear x0 x1 c1
          have HFN : Hid (OthSt wz.heap.size (w5.setCell ⟨wz.heap.size, 1, none⟩ (.slice va' vl' vc')) W (R.take (k + 1)) (.slice va' vl' vc') (.slice oa n oc)) := Lib.hid (by rw [HTK.out]; exact HFT.out)
          have HCE := Lib.hid (HCN.out.trans HFC.out)
          clear HFT HFC
          go_roundw
          case rel => exact ⟨k + 1, _, by omega, by go_num, HFN.out, HCE.out⟩
          case measure => simp [intOf]; omega
    · obtain rfl : k = R.length := by omega
      have b16 : decide ((R.length : Int) < (R.length : Int)) = false := by simp
      rw [List.take_length] at HT
      obtain ⟨va, vn, vc, rfl⟩ : ∃ a n c, v = .slice a n c := by obtain ⟨X, h1, _⟩ := HT.out.rows; exact h1.shape3
      obtain ⟨-, rfl, -⟩ := HT.out.final (Chg.refl _ _)
      obtain ⟨⟨r0, r1, r2⟩, hz⟩ := HBZ.out wr HC.out
      have z0 := hz 0
      have z1 := hz 1
      have z2 := hz 2
      have c0 := HT.out.c0
      have c1 := HT.out.c1
      have c2 := HT.out.c2
      have hbl : w.heap.size + 1 < wz.heap.size := by have := HSZ.out; omega
      clear hz
      go_wp2
      obtain ⟨f0, f1, f2, f3⟩ := store3 (.int .i64 W) (.slice va R.length vc) (.slice oa n oc) r0 r1 r2
      obtain ⟨h4, -, -⟩ := HT.out.final (f3.mono (T := fun k => k < wz.heap.size) (fun k _ e => by omega))
      have h6 := (HCW.out.any (S := fun k => w.heap.size ≤ k)).trans (f3.mono (fun k _ e => by omega))
      have h7 : RowsIn cellR rowR (((wr.setCell ⟨w.heap.size + 1, 0, none⟩ (.int .i64 W)).setCell ⟨w.heap.size + 1, 1, none⟩ (.slice va R.length vc)).setCell ⟨w.heap.size + 1, 2, none⟩ (.slice oa n oc)) w.heap.size (va, R.length, vc) R := h4.lower (by omega)
      clear f3 h4
      generalize ((wr.setCell ⟨w.heap.size + 1, 0, none⟩ (.int .i64 W)).setCell ⟨w.heap.size + 1, 1, none⟩ (.slice va R.length vc)).setCell ⟨w.heap.size + 1, 2, none⟩ (.slice oa n oc) = WW at *
      exact bodyPost_ret (v := .agg #[.int .i64 W, .slice va R.length vc, .slice oa n oc]) (by simp [results, Try.results30, go_sem, f0, f1, f2]) rfl ⟨va, vc, rfl, h7, h6.fresh⟩
end Go.Proofs.Ytkfakkonlnjckaa
