/- A row put into a table: rows' add. -/
import Derived.Test.YtkfakkonlnjckaaRowsM
import Derived.Test.YtkfakkonlnjckaaLate
import Derived.Test.YtkfakkonlnjckaaInts
namespace Go.Proofs.Ytkfakkonlnjckaa
open Go.RowKit

def addL (t : List RowD × List Int) (r : RowD) : List RowD × List Int := if hasRow r t.1 then (t.1, t.2 ++ [idxV (rowEq r) t.1]) else (t.1 ++ [r], t.2 ++ [(t.1.length : Int)])

theorem Elt.In.chg0 {α : Type} {E : Elt α} {S : Nat → Prop} {w w' : World} {B : Nat} {s : Sl} {L : List α} (h : E.In w B s L) (hc : Chg S w w') (hs : 0 < L.length → ∀ g o, s.1 = some ⟨g, o, none⟩ → ¬ S g) : E.In w' B s L := by
  obtain ⟨h1, h2, g, o, h3, h4⟩ := h
  exact ⟨h1, h2, g, o, h3.chg hc (fun hne => by
    have hp : 0 < L.length := by cases L with
      | nil => exact absurd rfl hne
      | cons x L => simp
    exact hs hp g o (h4 hp).1), h4⟩
theorem RowIn.chg0 {E : Elt (Int × Int)} {S : Nat → Prop} {w w' : World} {B : Nat} {x : Int × Sl} {r : RowD} (h : RowIn E w B x r) (hc : Chg S w w') (hs : 0 < r.2.length → ∀ g o, x.2.1 = some ⟨g, o, none⟩ → ¬ S g) : RowIn E w' B x r := ⟨h.1, h.2.1, h.2.2.chg0 hc hs⟩

/-- The rows of a table that is being made, and which list has which. -/
structure TabSt (E : Elt (Int × Int)) (F : Elt (Int × Sl)) (bt : Nat) (w : World) (W : Int) (R : List RowD) (O : List Int) (v u : Value) : Prop where
  c0 : w.cell? ⟨bt, 0, none⟩ = some (.int .i64 W)
  c1 : w.cell? ⟨bt, 1, none⟩ = some v
  z1 : w.frozen? ⟨bt, 1, none⟩ = false
  c2 : w.cell? ⟨bt, 2, none⟩ = some u
  z2 : w.frozen? ⟨bt, 2, none⟩ = false
  rows : ∃ X : List (Int × Sl), F.Own w (bt + 1) v X ∧ X.length = R.length ∧ ∀ (j : Nat) x r, X[j]? = some x → R[j]? = some r → RowIn E w (bt + 1) x r ∧ (0 < r.2.length → ∀ g o, x.2.1 = some ⟨g, o, none⟩ → v.ownBlock ≠ some g ∧ u.ownBlock ≠ some g ∧ bt < g)
  of : intE.Own w (bt + 1) u O
  apart : ∀ g, v.ownBlock = some g → u.ownBlock ≠ some g
theorem TabSt.lt {E : Elt (Int × Int)} {F : Elt (Int × Sl)} {bt : Nat} {w : World} {W : Int} {R : List RowD} {O : List Int} {v u : Value} (h : TabSt E F bt w W R O v u) : bt < w.heap.size := World.block_lt_of_cell? _ _ h.c0
theorem TabSt.same {E : Elt (Int × Int)} {F : Elt (Int × Sl)} {bt : Nat} {w w' : World} {W : Int} {R : List RowD} {O : List Int} {v u : Value} (h : TabSt E F bt w W R O v u) (hc : Chg (fun _ => False) w w') : TabSt E F bt w' W R O v u := by
  obtain ⟨X, h1, h2, h3⟩ := h.rows
  exact ⟨hc.cellS h.c0 (fun h => h), hc.cellS h.c1 (fun h => h), (hc.frozen (p := ⟨bt, 1, none⟩) h.lt (fun h => h)).trans h.z1, hc.cellS h.c2 (fun h => h), (hc.frozen (p := ⟨bt, 2, none⟩) h.lt (fun h => h)).trans h.z2,
    ⟨X, h1.chg hc (fun _ _ _ h => h), h2, fun j x r hx hr => ⟨(h3 j x r hx hr).1.same hc, (h3 j x r hx hr).2⟩⟩, h.of.chg hc (fun _ _ _ h => h), h.apart⟩
theorem TabSt.rowsIn {E : Elt (Int × Int)} {F : Elt (Int × Sl)} {bt : Nat} {w : World} {W : Int} {R : List RowD} {O : List Int} {u : Value} {a : Option Addr} {n c : Nat} (h : TabSt E F bt w W R O (.slice a n c) u) : RowsIn E F w (bt + 1) (a, n, c) R ∧ n = R.length ∧ n ≤ c := by
  obtain ⟨X, h1, h2, h3⟩ := h.rows
  obtain ⟨a', g, c', hv, hle, -⟩ := h1.at'
  injection hv with e1 e2 e3
  subst e1 e2 e3
  exact ⟨⟨X, h1.in' hle, h2, fun j x r hx hr => (h3 j x r hx hr).1⟩, h2, hle⟩
theorem Chg.cellNe {w : World} {p q : Addr} {v u : Value} (hq : w.cell? q = some u) (hne : p ≠ q) : (w.setCell p v).cell? q = some u := by
  rw [World.cell?_setCell_other _ _ _ _ hne]; exact hq

/-- A row more. -/
theorem TabSt.addRow {E : Elt (Int × Int)} {F : Elt (Int × Sl)} {bt : Nat} {w w1 : World} {W : Int} {R : List RowD} {O : List Int} {v v' u : Value} (h : TabSt E F bt w W R O v u) {x : Int × Sl} {r : RowD} (hx : RowIn E w (bt + 1) x r) (hxa : 0 < r.2.length → ∀ g o, x.2.1 = some ⟨g, o, none⟩ → v.ownBlock ≠ some g ∧ u.ownBlock ≠ some g ∧ bt < g)
    (ho : ∀ X, F.Own w (bt + 1) v X → X.length = R.length → F.Own w1 (bt + 1) v' (X ++ [x])) (hc : Chg (fun k => v.ownBlock = some k) w w1) (hv : v'.ownBlock = v.ownBlock ∨ v'.ownBlock = some w.heap.size ∨ v'.ownBlock = some (w.heap.size + 1)) :
    (w1.cell? ⟨bt, 1, none⟩ = some v ∧ w1.frozen? ⟨bt, 1, none⟩ = false) ∧ TabSt E F bt (w1.setCell ⟨bt, 1, none⟩ v') W (R ++ [r]) O v' u ∧ Chg (fun k => bt ≤ k) w (w1.setCell ⟨bt, 1, none⟩ v') := by
  obtain ⟨X, h1, h2, h3⟩ := h.rows
  have hlt := h.lt
  have hbl : ∀ g, v.ownBlock = some g → bt + 1 ≤ g ∧ g < w.heap.size := fun g hg => h1.blk hg
  have hnb : ¬ v.ownBlock = some bt := fun e => by have := (hbl bt e).1; omega
  have c1 := hc.cellS h.c1 hnb
  have z1 := (hc.frozen (p := ⟨bt, 1, none⟩) hlt hnb).trans h.z1
  have hs := setCellChg w1 bt 1 v'
  have hgt : ∀ g, g < w.heap.size → v.ownBlock ≠ some g → v'.ownBlock ≠ some g := fun g hg hne e => by
    rcases hv with hv | hv | hv
    · rw [hv] at e; exact hne e
    · rw [hv] at e; obtain rfl := Option.some.inj e; omega
    · rw [hv] at e; obtain rfl := Option.some.inj e; omega
  have hcs : Chg (fun k => v.ownBlock = some k ∨ k = bt) w (w1.setCell ⟨bt, 1, none⟩ v') := (hc.mono (fun k _ e => .inl e)).trans (hs.mono (fun k _ e => .inr e))
  have keep : ∀ (y : Int × Sl) (q : RowD), RowIn E w (bt + 1) y q → (0 < q.2.length → ∀ g o, y.2.1 = some ⟨g, o, none⟩ → v.ownBlock ≠ some g ∧ u.ownBlock ≠ some g ∧ bt < g) →
      RowIn E (w1.setCell ⟨bt, 1, none⟩ v') (bt + 1) y q ∧ (0 < q.2.length → ∀ g o, y.2.1 = some ⟨g, o, none⟩ → v'.ownBlock ≠ some g ∧ u.ownBlock ≠ some g ∧ bt < g) := fun y q hy hya => by
    refine ⟨hy.chg0 hcs (fun hp g o hg e => ?_), fun hp g o hg => ?_⟩
    · obtain ⟨k1, k2, k3⟩ := hya hp g o hg
      rcases e with e | e
      · exact k1 e
      · omega
    · obtain ⟨k1, k2, k3⟩ := hya hp g o hg
      obtain ⟨_, _, g', o', k4, k5⟩ := hy.2.2
      have hlt : g < w.heap.size := by
        have h6 := (k5 hp).1
        rw [hg] at h6
        injection h6 with h6
        injection h6 with h6
        subst h6
        exact k4.lt (by intro e; rw [e] at hp; simp at hp)
      exact ⟨hgt g hlt k1, k2, k3⟩
  refine ⟨⟨c1, z1⟩, ⟨Chg.cellNe (hc.cellS h.c0 hnb) (by intro e; injection e with _ e; cases e), World.cell?_setCell_same _ _ _ c1, (World.frozen?_setCell _ _ _ _).trans z1, Chg.cellNe (hc.cellS h.c2 hnb) (by intro e; injection e with _ e; cases e), (World.frozen?_setCell _ _ _ _).trans ((hc.frozen (p := ⟨bt, 2, none⟩) hlt hnb).trans h.z2),
    ⟨X ++ [x], (ho X h1 h2).chg hs (fun g hg _ e => by omega), by simp [h2], fun j y q hy hq => ?_⟩, ?_, fun g hg hu => ?_⟩, hcs.mono (fun k _ e => by
      rcases e with e | e
      · have := (hbl k e).1; omega
      · omega)⟩
  · by_cases hj : j < X.length
    · rw [List.getElem?_append_left hj] at hy
      rw [List.getElem?_append_left (by omega)] at hq
      exact keep y q (h3 j y q hy hq).1 (h3 j y q hy hq).2
    · have hjl := (List.getElem?_eq_some_iff.1 hy).1
      simp at hjl
      obtain rfl : j = X.length := by omega
      rw [List.getElem?_append_right (Nat.le_refl _), Nat.sub_self] at hy
      rw [h2, List.getElem?_append_right (Nat.le_refl _), Nat.sub_self] at hq
      obtain rfl := Option.some.inj hy
      obtain rfl := Option.some.inj hq
      exact keep _ _ hx hxa
  · refine (h.of.chgB hc (fun g hg e => h.apart g e hg)).chg hs (fun g hg _ e => by omega)
  · have := (h.of.blk hu)
    rcases hv with hv | hv | hv
    · rw [hv] at hg; exact h.apart g hg hu
    · rw [hv] at hg; obtain rfl := Option.some.inj hg; omega
    · rw [hv] at hg; obtain rfl := Option.some.inj hg; omega
/-- Which row a list has. -/
theorem TabSt.addOf {E : Elt (Int × Int)} {F : Elt (Int × Sl)} {bt : Nat} {w w1 : World} {W : Int} {R : List RowD} {O : List Int} {v u u' : Value} {i : Int} (h : TabSt E F bt w W R O v u)
    (ho : intE.Own w1 (bt + 1) u' (O ++ [i])) (hc : Chg (fun k => u.ownBlock = some k) w w1) (hu : u'.ownBlock = u.ownBlock ∨ u'.ownBlock = some w.heap.size ∨ u'.ownBlock = some (w.heap.size + 1)) :
    (w1.cell? ⟨bt, 2, none⟩ = some u ∧ w1.frozen? ⟨bt, 2, none⟩ = false) ∧ TabSt E F bt (w1.setCell ⟨bt, 2, none⟩ u') W R (O ++ [i]) v u' ∧ Chg (fun k => bt ≤ k) w (w1.setCell ⟨bt, 2, none⟩ u') := by
  obtain ⟨X, h1, h2, h3⟩ := h.rows
  have hlt := h.lt
  have hbl : ∀ g, u.ownBlock = some g → bt + 1 ≤ g ∧ g < w.heap.size := fun g hg => h.of.blk hg
  have hnb : ¬ u.ownBlock = some bt := fun e => by have := (hbl bt e).1; omega
  have c2 := hc.cellS h.c2 hnb
  have z2 := (hc.frozen (p := ⟨bt, 2, none⟩) hlt hnb).trans h.z2
  have hs := setCellChg w1 bt 2 u'
  have hgt : ∀ g, g < w.heap.size → u.ownBlock ≠ some g → u'.ownBlock ≠ some g := fun g hg hne e => by
    rcases hu with hv | hv | hv
    · rw [hv] at e; exact hne e
    · rw [hv] at e; obtain rfl := Option.some.inj e; omega
    · rw [hv] at e; obtain rfl := Option.some.inj e; omega
  have hcs : Chg (fun k => u.ownBlock = some k ∨ k = bt) w (w1.setCell ⟨bt, 2, none⟩ u') := (hc.mono (fun k _ e => .inl e)).trans (hs.mono (fun k _ e => .inr e))
  refine ⟨⟨c2, z2⟩, ⟨Chg.cellNe (hc.cellS h.c0 hnb) (by intro e; injection e with _ e; cases e), Chg.cellNe (hc.cellS h.c1 hnb) (by intro e; injection e with _ e; cases e), (World.frozen?_setCell _ _ _ _).trans ((hc.frozen (p := ⟨bt, 1, none⟩) hlt hnb).trans h.z1), World.cell?_setCell_same _ _ _ c2, (World.frozen?_setCell _ _ _ _).trans z2,
    ⟨X, (h1.chgB hc (fun g hg e => h.apart g hg e)).chg hs (fun g hg _ e => by omega), h2, fun j y q hy hq => ?_⟩, ho.chg hs (fun g hg _ e => by omega), fun g hg hu' => ?_⟩, hcs.mono (fun k _ e => by
      rcases e with e | e
      · have := (hbl k e).1; omega
      · omega)⟩
  · obtain ⟨hy1, hya⟩ := h3 j y q hy hq
    refine ⟨hy1.chg0 hcs (fun hp g o hg e => ?_), fun hp g o hg => ?_⟩
    · obtain ⟨k1, k2, k3⟩ := hya hp g o hg
      rcases e with e | e
      · exact k2 e
      · omega
    · obtain ⟨k1, k2, k3⟩ := hya hp g o hg
      obtain ⟨_, _, g', o', k4, k5⟩ := hy1.2.2
      have hlt : g < w.heap.size := by
        have h6 := (k5 hp).1
        rw [hg] at h6
        injection h6 with h6
        injection h6 with h6
        subst h6
        exact k4.lt (by intro e; rw [e] at hp; simp at hp)
      exact ⟨k1, hgt g hlt k2, k3⟩
  · exact hgt g (h1.blk hg).2 (fun e => h.apart g hg e) hu'

theorem rowOwn_unique {w : World} {B : Nat} {v : Value} {X Y : List (Int × Sl)} (h : rowE.Own w B v X) (k : rowE.Own w B v Y) : X = Y := by
  have key : ∀ (n : Nat) (X Y : List (Int × Sl)) (C D : List (Int × Sl)) (g : Nat), X.length = n → Y.length = n → rowE.Row w g C → rowE.Row w g D → X <+: C → Y <+: D → X = Y := by
    intro n X Y C D g hX hY hC hD hXC hYD
    apply List.ext_getElem (by omega)
    intro i h1 h2
    have c := (hC.at' hXC)
    have d := (hD.at' hYD)
    have ex : X[i]? = some X[i] := List.getElem?_eq_getElem h1
    have ey : Y[i]? = some Y[i] := List.getElem?_eq_getElem h2
    have a0 := c.get ex (i := 0) (u := .int .i64 X[i].1) rfl
    have b0 := d.get ey (i := 0) (u := .int .i64 Y[i].1) rfl
    have a1 := c.get ex (i := 1) (u := slV X[i].2) rfl
    have b1 := d.get ey (i := 1) (u := slV Y[i].2) rfl
    rw [a0] at b0
    rw [a1] at b1
    injection b0 with b0
    injection b0 with _ b0
    injection b1 with b1
    unfold slV at b1
    injection b1 with e1 e2 e3
    exact Prod.ext b0 (Prod.ext e1 (Prod.ext e2 e3))
  rcases h with ⟨rfl, rfl⟩ | ⟨g, C, rfl, _, hC, hp, _⟩
  · rcases k with ⟨_, rfl⟩ | ⟨g, D, e, _⟩
    · rfl
    · cases e
  · rcases k with ⟨e, _⟩ | ⟨g', D, e, _, hD, hq, _⟩
    · cases e
    · injection e with e1 e2 e3
      injection e1 with e1
      injection e1 with e1
      subst e1
      exact key X.length X Y C D _ rfl e2.symm hC hD hp hq
set_option maxRecDepth 100000 in
set_option maxHeartbeats 4000000 in
theorem add_any (bt : Nat) (W : Int) (R : List RowD) (O : List Int) (v u : Value) (d : Int) (L : List (Int × Int)) (ax : Option Addr) (cx : Nat) (w : World) (h : TabSt cellE rowE bt w W R O v u) (hx : RowIn cellE w (bt + 1) (d, ax, L.length, cx) (d, L)) (hxa : 0 < L.length → ∀ g o, ax = some ⟨g, o, none⟩ → v.ownBlock ≠ some g ∧ u.ownBlock ≠ some g ∧ bt < g)
    (hRl : R.length ≤ 1000000) (hOl : O.length ≤ 1000000) (hl : L.length ≤ 1000000000) :
    Calls Try.prog 46 #[.pointer (some ⟨bt, 0, none⟩), .agg #[.int .i64 d, .slice ax L.length cx]] w fun e w' => ∃ v' u', e = .returned (.tuple #[]) ∧ TabSt cellE rowE bt w' W (addL (R, O) (d, L)).1 (addL (R, O) (d, L)).2 v' u' ∧ Chg (fun k => bt ≤ k) w w' := by
  have HT := Lib.hid h
  have HX := Lib.hid hx
  have HXA := Lib.hid hxa
  obtain ⟨va, vn, vc, rfl⟩ : ∃ a n c, v = .slice a n c := by obtain ⟨X, h1, _⟩ := h.rows; exact h1.shape3
  obtain ⟨ua, un, uc, rfl⟩ := h.of.shape3
  obtain ⟨hri, rfl, hle⟩ := h.rowsIn
  have HRI := Lib.hid hri
  obtain ⟨wa, hwa⟩ : ∃ wa, wa = w.alloc (.cells #[.int .i64 d, .slice ax L.length cx] 27) := ⟨_, rfl⟩
  have HWA : Hid (Chg (fun _ => False) w wa) := Lib.hid (by rw [hwa]; exact (Chg.refl _ _).alloc _)
  have HBX : Hid (∀ wx, Chg (fun _ => False) wa wx → wx.cell? ⟨w.heap.size, 0, none⟩ = some (.int .i64 d) ∧ wx.cell? ⟨w.heap.size, 1, none⟩ = some (.slice ax L.length cx)) := Lib.hid (fun wx hx => by subst hwa; exact ⟨hx.cellS (by simp) (fun h => h), hx.cellS (by simp) (fun h => h)⟩)
  have HWE := Lib.hid hwa
  have HTA := Lib.hid (HT.out.same HWA.out)
  have hbt := h.lt
  clear h hx hxa hri hwa
  rcases idx_cases (rowEq (d, L)) R with ⟨k, x, h1, -, h3, -, h5⟩ | ⟨h3, -, h5⟩
  · have HI := Lib.hid h3
    have hkR := (List.getElem?_eq_some_iff.1 h1).1
    have HAL : Hid (addL (R, O) (d, L) = (R, O ++ [(k : Int)])) := Lib.hid (by unfold addL; rw [show hasRow (d, L) (R, O).1 = true from h5, if_pos rfl]; rw [show idxV (rowEq (d, L)) (R, O).1 = (k : Int) from h3])
    clear h1 h3 h5
    go_enter Try.func46, Try.ntmps46
    go_upto_region 1 with (fail)
    rw [← HWE.out]
    refine wp_region_same (fun w' => Chg (fun _ => False) wa w') (by kernel_rfl) (by kernel_rfl) ?_ ?_
    · exact (Chg.refl _ _).drew
    (refine wpC_read rfl (fun _ _ _ h => h) (fun K hK => ?_); apply Exists.intro; refine ⟨fun _ w' _ hC => ?_, ?_⟩; ((skip); go_simp; try with_reducible rfl); (try go_simp); refine hK _ ?_; clear hK K)
    (refine wpC_read rfl (fun _ _ _ h => h) (fun K hK => ?_); apply Exists.intro; refine ⟨fun _ w' _ hC => ?_, ?_⟩; ((skip); go_simp; try with_reducible rfl); (try go_simp); refine hK _ ?_; clear hK K)
    (refine wpC_read rfl (fun _ _ _ h => h) (fun K hK => ?_); apply Exists.intro; refine ⟨fun _ w' _ hC => ?_, ?_⟩; ((skip); go_simp; try with_reducible rfl); (try go_simp); refine hK _ ?_; clear hK K)
    (refine wpC_read rfl (fun _ _ _ h => h) (fun K hK => ?_); apply Exists.intro; refine ⟨fun _ w' _ hC => ?_, ?_⟩; ((have q := hC.cellS HTA.out.c1 (fun h => h)); go_simp; try with_reducible rfl); (try go_simp); refine hK _ ?_; clear hK K)
    (refine wpC_read rfl (fun _ _ _ h => h) (fun K hK => ?_); apply Exists.intro; refine ⟨fun _ w' _ hC => ?_, ?_⟩; ((obtain ⟨q0, q1⟩ := HBX.out w' hC); go_simp; try with_reducible rfl); (try go_simp); refine hK _ ?_; clear hK K)
    (refine wpC_read rfl (fun _ _ _ h => h) (fun K hK => ?_); apply Exists.intro; refine ⟨fun _ w' _ hC => ?_, ?_⟩; ((skip); go_simp; try with_reducible rfl); (try go_simp); refine hK _ ?_; clear hK K)
    refine wpC_call rfl (Value.int .i64 (k : Int) )  67  ( #[.slice va R.length vc, .func (.func 59) #[.agg #[.int .i64 d, .slice ax L.length cx]] #[]]) (fun w' => by go_simp) (fun _ w' _ hC => ?_) (fun K hK => ?_)
    · refine (indexRow_any R va vc (bt + 1) (bt + 1) d L ax cx w' (HRI.out.same (HWA.out.trans hC)) (HX.out.2.2.same (HWA.out.trans hC)) (by omega) hl).mono ?_
      rintro e w2 ⟨rfl, hc2⟩
      exact ⟨by rw [HI.out], hC.trans hc2⟩
    ((try go_simp); refine hK _ ?_; clear hK K)
    (refine wpC_read rfl (fun _ _ _ h => h) (fun K hK => ?_); apply Exists.intro; refine ⟨fun _ w' _ hC => ?_, ?_⟩; ((skip); go_simp; try with_reducible rfl); (try go_simp); refine hK _ ?_; clear hK K)
    refine wpC_nil ?_
    intro w2 hC2
    have HC2 := Lib.hid hC2
    have HT2 := Lib.hid (HTA.out.same hC2)
    have c2 := HT2.out.c2
    have c1 := HT2.out.c1
    obtain ⟨x0, x1⟩ := HBX.out w2 hC2
    clear hC2
    have HTL := Lib.hid (HT2.out.same ((Chg.refl (fun _ => False) w2).alloc (.cells #[.int .i64 k] 3)))
    have HBS : Hid (bt + 1 ≤ (w2.alloc (.cells #[.int .i64 k] 3)).heap.size) := Lib.hid HTL.out.lt
    have HOK : Hid (∀ x ∈ [(k : Int)], intE.ok x) := Lib.hid (by intro x hx; rw [List.mem_singleton] at hx; subst hx; exact ⟨by omega, by omega⟩)
    have HOL : Hid (O.length + 1 ≤ 1000000000000) := Lib.hid (by omega)
    go_wp2_with (at_builtin; refine Elt.wpList_append2 intE rfl (.tmp 33) (.tmp 35) 22 22 rfl rfl (bt + 1) (.slice ua un uc) O [(k : Int)] (.slice (some ⟨w2.heap.size, 0, none⟩) 1 1) rfl rfl HTL.out.of HBS.out (intE.srcLit 1 HOK.out) HOK.out HOL.out ?_; intro u' w3 H1 H2 H3; obtain ⟨ua', ul', uc', hu'⟩ := H1.out.shape3; subst hu'; obtain ⟨⟨k1, k2⟩, hf1, hf2⟩ := HTL.out.addOf H1.out H3.out.1 (H3.out.2.imp id Or.inl); have HFF := Lib.hid hf1; have HCF := Lib.hid ((HWA.out.trans HC2.out).any.trans (((Chg.refl (fun k => bt ≤ k) w2).alloc _).trans hf2)); clear hf1 hf2)
    go_end0
    exact ⟨_, _, rfl, by rw [HAL.out]; exact HFF.out, HCF.out⟩
  · have HI := Lib.hid h3
    have HAL : Hid (addL (R, O) (d, L) = (R ++ [(d, L)], O ++ [(R.length : Int)])) := Lib.hid (by unfold addL; rw [show hasRow (d, L) (R, O).1 = false from h5]; rfl)
    clear h3 h5
    go_enter Try.func46, Try.ntmps46
    go_upto_region 1 with (fail)
    rw [← HWE.out]
    refine wp_region_same (fun w' => Chg (fun _ => False) wa w') (by kernel_rfl) (by kernel_rfl) ?_ ?_
    · exact (Chg.refl _ _).drew
    (refine wpC_read rfl (fun _ _ _ h => h) (fun K hK => ?_); apply Exists.intro; refine ⟨fun _ w' _ hC => ?_, ?_⟩; ((skip); go_simp; try with_reducible rfl); (try go_simp); refine hK _ ?_; clear hK K)
    (refine wpC_read rfl (fun _ _ _ h => h) (fun K hK => ?_); apply Exists.intro; refine ⟨fun _ w' _ hC => ?_, ?_⟩; ((skip); go_simp; try with_reducible rfl); (try go_simp); refine hK _ ?_; clear hK K)
    (refine wpC_read rfl (fun _ _ _ h => h) (fun K hK => ?_); apply Exists.intro; refine ⟨fun _ w' _ hC => ?_, ?_⟩; ((skip); go_simp; try with_reducible rfl); (try go_simp); refine hK _ ?_; clear hK K)
    (refine wpC_read rfl (fun _ _ _ h => h) (fun K hK => ?_); apply Exists.intro; refine ⟨fun _ w' _ hC => ?_, ?_⟩; ((have q := hC.cellS HTA.out.c1 (fun h => h)); go_simp; try with_reducible rfl); (try go_simp); refine hK _ ?_; clear hK K)
    (refine wpC_read rfl (fun _ _ _ h => h) (fun K hK => ?_); apply Exists.intro; refine ⟨fun _ w' _ hC => ?_, ?_⟩; ((obtain ⟨q0, q1⟩ := HBX.out w' hC); go_simp; try with_reducible rfl); (try go_simp); refine hK _ ?_; clear hK K)
    (refine wpC_read rfl (fun _ _ _ h => h) (fun K hK => ?_); apply Exists.intro; refine ⟨fun _ w' _ hC => ?_, ?_⟩; ((skip); go_simp; try with_reducible rfl); (try go_simp); refine hK _ ?_; clear hK K)
    refine wpC_call rfl (Value.int .i64 (-1) )  67  ( #[.slice va R.length vc, .func (.func 59) #[.agg #[.int .i64 d, .slice ax L.length cx]] #[]]) (fun w' => by go_simp) (fun _ w' _ hC => ?_) (fun K hK => ?_)
    · refine (indexRow_any R va vc (bt + 1) (bt + 1) d L ax cx w' (HRI.out.same (HWA.out.trans hC)) (HX.out.2.2.same (HWA.out.trans hC)) (by omega) hl).mono ?_
      rintro e w2 ⟨rfl, hc2⟩
      exact ⟨by rw [HI.out], hC.trans hc2⟩
    ((try go_simp); refine hK _ ?_; clear hK K)
    (refine wpC_read rfl (fun _ _ _ h => h) (fun K hK => ?_); apply Exists.intro; refine ⟨fun _ w' _ hC => ?_, ?_⟩; ((skip); go_simp; try with_reducible rfl); (try go_simp); refine hK _ ?_; clear hK K)
    refine wpC_nil ?_
    intro w2 hC2
    have HC2 := Lib.hid hC2
    have HT2 := Lib.hid (HTA.out.same hC2)
    have c2 := HT2.out.c2
    have c1 := HT2.out.c1
    obtain ⟨x0, x1⟩ := HBX.out w2 hC2
    clear hC2
    go_upto_region 4 with (fail)
    obtain ⟨we, hwe⟩ : ∃ we, we = w2.drew := ⟨_, rfl⟩
    have HWE2 : Hid (w2.drew = we) := Lib.hid hwe.symm
    have HWF : Hid (Chg (fun _ => False) w2 we) := Lib.hid (by rw [hwe]; exact (Chg.refl _ _).drew)
    have HTE := Lib.hid (HT2.out.same HWF.out)
    have HVB : Hid (∀ g, (Value.slice va R.length vc).ownBlock = some g → bt + 1 ≤ g ∧ g < w.heap.size) := Lib.hid (fun g hg => by obtain ⟨X, h1, _⟩ := HT.out.rows; exact h1.blk hg)
    have HXE := Lib.hid (HWF.out.cellS x0 (fun h => h))
    have HXF := Lib.hid (HWF.out.cellS x1 (fun h => h))
    clear hwe c1 c2 x0 x1
    refine wp_region_late (fun x => Chg (fun j => (Value.slice va R.length vc).ownBlock = some j) we x) (fun i => decide (i = 10)) (by kernel_rfl) ?_
    show wpAnyL _ _ _ _ _ _ 11 (Array.replicate 11 false) _ w2.drew
    rw [HWE2.out]
    have HSS : Hid (Chg (fun j => (Value.slice va R.length vc).ownBlock = some j) we we) := Lib.hid (Chg.refl _ _)
    have HN1 : Hid (¬ (Value.slice va R.length vc).ownBlock = some bt) := Lib.hid (fun e => by have := (HVB.out _ e).1; omega)
    have HN2 : Hid (¬ (Value.slice va R.length vc).ownBlock = some w.heap.size) := Lib.hid (fun e => by have := (HVB.out _ e).2; omega)
    (refine late_read (i := 0) rfl (by kernel_rfl) (fun _ _ _ _ h => h) rfl HSS.out (fun K hK => ?_); apply Exists.intro; refine ⟨fun w' hC => ?_, ?_⟩; ((skip); go_simp; try with_reducible rfl); (try go_simp); refine hK _ ?_; clear hK K)
    (refine late_read (i := 1) rfl (by kernel_rfl) (fun _ _ _ _ h => h) rfl HSS.out (fun K hK => ?_); apply Exists.intro; refine ⟨fun w' hC => ?_, ?_⟩; ((skip); go_simp; try with_reducible rfl); (try go_simp); refine hK _ ?_; clear hK K)
    (refine late_read (i := 2) rfl (by kernel_rfl) (fun _ _ _ _ h => h) rfl HSS.out (fun K hK => ?_); apply Exists.intro; refine ⟨fun w' hC => ?_, ?_⟩; ((skip); go_simp; try with_reducible rfl); (try go_simp); refine hK _ ?_; clear hK K)
    (refine late_read (i := 3) rfl (by kernel_rfl) (fun _ _ _ _ h => h) rfl HSS.out (fun K hK => ?_); apply Exists.intro; refine ⟨fun w' hC => ?_, ?_⟩; ((skip); go_simp; try with_reducible rfl); (try go_simp); refine hK _ ?_; clear hK K)
    (refine late_read (i := 4) rfl (by kernel_rfl) (fun _ _ _ _ h => h) rfl HSS.out (fun K hK => ?_); apply Exists.intro; refine ⟨fun w' hC => ?_, ?_⟩; ((have q := hC.cellS HTE.out.c1 HN1.out); go_simp; try with_reducible rfl); (try go_simp); refine hK _ ?_; clear hK K)
    (refine late_read (i := 5) rfl (by kernel_rfl) (fun _ _ _ _ h => h) rfl HSS.out (fun K hK => ?_); apply Exists.intro; refine ⟨fun w' hC => ?_, ?_⟩; ((have q0 := hC.cellS HXE.out HN2.out; have q1 := hC.cellS HXF.out HN2.out); go_simp; try with_reducible rfl); (try go_simp); refine hK _ ?_; clear hK K)
    (refine late_turn (i := 6) (by kernel_rfl) rfl rfl (fun K hK => ?_); apply Exists.intro; apply Exists.intro; refine ⟨?_, ?_, ?_⟩; ((skip); go_simp; try first | with_reducible rfl | exact ⟨rfl, rfl⟩); (exact fun _ => HSS.out.alloc _); (try go_simp); refine hK _ _ ?_; clear hK K)
    have HTEA := Lib.hid (HTE.out.same ((Chg.refl (fun _ => False) we).alloc (.cells #[.int .i64 d, .slice ax L.length cx] 27)))
    have HXEA := Lib.hid (HX.out.same ((HWA.out.trans HC2.out).trans (HWF.out.trans ((Chg.refl (fun _ => False) we).alloc (.cells #[.int .i64 d, .slice ax L.length cx] 27)))))
    refine late_append (i := 7) (by kernel_rfl) rfl rfl (.tmp 23) (.tmp 25) 43 43 rfl (.slice va R.length vc) (.slice (some ⟨we.heap.size, 0, none⟩) 1 1) rfl rfl (fun v' w1 => (∀ X, rowE.Own (we.alloc (.cells #[.int .i64 d, .slice ax L.length cx] 27)) (bt + 1) (.slice va R.length vc) X → X.length = R.length → rowE.Own w1 (bt + 1) v' (X ++ [(d, ax, L.length, cx)])) ∧ Chg (fun k => (Value.slice va R.length vc).ownBlock = some k) (we.alloc (.cells #[.int .i64 d, .slice ax L.length cx] 27)) w1 ∧ (v'.ownBlock = (Value.slice va R.length vc).ownBlock ∨ v'.ownBlock = some (we.alloc (.cells #[.int .i64 d, .slice ax L.length cx] 27)).heap.size) ∧ ∃ a n c, v' = .slice a n c) ?_ ?_
    · obtain ⟨X, hX, hXl, -⟩ := HTEA.out.rows
      have hok : ∀ y ∈ [(d, ax, L.length, cx)], rowE.ok y := by intro y hy; rw [List.mem_singleton] at hy; subst hy; exact HX.out.2.1
      obtain ⟨v', w1, hrun, h1, h2, ⟨h3, h4⟩, -⟩ := hX.append (by have := HTEA.out.lt; omega) 43 (.slice (some ⟨we.heap.size, 0, none⟩) 1 1) [(d, ax, L.length, cx)] (rowE.srcLit 1 hok) hok (by simp; omega) 43
      rw [hXl] at *
      refine ⟨v', w1, hrun, fun _ => (HSS.out.alloc _).trans h3, fun X' hX' hXl' => ?_, h3, h4, h1.shape3⟩
      have : X' = X := rowOwn_unique hX' hX
      rw [this]; exact h1
    rintro v' w1 hs ⟨h1, h2, h3, va', vn', vc', rfl⟩ K hK
    obtain ⟨⟨k1, k2⟩, hf1, hf2⟩ := HTEA.out.addRow HXEA.out HXA.out h1 h2 (h3.imp id Or.inl)
    have HFT := Lib.hid hf1
    have HFC := Lib.hid (((HWA.out.trans (HC2.out.trans HWF.out)).any (S := fun k => bt ≤ k)).trans (((Chg.refl _ we).alloc _).trans hf2))
    have HSL := Lib.hid (hs (by decide))
    clear hf1 hf2 h1 h2 h3 hs
    (try go_simp)
    refine hK _ ?_
    clear hK K
    (refine late_turn (i := 8) (by kernel_rfl) rfl rfl (fun K hK => ?_); apply Exists.intro; apply Exists.intro; refine ⟨?_, ?_, ?_⟩; ((skip); go_simp; try first | with_reducible rfl | exact ⟨rfl, rfl⟩); (exact fun _ => HSL.out); (try go_simp); refine hK _ _ ?_; clear hK K)
    (refine late_turn (i := 9) (by kernel_rfl) rfl rfl (fun K hK => ?_); apply Exists.intro; apply Exists.intro; refine ⟨?_, ?_, ?_⟩; ((skip); go_simp; try first | with_reducible rfl | exact ⟨rfl, rfl⟩); (exact fun _ => HSL.out); (try go_simp); refine hK _ _ ?_; clear hK K)
    (refine late_store (i := 10) (by kernel_rfl) rfl rfl (fun K hK => ?_); apply Exists.intro; refine ⟨?_, (fun h => absurd h (by decide)), ?_⟩; ((skip); go_simp; try first | with_reducible rfl | exact ⟨rfl, rfl⟩); (try go_simp); refine hK _ _ ?_; clear hK K)
    refine late_done (by kernel_rfl) ?_ _
    clear k1 k2
    obtain ⟨wf, hwf⟩ : ∃ wf, wf = w1.setCell ⟨bt, 1, none⟩ (.slice va' vn' vc') := ⟨_, rfl⟩
    rw [← hwf] at HFT HFC ⊢
    have c2 := HFT.out.c2
    clear hwf
    have HTL := Lib.hid (HFT.out.same ((Chg.refl (fun _ => False) wf).alloc (.cells #[.int .i64 R.length] 3)))
    have HBS : Hid (bt + 1 ≤ (wf.alloc (.cells #[.int .i64 R.length] 3)).heap.size) := Lib.hid HTL.out.lt
    have HOK : Hid (∀ x ∈ [(R.length : Int)], intE.ok x) := Lib.hid (by intro x hx; rw [List.mem_singleton] at hx; subst hx; exact ⟨by omega, by omega⟩)
    have HOL : Hid (O.length + 1 ≤ 1000000000000) := Lib.hid (by omega)
    go_wp2_with (at_builtin; refine Elt.wpList_append2 intE rfl (.tmp 33) (.tmp 35) 22 22 rfl rfl (bt + 1) (.slice ua un uc) O [(R.length : Int)] (.slice (some ⟨wf.heap.size, 0, none⟩) 1 1) rfl rfl HTL.out.of HBS.out (intE.srcLit 1 HOK.out) HOK.out HOL.out ?_; intro u' w3 H1 H2 H3; obtain ⟨ua', ul', uc', hu'⟩ := H1.out.shape3; subst hu'; obtain ⟨⟨k1, k2⟩, hf1, hf2⟩ := HTL.out.addOf H1.out H3.out.1 (H3.out.2.imp id Or.inl); have HFF := Lib.hid hf1; have HCF := Lib.hid (HFC.out.trans (((Chg.refl (fun k => bt ≤ k) wf).alloc _).trans hf2)); clear hf1 hf2)
    go_end0
    exact ⟨_, _, rfl, by rw [HAL.out]; exact HFF.out, HCF.out⟩
end Go.Proofs.Ytkfakkonlnjckaa
