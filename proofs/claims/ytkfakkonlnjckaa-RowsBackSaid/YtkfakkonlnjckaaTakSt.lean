/- A table that is being made, its lists from block lo on (printed by wip/gen/takst.py from XRowsR, XRowsT). -/
import Derived.Test.YtkfakkonlnjckaaRowsT
namespace Go.Proofs.Ytkfakkonlnjckaa
open Go.RowKit

/-- The rows of a table that is being made, and which list has which. -/
structure TakSt (E : Elt (Int × Int)) (F : Elt (Int × Sl)) (bt lo : Nat) (w : World) (W : Int) (R : List RowD) (O : List Int) (v u : Value) : Prop where
  c0 : w.cell? ⟨bt, 0, none⟩ = some (.int .i64 W)
  c1 : w.cell? ⟨bt, 1, none⟩ = some v
  z1 : w.frozen? ⟨bt, 1, none⟩ = false
  c2 : w.cell? ⟨bt, 2, none⟩ = some u
  z2 : w.frozen? ⟨bt, 2, none⟩ = false
  rows : ∃ X : List (Int × Sl), F.Own w lo v X ∧ X.length = R.length ∧ ∀ (j : Nat) x r, X[j]? = some x → R[j]? = some r → RowIn E w lo x r ∧ (0 < r.2.length → ∀ g o, x.2.1 = some ⟨g, o, none⟩ → v.ownBlock ≠ some g ∧ u.ownBlock ≠ some g ∧ lo ≤ g)
  of : intE.Own w lo u O
  apart : ∀ g, v.ownBlock = some g → u.ownBlock ≠ some g
  blo : bt < lo
theorem TakSt.lt {E : Elt (Int × Int)} {F : Elt (Int × Sl)} {bt lo : Nat} {w : World} {W : Int} {R : List RowD} {O : List Int} {v u : Value} (h : TakSt E F bt lo w W R O v u) : bt < w.heap.size := World.block_lt_of_cell? _ _ h.c0
theorem TakSt.same {E : Elt (Int × Int)} {F : Elt (Int × Sl)} {bt lo : Nat} {w w' : World} {W : Int} {R : List RowD} {O : List Int} {v u : Value} (h : TakSt E F bt lo w W R O v u) (hc : Chg (fun _ => False) w w') : TakSt E F bt lo w' W R O v u := by
  obtain ⟨X, h1, h2, h3⟩ := h.rows
  exact ⟨hc.cellS h.c0 (fun h => h), hc.cellS h.c1 (fun h => h), (hc.frozen (p := ⟨bt, 1, none⟩) h.lt (fun h => h)).trans h.z1, hc.cellS h.c2 (fun h => h), (hc.frozen (p := ⟨bt, 2, none⟩) h.lt (fun h => h)).trans h.z2,
    ⟨X, h1.chg hc (fun _ _ _ h => h), h2, fun j x r hx hr => ⟨(h3 j x r hx hr).1.same hc, (h3 j x r hx hr).2⟩⟩, h.of.chg hc (fun _ _ _ h => h), h.apart, h.blo⟩
theorem TakSt.rowsIn {E : Elt (Int × Int)} {F : Elt (Int × Sl)} {bt lo : Nat} {w : World} {W : Int} {R : List RowD} {O : List Int} {u : Value} {a : Option Addr} {n c : Nat} (h : TakSt E F bt lo w W R O (.slice a n c) u) : RowsIn E F w lo (a, n, c) R ∧ n = R.length ∧ n ≤ c := by
  obtain ⟨X, h1, h2, h3⟩ := h.rows
  obtain ⟨a', g, c', hv, hle, -⟩ := h1.at'
  injection hv with e1 e2 e3
  subst e1 e2 e3
  exact ⟨⟨X, h1.in' hle, h2, fun j x r hx hr => (h3 j x r hx hr).1⟩, h2, hle⟩

/-- A row more. -/
theorem TakSt.addRow {E : Elt (Int × Int)} {F : Elt (Int × Sl)} {bt lo : Nat} {w w1 : World} {W : Int} {R : List RowD} {O : List Int} {v v' u : Value} (h : TakSt E F bt lo w W R O v u) {x : Int × Sl} {r : RowD} (hx : RowIn E w lo x r) (hxa : 0 < r.2.length → ∀ g o, x.2.1 = some ⟨g, o, none⟩ → v.ownBlock ≠ some g ∧ u.ownBlock ≠ some g ∧ lo ≤ g)
    (ho : ∀ X, F.Own w lo v X → X.length = R.length → F.Own w1 lo v' (X ++ [x])) (hc : Chg (fun k => v.ownBlock = some k) w w1) (hv : v'.ownBlock = v.ownBlock ∨ v'.ownBlock = some w.heap.size ∨ v'.ownBlock = some (w.heap.size + 1)) :
    (w1.cell? ⟨bt, 1, none⟩ = some v ∧ w1.frozen? ⟨bt, 1, none⟩ = false) ∧ TakSt E F bt lo (w1.setCell ⟨bt, 1, none⟩ v') W (R ++ [r]) O v' u ∧ Chg (fun k => bt ≤ k) w (w1.setCell ⟨bt, 1, none⟩ v') := by
  obtain ⟨X, h1, h2, h3⟩ := h.rows
  have hlt := h.lt
  have hblo := h.blo
  have hbl : ∀ g, v.ownBlock = some g → lo ≤ g ∧ g < w.heap.size := fun g hg => h1.blk hg
  have hnb : ¬ v.ownBlock = some bt := fun e => by have := (hbl bt e).1; omega
  have c1 := hc.cellS h.c1 hnb
  have z1 := (hc.frozen (p := ⟨bt, 1, none⟩) hlt hnb).trans h.z1
  have hs := setCellChg w1 bt 1 v'
  have hgt : ∀ g, g < w.heap.size → v.ownBlock ≠ some g → v'.ownBlock ≠ some g := fun g hg hne e => by
    rcases hv with hv | hv | hv
    · rw [hv] at e; exact hne e
    · rw [hv] at e; obtain rfl := Option.some.inj e; omega
    · rw [hv] at e; obtain rfl := Option.some.inj e; omega
  have hcs : Chg (fun k => v.ownBlock = some k ∨ k = bt) w (w1.setCell ⟨bt, 1, none⟩ v') := (hc.mono (fun k _ e => .inl e)).trans (hs.mono (fun k _ e => .inr e))
  have keep : ∀ (y : Int × Sl) (q : RowD), RowIn E w lo y q → (0 < q.2.length → ∀ g o, y.2.1 = some ⟨g, o, none⟩ → v.ownBlock ≠ some g ∧ u.ownBlock ≠ some g ∧ lo ≤ g) →
      RowIn E (w1.setCell ⟨bt, 1, none⟩ v') lo y q ∧ (0 < q.2.length → ∀ g o, y.2.1 = some ⟨g, o, none⟩ → v'.ownBlock ≠ some g ∧ u.ownBlock ≠ some g ∧ lo ≤ g) := fun y q hy hya => by
    refine ⟨hy.chg0 hcs (fun hp g o hg e => ?_), fun hp g o hg => ?_⟩
    · obtain ⟨k1, k2, k3⟩ := hya hp g o hg
      rcases e with e | e
      · exact k1 e
      · omega
    · obtain ⟨k1, k2, k3⟩ := hya hp g o hg
      obtain ⟨_, _, g', o', k4, k5⟩ := hy.2.2
      have hlt : g < w.heap.size := by
        have h6 := (k5 hp).1
        rw [hg] at h6
        injection h6 with h6
        injection h6 with h6
        subst h6
        exact k4.lt (by intro e; rw [e] at hp; simp at hp)
      exact ⟨hgt g hlt k1, k2, k3⟩
  refine ⟨⟨c1, z1⟩, ⟨Chg.cellNe (hc.cellS h.c0 hnb) (by intro e; injection e with _ e; cases e), World.cell?_setCell_same _ _ _ c1, (World.frozen?_setCell _ _ _ _).trans z1, Chg.cellNe (hc.cellS h.c2 hnb) (by intro e; injection e with _ e; cases e), (World.frozen?_setCell _ _ _ _).trans ((hc.frozen (p := ⟨bt, 2, none⟩) hlt hnb).trans h.z2),
    ⟨X ++ [x], (ho X h1 h2).chg hs (fun g hg _ e => by omega), by simp [h2], fun j y q hy hq => ?_⟩, ?_, fun g hg hu => ?_, h.blo⟩, hcs.mono (fun k _ e => by
      rcases e with e | e
      · have := (hbl k e).1; omega
      · omega)⟩
  · by_cases hj : j < X.length
    · rw [List.getElem?_append_left hj] at hy
      rw [List.getElem?_append_left (by omega)] at hq
      exact keep y q (h3 j y q hy hq).1 (h3 j y q hy hq).2
    · have hjl := (List.getElem?_eq_some_iff.1 hy).1
      simp at hjl
      obtain rfl : j = X.length := by omega
      rw [List.getElem?_append_right (Nat.le_refl _), Nat.sub_self] at hy
      rw [h2, List.getElem?_append_right (Nat.le_refl _), Nat.sub_self] at hq
      obtain rfl := Option.some.inj hy
      obtain rfl := Option.some.inj hq
      exact keep _ _ hx hxa
  · refine (h.of.chgB hc (fun g hg e => h.apart g e hg)).chg hs (fun g hg _ e => by omega)
  · have := (h.of.blk hu)
    rcases hv with hv | hv | hv
    · rw [hv] at hg; exact h.apart g hg hu
    · rw [hv] at hg; obtain rfl := Option.some.inj hg; omega
    · rw [hv] at hg; obtain rfl := Option.some.inj hg; omega
/-- Which row a list has. -/
theorem TakSt.addOf {E : Elt (Int × Int)} {F : Elt (Int × Sl)} {bt lo : Nat} {w w1 : World} {W : Int} {R : List RowD} {O : List Int} {v u u' : Value} {i : Int} (h : TakSt E F bt lo w W R O v u)
    (ho : intE.Own w1 lo u' (O ++ [i])) (hc : Chg (fun k => u.ownBlock = some k) w w1) (hu : u'.ownBlock = u.ownBlock ∨ u'.ownBlock = some w.heap.size ∨ u'.ownBlock = some (w.heap.size + 1)) :
    (w1.cell? ⟨bt, 2, none⟩ = some u ∧ w1.frozen? ⟨bt, 2, none⟩ = false) ∧ TakSt E F bt lo (w1.setCell ⟨bt, 2, none⟩ u') W R (O ++ [i]) v u' ∧ Chg (fun k => bt ≤ k) w (w1.setCell ⟨bt, 2, none⟩ u') := by
  obtain ⟨X, h1, h2, h3⟩ := h.rows
  have hlt := h.lt
  have hblo := h.blo
  have hbl : ∀ g, u.ownBlock = some g → lo ≤ g ∧ g < w.heap.size := fun g hg => h.of.blk hg
  have hnb : ¬ u.ownBlock = some bt := fun e => by have := (hbl bt e).1; omega
  have c2 := hc.cellS h.c2 hnb
  have z2 := (hc.frozen (p := ⟨bt, 2, none⟩) hlt hnb).trans h.z2
  have hs := setCellChg w1 bt 2 u'
  have hgt : ∀ g, g < w.heap.size → u.ownBlock ≠ some g → u'.ownBlock ≠ some g := fun g hg hne e => by
    rcases hu with hv | hv | hv
    · rw [hv] at e; exact hne e
    · rw [hv] at e; obtain rfl := Option.some.inj e; omega
    · rw [hv] at e; obtain rfl := Option.some.inj e; omega
  have hcs : Chg (fun k => u.ownBlock = some k ∨ k = bt) w (w1.setCell ⟨bt, 2, none⟩ u') := (hc.mono (fun k _ e => .inl e)).trans (hs.mono (fun k _ e => .inr e))
  refine ⟨⟨c2, z2⟩, ⟨Chg.cellNe (hc.cellS h.c0 hnb) (by intro e; injection e with _ e; cases e), Chg.cellNe (hc.cellS h.c1 hnb) (by intro e; injection e with _ e; cases e), (World.frozen?_setCell _ _ _ _).trans ((hc.frozen (p := ⟨bt, 1, none⟩) hlt hnb).trans h.z1), World.cell?_setCell_same _ _ _ c2, (World.frozen?_setCell _ _ _ _).trans z2,
    ⟨X, (h1.chgB hc (fun g hg e => h.apart g hg e)).chg hs (fun g hg _ e => by omega), h2, fun j y q hy hq => ?_⟩, ho.chg hs (fun g hg _ e => by omega), fun g hg hu' => ?_, h.blo⟩, hcs.mono (fun k _ e => by
      rcases e with e | e
      · have := (hbl k e).1; omega
      · omega)⟩
  · obtain ⟨hy1, hya⟩ := h3 j y q hy hq
    refine ⟨hy1.chg0 hcs (fun hp g o hg e => ?_), fun hp g o hg => ?_⟩
    · obtain ⟨k1, k2, k3⟩ := hya hp g o hg
      rcases e with e | e
      · exact k2 e
      · omega
    · obtain ⟨k1, k2, k3⟩ := hya hp g o hg
      obtain ⟨_, _, g', o', k4, k5⟩ := hy1.2.2
      have hlt : g < w.heap.size := by
        have h6 := (k5 hp).1
        rw [hg] at h6
        injection h6 with h6
        injection h6 with h6
        subst h6
        exact k4.lt (by intro e; rw [e] at hp; simp at hp)
      exact ⟨k1, hgt g hlt k2, k3⟩
  · exact hgt g (h1.blk hg).2 (fun e => h.apart g hg e) hu'

theorem TakSt.final {E : Elt (Int × Int)} {F : Elt (Int × Sl)} {bt lo : Nat} {w w' : World} {W : Int} {R : List RowD} {O : List Int} {a ua : Option Addr} {n c m uc : Nat} (h : TakSt E F bt lo w W R O (.slice a n c) (.slice ua m uc)) (hc : Chg (fun k => k < lo) w w') :
    RowsIn E F w' lo (a, n, n) R ∧ OfIn w' lo ua O ∧ n = R.length ∧ m = O.length ∧ n ≤ c ∧ m ≤ uc := by
  obtain ⟨X, h1, h2, h3⟩ := h.rows
  have h1' := h1.chg hc (fun g hg _ e => by omega)
  obtain ⟨a', g, c', hv, hle, -⟩ := h1.at'
  injection hv with e1 e2 e3
  subst e1 e2 e3
  refine ⟨⟨X, h1'.in' (Nat.le_refl _), h2, fun j x r hx hr => (h3 j x r hx hr).1.chg0 hc (fun hp g o hg e => by have := ((h3 j x r hx hr).2 hp g o hg).2.2; omega)⟩, ?_, h2, ?_, hle, ?_⟩
  · rcases h.of with ⟨e, rfl⟩ | ⟨g, C, e, hB, hR, hp, _⟩
    · injection e with e1 e2 e3
      exact .inl ⟨rfl, e1⟩
    · injection e with e1 e2 e3
      have hr2 := (hR.chg hc (show ¬ g < lo by omega))
      refine .inr ⟨g, e1, intRow.1 ⟨fun k u hk => ?_, hr2.z, hr2.lt, fun x hx => hr2.ok x (hp.subset hx)⟩, hB⟩
      have := (hr2.at' hp).c k u hk
      rwa [Nat.zero_add] at this
  · rcases h.of with ⟨e, rfl⟩ | ⟨g, C, e, hB, hR, hp, _⟩
    · injection e
    · injection e
  · rcases h.of with ⟨e, rfl⟩ | ⟨g, C, e, hB, hR, hp, _⟩
    · injection e with e1 e2 e3
      subst e2 e3
      exact Nat.le_refl _
    · injection e with e1 e2 e3
      subst e2 e3
      exact hp.length_le
end Go.Proofs.Ytkfakkonlnjckaa
