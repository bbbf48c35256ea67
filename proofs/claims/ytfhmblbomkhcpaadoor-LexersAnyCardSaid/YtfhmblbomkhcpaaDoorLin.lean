/- Lists that lie somewhere, lists of lists of ints, fields that hold a list. -/
import Derived.Test.YtfhmblbomkhcpaaDoorInts
namespace Go.Proofs.YtfhmblbomkhcpaaDoor
open Go.RowKit

/-- The first place where p holds, or -1. -/
def idxV {α : Type} (p : α → Bool) (L : List α) : Int := if L.findIdx p < L.length then (L.findIdx p : Int) else -1
theorem idxV_found {α : Type} {p : α → Bool} {L : List α} {k : Nat} {x : α} (hx : L[k]? = some x) (hp : p x = true) (hb : ∀ (j : Nat) (y : α), j < k → L[j]? = some y → p y = false) : idxV p L = k := by
  have hk := (List.getElem?_eq_some_iff.1 hx).1
  have he : L.findIdx p = k := (List.findIdx_eq hk).2 ⟨by rw [(List.getElem?_eq_some_iff.1 hx).2]; exact hp, fun j hj => hb j _ hj (List.getElem?_eq_getElem (by omega))⟩
  unfold idxV
  rw [he, if_pos hk]
theorem idxV_none {α : Type} {p : α → Bool} {L : List α} (hb : ∀ (j : Nat) (y : α), j < L.length → L[j]? = some y → p y = false) : idxV p L = -1 := by
  have : ¬ L.findIdx p < L.length := by
    rw [List.findIdx_lt_length]
    rintro ⟨x, hx, hp⟩
    obtain ⟨j, hj, rfl⟩ := List.getElem_of_mem hx
    rw [hb j _ hj (List.getElem?_eq_getElem hj)] at hp
    cases hp
  unfold idxV
  rw [if_neg this]
theorem idx_cases {α : Type} (p : α → Bool) : ∀ L : List α, (∃ (k : Nat) (x : α), L[k]? = some x ∧ p x = true ∧ idxV p L = k ∧ L.find? p = some x ∧ L.any p = true) ∨ (idxV p L = -1 ∧ L.find? p = none ∧ L.any p = false)
  | [] => .inr ⟨rfl, rfl, rfl⟩
  | x :: L => by
    by_cases hx : p x = true
    · exact .inl ⟨0, x, rfl, hx, idxV_found (k := 0) (x := x) rfl hx (fun j y h => absurd h (Nat.not_lt_zero _)), by simp [hx], by simp [hx]⟩
    · have hx' : p x = false := by simpa using hx
      rcases idx_cases p L with ⟨k, y, h1, h2, h3, h4, h5⟩ | ⟨h1, h2, h3⟩
      · refine .inl ⟨k + 1, y, by simpa using h1, h2, ?_, by simp [hx', h4], by simp only [List.any_cons, hx', h5, Bool.false_or]⟩
        unfold idxV at h3 ⊢
        simp only [List.findIdx_cons, hx', cond_false, List.length_cons]
        split at h3
        · rw [if_pos (by omega)]; omega
        · omega
      · refine .inr ⟨?_, by simp [hx', h2], by simp only [List.any_cons, hx', h3, Bool.false_or]⟩
        unfold idxV at h1 ⊢
        simp only [List.findIdx_cons, hx', cond_false, List.length_cons]
        split at h1
        · omega
        · rw [if_neg (by omega)]

abbrev Sl := Option Addr × Nat × Nat
def slV (s : Sl) : Value := .slice s.1 s.2.1 s.2.2
def listE : Elt Sl where
  enc := fun s => [slV s]
  sz := 1
  bs := 24
  e := 23
  sl := 24
  z := (none, 0, 0)
  zv := .slice none 0 0
  ok := fun _ => True
  pos := by omega
  len := fun _ => rfl
  one := fun a u hu => by
    simp only [List.mem_cons, List.not_mem_nil, or_false] at hu
    subst hu; rfl
  zok := trivial
  info := by kernel_rfl
  zc := rfl
  und := by kernel_rfl
  bsl := by omega

variable {α : Type} {E : Elt α}
/-- A list that lies somewhere, from block B on. -/
def Elt.In (E : Elt α) (w : World) (B : Nat) (s : Sl) (L : List α) : Prop :=
  s.2.1 = L.length ∧ s.2.1 ≤ s.2.2 ∧ ∃ g o, E.At w g o L ∧ (0 < L.length → s.1 = some ⟨g, o, none⟩ ∧ B ≤ g)
theorem Elt.In.chg {S : Nat → Prop} {w w' : World} {B : Nat} {s : Sl} {L : List α} (h : E.In w B s L) (hc : Chg S w w') (hs : ∀ g o, s.1 = some ⟨g, o, none⟩ → ¬ S g) : E.In w' B s L := by
  obtain ⟨h1, h2, g, o, h3, h4⟩ := h
  exact ⟨h1, h2, g, o, h3.chg hc (fun hne => hs g o (h4 (by cases L with
    | nil => exact absurd rfl hne
    | cons x L => simp)).1), h4⟩
theorem Elt.In.same {w w' : World} {B : Nat} {s : Sl} {L : List α} (h : E.In w B s L) (hc : Chg (fun _ => False) w w') : E.In w' B s L := h.chg hc (fun _ _ _ h => h)
theorem Elt.In.lower {w : World} {B B' : Nat} {s : Sl} {L : List α} (h : E.In w B s L) (hB : B' ≤ B) : E.In w B' s L := by
  obtain ⟨h1, h2, g, o, h3, h4⟩ := h
  exact ⟨h1, h2, g, o, h3, fun hp => ⟨(h4 hp).1, Nat.le_trans hB (h4 hp).2⟩⟩
theorem Elt.In.nil (E : Elt α) (w : World) (B : Nat) : E.In w B (none, 0, 0) [] := ⟨rfl, Nat.le_refl _, 0, 0, .nil _ _ _ _, fun h => absurd h (by simp)⟩
theorem Elt.Own.in' {w : World} {B : Nat} {a : Option Addr} {n c c' : Nat} {X : List α} (h : E.Own w B (.slice a n c) X) (hc : n ≤ c') : E.In w B (a, n, c') X := by
  obtain ⟨a', g, c2, h1, h2, h3, h4⟩ := h.at'
  injection h1 with e1 e2 e3
  subst e1 e2 e3
  exact ⟨rfl, hc, g, 0, h3, h4⟩
/-- One of its elements of two cells. -/
theorem Elt.In.get2 {w : World} {B : Nat} {a : Option Addr} {n c : Nat} {L : List α} (h : E.In w B (a, n, c) L) (hz : E.sz = 2) {k : Nat} (hk : k < L.length) : ∃ (x : α) (g o : Nat) (u v : Value), L[k]? = some x ∧ a = some ⟨g, o, none⟩ ∧ E.enc x = [u, v] ∧ w.cell? ⟨g, o + k * 2, none⟩ = some u ∧ w.cell? ⟨g, o + k * 2 + 1, none⟩ = some v ∧ E.ok x ∧ B ≤ g ∧ g < w.heap.size := by
  obtain ⟨h1, h2, g, o, h3, h4⟩ := h
  obtain ⟨h4, h5⟩ := h4 (by omega)
  have hx : L[k]? = some L[k] := List.getElem?_eq_getElem hk
  have hl := E.len L[k]
  rw [hz] at hl
  match he : E.enc L[k], hl with
  | [u, v], _ =>
    have c0 := h3.get hx (i := 0) (u := u) (by rw [he]; rfl)
    have c1 := h3.get hx (i := 1) (u := v) (by rw [he]; rfl)
    rw [hz] at c0 c1
    exact ⟨_, g, o, u, v, hx, h4, he, by simpa using c0, by rw [Nat.add_assoc]; exact c1, h3.ok _ (List.getElem_mem _), h5, h3.lt (by intro e; rw [e] at hk; simp at hk)⟩

/-- Lists of lists. -/
def ListsIn (w : World) (B : Nat) (s : Sl) (LL : List (List Int)) : Prop := ∃ X : List Sl, listE.In w B s X ∧ X.length = LL.length ∧ ∀ (j : Nat) x l, X[j]? = some x → LL[j]? = some l → intE.In w B x l
theorem ListsIn.same {w w' : World} {B : Nat} {s : Sl} {LL : List (List Int)} (h : ListsIn w B s LL) (hc : Chg (fun _ => False) w w') : ListsIn w' B s LL := by
  obtain ⟨X, h1, h2, h3⟩ := h
  exact ⟨X, h1.same hc, h2, fun j x r hx hr => (h3 j x r hx hr).same hc⟩
theorem ListsIn.get {w : World} {B : Nat} {a : Option Addr} {n c : Nat} {LL : List (List Int)} (h : ListsIn w B (a, n, c) LL) {k : Nat} (hk : k < LL.length) :
    ∃ (l : List Int) (g o : Nat) (la : Option Addr) (lc gl ol : Nat), LL[k]? = some l ∧ a = some ⟨g, o, none⟩ ∧ w.cell? ⟨g, o + k, none⟩ = some (.slice la l.length lc) ∧ l.length ≤ lc ∧ I.BytesAt w gl ol l ∧ (0 < l.length → la = some ⟨gl, ol, none⟩ ∧ B ≤ gl) ∧ g < w.heap.size ∧ B ≤ g := by
  obtain ⟨X, ⟨h1, h2, g, o, h3, h4⟩, h5, h6⟩ := h
  have hx : X[k]? = some X[k] := List.getElem?_eq_getElem (by omega)
  have hl : LL[k]? = some LL[k] := List.getElem?_eq_getElem hk
  obtain ⟨k1, k2, gl, ol, k3, k4⟩ := h6 k _ _ hx hl
  have hc := h3.get hx (i := 0) (u := slV X[k]) rfl
  rw [Nat.add_zero, show listE.sz = 1 from rfl, Nat.mul_one] at hc
  obtain ⟨h4, h7⟩ := h4 (by omega)
  refine ⟨LL[k], g, o, X[k].1, X[k].2.2, gl, ol, hl, h4, ?_, by omega, intAt.1 k3, k4, h3.lt (by intro e; rw [e] at h5; simp at h5; omega), h7⟩
  rw [hc, ← k1]
  rfl
theorem ListsIn.len {w : World} {B : Nat} {a : Option Addr} {n c : Nat} {LL : List (List Int)} (h : ListsIn w B (a, n, c) LL) : n = LL.length ∧ n ≤ c := by
  obtain ⟨X, ⟨h1, h2, _⟩, h5, _⟩ := h
  exact ⟨by rw [← h5]; exact h1, h2⟩
/-- The first k of them. -/
theorem Elt.In.take {w : World} {B : Nat} {a : Option Addr} {n c : Nat} {L : List α} (h : E.In w B (a, n, c) L) {k : Nat} (hk : k ≤ L.length) : E.In w B (a, k, c) (L.take k) := by
  obtain ⟨h1, h2, g, o, h3, h4⟩ := h
  simp only at h1 h2 h4
  have hX : L = L.take k ++ L.drop k := (List.take_append_drop k L).symm
  refine ⟨by simp; omega, by simp; omega, g, o, ⟨fun j u hj => ?_, fun x hx => h3.ok x (List.mem_of_mem_take hx), fun hne => h3.lt (fun e => hne (by rw [e]; simp))⟩, fun hp => h4 (by rw [List.length_take] at hp; omega)⟩
  refine h3.c j u ?_
  rw [hX, E.encs_append, List.getElem?_append_left (List.getElem?_eq_some_iff.1 hj).1]
  exact hj
/-- A variable of two, three cells is written over. -/
theorem store2 {W : World} {b : Nat} {u0 u1 : Value} (v0 v1 : Value) (h0 : W.cell? ⟨b, 0, none⟩ = some u0) (h1 : W.cell? ⟨b, 1, none⟩ = some u1) :
    ((W.setCell ⟨b, 0, none⟩ v0).setCell ⟨b, 1, none⟩ v1).cell? ⟨b, 0, none⟩ = some v0 ∧ ((W.setCell ⟨b, 0, none⟩ v0).setCell ⟨b, 1, none⟩ v1).cell? ⟨b, 1, none⟩ = some v1 ∧ Chg (· = b) W ((W.setCell ⟨b, 0, none⟩ v0).setCell ⟨b, 1, none⟩ v1) := by
  refine ⟨?_, World.cell?_setCell_same _ _ _ (u := u1) ?_, (setCellChg _ _ _ _).trans (setCellChg _ _ _ _)⟩
  · rw [World.cell?_setCell_other _ _ _ _ (by intro e; injection e with _ e; cases e)]
    exact World.cell?_setCell_same _ _ _ h0
  · rw [World.cell?_setCell_other _ _ _ _ (by intro e; injection e with _ e; cases e)]
    exact h1
theorem store3 {W : World} {b : Nat} {u0 u1 u2 : Value} (v0 v1 v2 : Value) (h0 : W.cell? ⟨b, 0, none⟩ = some u0) (h1 : W.cell? ⟨b, 1, none⟩ = some u1) (h2 : W.cell? ⟨b, 2, none⟩ = some u2) :
    (((W.setCell ⟨b, 0, none⟩ v0).setCell ⟨b, 1, none⟩ v1).setCell ⟨b, 2, none⟩ v2).cell? ⟨b, 0, none⟩ = some v0 ∧ (((W.setCell ⟨b, 0, none⟩ v0).setCell ⟨b, 1, none⟩ v1).setCell ⟨b, 2, none⟩ v2).cell? ⟨b, 1, none⟩ = some v1 ∧ (((W.setCell ⟨b, 0, none⟩ v0).setCell ⟨b, 1, none⟩ v1).setCell ⟨b, 2, none⟩ v2).cell? ⟨b, 2, none⟩ = some v2 ∧ Chg (· = b) W (((W.setCell ⟨b, 0, none⟩ v0).setCell ⟨b, 1, none⟩ v1).setCell ⟨b, 2, none⟩ v2) := by
  obtain ⟨k0, k1, k2⟩ := store2 v0 v1 h0 h1
  have k3 : ((W.setCell ⟨b, 0, none⟩ v0).setCell ⟨b, 1, none⟩ v1).cell? ⟨b, 2, none⟩ = some u2 := by
    rw [World.cell?_setCell_other _ _ _ _ (by intro e; injection e with _ e; cases e), World.cell?_setCell_other _ _ _ _ (by intro e; injection e with _ e; cases e)]
    exact h2
  refine ⟨?_, ?_, World.cell?_setCell_same _ _ _ k3, k2.trans (setCellChg _ _ _ _)⟩
  · rw [World.cell?_setCell_other _ _ _ _ (by intro e; injection e with _ e; cases e)]
    exact k0
  · rw [World.cell?_setCell_other _ _ _ _ (by intro e; injection e with _ e; cases e)]
    exact k1
/-- A field that holds a list of one's own. -/
structure Fld (E : Elt α) (br off : Nat) (w : World) (v : Value) (X : List α) : Prop where
  c : w.cell? ⟨br, off, none⟩ = some v
  z : w.frozen? ⟨br, off, none⟩ = false
  own : E.Own w (br + 1) v X
theorem Fld.lt {br off : Nat} {w : World} {v : Value} {X : List α} (h : Fld E br off w v X) : br < w.heap.size := World.block_lt_of_cell? _ _ h.c
theorem Fld.chg {S : Nat → Prop} {br off : Nat} {w w' : World} {v : Value} {X : List α} (h : Fld E br off w v X) (hc : Chg S w w') (hs : ∀ g, br ≤ g → g < w.heap.size → ¬ S g) : Fld E br off w' v X :=
  ⟨hc.cellS h.c (hs br (Nat.le_refl _) h.lt), (hc.frozen (p := ⟨br, off, none⟩) h.lt (hs br (Nat.le_refl _) h.lt)).trans h.z, h.own.chg hc (fun g hg => hs g (by omega))⟩
/-- Another list is stored there. -/
theorem Fld.step {br off : Nat} {w w1 : World} {v v' : Value} {X X' : List α} (h : Fld E br off w v X) (ho : E.Own w1 (br + 1) v' X') (hc : Chg (fun k => br + 1 ≤ k) w w1) :
    (w1.cell? ⟨br, off, none⟩ = some v ∧ w1.frozen? ⟨br, off, none⟩ = false) ∧ Fld E br off (w1.setCell ⟨br, off, none⟩ v') v' X' ∧ Chg (fun k => br ≤ k) w (w1.setCell ⟨br, off, none⟩ v') ∧
      ∀ off' u, off' ≠ off → w.cell? ⟨br, off', none⟩ = some u → (w1.setCell ⟨br, off, none⟩ v').cell? ⟨br, off', none⟩ = some u := by
  have hlt := h.lt
  have c1 := hc.cellS h.c (by show ¬ br + 1 ≤ br; omega)
  have z1 := (hc.frozen (p := ⟨br, off, none⟩) hlt (by show ¬ br + 1 ≤ br; omega)).trans h.z
  refine ⟨⟨c1, z1⟩, ⟨World.cell?_setCell_same _ _ _ c1, (World.frozen?_setCell _ _ _ _).trans z1, ho.chg (setCellChg _ _ _ _) (fun g hg _ e => by omega)⟩, (hc.mono (fun k _ e => by omega)).trans ((setCellChg w1 br off v').mono (fun k _ e => by omega)), fun off' u hne hu => ?_⟩
  rw [World.cell?_setCell_other _ _ _ _ (by intro e; injection e with _ e; exact hne e.symm)]
  exact hc.cellS hu (by show ¬ br + 1 ≤ br; omega)
end Go.Proofs.YtfhmblbomkhcpaaDoor
