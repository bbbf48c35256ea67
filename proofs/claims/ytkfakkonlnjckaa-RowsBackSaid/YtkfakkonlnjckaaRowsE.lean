/- Cells, rows, lists of lists in memory. -/
import Derived.Test.YtkfakkonlnjckaaList
import Derived.Test.YtkfakkonlnjckaaRowsL
import Derived.Test.YtkfakkonlnjckaaTwinsI
namespace Go.Proofs.Ytkfakkonlnjckaa
open Go.RowKit

abbrev Sl := Option Addr × Nat × Nat
def slV (s : Sl) : Value := .slice s.1 s.2.1 s.2.2
abbrev okPair (c : Int × Int) : Prop := I.Byte c.1 ∧ I.Byte c.2
def encPair (c : Int × Int) : List Value := [.int .i64 c.1, .int .i64 c.2]
def encRow (x : Int × Sl) : List Value := [.int .i64 x.1, slV x.2]

def cellE : Elt (Int × Int) where
  enc := encPair
  sz := 2
  bs := 16
  e := 79
  sl := 25
  z := (0, 0)
  zv := .agg #[.int .i64 0, .int .i64 0]
  ok := okPair
  pos := by omega
  len := fun _ => rfl
  one := fun a u hu => by
    simp only [encPair, List.mem_cons, List.not_mem_nil, or_false] at hu
    rcases hu with rfl | rfl <;> rfl
  zok := by decide
  info := by kernel_rfl
  zc := rfl
  und := by kernel_rfl
  bsl := by omega
def cellR : Elt (Int × Int) where
  enc := encPair
  sz := 2
  bs := 16
  e := 85
  sl := 31
  z := (0, 0)
  zv := .agg #[.int .i64 0, .int .i64 0]
  ok := okPair
  pos := by omega
  len := fun _ => rfl
  one := fun a u hu => by
    simp only [encPair, List.mem_cons, List.not_mem_nil, or_false] at hu
    rcases hu with rfl | rfl <;> rfl
  zok := by decide
  info := by kernel_rfl
  zc := rfl
  und := by kernel_rfl
  bsl := by omega
def rowE : Elt (Int × Sl) where
  enc := encRow
  sz := 2
  bs := 32
  e := 27
  sl := 43
  z := (0, none, 0, 0)
  zv := .agg #[.int .i64 0, .slice none 0 0]
  ok := fun x => I.Byte x.1
  pos := by omega
  len := fun _ => rfl
  one := fun a u hu => by
    simp only [encRow, List.mem_cons, List.not_mem_nil, or_false] at hu
    rcases hu with rfl | rfl <;> rfl
  zok := by decide
  info := by kernel_rfl
  zc := rfl
  und := by kernel_rfl
  bsl := by omega
def rowR : Elt (Int × Sl) where
  enc := encRow
  sz := 2
  bs := 32
  e := 33
  sl := 48
  z := (0, none, 0, 0)
  zv := .agg #[.int .i64 0, .slice none 0 0]
  ok := fun x => I.Byte x.1
  pos := by omega
  len := fun _ => rfl
  one := fun a u hu => by
    simp only [encRow, List.mem_cons, List.not_mem_nil, or_false] at hu
    rcases hu with rfl | rfl <;> rfl
  zok := by decide
  info := by kernel_rfl
  zc := rfl
  und := by kernel_rfl
  bsl := by omega
def listE : Elt Sl where
  enc := fun s => [slV s]
  sz := 1
  bs := 24
  e := 22
  sl := 40
  z := (none, 0, 0)
  zv := .slice none 0 0
  ok := fun _ => True
  pos := by omega
  len := fun _ => rfl
  one := fun a u hu => by
    simp only [List.mem_cons, List.not_mem_nil, or_false] at hu
    subst hu; rfl
  zok := trivial
  info := by kernel_rfl
  zc := rfl
  und := by kernel_rfl
  bsl := by omega

variable {α : Type} {E : Elt α}
/-- A list that lies somewhere, from block B on. -/
def Elt.In (E : Elt α) (w : World) (B : Nat) (s : Sl) (L : List α) : Prop :=
  s.2.1 = L.length ∧ s.2.1 ≤ s.2.2 ∧ ∃ g o, E.At w g o L ∧ (0 < L.length → s.1 = some ⟨g, o, none⟩ ∧ B ≤ g)
theorem Elt.In.chg {S : Nat → Prop} {w w' : World} {B : Nat} {s : Sl} {L : List α} (h : E.In w B s L) (hc : Chg S w w') (hs : ∀ g o, s.1 = some ⟨g, o, none⟩ → ¬ S g) : E.In w' B s L := by
  obtain ⟨h1, h2, g, o, h3, h4⟩ := h
  exact ⟨h1, h2, g, o, h3.chg hc (fun hne => hs g o (h4 (by cases L with
    | nil => exact absurd rfl hne
    | cons x L => simp)).1), h4⟩
theorem Elt.In.same {w w' : World} {B : Nat} {s : Sl} {L : List α} (h : E.In w B s L) (hc : Chg (fun _ => False) w w') : E.In w' B s L := h.chg hc (fun _ _ _ h => h)
theorem Elt.In.lower {w : World} {B B' : Nat} {s : Sl} {L : List α} (h : E.In w B s L) (hB : B' ≤ B) : E.In w B' s L := by
  obtain ⟨h1, h2, g, o, h3, h4⟩ := h
  exact ⟨h1, h2, g, o, h3, fun hp => ⟨(h4 hp).1, Nat.le_trans hB (h4 hp).2⟩⟩
theorem Elt.In.nil (E : Elt α) (w : World) (B : Nat) : E.In w B (none, 0, 0) [] := ⟨rfl, Nat.le_refl _, 0, 0, .nil _ _ _ _, fun h => absurd h (by simp)⟩
theorem Elt.Own.in' {w : World} {B : Nat} {a : Option Addr} {n c c' : Nat} {X : List α} (h : E.Own w B (.slice a n c) X) (hc : n ≤ c') : E.In w B (a, n, c') X := by
  obtain ⟨a', g, c2, h1, h2, h3, h4⟩ := h.at'
  injection h1 with e1 e2 e3
  subst e1 e2 e3
  exact ⟨rfl, hc, g, 0, h3, h4⟩
/-- One of its elements of two cells. -/
theorem Elt.In.get2 {w : World} {B : Nat} {a : Option Addr} {n c : Nat} {L : List α} (h : E.In w B (a, n, c) L) (hz : E.sz = 2) {k : Nat} (hk : k < L.length) : ∃ (x : α) (g o : Nat) (u v : Value), L[k]? = some x ∧ a = some ⟨g, o, none⟩ ∧ E.enc x = [u, v] ∧ w.cell? ⟨g, o + k * 2, none⟩ = some u ∧ w.cell? ⟨g, o + k * 2 + 1, none⟩ = some v ∧ E.ok x ∧ B ≤ g ∧ g < w.heap.size := by
  obtain ⟨h1, h2, g, o, h3, h4⟩ := h
  obtain ⟨h4, h5⟩ := h4 (by omega)
  have hx : L[k]? = some L[k] := List.getElem?_eq_getElem hk
  have hl := E.len L[k]
  rw [hz] at hl
  match he : E.enc L[k], hl with
  | [u, v], _ =>
    have c0 := h3.get hx (i := 0) (u := u) (by rw [he]; rfl)
    have c1 := h3.get hx (i := 1) (u := v) (by rw [he]; rfl)
    rw [hz] at c0 c1
    exact ⟨_, g, o, u, v, hx, h4, he, by simpa using c0, by rw [Nat.add_assoc]; exact c1, h3.ok _ (List.getElem_mem _), h5, h3.lt (by intro e; rw [e] at hk; simp at hk)⟩

/-- A row in memory. -/
def RowIn (E : Elt (Int × Int)) (w : World) (B : Nat) (x : Int × Sl) (r : RowD) : Prop := x.1 = r.1 ∧ I.Byte r.1 ∧ E.In w B x.2 r.2
theorem RowIn.chg {E : Elt (Int × Int)} {S : Nat → Prop} {w w' : World} {B : Nat} {x : Int × Sl} {r : RowD} (h : RowIn E w B x r) (hc : Chg S w w') (hs : ∀ g o, x.2.1 = some ⟨g, o, none⟩ → ¬ S g) : RowIn E w' B x r := ⟨h.1, h.2.1, h.2.2.chg hc hs⟩
theorem RowIn.same {E : Elt (Int × Int)} {w w' : World} {B : Nat} {x : Int × Sl} {r : RowD} (h : RowIn E w B x r) (hc : Chg (fun _ => False) w w') : RowIn E w' B x r := h.chg hc (fun _ _ _ h => h)
/-- A list of rows. -/
def RowsIn (E : Elt (Int × Int)) (F : Elt (Int × Sl)) (w : World) (B : Nat) (s : Sl) (R : List RowD) : Prop :=
  ∃ X : List (Int × Sl), F.In w B s X ∧ X.length = R.length ∧ ∀ (j : Nat) x r, X[j]? = some x → R[j]? = some r → RowIn E w B x r
theorem RowsIn.same {E : Elt (Int × Int)} {F : Elt (Int × Sl)} {w w' : World} {B : Nat} {s : Sl} {R : List RowD} (h : RowsIn E F w B s R) (hc : Chg (fun _ => False) w w') : RowsIn E F w' B s R := by
  obtain ⟨X, h1, h2, h3⟩ := h
  exact ⟨X, h1.same hc, h2, fun j x r hx hr => (h3 j x r hx hr).same hc⟩
theorem RowsIn.len {E : Elt (Int × Int)} {F : Elt (Int × Sl)} {w : World} {B : Nat} {s : Sl} {R : List RowD} (h : RowsIn E F w B s R) : s.2.1 = R.length := by
  obtain ⟨X, h1, h2, h3⟩ := h
  rw [h1.1, h2]
/-- A variable of two, three cells is written over. -/
theorem store2 {W : World} {b : Nat} {u0 u1 : Value} (v0 v1 : Value) (h0 : W.cell? ⟨b, 0, none⟩ = some u0) (h1 : W.cell? ⟨b, 1, none⟩ = some u1) :
    ((W.setCell ⟨b, 0, none⟩ v0).setCell ⟨b, 1, none⟩ v1).cell? ⟨b, 0, none⟩ = some v0 ∧ ((W.setCell ⟨b, 0, none⟩ v0).setCell ⟨b, 1, none⟩ v1).cell? ⟨b, 1, none⟩ = some v1 ∧ Chg (· = b) W ((W.setCell ⟨b, 0, none⟩ v0).setCell ⟨b, 1, none⟩ v1) := by
  refine ⟨?_, World.cell?_setCell_same _ _ _ (u := u1) ?_, (setCellChg _ _ _ _).trans (setCellChg _ _ _ _)⟩
  · rw [World.cell?_setCell_other _ _ _ _ (by intro e; injection e with _ e; cases e)]
    exact World.cell?_setCell_same _ _ _ h0
  · rw [World.cell?_setCell_other _ _ _ _ (by intro e; injection e with _ e; cases e)]
    exact h1
theorem store3 {W : World} {b : Nat} {u0 u1 u2 : Value} (v0 v1 v2 : Value) (h0 : W.cell? ⟨b, 0, none⟩ = some u0) (h1 : W.cell? ⟨b, 1, none⟩ = some u1) (h2 : W.cell? ⟨b, 2, none⟩ = some u2) :
    (((W.setCell ⟨b, 0, none⟩ v0).setCell ⟨b, 1, none⟩ v1).setCell ⟨b, 2, none⟩ v2).cell? ⟨b, 0, none⟩ = some v0 ∧ (((W.setCell ⟨b, 0, none⟩ v0).setCell ⟨b, 1, none⟩ v1).setCell ⟨b, 2, none⟩ v2).cell? ⟨b, 1, none⟩ = some v1 ∧ (((W.setCell ⟨b, 0, none⟩ v0).setCell ⟨b, 1, none⟩ v1).setCell ⟨b, 2, none⟩ v2).cell? ⟨b, 2, none⟩ = some v2 ∧ Chg (· = b) W (((W.setCell ⟨b, 0, none⟩ v0).setCell ⟨b, 1, none⟩ v1).setCell ⟨b, 2, none⟩ v2) := by
  obtain ⟨k0, k1, k2⟩ := store2 v0 v1 h0 h1
  have k3 : ((W.setCell ⟨b, 0, none⟩ v0).setCell ⟨b, 1, none⟩ v1).cell? ⟨b, 2, none⟩ = some u2 := by
    rw [World.cell?_setCell_other _ _ _ _ (by intro e; injection e with _ e; cases e), World.cell?_setCell_other _ _ _ _ (by intro e; injection e with _ e; cases e)]
    exact h2
  refine ⟨?_, ?_, World.cell?_setCell_same _ _ _ k3, k2.trans (setCellChg _ _ _ _)⟩
  · rw [World.cell?_setCell_other _ _ _ _ (by intro e; injection e with _ e; cases e)]
    exact k0
  · rw [World.cell?_setCell_other _ _ _ _ (by intro e; injection e with _ e; cases e)]
    exact k1
/-- A field that holds a list of one's own. -/
structure Fld (E : Elt α) (br off : Nat) (w : World) (v : Value) (X : List α) : Prop where
  c : w.cell? ⟨br, off, none⟩ = some v
  z : w.frozen? ⟨br, off, none⟩ = false
  own : E.Own w (br + 1) v X
theorem Fld.lt {br off : Nat} {w : World} {v : Value} {X : List α} (h : Fld E br off w v X) : br < w.heap.size := World.block_lt_of_cell? _ _ h.c
theorem Fld.chg {S : Nat → Prop} {br off : Nat} {w w' : World} {v : Value} {X : List α} (h : Fld E br off w v X) (hc : Chg S w w') (hs : ∀ g, br ≤ g → g < w.heap.size → ¬ S g) : Fld E br off w' v X :=
  ⟨hc.cellS h.c (hs br (Nat.le_refl _) h.lt), (hc.frozen (p := ⟨br, off, none⟩) h.lt (hs br (Nat.le_refl _) h.lt)).trans h.z, h.own.chg hc (fun g hg => hs g (by omega))⟩
/-- Another list is stored there. -/
theorem Fld.step {br off : Nat} {w w1 : World} {v v' : Value} {X X' : List α} (h : Fld E br off w v X) (ho : E.Own w1 (br + 1) v' X') (hc : Chg (fun k => br + 1 ≤ k) w w1) :
    (w1.cell? ⟨br, off, none⟩ = some v ∧ w1.frozen? ⟨br, off, none⟩ = false) ∧ Fld E br off (w1.setCell ⟨br, off, none⟩ v') v' X' ∧ Chg (fun k => br ≤ k) w (w1.setCell ⟨br, off, none⟩ v') ∧
      ∀ off' u, off' ≠ off → w.cell? ⟨br, off', none⟩ = some u → (w1.setCell ⟨br, off, none⟩ v').cell? ⟨br, off', none⟩ = some u := by
  have hlt := h.lt
  have c1 := hc.cellS h.c (by show ¬ br + 1 ≤ br; omega)
  have z1 := (hc.frozen (p := ⟨br, off, none⟩) hlt (by show ¬ br + 1 ≤ br; omega)).trans h.z
  refine ⟨⟨c1, z1⟩, ⟨World.cell?_setCell_same _ _ _ c1, (World.frozen?_setCell _ _ _ _).trans z1, ho.chg (setCellChg _ _ _ _) (fun g hg _ e => by omega)⟩, (hc.mono (fun k _ e => by omega)).trans ((setCellChg w1 br off v').mono (fun k _ e => by omega)), fun off' u hne hu => ?_⟩
  rw [World.cell?_setCell_other _ _ _ _ (by intro e; injection e with _ e; exact hne e.symm)]
  exact hc.cellS hu (by show ¬ br + 1 ≤ br; omega)
end Go.Proofs.Ytkfakkonlnjckaa
