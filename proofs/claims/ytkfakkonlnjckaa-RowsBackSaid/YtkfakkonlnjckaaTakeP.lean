/- A table's bytes taken apart, plainly. -/
import Derived.Test.YtkfakkonlnjckaaTakeL
import Derived.Test.YtkfakkonlnjckaaRowsQ
namespace Go.Proofs.Ytkfakkonlnjckaa
open Go.RowKit

theorem takeL_some : ∀ {Z : List Int} {i acc n s : Nat}, takeL i acc Z = some (n, s) → i < s ∧ s ≤ i + Z.length ∧ n < 4294967296
  | [], i, acc, n, s, h => by simp [takeL] at h
  | c :: l, i, acc, n, s, h => by
    unfold takeL at h
    split at h
    · cases h
    split at h
    · have := takeL_some h
      simp only [List.length_cons]
      omega
    split at h
    · cases h
    · rename_i h1
      injection h with h
      injection h with h2 h3
      simp only [List.length_cons]
      omega
abbrev Rd := Nat × Bool
/-- The next number, so great at most. -/
def numP (Z : List Int) (m : Nat) (s : Rd) : Nat × Rd := match takeL 0 0 (Z.drop s.1) with
  | some (n, k) => if n ≤ m then (n, s.1 + k, s.2) else (0, s.1, true)
  | none => (0, s.1, true)
theorem numP_spec (Z : List Int) (m : Nat) (s : Rd) : (∃ n k, takeL 0 0 (Z.drop s.1) = some (n, k) ∧ n ≤ m ∧ n < 4294967296 ∧ 0 < k ∧ (s.1 ≤ Z.length → s.1 + k ≤ Z.length) ∧ numP Z m s = (n, s.1 + k, s.2)) ∨ numP Z m s = (0, s.1, true) := by
  unfold numP
  cases h : takeL 0 0 (Z.drop s.1) with
  | none => exact .inr rfl
  | some p =>
    obtain ⟨n, k⟩ := p
    simp only
    by_cases hn : n ≤ m
    · rw [if_pos hn]
      have := takeL_some h
      rw [List.length_drop] at this
      exact .inl ⟨n, k, rfl, hn, by omega, by omega, fun hs => by omega, rfl⟩
    · rw [if_neg hn]
      exact .inr rfl
theorem numP_le {Z : List Int} {m : Nat} {s : Rd} (h : s.1 ≤ Z.length) : (numP Z m s).2.1 ≤ Z.length ∧ (numP Z m s).1 ≤ m ∧ (numP Z m s).1 < 4294967296 ∧ s.1 ≤ (numP Z m s).2.1 ∧ (s.2 = true → (numP Z m s).2.2 = true) ∧ ((numP Z m s).2.2 = true ∨ s.1 < (numP Z m s).2.1) := by
  rcases numP_spec Z m s with ⟨n, k, _, h1, h2, h3, h4, e⟩ | e
  · rw [e]
    have := h4 h
    exact ⟨this, h1, h2, by show s.1 ≤ s.1 + k; omega, fun h => h, .inr (by show s.1 < s.1 + k; omega)⟩
  · rw [e]
    exact ⟨h, Nat.zero_le _, by omega, Nat.le_refl _, fun _ => rfl, .inl rfl⟩
/-- Cells. -/
def cellsP (Z : List Int) (ms mv : Nat) : Nat → Rd → Int → List (Int × Int) → List (Int × Int) × Rd
  | 0, s, _, acc => (acc, s)
  | k + 1, s, x, acc => if s.2 then (acc, s) else
    cellsP Z ms mv k (numP Z mv (numP Z ms s).2).2 (x + (numP Z ms s).1) (acc ++ [(x + (numP Z ms s).1, ((numP Z mv (numP Z ms s).2).1 : Int) - 1)])
theorem cellsP_wrong {Z : List Int} {ms mv k : Nat} {s : Rd} {x : Int} {acc : List (Int × Int)} (h : s.2 = true ∨ k = 0) : cellsP Z ms mv k s x acc = (acc, s) := by
  cases k with
  | zero => rfl
  | succ k => unfold cellsP; rw [if_pos (by rcases h with h | h; exact h; cases h)]
theorem cellsP_step {Z : List Int} {ms mv k : Nat} {s : Rd} {x : Int} {acc : List (Int × Int)} (h : s.2 = false) : cellsP Z ms mv (k + 1) s x acc = cellsP Z ms mv k (numP Z mv (numP Z ms s).2).2 (x + (numP Z ms s).1) (acc ++ [(x + (numP Z ms s).1, ((numP Z mv (numP Z ms s).2).1 : Int) - 1)]) := by
  conv => lhs; unfold cellsP
  rw [if_neg (by rw [h]; decide)]
/-- A row. -/
def rowP (Z : List Int) (mw mv : Nat) (s : Rd) : RowD × Rd :=
  ((((numP Z mv s).1 : Int) - 1, (cellsP Z mw mv (numP Z mw (numP Z mv s).2).1 (numP Z mw (numP Z mv s).2).2 0 []).1), (cellsP Z mw mv (numP Z mw (numP Z mv s).2).1 (numP Z mw (numP Z mv s).2).2 0 []).2)
/-- Rows. -/
def rowsP (Z : List Int) (mw mv : Nat) : Nat → Rd → List RowD → List RowD × Rd
  | 0, s, acc => (acc, s)
  | k + 1, s, acc => if s.2 then (acc, s) else rowsP Z mw mv k (rowP Z mw mv s).2 (acc ++ [(rowP Z mw mv s).1])
theorem rowsP_wrong {Z : List Int} {mw mv k : Nat} {s : Rd} {acc : List RowD} (h : s.2 = true ∨ k = 0) : rowsP Z mw mv k s acc = (acc, s) := by
  cases k with
  | zero => rfl
  | succ k => unfold rowsP; rw [if_pos (by rcases h with h | h; exact h; cases h)]
theorem rowsP_step {Z : List Int} {mw mv k : Nat} {s : Rd} {acc : List RowD} (h : s.2 = false) : rowsP Z mw mv (k + 1) s acc = rowsP Z mw mv k (rowP Z mw mv s).2 (acc ++ [(rowP Z mw mv s).1]) := by
  conv => lhs; unfold rowsP
  rw [if_neg (by rw [h]; decide)]
/-- Which row a list has. -/
def ofP (Z : List Int) (mm : Nat) : Nat → Rd → List Int → List Int × Rd
  | 0, s, acc => (acc, s)
  | k + 1, s, acc => if s.2 then (acc, s) else ofP Z mm k (numP Z mm s).2 (acc ++ [((numP Z mm s).1 : Int)])
theorem ofP_wrong {Z : List Int} {mm k : Nat} {s : Rd} {acc : List Int} (h : s.2 = true ∨ k = 0) : ofP Z mm k s acc = (acc, s) := by
  cases k with
  | zero => rfl
  | succ k => unfold ofP; rw [if_pos (by rcases h with h | h; exact h; cases h)]
theorem ofP_step {Z : List Int} {mm k : Nat} {s : Rd} {acc : List Int} (h : s.2 = false) : ofP Z mm (k + 1) s acc = ofP Z mm k (numP Z mm s).2 (acc ++ [((numP Z mm s).1 : Int)]) := by
  conv => lhs; unfold ofP
  rw [if_neg (by rw [h]; decide)]
/-- How great a number may be: a width, a count of rows or lists; a value; what hangs on the width. -/
structure Most where
  mm : Nat
  mv : Nat
  mw : Nat → Nat
def mostP : Most := ⟨65536, 16777216, id⟩
def mostR : Most := ⟨4294967295, 4294967295, fun _ => 4294967295⟩
/-- The table, and how far. -/
def takeP (Z : List Int) (B : Most) : TabD × Rd :=
  let p := numP Z B.mm (0, false)
  let q := numP Z B.mm p.2
  let r := rowsP Z (B.mw p.1) B.mv q.1 q.2 []
  let u := numP Z B.mm r.2
  let v := ofP Z B.mm u.1 u.2 []
  (((p.1 : Int), r.1, v.1), v.2)

-- a wrong one stays wrong
theorem numP_mono {Z : List Int} {m : Nat} {s : Rd} (h : (numP Z m s).2.2 = false) : s.2 = false := by
  rcases numP_spec Z m s with ⟨n, k, _, h1, h2, h3, h4, e⟩ | e
  · rw [e] at h; exact h
  · rw [e] at h; cases h
theorem cellsP_mono {Z : List Int} {ms mv : Nat} : ∀ {k : Nat} {s : Rd} {x : Int} {acc : List (Int × Int)}, (cellsP Z ms mv k s x acc).2.2 = false → s.2 = false
  | 0, s, x, acc, h => h
  | k + 1, s, x, acc, h => by
    cases hs : s.2 with
    | false => rfl
    | true => rw [cellsP_wrong (.inl hs)] at h; rw [← hs]; exact h
theorem rowP_mono {Z : List Int} {mw mv : Nat} {s : Rd} (h : (rowP Z mw mv s).2.2 = false) : s.2 = false := numP_mono (numP_mono (cellsP_mono h))
theorem rowsP_mono {Z : List Int} {mw mv : Nat} : ∀ {k : Nat} {s : Rd} {acc : List RowD}, (rowsP Z mw mv k s acc).2.2 = false → s.2 = false
  | 0, s, acc, h => h
  | k + 1, s, acc, h => by
    cases hs : s.2 with
    | false => rfl
    | true => rw [rowsP_wrong (.inl hs)] at h; rw [← hs]; exact h
theorem ofP_mono {Z : List Int} {mm : Nat} : ∀ {k : Nat} {s : Rd} {acc : List Int}, (ofP Z mm k s acc).2.2 = false → s.2 = false
  | 0, s, acc, h => h
  | k + 1, s, acc, h => by
    cases hs : s.2 with
    | false => rfl
    | true => rw [ofP_wrong (.inl hs)] at h; rw [← hs]; exact h
-- what is right by a number is so by a greater one
theorem numP_up {Z : List Int} {m m' : Nat} {s : Rd} (hm : m ≤ m') (h : (numP Z m s).2.2 = false) : numP Z m' s = numP Z m s := by
  rcases numP_spec Z m s with ⟨n, k, h0, h1, h2, h3, h4, e⟩ | e
  · rw [e]
    unfold numP
    rw [h0]
    simp only
    rw [if_pos (by omega)]
  · rw [e] at h; cases h
theorem cellsP_up {Z : List Int} {ms ms' mv mv' : Nat} (h1 : ms ≤ ms') (h2 : mv ≤ mv') : ∀ {k : Nat} {s : Rd} {x : Int} {acc : List (Int × Int)}, (cellsP Z ms mv k s x acc).2.2 = false → cellsP Z ms' mv' k s x acc = cellsP Z ms mv k s x acc
  | 0, s, x, acc, h => rfl
  | k + 1, s, x, acc, h => by
    have hs := cellsP_mono h
    rw [cellsP_step hs] at h ⊢
    have h3 := cellsP_mono h
    have e2 := numP_up h2 h3
    have e1 := numP_up h1 (numP_mono h3)
    rw [cellsP_step hs, e1, e2]
    exact cellsP_up h1 h2 h
theorem rowP_up {Z : List Int} {mw mw' mv mv' : Nat} (h1 : mw ≤ mw') (h2 : mv ≤ mv') {s : Rd} (h : (rowP Z mw mv s).2.2 = false) : rowP Z mw' mv' s = rowP Z mw mv s := by
  have h3 := cellsP_mono (show (cellsP Z mw mv (numP Z mw (numP Z mv s).2).1 (numP Z mw (numP Z mv s).2).2 0 []).2.2 = false from h)
  have e2 := numP_up h1 h3
  have e1 := numP_up h2 (numP_mono h3)
  unfold rowP
  rw [e1, e2, cellsP_up h1 h2 h]
theorem rowsP_up {Z : List Int} {mw mw' mv mv' : Nat} (h1 : mw ≤ mw') (h2 : mv ≤ mv') : ∀ {k : Nat} {s : Rd} {acc : List RowD}, (rowsP Z mw mv k s acc).2.2 = false → rowsP Z mw' mv' k s acc = rowsP Z mw mv k s acc
  | 0, s, acc, h => rfl
  | k + 1, s, acc, h => by
    have hs := rowsP_mono h
    rw [rowsP_step hs] at h ⊢
    rw [rowsP_step hs, rowP_up h1 h2 (rowsP_mono h)]
    exact rowsP_up h1 h2 h
theorem ofP_up {Z : List Int} {mm mm' : Nat} (h1 : mm ≤ mm') : ∀ {k : Nat} {s : Rd} {acc : List Int}, (ofP Z mm k s acc).2.2 = false → ofP Z mm' k s acc = ofP Z mm k s acc
  | 0, s, acc, h => rfl
  | k + 1, s, acc, h => by
    have hs := ofP_mono h
    rw [ofP_step hs] at h ⊢
    rw [ofP_step hs, numP_up h1 (ofP_mono h)]
    exact ofP_up h1 h
theorem takeP_up {Z : List Int} (h : (takeP Z mostP).2.2 = false) : takeP Z mostR = takeP Z mostP := by
  have h5 : (ofP Z 65536 (numP Z 65536 (rowsP Z (numP Z 65536 (0, false)).1 16777216 (numP Z 65536 (numP Z 65536 (0, false)).2).1 (numP Z 65536 (numP Z 65536 (0, false)).2).2 []).2).1 (numP Z 65536 (rowsP Z (numP Z 65536 (0, false)).1 16777216 (numP Z 65536 (numP Z 65536 (0, false)).2).1 (numP Z 65536 (numP Z 65536 (0, false)).2).2 []).2).2 []).2.2 = false := h
  have h4 := ofP_mono h5
  have h3 := numP_mono h4
  have h2 := rowsP_mono h3
  have h1 := numP_mono h2
  have hb : (numP Z 65536 (0, false)).1 ≤ 4294967295 := by
    have := (numP_le (Z := Z) (m := 65536) (s := (0, false)) (Nat.zero_le _)).2.1
    omega
  have e1 := numP_up (m' := 4294967295) (by omega) h1
  have e2 := numP_up (m' := 4294967295) (by omega) h2
  have e3 := rowsP_up (mw' := 4294967295) (mv' := 16777216) hb (Nat.le_refl _) h3
  have e3' := rowsP_up (mw' := 4294967295) (mv' := 4294967295) hb (by omega) h3
  have e4 := numP_up (m' := 4294967295) (by omega) h4
  have e5 := ofP_up (mm' := 4294967295) (by omega) h5
  unfold takeP
  simp only [mostR, mostP, id]
  rw [e1, e2, e3', e4, e5]
end Go.Proofs.Ytkfakkonlnjckaa
