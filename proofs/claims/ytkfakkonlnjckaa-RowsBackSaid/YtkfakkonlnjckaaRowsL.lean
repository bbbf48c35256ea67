/- Rows, plainly: which value is the usual one; a row of values; when a row may be. -/
import Derived.Test.YtkfakkonlnjckaaBase
namespace Go.Proofs.Ytkfakkonlnjckaa

abbrev RowD := Int × List (Int × Int)
abbrev TabD := Int × List RowD × List Int
abbrev isVal (n : Int) : Prop := -1 ≤ n ∧ n ≤ 16777215

/-- b is the value that stands most often, the least of several. -/
def Usual (L : List Int) (b : Int) : Prop := (L = [] ∧ b = -1) ∨ (b ∈ L ∧ ∀ n ∈ L, L.count n < L.count b ∨ (L.count n = L.count b ∧ b ≤ n))
theorem Usual.unique {L : List Int} {b c : Int} (h : Usual L b) (k : Usual L c) : b = c := by
  rcases h with ⟨rfl, rfl⟩ | ⟨h1, h2⟩ <;> rcases k with ⟨k0, rfl⟩ | ⟨k1, k2⟩
  · rfl
  · cases k1
  · subst k0; cases h1
  · have := h2 c k1
    have := k2 b h1
    omega
def betterL (L : List Int) (b n : Int) : Bool := decide (L.count b < L.count n ∨ (L.count n = L.count b ∧ n < b))
def usualL (L : List Int) : Int := L.foldl (fun b n => if betterL L b n then n else b) (L.headD (-1))
theorem usualFold (L : List Int) : ∀ (M : List Int) (b : Int), b ∈ L → (∀ n ∈ M, n ∈ L) →
    (M.foldl (fun b n => if betterL L b n then n else b) b) ∈ L ∧ betterL L (M.foldl (fun b n => if betterL L b n then n else b) b) b = false ∧ ∀ n ∈ M, betterL L (M.foldl (fun b n => if betterL L b n then n else b) b) n = false
  | [], b, hb, _ => ⟨hb, by simp [betterL], fun n h => by cases h⟩
  | m :: M, b, hb, hM => by
    rw [List.foldl_cons]
    by_cases h : betterL L b m = true
    · rw [if_pos h]
      obtain ⟨h1, h2, h3⟩ := usualFold L M m (hM m (by simp)) (fun n hn => hM n (by simp [hn]))
      refine ⟨h1, ?_, fun n hn => ?_⟩
      · generalize M.foldl (fun b n => if betterL L b n then n else b) m = r at *
        simp only [betterL, decide_eq_false_iff_not, decide_eq_true_eq] at *
        omega
      · rcases List.mem_cons.1 hn with rfl | hn
        · exact h2
        · exact h3 n hn
    · rw [if_neg h]
      obtain ⟨h1, h2, h3⟩ := usualFold L M b hb (fun n hn => hM n (by simp [hn]))
      refine ⟨h1, h2, fun n hn => ?_⟩
      rcases List.mem_cons.1 hn with rfl | hn
      · generalize M.foldl (fun b n => if betterL L b n then n else b) b = r at *
        simp only [betterL, decide_eq_false_iff_not, decide_eq_true_eq] at *
        omega
      · exact h3 n hn
theorem usual_usualL (L : List Int) : Usual L (usualL L) := by
  cases L with
  | nil => exact .inl ⟨rfl, rfl⟩
  | cons x L =>
    obtain ⟨h1, _, h3⟩ := usualFold (x :: L) (x :: L) x (by simp) (fun n h => h)
    refine .inr ⟨h1, fun n hn => ?_⟩
    have h4 : betterL (x :: L) (usualL (x :: L)) n = false := h3 n hn
    generalize usualL (x :: L) = r at h4 ⊢
    simp only [betterL, decide_eq_false_iff_not] at h4
    omega

/-- The cells of a row: what is another one than b, and where. -/
def cellsFrom (b : Int) : Nat → List Int → List (Int × Int)
  | _, [] => []
  | k, n :: l => if n = b then cellsFrom b (k + 1) l else ((k : Int), n) :: cellsFrom b (k + 1) l
theorem cellsFrom_append (b : Int) : ∀ (X Y : List Int) (k : Nat), cellsFrom b k (X ++ Y) = cellsFrom b k X ++ cellsFrom b (k + X.length) Y
  | [], Y, k => by simp [cellsFrom]
  | x :: X, Y, k => by
    have ih := cellsFrom_append b X Y (k + 1)
    rw [show k + 1 + X.length = k + (x :: X).length by simp; omega] at ih
    simp only [List.cons_append, cellsFrom, ih]
    split <;> simp
theorem cellsFrom_snoc (b : Int) (X : List Int) (n : Int) (k : Nat) : cellsFrom b k (X ++ [n]) = if n = b then cellsFrom b k X else cellsFrom b k X ++ [(((k + X.length : Nat) : Int), n)] := by
  rw [cellsFrom_append]
  simp only [cellsFrom]
  split <;> simp
theorem cellsFrom_length (b : Int) : ∀ (X : List Int) (k : Nat), (cellsFrom b k X).length + X.count b = X.length
  | [], k => rfl
  | x :: X, k => by
    have ih := cellsFrom_length b X (k + 1)
    simp only [cellsFrom, List.count_cons]
    by_cases h : x = b
    · subst h; simp; omega
    · rw [if_neg h, if_neg (by simpa using h)]; simp; omega
theorem cellsFrom_le (b : Int) (X : List Int) (k : Nat) : (cellsFrom b k X).length ≤ X.length := by have := cellsFrom_length b X k; omega
theorem cellsFrom_count (b : Int) : ∀ (X : List Int) (k : Nat) (n : Int), n ≠ b → ((cellsFrom b k X).map (·.2)).count n = X.count n
  | [], k, n, _ => rfl
  | x :: X, k, n, hn => by
    have ih := cellsFrom_count b X (k + 1) n hn
    simp only [cellsFrom, List.count_cons]
    by_cases h : x = b
    · subst h; rw [if_pos rfl, ih, if_neg (by simpa using Ne.symm hn)]; simp
    · rw [if_neg h, List.map_cons, List.count_cons, ih]
def rowL (L : List Int) : RowD := (usualL L, cellsFrom (usualL L) 0 L)

/-- What stands there. -/
def atRow (r : RowD) (i : Int) : Int := match r.2.find? (fun c => c.1 == i) with
  | some c => c.2
  | none => r.1
theorem find_cellsFrom (b : Int) : ∀ (X : List Int) (k j : Nat), (cellsFrom b k X).find? (fun c => c.1 == ((j : Nat) : Int)) = if j < k then none else match X[j - k]? with
    | some n => if n = b then none else some (((j : Nat) : Int), n)
    | none => none
  | [], k, j => by simp [cellsFrom]
  | x :: X, k, j => by
    have ih := find_cellsFrom b X (k + 1) j
    simp only [cellsFrom]
    by_cases hlt : j < k
    · rw [if_pos hlt]
      rw [if_pos (by omega)] at ih
      by_cases h : x = b
      · rw [if_pos h]; exact ih
      · rw [if_neg h, List.find?_cons_of_neg (by simp; omega)]; exact ih
    · rw [if_neg hlt]
      by_cases he : j = k
      · subst he
        rw [if_pos (by omega)] at ih
        simp only [Nat.sub_self, List.getElem?_cons_zero]
        by_cases h : x = b
        · rw [if_pos h, if_pos h]; exact ih
        · rw [if_neg h, if_neg h, List.find?_cons_of_pos (by simp)]
      · rw [if_neg (by omega)] at ih
        rw [show j - k = j - (k + 1) + 1 by omega, List.getElem?_cons_succ]
        by_cases h : x = b
        · rw [if_pos h]; exact ih
        · rw [if_neg h, List.find?_cons_of_neg (by simp; omega)]; exact ih
/-- A row tells its values. -/
theorem atRow_rowL (L : List Int) (k : Nat) (n : Int) (h : L[k]? = some n) : atRow (rowL L) k = n := by
  unfold atRow rowL
  simp only
  rw [find_cellsFrom, if_neg (by omega)]
  simp only [Nat.sub_zero, h]
  by_cases hb : n = usualL L
  · rw [if_pos hb, hb]
  · rw [if_neg hb]

/-- The cells may be: one behind the other, within the width, values that are not the default. -/
def fineCells (W d : Int) : Int → List (Int × Int) → Bool
  | _, [] => true
  | last, c :: l => decide (last < c.1) && decide (c.1 < W) && decide (isVal c.2) && !decide (c.2 = d) && fineCells W d c.1 l
/-- A row may be, by its cells alone. -/
def fineL (W : Nat) : RowD → Bool
  | (d, cs) => if W = 0 then decide (d = -1) && decide (cs = [])
    else fineCells W d (-1) cs && (cs.map (·.2)).all (fun n => decide (((cs.map (·.2)).count n : Int) < (W : Int) - cs.length ∨ (((cs.map (·.2)).count n : Int) = (W : Int) - cs.length ∧ d ≤ n))) && decide (isVal d) && decide (0 < (W : Int) - cs.length)

theorem fineCells_from (b : Int) : ∀ (X : List Int) (k : Nat) (last : Int), last < k → (∀ n ∈ X, isVal n) → fineCells ((k + X.length : Nat) : Int) b last (cellsFrom b k X) = true
  | [], k, last, _, _ => rfl
  | x :: X, k, last, hl, hv => by
    have ih := fineCells_from b X (k + 1)
    simp only [cellsFrom]
    rw [show k + 1 + X.length = k + (x :: X).length by simp; omega] at ih
    by_cases h : x = b
    · rw [if_pos h]
      exact ih last (by omega) (fun n hn => hv n (by simp [hn]))
    · rw [if_neg h]
      simp only [fineCells, Bool.and_eq_true, decide_eq_true_eq, Bool.not_eq_true', decide_eq_false_iff_not]
      have hx := hv x (by simp)
      refine ⟨⟨⟨⟨hl, by simp; omega⟩, hx⟩, h⟩, ih k (by omega) (fun n hn => hv n (by simp [hn]))⟩

/-- A row of values may be. -/
theorem fineL_rowL (L : List Int) (hv : ∀ n ∈ L, isVal n) : fineL L.length (rowL L) = true := by
  show fineL L.length (usualL L, cellsFrom (usualL L) 0 L) = true
  simp only [fineL]
  by_cases h0 : L.length = 0
  · rw [if_pos h0]
    have := List.length_eq_zero_iff.1 h0
    subst this
    rfl
  · rw [if_neg h0]
    have hu := usual_usualL L
    rcases hu with ⟨rfl, _⟩ | ⟨hm, hu⟩
    · simp at h0
    · have hlen := cellsFrom_length (usualL L) L 0
      have hpos : 0 < L.count (usualL L) := List.count_pos_iff.2 hm
      simp only [Bool.and_eq_true, decide_eq_true_eq, List.all_eq_true]
      refine ⟨⟨⟨?_, fun n hn => ?_⟩, hv _ hm⟩, by omega⟩
      · have := fineCells_from (usualL L) L 0 (-1) (by omega) hv
        rwa [Nat.zero_add] at this
      · obtain ⟨c, hc, rfl⟩ := List.mem_map.1 hn
        have hne : c.2 ≠ usualL L ∧ c.2 ∈ L := by
          clear hlen hn
          generalize usualL L = b at *
          generalize 0 = k at *
          clear hv hu h0 hpos hm
          induction L generalizing k with
          | nil => simp [cellsFrom] at hc
          | cons x L ih =>
            simp only [cellsFrom] at hc
            by_cases h : x = b
            · rw [if_pos h] at hc
              exact ⟨(ih _ hc).1, by simp [(ih _ hc).2]⟩
            · rw [if_neg h] at hc
              rcases List.mem_cons.1 hc with rfl | hc
              · exact ⟨h, by simp⟩
              · exact ⟨(ih _ hc).1, by simp [(ih _ hc).2]⟩
        rw [cellsFrom_count _ _ _ _ hne.1]
        have := hu c.2 hne.2
        omega

/-- The values that a row's cells tell. -/
def fillL (W : Nat) (r : RowD) : List Int := r.2.foldl (fun vs c => vs.set c.1.toNat c.2) (List.replicate W r.1)
/-- Values that begin at k: cells one behind the other. -/
def spread (d : Int) : Nat → List (Int × Int) → Nat → List Int
  | 0, _, _ => []
  | m + 1, cs, k => match cs with
    | c :: l => if c.1 = k then c.2 :: spread d m l (k + 1) else d :: spread d m (c :: l) (k + 1)
    | [] => d :: spread d m [] (k + 1)
theorem spread_length (d : Int) : ∀ (m : Nat) (cs : List (Int × Int)) (k : Nat), (spread d m cs k).length = m
  | 0, _, _ => rfl
  | m + 1, [], k => by simp [spread, spread_length d m]
  | m + 1, c :: l, k => by
    simp only [spread]
    split <;> simp [spread_length d m]
theorem spread_nil (d : Int) : ∀ (m k : Nat), spread d m [] k = List.replicate m d
  | 0, _ => rfl
  | m + 1, k => by simp [spread, spread_nil d m, List.replicate_succ]
theorem cells_spread (d : Int) (W : Int) : ∀ (m : Nat) (cs : List (Int × Int)) (k : Nat), W = ((k + m : Nat) : Int) → fineCells W d ((k : Int) - 1) cs = true → cellsFrom d k (spread d m cs k) = cs
  | 0, [], k, _, _ => rfl
  | 0, c :: l, k, hW, h => by
    simp only [fineCells, Bool.and_eq_true, decide_eq_true_eq] at h
    omega
  | m + 1, [], k, hW, _ => by
    have ih := cells_spread d W m [] (k + 1) (by omega) rfl
    simp [spread, cellsFrom, ih]
  | m + 1, c :: l, k, hW, h => by
    simp only [spread]
    have hh := h
    simp only [fineCells, Bool.and_eq_true, decide_eq_true_eq, Bool.not_eq_true', decide_eq_false_iff_not] at h
    obtain ⟨⟨⟨⟨h1, h2⟩, h3⟩, h4⟩, h5⟩ := h
    by_cases he : c.1 = k
    · rw [if_pos he]
      have ih := cells_spread d W m l (k + 1) (by omega) (by rw [show (((k + 1 : Nat) : Int) - 1) = c.1 by omega]; exact h5)
      simp only [cellsFrom]
      rw [if_neg h4, ih, ← he]
    · rw [if_neg he]
      have ih := cells_spread d W m (c :: l) (k + 1) (by omega) (by
        simp only [fineCells, Bool.and_eq_true, decide_eq_true_eq, Bool.not_eq_true', decide_eq_false_iff_not]
        exact ⟨⟨⟨⟨by omega, h2⟩, h3⟩, h4⟩, h5⟩)
      simp only [cellsFrom]
      rw [if_pos trivial, ih]
theorem spread_vals (d : Int) (W : Int) (hd : isVal d) : ∀ (m : Nat) (cs : List (Int × Int)) (k : Nat) (last : Int), fineCells W d last cs = true → ∀ n ∈ spread d m cs k, isVal n
  | 0, _, _, _, _, n, hn => by simp [spread] at hn
  | m + 1, [], k, last, _, n, hn => by
    simp only [spread, List.mem_cons] at hn
    rcases hn with rfl | hn
    · exact hd
    · exact spread_vals d W hd m [] (k + 1) last rfl n hn
  | m + 1, c :: l, k, last, h, n, hn => by
    have hh := h
    simp only [fineCells, Bool.and_eq_true, decide_eq_true_eq, Bool.not_eq_true', decide_eq_false_iff_not] at h
    simp only [spread] at hn
    by_cases he : c.1 = k
    · rw [if_pos he] at hn
      rcases List.mem_cons.1 hn with rfl | hn
      · exact h.1.1.2
      · exact spread_vals d W hd m l (k + 1) c.1 h.2 n hn
    · rw [if_neg he] at hn
      rcases List.mem_cons.1 hn with rfl | hn
      · exact hd
      · exact spread_vals d W hd m (c :: l) (k + 1) last hh n hn
/-- Cells one behind the other, laid over the default: what they tell. -/
theorem fold_spread (d W : Int) : ∀ (m : Nat) (cs : List (Int × Int)) (k : Nat) (X : List Int), X.length = k → W = ((k + m : Nat) : Int) → fineCells W d ((k : Int) - 1) cs = true →
    cs.foldl (fun vs c => vs.set c.1.toNat c.2) (X ++ List.replicate m d) = X ++ spread d m cs k
  | 0, [], k, X, _, _, _ => by simp [spread]
  | 0, c :: l, k, X, _, hW, h => by
    simp only [fineCells, Bool.and_eq_true, decide_eq_true_eq] at h
    omega
  | m + 1, [], k, X, _, _, _ => by rw [spread_nil]; rfl
  | m + 1, c :: l, k, X, hX, hW, h => by
    have hh := h
    simp only [fineCells, Bool.and_eq_true, decide_eq_true_eq, Bool.not_eq_true', decide_eq_false_iff_not] at h
    obtain ⟨⟨⟨⟨h1, h2⟩, h3⟩, h4⟩, h5⟩ := h
    simp only [spread]
    by_cases he : c.1 = k
    · rw [if_pos he, List.foldl_cons]
      have e1 : (X ++ List.replicate (m + 1) d).set c.1.toNat c.2 = (X ++ [c.2]) ++ List.replicate m d := by
        rw [show c.1.toNat = X.length by omega, List.set_append_right _ _ (Nat.le_refl _), Nat.sub_self, List.replicate_succ, List.set_cons_zero]
        simp
      rw [e1, fold_spread d W m l (k + 1) (X ++ [c.2]) (by simp [hX]) (by omega) (by rw [show (((k + 1 : Nat) : Int) - 1) = c.1 by omega]; exact h5)]
      simp
    · rw [if_neg he, List.replicate_succ, show X ++ d :: List.replicate m d = (X ++ [d]) ++ List.replicate m d by simp]
      rw [fold_spread d W m (c :: l) (k + 1) (X ++ [d]) (by simp [hX]) (by omega) (by
        simp only [fineCells, Bool.and_eq_true, decide_eq_true_eq, Bool.not_eq_true', decide_eq_false_iff_not]
        exact ⟨⟨⟨⟨by omega, h2⟩, h3⟩, h4⟩, h5⟩)]
      simp
/-- A row that may be is that of the values that it tells. -/
theorem fill_fine {W : Nat} {r : RowD} (h : fineL W r = true) : (∀ c ∈ r.2, 0 ≤ c.1 ∧ c.1 < W) ∧ (∀ n ∈ fillL W r, isVal n) ∧ (fillL W r).length = W ∧ rowL (fillL W r) = r := by
  obtain ⟨d, cs⟩ := r
  simp only [fineL] at h
  by_cases h0 : W = 0
  · rw [if_pos h0] at h
    simp only [Bool.and_eq_true, decide_eq_true_eq] at h
    obtain ⟨rfl, rfl⟩ := h
    subst h0
    refine ⟨(fun c hc => by cases hc), ?_, rfl, rfl⟩
    intro n hn
    cases hn
  · rw [if_neg h0] at h
    simp only [Bool.and_eq_true, decide_eq_true_eq, List.all_eq_true] at h
    obtain ⟨⟨⟨h1, h2⟩, h3⟩, h4⟩ := h
    have hf : fillL W (d, cs) = spread d W cs 0 := by
      have := fold_spread d W W cs 0 [] rfl (by simp) (by simpa using h1)
      simpa [fillL] using this
    have hc := cells_spread d W W cs 0 (by simp) (by simpa using h1)
    have hlen := spread_length d W cs 0
    have hcl := cellsFrom_length d (spread d W cs 0) 0
    rw [hc, hlen] at hcl
    have hcnt : ∀ n, n ≠ d → (cs.map (·.2)).count n = (spread d W cs 0).count n := fun n hn => by
      have := cellsFrom_count d (spread d W cs 0) 0 n hn
      rwa [hc] at this
    have hu : Usual (spread d W cs 0) d := by
      refine .inr ⟨List.count_pos_iff.1 (by omega), fun n hn => ?_⟩
      by_cases he : n = d
      · subst he; omega
      · have h5 := hcnt n he
        have hmem : n ∈ cs.map (·.2) := List.count_pos_iff.1 (by rw [h5]; exact List.count_pos_iff.2 hn)
        have := h2 n hmem
        rw [h5] at this
        omega
    have hue : usualL (spread d W cs 0) = d := (usual_usualL _).unique hu
    rw [hf]
    refine ⟨fun c hcm => ?_, spread_vals d W h3 W cs 0 (-1) h1, hlen, ?_⟩
    · have : ∀ (l : List (Int × Int)) (last : Int), -1 ≤ last → fineCells W d last l = true → ∀ c ∈ l, 0 ≤ c.1 ∧ c.1 < W := by
        intro l
        induction l with
        | nil => intro _ _ _ c hc; cases hc
        | cons x l ih =>
          intro last hlast hx c hc
          simp only [fineCells, Bool.and_eq_true, decide_eq_true_eq] at hx
          rcases List.mem_cons.1 hc with rfl | hc
          · exact ⟨by omega, hx.1.1.1.2⟩
          · exact ih x.1 (by omega) hx.2 c hc
      exact this cs (-1) (by omega) h1 c hcm
    · unfold rowL
      rw [hue, hc]
theorem fineL_iff {W : Nat} {r : RowD} : fineL W r = true ↔ (∀ c ∈ r.2, 0 ≤ c.1 ∧ c.1 < W) ∧ (∀ n ∈ fillL W r, isVal n) ∧ rowL (fillL W r) = r := by
  refine ⟨fun h => ⟨(fill_fine h).1, (fill_fine h).2.1, (fill_fine h).2.2.2⟩, fun ⟨_, h2, h3⟩ => ?_⟩
  have hlen : (fillL W r).length = W := by
    have : ∀ (l : List (Int × Int)) (X : List Int), (l.foldl (fun vs c => vs.set c.1.toNat c.2) X).length = X.length := by
      intro l
      induction l with
      | nil => intro X; rfl
      | cons c l ih => intro X; rw [List.foldl_cons, ih, List.length_set]
    unfold fillL
    rw [this, List.length_replicate]
  have := fineL_rowL _ h2
  rwa [hlen, h3] at this
end Go.Proofs.Ytkfakkonlnjckaa
