/- A table that is gone through rune by rune, plainly: may it be, its steps, what begins at a place, tokens. -/
import Derived.Test.YtfhmblbomkhcpaaDoorLin
import Derived.Test.YtfhmblbomkhcpaaDoorUtf
namespace Go.Proofs.YtfhmblbomkhcpaaDoor
open Go.RowKit

/-- A table. -/
structure TabD where
  r : List (Int × Int)
  c : List Int
  n : List (List Int)
  e : List Int

def holdB (x : Int) (p : Int × Int) : Bool := decide (p.1 ≤ x) && decide (x ≤ p.2)
/-- Which range holds it. -/
def classL (R : List (Int × Int)) (x : Int) : Int := idxV (holdB x) R
theorem idxV_bounds {α : Type} (p : α → Bool) (L : List α) : -1 ≤ idxV p L ∧ idxV p L < L.length ∨ (idxV p L = -1 ∧ L = []) := by
  unfold idxV
  split
  · left; omega
  · cases L with
    | nil => right; simp
    | cons x L => left; simp; omega
theorem classL_lt (R : List (Int × Int)) (x : Int) : -1 ≤ classL R x ∧ (classL R x < R.length) := by
  rcases idxV_bounds (holdB x) R with h | ⟨h1, h2⟩
  · exact h
  · unfold classL; rw [h1]; omega
/-- So many columns. -/
def colsL (C : List Int) : Int := C.foldl (fun m c => max m (c + 1)) 0
theorem colsL_snoc (C : List Int) (c : Int) : colsL (C ++ [c]) = max (colsL C) (c + 1) := by simp [colsL, List.foldl_append]
theorem colsL_take {C : List Int} {k : Nat} {c : Int} (h : C[k]? = some c) : colsL (C.take (k + 1)) = max (colsL (C.take k)) (c + 1) := by
  rw [List.take_add_one, h]
  exact colsL_snoc _ _
theorem colsL_foldl (C : List Int) : ∀ m : Int, m ≤ C.foldl (fun m c => max m (c + 1)) m ∧ ∀ c ∈ C, c + 1 ≤ C.foldl (fun m c => max m (c + 1)) m := by
  induction C with
  | nil => intro m; simp
  | cons x C ih =>
    intro m
    obtain ⟨h1, h2⟩ := ih (max m (x + 1))
    simp only [List.foldl_cons, List.mem_cons]
    refine ⟨by omega, ?_⟩
    rintro c (rfl | hc)
    · omega
    · exact h2 c hc
theorem colsL_nonneg (C : List Int) : 0 ≤ colsL C := (colsL_foldl C 0).1
theorem colsL_mem {C : List Int} {c : Int} (h : c ∈ C) : c < colsL C := Int.lt_of_add_one_le ((colsL_foldl C 0).2 c h)
theorem colsL_le {C : List Int} {m : Int} (hm : 0 ≤ m) (h : ∀ c ∈ C, c < m) : colsL C ≤ m := by
  have key : ∀ (C : List Int) (a : Int), a ≤ m → (∀ c ∈ C, c < m) → C.foldl (fun m c => max m (c + 1)) a ≤ m := by
    intro C
    induction C with
    | nil => intro a ha _; exact ha
    | cons x C ih =>
      intro a ha hc
      have := hc x (by simp)
      exact ih (max a (x + 1)) (by omega) (fun c h => hc c (by simp [h]))
  exact key C 0 hm h
def apOk (R : List (Int × Int)) (i : Nat) : Bool := decide ((R.getD i (0, 0)).1 ≤ (R.getD i (0, 0)).2) && (decide (i = 0) || decide ((R.getD (i - 1) (0, 0)).2 < (R.getD i (0, 0)).1))
/-- Ranges rise apart. -/
def apartB (R : List (Int × Int)) : Bool := (List.range R.length).all (apOk R)
theorem apartB_true {R : List (Int × Int)} (h : ∀ j, j < R.length → apOk R j = true) : apartB R = true := by
  unfold apartB
  rw [List.all_eq_true]
  intro j hj
  exact h j (List.mem_range.1 hj)
theorem apartB_false {R : List (Int × Int)} {j : Nat} (hj : j < R.length) (h : apOk R j = false) : apartB R = false := by
  unfold apartB
  rw [List.all_eq_false]
  exact ⟨j, List.mem_range.2 hj, by rw [h]; simp⟩
def inB (lo hi x : Int) : Bool := decide (lo ≤ x) && decide (x < hi)
def rowB (cols many : Int) (row : List Int) : Bool := decide ((row.length : Int) = cols) && row.all (inB (-1) many)
def fillB (C : List Int) : Bool := (List.range (colsL C).toNat).all (fun c => C.contains (c : Int))
/-- May it be? -/
def mayT (t : TabD) : Bool :=
  apartB t.r && decide (t.c.length = t.r.length ∧ 0 < t.n.length ∧ t.e.length = t.n.length) && t.c.all (inB 0 t.c.length) && fillB t.c && t.e.all (fun e => decide (-1 ≤ e)) && t.n.all (rowB (colsL t.c) t.n.length)

structure MayS (t : TabD) : Prop where
  ap : apartB t.r = true
  cl : t.c.length = t.r.length
  nl : 0 < t.n.length
  el : t.e.length = t.n.length
  cb : ∀ c ∈ t.c, 0 ≤ c ∧ c < t.c.length
  fill : fillB t.c = true
  eb : ∀ e ∈ t.e, -1 ≤ e
  row : ∀ l ∈ t.n, (l.length : Int) = colsL t.c ∧ ∀ x ∈ l, -1 ≤ x ∧ x < t.n.length
theorem mayT_iff {t : TabD} : mayT t = true ↔ MayS t := by
  unfold mayT
  simp only [Bool.and_eq_true, decide_eq_true_eq, List.all_eq_true, inB, rowB]
  constructor
  · rintro ⟨⟨⟨⟨⟨h1, h2, h3, h4⟩, h5⟩, h6⟩, h7⟩, h8⟩
    exact ⟨h1, h2, h3, h4, h5, h6, h7, h8⟩
  · rintro ⟨h1, h2, h3, h4, h5, h6, h7, h8⟩
    exact ⟨⟨⟨⟨⟨h1, h2, h3, h4⟩, h5⟩, h6⟩, h7⟩, h8⟩
theorem mayT_no {t : TabD} (h : ¬ MayS t) : mayT t = false := by
  cases hm : mayT t
  · rfl
  · exact absurd (mayT_iff.1 hm) h

/-- A step. -/
def stepT (t : TabD) (st x : Int) : Int :=
  if classL t.r x < 0 ∨ (t.c.length : Int) ≤ classL t.r x ∨ st < 0 ∨ (t.n.length : Int) ≤ st then -1
  else if t.c.getD (classL t.r x).toNat 0 < 0 ∨ ((t.n.getD st.toNat []).length : Int) ≤ t.c.getD (classL t.r x).toNat 0 then -1
  else (t.n.getD st.toNat []).getD (t.c.getD (classL t.r x).toNat 0).toNat 0
theorem getD_mem {α : Type} {L : List α} {k : Nat} {z : α} (h : k < L.length) : L.getD k z ∈ L := by
  rw [List.getD_eq_getElem?_getD, List.getElem?_eq_getElem h]
  exact List.getElem_mem h
theorem stepT_lt {t : TabD} (h : MayS t) (st x : Int) : -1 ≤ stepT t st x ∧ stepT t st x < t.n.length := by
  unfold stepT
  split
  · omega
  · rename_i h1
    split
    · omega
    · rename_i h2
      exact (h.row _ (getD_mem (z := []) (k := st.toNat) (by omega))).2 _ (getD_mem (by omega))
def endAt (t : TabD) (st : Int) : Int := t.e.getD st.toNat 0

/-- What begins at a place. -/
def longF (t : TabD) (s : ByteArray) (a : Nat) : Nat → Nat → Int → Int × Int → Int × Int
  | 0, _, _, ks => ks
  | f + 1, i, st, ks =>
    if i < s.size then
      match decU s i with
      | none => ks
      | some (c, n) => if stepT t st c < 0 then ks else longF t s a f (i + n) (stepT t st c) (if 0 ≤ endAt t (stepT t st c) then (endAt t (stepT t st c), ((i + n : Nat) : Int) - a) else ks)
    else ks
def longG (t : TabD) (s : ByteArray) (a i : Nat) (st : Int) (ks : Int × Int) : Int × Int := longF t s a (s.size - i) i st ks
def longL (t : TabD) (s : ByteArray) (x : Int) : Int × Int := if x < 0 then (-1, 0) else longG t s x.toNat x.toNat 0 (-1, 0)
theorem longF_fuel (t : TabD) (s : ByteArray) (a : Nat) : ∀ (f g i : Nat) (st : Int) (ks : Int × Int), s.size - i ≤ f → s.size - i ≤ g → longF t s a f i st ks = longF t s a g i st ks
  | 0, 0, _, _, _, _, _ => rfl
  | 0, g + 1, i, st, ks, h, _ => by simp only [longF]; rw [if_neg (by omega)]
  | f + 1, 0, i, st, ks, _, h => by simp only [longF]; rw [if_neg (by omega)]
  | f + 1, g + 1, i, st, ks, h1, h2 => by
    simp only [longF]
    split
    · rename_i hi
      cases hd : decU s i with
      | none => rfl
      | some p =>
        obtain ⟨c, n⟩ := p
        have hn := (decU_some hi hd).2
        simp only
        split
        · rfl
        · exact longF_fuel t s a f g _ _ _ (by omega) (by omega)
    · rfl
theorem longG_end {t : TabD} {s : ByteArray} {a i : Nat} {st : Int} {ks : Int × Int} (h : s.size ≤ i) : longG t s a i st ks = ks := by
  unfold longG
  rw [Nat.sub_eq_zero_of_le h]
  rfl
theorem longG_bad {t : TabD} {s : ByteArray} {a i : Nat} {st : Int} {ks : Int × Int} (h : decU s i = none) : longG t s a i st ks = ks := by
  unfold longG
  cases hf : s.size - i with
  | zero => rfl
  | succ f => simp only [longF]; rw [h]; split <;> rfl
theorem longG_step {t : TabD} {s : ByteArray} {a i c n : Nat} {st : Int} {ks : Int × Int} (hi : i < s.size) (h : decU s i = some (c, n)) :
    longG t s a i st ks = if stepT t st c < 0 then ks else longG t s a (i + n) (stepT t st c) (if 0 ≤ endAt t (stepT t st c) then (endAt t (stepT t st c), ((i + n : Nat) : Int) - a) else ks) := by
  have hn := (decU_some hi h).2
  unfold longG
  obtain ⟨f, hf⟩ : ∃ f, s.size - i = f + 1 := ⟨s.size - i - 1, by omega⟩
  rw [hf]
  simp only [longF]
  rw [if_pos hi, h]
  simp only
  split
  · rfl
  · exact longF_fuel _ _ _ _ _ _ _ _ (by omega) (by omega)
/-- What is known of it. -/
def LongOk (t : TabD) (s : ByteArray) (a : Nat) (ks : Int × Int) : Prop := ks = (-1, 0) ∨ (0 ≤ ks.1 ∧ ks.1 ∈ t.e ∧ 1 ≤ ks.2 ∧ (a : Int) + ks.2 ≤ s.size)
theorem longF_ok {t : TabD} (ht : MayS t) (s : ByteArray) (a : Nat) : ∀ (f i : Nat) (st : Int) (ks : Int × Int), a ≤ i → LongOk t s a ks → LongOk t s a (longF t s a f i st ks)
  | 0, _, _, _, _, h => h
  | f + 1, i, st, ks, ha, h => by
    simp only [longF]
    split
    · rename_i hi
      cases hd : decU s i with
      | none => exact h
      | some p =>
        obtain ⟨c, n⟩ := p
        have hn := (decU_some hi hd).2
        simp only
        split
        · exact h
        · rename_i hs
          have hlt := stepT_lt ht st c
          refine longF_ok ht s a f _ _ _ (by omega) ?_
          split
          · rename_i he
            exact .inr ⟨he, getD_mem (by rw [ht.el]; omega), by simp only; omega, by simp only; omega⟩
          · exact h
    · exact h
theorem longL_ok {t : TabD} (ht : MayS t) (s : ByteArray) (i : Nat) : LongOk t s i (longL t s i) := by
  unfold longL
  rw [if_neg (by omega)]
  exact longF_ok ht s i _ _ _ _ (by simp) (.inl rfl)

/-- Tokens: what kind, text, place. -/
abbrev TokD := Int × ByteArray × Int
def toksF (t : TabD) (drop : List Bool) (s : ByteArray) : Nat → Nat → List TokD → List TokD × Int × Int
  | 0, i, l => (l, i, 0)
  | f + 1, i, l =>
    if i < s.size then
      if (longL t s i).2 = 0 then ([], i, 9)
      else if drop.getD (longL t s i).1.toNat false = true then toksF t drop s f (i + (longL t s i).2.toNat) l
      else if 16384 ≤ l.length then ([], i, 3)
      else toksF t drop s f (i + (longL t s i).2.toNat) (l ++ [((longL t s i).1, s.extract i (i + (longL t s i).2.toNat), (i : Int))])
    else (l, i, 0)
def toksG (t : TabD) (drop : List Bool) (s : ByteArray) (i : Nat) (l : List TokD) : List TokD × Int × Int := toksF t drop s (s.size - i) i l
def toksL (t : TabD) (drop : List Bool) (s : ByteArray) : List TokD × Int × Int := if 65536 < s.size then ([], 0, 3) else toksG t drop s 0 []
theorem toksF_fuel {t : TabD} (ht : MayS t) (drop : List Bool) (s : ByteArray) : ∀ (f g i : Nat) (l : List TokD), s.size - i ≤ f → s.size - i ≤ g → i ≤ s.size → toksF t drop s f i l = toksF t drop s g i l
  | 0, 0, _, _, _, _, _ => rfl
  | 0, g + 1, i, l, h, _, _ => by simp only [toksF]; rw [if_neg (by omega)]
  | f + 1, 0, i, l, _, h, _ => by simp only [toksF]; rw [if_neg (by omega)]
  | f + 1, g + 1, i, l, h1, h2, h3 => by
    have hok := longL_ok ht s i
    simp only [toksF]
    split
    · split
      · rfl
      · rename_i h0
        have hb : 1 ≤ (longL t s i).2 ∧ (i : Int) + (longL t s i).2 ≤ s.size := by
          rcases hok with h | h
          · rw [h] at h0; exact absurd rfl h0
          · exact h.2.2
        split
        · exact toksF_fuel ht drop s f g _ _ (by omega) (by omega) (by omega)
        · split
          · rfl
          · exact toksF_fuel ht drop s f g _ _ (by omega) (by omega) (by omega)
    · rfl
theorem toksG_end {t : TabD} {drop : List Bool} {s : ByteArray} {l : List TokD} : toksG t drop s s.size l = (l, (s.size : Int), 0) := by
  unfold toksG
  rw [Nat.sub_self]
  rfl
theorem toksG_step {t : TabD} (ht : MayS t) {drop : List Bool} {s : ByteArray} {i : Nat} {l : List TokD} (hi : i < s.size) :
    toksG t drop s i l = if (longL t s i).2 = 0 then ([], (i : Int), 9) else if drop.getD (longL t s i).1.toNat false = true then toksG t drop s (i + (longL t s i).2.toNat) l
      else if 16384 ≤ l.length then ([], (i : Int), 3) else toksG t drop s (i + (longL t s i).2.toNat) (l ++ [((longL t s i).1, s.extract i (i + (longL t s i).2.toNat), (i : Int))]) := by
  have hok := longL_ok ht s i
  unfold toksG
  obtain ⟨f, hf⟩ : ∃ f, s.size - i = f + 1 := ⟨s.size - i - 1, by omega⟩
  rw [hf]
  simp only [toksF]
  rw [if_pos hi]
  by_cases h0 : (longL t s i).2 = 0
  · rw [if_pos h0, if_pos h0]
  · have hb : 1 ≤ (longL t s i).2 ∧ (i : Int) + (longL t s i).2 ≤ s.size := by
      rcases hok with h | h
      · rw [h] at h0; exact absurd rfl h0
      · exact h.2.2
    rw [if_neg h0, if_neg h0]
    split
    · exact toksF_fuel ht drop s _ _ _ _ (by omega) (by omega) (by omega)
    · split
      · rfl
      · exact toksF_fuel ht drop s _ _ _ _ (by omega) (by omega) (by omega)
end Go.Proofs.YtfhmblbomkhcpaaDoor
