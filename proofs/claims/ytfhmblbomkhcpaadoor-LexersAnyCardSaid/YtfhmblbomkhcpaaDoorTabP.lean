/- What begins at a place, of a part of an input, of an input with a byte more; tokens that are left out; where a text leads. Plainly. -/
import Derived.Test.YtfhmblbomkhcpaaDoorTab
namespace Go.Proofs.YtfhmblbomkhcpaaDoor
open Go.RowKit

theorem partN_agree {s u : ByteArray} {i j k : Nat} : ∀ (m : Nat), (∀ x, x < m → byteN u j x = byteN s i x) → partN u j k m = partN s i k m
  | 0, _ => rfl
  | 1, h => by simp only [partN]; rw [h 0 (by omega)]
  | m + 2, h => by simp only [partN]; rw [h (m + 1) (by omega), partN_agree (m + 1) (fun x hx => h x (by omega))]
theorem fits_agree {s u : ByteArray} {i j k : Nat} (h : ∀ x, x < k → byteN u j x = byteN s i x) (hf : fits s i k) : fits u j k := by
  unfold fits at *
  rw [partN_agree k h, hf]
  unfold bytesN
  apply List.map_congr_left
  intro x hx
  exact (h x (List.mem_range.1 hx)).symm
theorem decU_fit {s : ByteArray} {i c n : Nat} (hi : i < s.size) (h : decU s i = some (c, n)) : fits s i n ∧ c = partN s i n n := by
  by_cases hk : ∃ k, 1 ≤ k ∧ k ≤ 4 ∧ i + k ≤ s.size ∧ fits s i k
  · obtain ⟨k, h1, h2, h3, h4⟩ := hk
    have h5 := decU_fits h1 h2 h3 h4
    rw [h] at h5
    simp only [Option.some.injEq, Prod.mk.injEq] at h5
    obtain ⟨rfl, rfl⟩ := h5
    exact ⟨h4, rfl⟩
  · have := decU_none hi (fun k h1 h2 h3 h4 => hk ⟨k, h1, h2, h3, h4⟩)
    rw [h] at this
    cases this
/-- The same bytes, the same rune. -/
theorem decU_agree {s u : ByteArray} {i j c n : Nat} (hi : i < s.size) (h : decU s i = some (c, n)) (hj : j + n ≤ u.size) (hb : ∀ m, m < n → byteN u j m = byteN s i m) : decU u j = some (c, n) := by
  obtain ⟨h1, rfl⟩ := decU_fit hi h
  obtain ⟨_, h2, h3, _⟩ := decU_some hi h
  rw [decU_fits h2 h3 hj (fits_agree hb h1), partN_agree n hb]
theorem byteN_extract {s : ByteArray} {a b i m : Nat} (ha : a ≤ i) (hm : i + m < b) : byteN (s.extract a b) (i - a) m = byteN s i m := by
  unfold byteN
  rw [← Lib.getD_get!', ← Lib.getD_get!', Lib.extract_data, List.getD_eq_getElem?_getD, List.getD_eq_getElem?_getD, List.getElem?_take_of_lt (by omega), List.getElem?_drop]
  rw [show a + (i - a + m) = i + m by omega]
theorem size_extract' (s : ByteArray) {a b : Nat} (hb : b ≤ s.size) : (s.extract a b).size = b - a := by
  rw [ByteArray.size_extract]; omega
theorem decU_in {s : ByteArray} {a b i c n : Nat} (ha : a ≤ i) (hi : i < b) (hb : b ≤ s.size) (h : decU s i = some (c, n)) (hn : i + n ≤ b) : decU (s.extract a b) (i - a) = some (c, n) :=
  decU_agree (by omega) h (by rw [size_extract' s hb]; omega) (fun m hm => byteN_extract ha (by omega))
theorem decU_out {s : ByteArray} {a b i c n : Nat} (ha : a ≤ i) (hi : i < b) (hb : b ≤ s.size) (h : decU (s.extract a b) (i - a) = some (c, n)) : decU s i = some (c, n) ∧ i + n ≤ b := by
  have hsz := size_extract' s (a := a) hb
  obtain ⟨_, h2, h3, h4, _⟩ := decU_some (by rw [hsz]; omega) h
  exact ⟨decU_agree (by rw [hsz]; omega) h (by omega) (fun m hm => (byteN_extract ha (by omega)).symm), by omega⟩

/-! ### with a byte more that is no rune's -/
def ff : ByteArray := ⟨#[255]⟩
theorem byteN_app {s : ByteArray} {i m : Nat} (h : i + m < s.size) : byteN (s ++ ff) i m = byteN s i m := by
  unfold byteN
  have hs := Lib.size_eq s
  rw [← Lib.getD_get!', ← Lib.getD_get!', List.getD_eq_getElem?_getD, List.getD_eq_getElem?_getD]
  have : (s ++ ff).data.toList = s.data.toList ++ [255] := by simp [ff]
  rw [this, List.getElem?_append_left (by omega)]
theorem byteN_ff {s : ByteArray} {i m : Nat} (h : i + m = s.size) : byteN (s ++ ff) i m = 255 := by
  unfold byteN
  have hs := Lib.size_eq s
  rw [← Lib.getD_get!', List.getD_eq_getElem?_getD]
  have : (s ++ ff).data.toList = s.data.toList ++ [255] := by simp [ff]
  rw [this, List.getElem?_append_right (by omega), h, hs, Nat.sub_self]
  rfl
theorem size_ff (s : ByteArray) : (s ++ ff).size = s.size + 1 := by rw [ByteArray.size_append]; rfl
theorem decU_ff {s : ByteArray} {i : Nat} (hi : i < s.size) : decU (s ++ ff) i = decU s i := by
  cases h : decU s i with
  | some p =>
    obtain ⟨c, n⟩ := p
    obtain ⟨_, h2, h3, h4, _⟩ := decU_some hi h
    exact decU_agree hi h (by rw [size_ff]; omega) (fun m hm => byteN_app (by omega))
  | none =>
    cases h' : decU (s ++ ff) i with
    | none => rfl
    | some p =>
      obtain ⟨c, n⟩ := p
      have hz := size_ff s
      obtain ⟨_, h2, h3, h4, _⟩ := decU_some (by omega) h'
      by_cases hn : i + n ≤ s.size
      · rw [decU_agree (by omega) h' hn (fun m hm => (byteN_app (by omega)).symm)] at h
        cases h
      · obtain ⟨h5, _⟩ := decU_fit (by omega) h'
        have hb := byteN_ff (s := s) (i := i) (m := n - 1) (by omega)
        obtain rfl | rfl | rfl | rfl : n = 1 ∨ n = 2 ∨ n = 3 ∨ n = 4 := by omega
        · omega
        · have := fits_two.1 h5; simp only [Nat.reduceSub] at hb; omega
        · have := fits_three.1 h5; simp only [Nat.reduceSub] at hb; omega
        · have := fits_four.1 h5; simp only [Nat.reduceSub] at hb; omega
theorem decU_ff_end (s : ByteArray) : decU (s ++ ff) s.size = none := by
  have hz := size_ff s
  refine decU_none (by omega) (fun k h1 h2 h3 h4 => ?_)
  obtain rfl : k = 1 := by omega
  have := fits_one.1 h4
  rw [byteN_ff (by omega)] at this
  omega

/-! ### what begins at a place -/
theorem longF_mono {t : TabD} {s : ByteArray} {a : Nat} : ∀ (f i : Nat) (st : Int) (ks : Int × Int), longF t s a f i st ks = ks ∨ (i : Int) - a < (longF t s a f i st ks).2
  | 0, _, _, _ => .inl rfl
  | f + 1, i, st, ks => by
    simp only [longF]
    split
    · rename_i hi
      cases hd : decU s i with
      | none => exact .inl rfl
      | some p =>
        obtain ⟨c, n⟩ := p
        have hn := (decU_some hi hd).2
        simp only
        split
        · exact .inl rfl
        · rcases longF_mono (t := t) (s := s) (a := a) f (i + n) (stepT t st c) (if 0 ≤ endAt t (stepT t st c) then (endAt t (stepT t st c), ((i + n : Nat) : Int) - a) else ks) with h | h
          · rw [h]
            split
            · right; simp only; omega
            · exact .inl rfl
          · right; omega
    · exact .inl rfl
theorem longG_mono {t : TabD} {s : ByteArray} {a : Nat} (i : Nat) (st : Int) (ks : Int × Int) : longG t s a i st ks = ks ∨ (i : Int) - a < (longG t s a i st ks).2 := longF_mono _ _ _ _
/-- Of a part of the input. -/
theorem longG_part {t : TabD} {s : ByteArray} {a b : Nat} (hb : b ≤ s.size) : ∀ (f i : Nat) (st : Int) (ks : Int × Int), s.size - i ≤ f → (a : Int) + (longG t s a i st ks).2 ≤ b → longG t (s.extract 0 b) a i st ks = longG t s a i st ks := by
  have hsz := size_extract' s (a := 0) hb
  intro f
  induction f with
  | zero =>
    intro i st ks hf _
    rw [longG_end (by omega), longG_end (by omega)]
  | succ f ih =>
    intro i st ks hf h
    by_cases hi : i < b
    · cases hd : decU s i with
      | none =>
        have : decU (s.extract 0 b) i = none := by
          cases hd' : decU (s.extract 0 b) i with
          | none => rfl
          | some p =>
            obtain ⟨c, n⟩ := p
            have := (decU_out (a := 0) (Nat.zero_le _) hi hb hd').1
            rw [hd] at this
            cases this
        rw [longG_bad hd, longG_bad this]
      | some p =>
        obtain ⟨c, n⟩ := p
        have hn := (decU_some (by omega) hd).2
        rw [longG_step (by omega) hd] at h ⊢
        by_cases hin : i + n ≤ b
        · have hdi : decU (s.extract 0 b) i = some (c, n) := decU_in (a := 0) (Nat.zero_le _) hi hb hd hin
          rw [longG_step (s := s.extract 0 b) (by omega) hdi]
          by_cases hs : stepT t st c < 0
          · rw [if_pos hs, if_pos hs]
          · rw [if_neg hs] at h ⊢
            rw [if_neg hs]
            exact ih _ _ _ (by omega) h
        · have hd' : decU (s.extract 0 b) i = none := by
            cases hd' : decU (s.extract 0 b) i with
            | none => rfl
            | some p =>
              obtain ⟨c', n'⟩ := p
              obtain ⟨h1, h2⟩ := decU_out (a := 0) (Nat.zero_le _) hi hb hd'
              rw [hd] at h1
              simp only [Option.some.injEq, Prod.mk.injEq] at h1
              omega
          rw [longG_bad hd']
          by_cases hs : stepT t st c < 0
          · rw [if_pos hs]
          · rw [if_neg hs] at h ⊢
            rcases longG_mono (t := t) (s := s) (a := a) (i + n) (stepT t st c) (if 0 ≤ endAt t (stepT t st c) then (endAt t (stepT t st c), ((i + n : Nat) : Int) - a) else ks) with h1 | h1
            · rw [h1] at h ⊢
              split at h
              · simp only at h; omega
              · rename_i hne; rw [if_neg hne]
            · omega
    · rw [longG_end (by omega)]
      rcases longG_mono (t := t) (s := s) (a := a) i st ks with h1 | h1
      · exact h1.symm
      · omega
theorem longL_part {t : TabD} {s : ByteArray} {b i : Nat} (hb : b ≤ s.size) (h : (i : Int) + (longL t s i).2 ≤ b) : longL t (s.extract 0 b) i = longL t s i := by
  unfold longL at *
  rw [if_neg (by omega)] at h ⊢
  rw [if_neg (by omega)]
  simp only [Int.toNat_natCast] at *
  exact longG_part hb _ _ _ _ (Nat.le_refl _) h
/-- With a byte more. -/
theorem longG_ff {t : TabD} {s : ByteArray} {a : Nat} : ∀ (f i : Nat) (st : Int) (ks : Int × Int), s.size - i ≤ f → i ≤ s.size → longG t (s ++ ff) a i st ks = longG t s a i st ks := by
  intro f
  induction f with
  | zero =>
    intro i st ks hf hi
    obtain rfl : i = s.size := by omega
    rw [longG_bad (decU_ff_end s), longG_end (Nat.le_refl _)]
  | succ f ih =>
    intro i st ks hf hi
    by_cases hi2 : i < s.size
    · cases hd : decU s i with
      | none => rw [longG_bad hd, longG_bad ((decU_ff hi2).trans hd)]
      | some p =>
        obtain ⟨c, n⟩ := p
        have hn := (decU_some hi2 hd).2
        rw [longG_step hi2 hd, longG_step (by rw [size_ff]; omega) ((decU_ff hi2).trans hd)]
        split
        · rfl
        · exact ih _ _ _ (by omega) (by omega)
    · obtain rfl : i = s.size := by omega
      rw [longG_bad (decU_ff_end s), longG_end (Nat.le_refl _)]
theorem longL_ff {t : TabD} {s : ByteArray} {i : Nat} (hi : i ≤ s.size) : longL t (s ++ ff) i = longL t s i := by
  unfold longL
  rw [if_neg (by omega), if_neg (by omega)]
  simp only [Int.toNat_natCast]
  exact longG_ff _ _ _ _ (Nat.le_refl _) hi
theorem longL_ff_end (t : TabD) (s : ByteArray) : longL t (s ++ ff) s.size = (-1, 0) := by
  rw [longL_ff (Nat.le_refl _)]
  unfold longL
  rw [if_neg (by omega)]
  simp only [Int.toNat_natCast]
  exact longG_end (Nat.le_refl _)

/-! ### where a text leads -/
def stateF (t : TabD) (u : ByteArray) : Nat → Nat → Int → Int
  | 0, _, st => st
  | f + 1, i, st => if i < u.size ∧ 0 ≤ st then (match decU u i with | none => -1 | some (c, n) => stateF t u f (i + n) (stepT t st c)) else st
def stateG (t : TabD) (u : ByteArray) (i : Nat) (st : Int) : Int := stateF t u (u.size - i) i st
def stateL (t : TabD) (u : ByteArray) : Int := stateG t u 0 0
theorem stateF_fuel (t : TabD) (u : ByteArray) : ∀ (f g i : Nat) (st : Int), u.size - i ≤ f → u.size - i ≤ g → stateF t u f i st = stateF t u g i st
  | 0, 0, _, _, _, _ => rfl
  | 0, g + 1, i, st, h, _ => by simp only [stateF]; rw [if_neg (by omega)]
  | f + 1, 0, i, st, _, h => by simp only [stateF]; rw [if_neg (by omega)]
  | f + 1, g + 1, i, st, h1, h2 => by
    simp only [stateF]
    split
    · rename_i hi
      cases hd : decU u i with
      | none => rfl
      | some p =>
        obtain ⟨c, n⟩ := p
        have hn := (decU_some hi.1 hd).2
        exact stateF_fuel t u f g _ _ (by omega) (by omega)
    · rfl
theorem stateG_end {t : TabD} {u : ByteArray} {i : Nat} {st : Int} (h : u.size ≤ i) : stateG t u i st = st := by
  unfold stateG
  rw [Nat.sub_eq_zero_of_le h]
  rfl
theorem stateG_neg {t : TabD} {u : ByteArray} {i : Nat} {st : Int} (h : st < 0) : stateG t u i st = st := by
  unfold stateG
  cases u.size - i with
  | zero => rfl
  | succ f => simp only [stateF]; rw [if_neg (by omega)]
theorem stateG_bad {t : TabD} {u : ByteArray} {i : Nat} {st : Int} (hi : i < u.size) (h0 : 0 ≤ st) (h : decU u i = none) : stateG t u i st = -1 := by
  unfold stateG
  obtain ⟨f, hf⟩ : ∃ f, u.size - i = f + 1 := ⟨u.size - i - 1, by omega⟩
  rw [hf]
  simp only [stateF]
  rw [if_pos ⟨hi, h0⟩, h]
theorem stateG_step {t : TabD} {u : ByteArray} {i c n : Nat} {st : Int} (hi : i < u.size) (h0 : 0 ≤ st) (h : decU u i = some (c, n)) : stateG t u i st = stateG t u (i + n) (stepT t st c) := by
  have hn := (decU_some hi h).2
  unfold stateG
  obtain ⟨f, hf⟩ : ∃ f, u.size - i = f + 1 := ⟨u.size - i - 1, by omega⟩
  rw [hf]
  simp only [stateF]
  rw [if_pos ⟨hi, h0⟩, h]
  exact stateF_fuel _ _ _ _ _ _ (by omega) (by omega)
/-- Where something ends what begins is no shorter. -/
theorem longG_ge {t : TabD} {s : ByteArray} {a b : Nat} (hb : b ≤ s.size) : ∀ (f i : Nat) (st : Int) (ks : Int × Int), s.size - i ≤ f → a ≤ i → i < b → 0 ≤ st → 0 ≤ stateG t (s.extract a b) (i - a) st → 0 ≤ endAt t (stateG t (s.extract a b) (i - a) st) → (b : Int) - a ≤ (longG t s a i st ks).2 := by
  have hsz := size_extract' s (a := a) hb
  intro f
  induction f with
  | zero => intro i st ks hf ha hi; omega
  | succ f ih =>
    intro i st ks hf ha hi h0 h1 h2
    cases hd : decU (s.extract a b) (i - a) with
    | none => rw [stateG_bad (by omega) h0 hd] at h1; omega
    | some p =>
      obtain ⟨c, n⟩ := p
      obtain ⟨hd2, hn2⟩ := decU_out ha hi hb hd
      have hn := (decU_some (by omega) hd2).2
      rw [stateG_step (by omega) h0 hd] at h1 h2
      rw [longG_step (by omega) hd2]
      by_cases hs : stepT t st c < 0
      · rw [stateG_neg hs] at h1; omega
      · rw [if_neg hs]
        by_cases he : i + n = b
        · rw [stateG_end (by omega)] at h2
          rw [if_pos h2]
          rcases longG_mono (t := t) (s := s) (a := a) (i + n) (stepT t st c) (endAt t (stepT t st c), ((i + n : Nat) : Int) - a) with h | h
          · rw [h]; simp only; omega
          · omega
        · have e : i - a + n = i + n - a := by omega
          rw [e] at h1 h2
          exact ih _ _ _ (by omega) (by omega) (by omega) (by omega) h1 h2
theorem longL_ge {t : TabD} {s : ByteArray} {i b : Nat} (hb : b ≤ s.size) (hi : i < b) (h1 : 0 ≤ stateL t (s.extract i b)) (h2 : 0 ≤ endAt t (stateL t (s.extract i b))) : (b : Int) - i ≤ (longL t s i).2 := by
  unfold longL
  rw [if_neg (by omega)]
  simp only [Int.toNat_natCast]
  have e : i - i = 0 := by omega
  exact longG_ge hb _ i 0 _ (Nat.le_refl _) (Nat.le_refl _) hi (by omega) (by rw [e]; exact h1) (by rw [e]; exact h2)
/-- What begins ends there. -/
theorem longG_state {t : TabD} {s : ByteArray} {a b : Nat} (hb : b ≤ s.size) : ∀ (f i : Nat) (st : Int) (ks : Int × Int), s.size - i ≤ f → a ≤ i → 0 ≤ st → ks.2 ≤ (i : Int) - a → (i : Int) - a < (longG t s a i st ks).2 → (longG t s a i st ks).2 = (b : Int) - a →
    0 ≤ stateG t (s.extract a b) (i - a) st ∧ endAt t (stateG t (s.extract a b) (i - a) st) = (longG t s a i st ks).1 := by
  have hsz := size_extract' s (a := a) hb
  intro f
  induction f with
  | zero =>
    intro i st ks hf ha h0 hk h1 h2
    rw [longG_end (by omega)] at h1
    omega
  | succ f ih =>
    intro i st ks hf ha h0 hk h1 h2
    by_cases hi : i < s.size
    · cases hd : decU s i with
      | none => rw [longG_bad hd] at h1; omega
      | some p =>
        obtain ⟨c, n⟩ := p
        have hn := (decU_some hi hd).2
        rw [longG_step hi hd] at h1 h2 ⊢
        by_cases hs : stepT t st c < 0
        · rw [if_pos hs] at h1; omega
        · rw [if_neg hs] at h1 h2 ⊢
          rcases longG_mono (t := t) (s := s) (a := a) (i + n) (stepT t st c) (if 0 ≤ endAt t (stepT t st c) then (endAt t (stepT t st c), ((i + n : Nat) : Int) - a) else ks) with h | h
          · rw [h] at h1 h2 ⊢
            split at h1
            · rename_i he
              rw [if_pos he] at h2 ⊢
              simp only at h2
              have hib : i + n = b := by omega
              rw [stateG_step (by omega) h0 (decU_in ha (by omega) hb hd (by omega)), stateG_end (by omega)]
              exact ⟨by omega, rfl⟩
            · omega
          · have e : i - a + n = i + n - a := by omega
            rw [stateG_step (by omega) h0 (decU_in ha (by omega) hb hd (by omega)), e]
            refine ih _ _ _ (by omega) (by omega) (by omega) ?_ h h2
            split
            · simp only; omega
            · omega
    · rw [longG_end (by omega)] at h1
      omega
theorem longL_state {t : TabD} {s : ByteArray} {i n : Nat} (hn : 1 ≤ n) (hb : i + n ≤ s.size) (h : (longL t s i).2 = n) : 0 ≤ stateL t (s.extract i (i + n)) ∧ endAt t (stateL t (s.extract i (i + n))) = (longL t s i).1 := by
  unfold longL at *
  rw [if_neg (by omega)] at h ⊢
  simp only [Int.toNat_natCast] at *
  have e : i - i = 0 := by omega
  have := longG_state (t := t) (s := s) (a := i) (b := i + n) hb _ i 0 (-1, 0) (Nat.le_refl _) (Nat.le_refl _) (by omega) (by simp only; omega) (by rw [h]; omega) (by rw [h]; omega)
  rw [e] at this
  exact this

/-! ### tokens -/
/-- Nothing is dropped. -/
def noDrop : List Bool := List.replicate 100 false
theorem noDrop_get (k : Nat) : noDrop.getD k false = false := by
  unfold noDrop
  rw [List.getD_eq_getElem?_getD, List.getElem?_replicate]
  split <;> rfl
def keepB (drop : List Bool) (x : TokD) : Bool := !drop.getD x.1.toNat false
/-- Tokens one behind the other, from place i to the input's end. -/
def ChainT (t : TabD) (s : ByteArray) : Nat → List TokD → Prop
  | i, [] => i = s.size
  | i, x :: L => i < s.size ∧ 1 ≤ (longL t s i).2 ∧ x = ((longL t s i).1, s.extract i (i + (longL t s i).2.toNat), (i : Int)) ∧ ChainT t s (i + (longL t s i).2.toNat) L
theorem long_step {t : TabD} (ht : MayS t) {s : ByteArray} {i : Nat} (h : ¬ (longL t s i).2 = 0) : 1 ≤ (longL t s i).2 ∧ (i : Int) + (longL t s i).2 ≤ s.size ∧ 0 ≤ (longL t s i).1 ∧ (longL t s i).1 ∈ t.e := by
  rcases longL_ok ht s i with h1 | h1
  · rw [h1] at h; exact absurd rfl h
  · exact ⟨h1.2.2.1, h1.2.2.2, h1.1, h1.2.1⟩
/-- All tokens, or where nothing begins; with some dropped likewise. -/
theorem toks_all {t : TabD} (ht : MayS t) {s : ByteArray} (drop : List Bool) : ∀ (f i : Nat) (l : List TokD), s.size - i ≤ f → i ≤ s.size → l.length + (s.size - i) ≤ 16000 →
    (∃ L, ChainT t s i L ∧ toksG t noDrop s i l = (l ++ L, (s.size : Int), 0) ∧ toksG t drop s i (l.filter (keepB drop)) = ((l ++ L).filter (keepB drop), (s.size : Int), 0)) ∨
    ∃ p : Nat, i ≤ p ∧ p < s.size ∧ longL t s p = (-1, 0) ∧ toksG t noDrop s i l = ([], (p : Int), 9) ∧ toksG t drop s i (l.filter (keepB drop)) = ([], (p : Int), 9) ∧ ∃ L, toksG t noDrop (s.extract 0 p) i l = (L, (p : Int), 0) := by
  intro f
  induction f with
  | zero =>
    intro i l hf hi _
    obtain rfl : i = s.size := by omega
    exact .inl ⟨[], rfl, by rw [toksG_end, List.append_nil], by rw [toksG_end, List.append_nil]⟩
  | succ f ih =>
    intro i l hf hi hl
    by_cases his : i < s.size
    · by_cases h0 : (longL t s i).2 = 0
      · refine .inr ⟨i, Nat.le_refl _, his, ?_, ?_, ?_, l, ?_⟩
        · rcases longL_ok ht s i with h | h
          · exact h
          · omega
        · rw [toksG_step ht his, if_pos h0]
        · rw [toksG_step ht his, if_pos h0]
        · have hz : (s.extract 0 i).size = i := size_extract' s (by omega)
          have := toksG_end (t := t) (drop := noDrop) (s := s.extract 0 i) (l := l)
          rw [hz] at this
          exact this
      · obtain ⟨h1, h2, h3, h4⟩ := long_step ht h0
        have hlf : (l.filter (keepB drop)).length ≤ l.length := List.length_filter_le _ _
        have e1 : ∀ l' : List TokD, l'.length ≤ 16000 → toksG t noDrop s i l' = toksG t noDrop s (i + (longL t s i).2.toNat) (l' ++ [((longL t s i).1, s.extract i (i + (longL t s i).2.toNat), (i : Int))]) := fun l' hl' => by
          rw [toksG_step ht his, if_neg h0, if_neg (by rw [noDrop_get]; simp), if_neg (by omega)]
        have e2 : toksG t drop s i (l.filter (keepB drop)) = toksG t drop s (i + (longL t s i).2.toNat) ((l ++ [((longL t s i).1, s.extract i (i + (longL t s i).2.toNat), (i : Int))]).filter (keepB drop)) := by
          rw [toksG_step ht his, if_neg h0, List.filter_append]
          by_cases hd : drop.getD (longL t s i).1.toNat false = true
          · have hk : keepB drop ((longL t s i).1, s.extract i (i + (longL t s i).2.toNat), (i : Int)) = false := by show (!drop.getD (longL t s i).1.toNat false) = false; rw [hd]; rfl
            rw [if_pos hd, List.filter_cons_of_neg (by rw [hk]; decide), List.filter_nil, List.append_nil]
          · have hk : keepB drop ((longL t s i).1, s.extract i (i + (longL t s i).2.toNat), (i : Int)) = true := by
              show (!drop.getD (longL t s i).1.toNat false) = true
              cases hx : drop.getD (longL t s i).1.toNat false
              · rfl
              · exact absurd hx hd
            rw [if_neg hd, if_neg (by omega), List.filter_cons_of_pos hk, List.filter_nil]
        rcases ih (i + (longL t s i).2.toNat) (l ++ [((longL t s i).1, s.extract i (i + (longL t s i).2.toNat), (i : Int))]) (by omega) (by omega) (by simp only [List.length_append, List.length_singleton]; omega) with ⟨L, c1, c2, c3⟩ | ⟨p, c1, c2, c3, c4, c5, L, c6⟩
        · refine .inl ⟨((longL t s i).1, s.extract i (i + (longL t s i).2.toNat), (i : Int)) :: L, ⟨his, h1, rfl, c1⟩, ?_, ?_⟩
          · rw [e1 l (by omega), c2, List.append_assoc]; rfl
          · rw [e2, c3, List.append_assoc]; rfl
        · refine .inr ⟨p, by omega, c2, c3, by rw [e1 l (by omega), c4], by rw [e2, c5], L, ?_⟩
          have hz : (s.extract 0 p).size = p := size_extract' s (by omega)
          have hlp : longL t (s.extract 0 p) i = longL t s i := longL_part (by omega) (by omega)
          have hx : (s.extract 0 p).extract i (i + (longL t s i).2.toNat) = s.extract i (i + (longL t s i).2.toNat) := by
            apply ByteArray.ext
            apply Array.ext'
            rw [Lib.extract_data, Lib.extract_data, Lib.extract_data, List.drop_zero, List.drop_take, List.take_take]
            congr 1
            omega
          rw [toksG_step ht (by omega), hlp, if_neg h0, if_neg (by rw [noDrop_get]; simp), if_neg (by omega), hx]
          exact c6
    · obtain rfl : i = s.size := by omega
      exact .inl ⟨[], rfl, by rw [toksG_end, List.append_nil], by rw [toksG_end, List.append_nil]⟩
/-- With a byte more. -/
theorem toks_ff {t : TabD} (ht : MayS t) {s : ByteArray} : ∀ (f i : Nat) (l : List TokD), s.size - i ≤ f → i ≤ s.size → l.length + (s.size - i) ≤ 16000 →
    (∃ L, toksG t noDrop s i l = (L, (s.size : Int), 0) ∧ toksG t noDrop (s ++ ff) i l = ([], (s.size : Int), 9)) ∨
    ∃ p : Nat, toksG t noDrop s i l = ([], (p : Int), 9) ∧ toksG t noDrop (s ++ ff) i l = ([], (p : Int), 9) := by
  have hz := size_ff s
  have fin : ∀ l : List TokD, toksG t noDrop (s ++ ff) s.size l = ([], (s.size : Int), 9) := fun l => by
    rw [toksG_step ht (by omega), if_pos (by rw [longL_ff_end])]
  intro f
  induction f with
  | zero =>
    intro i l hf hi _
    obtain rfl : i = s.size := by omega
    exact .inl ⟨l, toksG_end, fin l⟩
  | succ f ih =>
    intro i l hf hi hl
    by_cases his : i < s.size
    · have hlf : longL t (s ++ ff) i = longL t s i := longL_ff (by omega)
      by_cases h0 : (longL t s i).2 = 0
      · exact .inr ⟨i, by rw [toksG_step ht his, if_pos h0], by rw [toksG_step ht (by omega), hlf, if_pos h0]⟩
      · obtain ⟨h1, h2, h3, h4⟩ := long_step ht h0
        have hx : (s ++ ff).extract i (i + (longL t s i).2.toNat) = s.extract i (i + (longL t s i).2.toNat) := by
          apply ByteArray.ext
          apply Array.ext'
          have : (s ++ ff).data.toList = s.data.toList ++ [255] := by simp [ff]
          have hs := Lib.size_eq s
          rw [Lib.extract_data, Lib.extract_data, this, List.drop_append_of_le_length (by omega), List.take_append_of_le_length (by rw [List.length_drop]; omega)]
        rw [toksG_step ht his, if_neg h0, if_neg (by rw [noDrop_get]; simp), if_neg (by omega)]
        rw [toksG_step (s := s ++ ff) ht (by omega), hlf, if_neg h0, if_neg (by rw [noDrop_get]; simp), if_neg (by omega), hx]
        exact ih _ _ (by omega) (by omega) (by simp only [List.length_append, List.length_singleton]; omega)
    · obtain rfl : i = s.size := by omega
      exact .inl ⟨l, toksG_end, fin l⟩
end Go.Proofs.YtfhmblbomkhcpaaDoor
