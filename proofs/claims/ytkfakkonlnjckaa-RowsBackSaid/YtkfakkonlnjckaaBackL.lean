/- What is made of lists tells them; the lists of RowsBack. -/
import Derived.Test.YtkfakkonlnjckaaBackP
import Derived.Test.YtkfakkonlnjckaaMakeL
import Derived.Test.YtkfakkonlnjckaaRowsV
namespace Go.Proofs.Ytkfakkonlnjckaa
open Go.RowKit

theorem idxV_has {r : RowD} {R : List RowD} (h : r ∈ R) : ∃ j : Nat, idxV (rowEq r) R = j ∧ R[j]? = some r := by
  have h1 : R.findIdx (rowEq r) < R.length := by
    rw [List.findIdx_lt_length]
    exact ⟨r, h, by simp [rowEq]⟩
  refine ⟨R.findIdx (rowEq r), by unfold idxV; rw [if_pos h1], ?_⟩
  have h2 := List.findIdx_getElem (w := h1)
  rw [List.getElem?_eq_getElem h1]
  simp only [rowEq, decide_eq_true_eq] at h2
  rw [← h2]
theorem makeL_tells (LL : List (List Int)) : ∀ (i : Nat) (L : List Int), LL[i]? = some L → ∃ j : Nat, (makeL LL).2[i]? = some (j : Int) ∧ (makeL LL).1[j]? = some (rowL L) := by
  have key : ∀ (n : Nat), n ≤ LL.length → ∀ (i : Nat) (L : List Int), i < n → LL[i]? = some L → ∃ j : Nat, (makeL (LL.take n)).2[i]? = some (j : Int) ∧ (makeL (LL.take n)).1[j]? = some (rowL L) := by
    intro n
    induction n with
    | zero => intro _ i L h; omega
    | succ n ih =>
      intro hn i L hi hL
      have hl : LL[n]? = some LL[n] := List.getElem?_eq_getElem (by omega)
      have e : LL.take (n + 1) = LL.take n ++ [LL[n]] := by rw [List.take_add_one, hl]; rfl
      have hlen := (makeL_len (LL.take n)).2
      rw [List.length_take] at hlen
      rw [e, makeL_snoc]
      generalize makeL (LL.take n) = t at *
      obtain ⟨R, O⟩ := t
      simp only at hlen ih
      unfold addL
      by_cases hin : i < n
      · obtain ⟨j, h1, h2⟩ := ih (by omega) i L hin hL
        have h3 := (List.getElem?_eq_some_iff.1 h1).1
        have h4 := (List.getElem?_eq_some_iff.1 h2).1
        refine ⟨j, ?_⟩
        split
        · exact ⟨by rw [List.getElem?_append_left h3]; exact h1, h2⟩
        · exact ⟨by rw [List.getElem?_append_left h3]; exact h1, by rw [List.getElem?_append_left h4]; exact h2⟩
      · obtain rfl : i = n := by omega
        rw [hl] at hL
        obtain rfl := Option.some.inj hL
        split
        · rename_i hh
          obtain ⟨j, h1, h2⟩ := idxV_has (hasRow_iff.1 hh)
          refine ⟨j, ?_, h2⟩
          show (O ++ [idxV (rowEq (rowL LL[i])) R])[i]? = _
          rw [h1, List.getElem?_append_right (by omega), show i - O.length = 0 by omega]
          rfl
        · refine ⟨R.length, ?_, ?_⟩
          · show (O ++ [(R.length : Int)])[i]? = _
            rw [List.getElem?_append_right (by omega), show i - O.length = 0 by omega]
            rfl
          · show (R ++ [rowL LL[i]])[R.length]? = _
            simp
  intro i L hL
  have := key LL.length (Nat.le_refl _) i L (List.getElem?_eq_some_iff.1 hL).1 hL
  rwa [List.take_length] at this
theorem makeL_at {W : Int} {LL : List (List Int)} {i k : Nat} {L : List Int} {n : Int} (hL : LL[i]? = some L) (hn : L[k]? = some n) (hk : (k : Int) < W) : atTab (W, (makeL LL).1, (makeL LL).2) i k = n := by
  obtain ⟨j, h1, h2⟩ := makeL_tells LL i L hL
  have h3 := (List.getElem?_eq_some_iff.1 h1).1
  have h4 := (List.getElem?_eq_some_iff.1 h2).1
  unfold atTab
  simp only
  rw [if_neg (by omega), Int.toNat_natCast, h1]
  simp only
  rw [if_neg (by omega), Int.toNat_natCast, h2]
  exact atRow_rowL L k n hn

/-- A value, kept within its bounds. -/
def clampV (n : Int) : Int := max (-1) (min n 16777215)
theorem clampV_val (n : Int) : isVal (clampV n) := by
  unfold clampV
  constructor <;> omega
/-- A list as RowsBack has it. -/
def backV (l : List Int) (k : Nat) : Int := if l = [] then 0 else clampV (l.getD (k % l.length) 0)
def backL (w : Nat) (l : List Int) : List Int := (List.range w).map (backV l)
theorem backL_length (w : Nat) (l : List Int) : (backL w l).length = w := by simp [backL]
theorem backV_val (l : List Int) (k : Nat) : isVal (backV l k) := by
  unfold backV
  split
  · exact ⟨by omega, by omega⟩
  · exact clampV_val _
theorem backL_get {w k : Nat} (l : List Int) (h : k < w) : (backL w l)[k]? = some (backV l k) := by
  simp [backL, h]
theorem backL_val (w : Nat) (l : List Int) : ∀ n ∈ backL w l, isVal n := by
  intro n hn
  obtain ⟨k, -, rfl⟩ := List.mem_map.1 hn
  exact backV_val l k
theorem backL_ok (w : Nat) (LL : List (List Int)) : makeOk w (LL.map (backL w)) = true := by
  unfold makeOk
  rw [List.all_eq_true]
  intro l hl
  obtain ⟨x, -, rfl⟩ := List.mem_map.1 hl
  unfold listOk
  rw [noValB_false.2 (backL_val w x), backL_length]
  simp
end Go.Proofs.Ytkfakkonlnjckaa
