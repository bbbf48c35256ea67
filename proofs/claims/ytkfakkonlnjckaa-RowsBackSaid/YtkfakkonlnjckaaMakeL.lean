/- A made table may be, plainly. -/
import Derived.Test.YtkfakkonlnjckaaRefMake
namespace Go.Proofs.Ytkfakkonlnjckaa
open Go.RowKit

theorem nextL_append : ∀ (X Y : List Int) (next m : Int), nextL next m (X ++ Y) = (nextL next m X).bind (fun n => nextL n m Y)
  | [], Y, next, m => rfl
  | x :: X, Y, next, m => by
    simp only [List.cons_append, nextL]
    split
    · rfl
    · exact nextL_append X Y _ m
/-- What stays true while a table is made. -/
def Made (t : List RowD × List Int) : Prop := t.1.Nodup ∧ ∀ m : Int, (t.1.length : Int) ≤ m → nextL 0 m t.2 = some (t.1.length : Int)
theorem Made.add {t : List RowD × List Int} (h : Made t) (r : RowD) : Made (addL t r) := by
  obtain ⟨R, O⟩ := t
  obtain ⟨h1, h2⟩ := h
  unfold addL
  by_cases hh : hasRow r R = true
  · rw [if_pos hh]
    refine ⟨h1, fun m hm => ?_⟩
    show nextL 0 m (O ++ [idxV (rowEq r) R]) = some (R.length : Int)
    rw [nextL_append, h2 m hm]
    rcases idx_cases (rowEq r) R with ⟨k, x, hk, -, h3, -, -⟩ | ⟨-, -, h5⟩
    · have hkl := (List.getElem?_eq_some_iff.1 hk).1
      rw [h3]
      simp only at hm
      show nextL (R.length : Int) m [(k : Int)] = _
      simp only [nextL]
      rw [if_neg (by omega), if_neg (by omega)]
    · have : R.any (rowEq r) = true := hh
      rw [h5] at this
      cases this
  · rw [if_neg hh]
    refine ⟨?_, fun m hm => ?_⟩
    · show (R ++ [r]).Nodup
      rw [List.nodup_append]
      refine ⟨h1, by simp, fun a ha b hb => ?_⟩
      simp at hb
      subst hb
      intro e
      subst e
      exact hh (hasRow_iff.2 ha)
    · show nextL 0 m (O ++ [(R.length : Int)]) = some ((R ++ [r]).length : Int)
      have hm' : (R.length : Int) + 1 ≤ m := by simpa using hm
      rw [nextL_append, h2 m (by show (R.length : Int) ≤ m; omega)]
      show nextL (R.length : Int) m [(R.length : Int)] = _
      simp only [nextL]
      rw [if_neg (by omega)]
      simp
theorem made (LL : List (List Int)) : Made (makeL LL) := by
  have key : ∀ (LL : List (List Int)) (t : List RowD × List Int), Made t → Made (LL.foldl (fun t l => addL t (rowL l)) t) := by
    intro LL
    induction LL with
    | nil => intro t h; exact h
    | cons l LL ih => intro t h; exact ih _ (h.add _)
  exact key LL ([], []) ⟨by simp, fun m hm => rfl⟩
theorem makeL_may {W : Int} {LL : List (List Int)} (h0 : 0 ≤ W) (h1 : W ≤ 65536) (hn : LL.length ≤ 65536) (h : makeOk W LL = true) : mayL (W, (makeL LL).1, (makeL LL).2) = true := by
  obtain ⟨m1, m2⟩ := made LL
  have hlen := (makeL_len LL).2
  rw [mayL_good ⟨h0, h1, by omega⟩ (fun r hr => ?_) m1, m2 _ (Int.le_refl _)]
  · simp
  · obtain ⟨l, hl, rfl⟩ := makeL_rows LL r hr
    have := List.all_eq_true.1 h l hl
    simp only [listOk, Bool.and_eq_true, Bool.not_eq_true', decide_eq_true_eq] at this
    obtain ⟨g1, g2⟩ := this
    rw [← g2, Int.toNat_natCast]
    exact fineL_rowL l (noValB_false.1 g1)
end Go.Proofs.Ytkfakkonlnjckaa
