/- Bounded or not: both ways to take a table's bytes apart answer the same. -/
import Derived.Test.YtkfakkonlnjckaaTakeP
namespace Go.Proofs.Ytkfakkonlnjckaa
open Go.RowKit

theorem numP_down {Z : List Int} {m m' : Nat} {s : Rd} (h : (numP Z m' s).2.2 = false) (hn : (numP Z m' s).1 ≤ m) : numP Z m s = numP Z m' s := by
  rcases numP_spec Z m' s with ⟨n, k, h0, h1, h2, h3, h4, e⟩ | e
  · rw [e] at hn ⊢
    unfold numP
    rw [h0]
    simp only
    rw [if_pos hn]
  · rw [e] at h; cases h
theorem cellsP_keep {Z : List Int} {ms mv : Nat} : ∀ {k : Nat} {s : Rd} {x : Int} {acc : List (Int × Int)}, (cellsP Z ms mv k s x acc).2.2 = false → acc <+: (cellsP Z ms mv k s x acc).1 ∧ (cellsP Z ms mv k s x acc).1.length = acc.length + k
  | 0, s, x, acc, h => ⟨List.prefix_refl _, rfl⟩
  | k + 1, s, x, acc, h => by
    have hs := cellsP_mono h
    rw [cellsP_step hs] at h ⊢
    obtain ⟨h1, h2⟩ := cellsP_keep h
    exact ⟨(List.prefix_append _ _).trans h1, by rw [h2]; simp; omega⟩
theorem rowsP_keep {Z : List Int} {mw mv : Nat} : ∀ {k : Nat} {s : Rd} {acc : List RowD}, (rowsP Z mw mv k s acc).2.2 = false → acc <+: (rowsP Z mw mv k s acc).1 ∧ (rowsP Z mw mv k s acc).1.length = acc.length + k
  | 0, s, acc, h => ⟨List.prefix_refl _, rfl⟩
  | k + 1, s, acc, h => by
    have hs := rowsP_mono h
    rw [rowsP_step hs] at h ⊢
    obtain ⟨h1, h2⟩ := rowsP_keep h
    exact ⟨(List.prefix_append _ _).trans h1, by rw [h2]; simp; omega⟩
theorem ofP_keep {Z : List Int} {mm : Nat} : ∀ {k : Nat} {s : Rd} {acc : List Int}, (ofP Z mm k s acc).2.2 = false → acc <+: (ofP Z mm k s acc).1 ∧ (ofP Z mm k s acc).1.length = acc.length + k
  | 0, s, acc, h => ⟨List.prefix_refl _, rfl⟩
  | k + 1, s, acc, h => by
    have hs := ofP_mono h
    rw [ofP_step hs] at h ⊢
    obtain ⟨h1, h2⟩ := ofP_keep h
    exact ⟨(List.prefix_append _ _).trans h1, by rw [h2]; simp; omega⟩
theorem cellsP_down {Z : List Int} {ms ms' mv mv' : Nat} : ∀ {k : Nat} {s : Rd} {x : Int} {acc : List (Int × Int)}, 0 ≤ x → (cellsP Z ms' mv' k s x acc).2.2 = false → (∀ c ∈ (cellsP Z ms' mv' k s x acc).1, c.1 ≤ ms ∧ c.2 + 1 ≤ mv) → cellsP Z ms mv k s x acc = cellsP Z ms' mv' k s x acc
  | 0, s, x, acc, _, _, _ => rfl
  | k + 1, s, x, acc, hx, h, hc => by
    have hs := cellsP_mono h
    rw [cellsP_step hs] at h hc ⊢
    have h3 := cellsP_mono h
    have hm := hc _ ((cellsP_keep h).1.subset (List.mem_append_right _ (List.mem_singleton.2 rfl)))
    simp only at hm
    have e1 : numP Z ms s = numP Z ms' s := numP_down (numP_mono h3) (by omega)
    have e2 : numP Z mv (numP Z ms' s).2 = numP Z mv' (numP Z ms' s).2 := numP_down h3 (by omega)
    rw [cellsP_step hs, e1, e2]
    exact cellsP_down (by omega) h hc
/-- What a row of a table that may be looks like. -/
def RowOk (mw mv : Nat) (r : RowD) : Prop := r.1 + 1 ≤ mv ∧ r.2.length ≤ mw ∧ ∀ c ∈ r.2, c.1 ≤ mw ∧ c.2 + 1 ≤ mv
theorem rowP_down {Z : List Int} {mw mw' mv mv' : Nat} {s : Rd} (h : (rowP Z mw' mv' s).2.2 = false) (hr : RowOk mw mv (rowP Z mw' mv' s).1) : rowP Z mw mv s = rowP Z mw' mv' s := by
  have h0 : (cellsP Z mw' mv' (numP Z mw' (numP Z mv' s).2).1 (numP Z mw' (numP Z mv' s).2).2 0 []).2.2 = false := h
  obtain ⟨h1, h2, h4⟩ := hr
  have h3 := cellsP_mono h0
  have hk := (cellsP_keep h0).2
  have h2' : (cellsP Z mw' mv' (numP Z mw' (numP Z mv' s).2).1 (numP Z mw' (numP Z mv' s).2).2 0 []).1.length ≤ mw := h2
  have h1' : ((numP Z mv' s).1 : Int) - 1 + 1 ≤ mv := h1
  have e1 : numP Z mv s = numP Z mv' s := numP_down (numP_mono h3) (by omega)
  have e2 : numP Z mw (numP Z mv' s).2 = numP Z mw' (numP Z mv' s).2 := numP_down h3 (by rw [hk] at h2'; simp at h2'; exact h2')
  have e3 := cellsP_down (ms := mw) (mv := mv) (Int.le_refl 0) h0 h4
  unfold rowP
  rw [e1, e2, e3]
theorem rowsP_down {Z : List Int} {mw mw' mv mv' : Nat} : ∀ {k : Nat} {s : Rd} {acc : List RowD}, (rowsP Z mw' mv' k s acc).2.2 = false → (∀ r ∈ (rowsP Z mw' mv' k s acc).1, RowOk mw mv r) → rowsP Z mw mv k s acc = rowsP Z mw' mv' k s acc
  | 0, s, acc, _, _ => rfl
  | k + 1, s, acc, h, hr => by
    have hs := rowsP_mono h
    rw [rowsP_step hs] at h hr ⊢
    have hm := hr _ ((rowsP_keep h).1.subset (List.mem_append_right _ (List.mem_singleton.2 rfl)))
    rw [rowsP_step hs, rowP_down (rowsP_mono h) hm]
    exact rowsP_down h hr
theorem ofP_down {Z : List Int} {mm mm' : Nat} : ∀ {k : Nat} {s : Rd} {acc : List Int}, (ofP Z mm' k s acc).2.2 = false → (∀ n ∈ (ofP Z mm' k s acc).1, n ≤ (mm : Int)) → ofP Z mm k s acc = ofP Z mm' k s acc
  | 0, s, acc, _, _ => rfl
  | k + 1, s, acc, h, hr => by
    have hs := ofP_mono h
    rw [ofP_step hs] at h hr ⊢
    have hm := hr _ ((ofP_keep h).1.subset (List.mem_append_right _ (List.mem_singleton.2 rfl)))
    rw [ofP_step hs, numP_down (m := mm) (ofP_mono h) (by omega)]
    exact ofP_down h hr
theorem fineCells_each {W d : Int} : ∀ {l : List (Int × Int)} {last : Int}, fineCells W d last l = true → ∀ c ∈ l, c.1 < W ∧ c.2 ≤ 16777215
  | [], _, _, c, hc => by cases hc
  | x :: l, last, h, c, hc => by
    simp only [fineCells, Bool.and_eq_true, decide_eq_true_eq] at h
    obtain ⟨⟨⟨⟨g1, g2⟩, g3⟩, -⟩, g5⟩ := h
    rcases List.mem_cons.1 hc with rfl | hc
    · exact ⟨g2, g3.2⟩
    · exact fineCells_each g5 c hc
theorem fine_rowOk {W : Nat} {r : RowD} (hW : W ≤ 65536) (h : fineL W r = true) : RowOk W 16777216 r := by
  obtain ⟨h1, h2, _⟩ := fine_bounds hW h
  obtain ⟨d, cs⟩ := r
  refine ⟨by have := h1.2; show d + 1 ≤ _; simp only at this; omega, h2, fun c hc => ?_⟩
  by_cases h0 : W = 0
  · subst h0
    simp only [fineL, if_true, Bool.and_eq_true, decide_eq_true_eq] at h
    rw [h.2] at hc
    cases hc
  · simp only [fineL, if_neg h0, Bool.and_eq_true, decide_eq_true_eq] at h
    have := fineCells_each h.1.1.1 c hc
    omega
theorem takeP_down {Z : List Int} (h : (takeP Z mostR).2.2 = false) (hm : mayL (takeP Z mostR).1 = true) : takeP Z mostP = takeP Z mostR := by
  obtain ⟨p, hp⟩ : ∃ p, p = numP Z 4294967295 (0, false) := ⟨_, rfl⟩
  obtain ⟨q, hq⟩ : ∃ q, q = numP Z 4294967295 p.2 := ⟨_, rfl⟩
  obtain ⟨r, hr⟩ : ∃ r, r = rowsP Z 4294967295 4294967295 q.1 q.2 [] := ⟨_, rfl⟩
  obtain ⟨u, hu⟩ : ∃ u, u = numP Z 4294967295 r.2 := ⟨_, rfl⟩
  obtain ⟨v, hv⟩ : ∃ v, v = ofP Z 4294967295 u.1 u.2 [] := ⟨_, rfl⟩
  have e : takeP Z mostR = (((p.1 : Int), r.1, v.1), v.2) := by
    unfold takeP
    simp only [mostR]
    rw [← hp, ← hq, ← hr, ← hu, ← hv]
  rw [e] at h hm ⊢
  simp only at h
  obtain ⟨h1, h2, h3, -⟩ := mayL_spec hm
  have g5 : (ofP Z 4294967295 u.1 u.2 []).2.2 = false := by rw [← hv]; exact h
  have g4 := ofP_mono g5
  have g3 : (rowsP Z 4294967295 4294967295 q.1 q.2 []).2.2 = false := by rw [← hr]; exact numP_mono (m := 4294967295) (by rw [← hu]; exact g4)
  have g2 := rowsP_mono g3
  have g1 : p.2.2 = false := numP_mono (m := 4294967295) (by rw [← hq]; exact g2)
  have k3 := (rowsP_keep g3).2
  have k5 := (ofP_keep g5).2
  rw [← hr] at k3
  rw [← hv] at k5
  simp only [List.length_nil, Nat.zero_add] at k3 k5
  have hle := (tabNums_ok hm).2
  have hpw : p.1 ≤ 65536 := by omega
  have e1 : numP Z 65536 (0, false) = p := (numP_down (m' := 4294967295) (by rw [← hp]; exact g1) (by rw [← hp]; exact hpw)).trans hp.symm
  have e2 : numP Z 65536 p.2 = q := (numP_down (m' := 4294967295) (by rw [← hq]; exact g2) (by rw [← hq]; omega)).trans hq.symm
  have e3 : rowsP Z p.1 16777216 q.1 q.2 [] = r := (rowsP_down (mw' := 4294967295) (mv' := 4294967295) g3 (fun x hx => by
    rw [← hr] at hx
    have := fine_rowOk (by omega) (h3 x hx)
    rwa [Int.toNat_natCast] at this)).trans hr.symm
  have e4 : numP Z 65536 r.2 = u := (numP_down (m' := 4294967295) (by rw [← hu]; exact g4) (by rw [← hu]; omega)).trans hu.symm
  have e5 : ofP Z 65536 u.1 u.2 [] = v := (ofP_down (mm' := 4294967295) g5 (fun n hn => by
    rw [← hv] at hn
    have := nextL_mem v.1 0 r.1.length _ h2 n hn
    omega)).trans hv.symm
  unfold takeP
  simp only [mostP, id]
  rw [e1, e2, e3, e4, e5]
/-- What both Takes answer. -/
def takeOk (Z : List Int) (B : Most) : Bool := !(takeP Z B).2.2 && mayL (takeP Z B).1
theorem take_alike (Z : List Int) : takeOk Z mostP = takeOk Z mostR ∧ (takeOk Z mostR = true → takeP Z mostP = takeP Z mostR) := by
  cases hR : takeOk Z mostR with
  | true =>
    simp only [takeOk, Bool.and_eq_true, Bool.not_eq_true'] at hR
    have e := takeP_down hR.1 hR.2
    refine ⟨?_, fun _ => e⟩
    unfold takeOk
    rw [e, hR.1, hR.2]
    rfl
  | false =>
    refine ⟨?_, fun h => by cases h⟩
    cases hP : takeOk Z mostP with
    | false => rfl
    | true =>
      simp only [takeOk, Bool.and_eq_true, Bool.not_eq_true'] at hP
      have e := takeP_up hP.1
      unfold takeOk at hR
      rw [e, hP.1, hP.2] at hR
      cases hR
end Go.Proofs.Ytkfakkonlnjckaa
