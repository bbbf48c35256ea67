/- Numbers counted in two lists, plainly. -/
import Derived.Test.YtkfakkonlnjckaaRowsL
namespace Go.Proofs.Ytkfakkonlnjckaa

/-- A: the numbers of L, each once; T: how often each stands. -/
structure Tally (A T L : List Int) : Prop where
  len : T.length = A.length
  nodup : A.Nodup
  mem : ∀ n, n ∈ A ↔ n ∈ L
  cnt : ∀ (k : Nat) a t, A[k]? = some a → T[k]? = some t → t = L.count a
  le : A.length ≤ L.length
theorem Tally.start : Tally [] [] [] := ⟨rfl, List.nodup_nil, fun _ => Iff.rfl, fun k a t h => by simp at h, Nat.le_refl _⟩
theorem Tally.old {A T L : List Int} (h : Tally A T L) {k : Nat} {n t : Int} (hk : A[k]? = some n) (ht : T[k]? = some t) : Tally A (T.set k (t + 1)) (L ++ [n]) := by
  have hlt := (List.getElem?_eq_some_iff.1 ht).1
  refine ⟨by rw [List.length_set]; exact h.len, h.nodup, fun m => ?_, fun j a u ha hu => ?_, by simp; have := h.le; omega⟩
  · have hn := (h.mem n).1 (List.mem_of_getElem? hk)
    rw [h.mem]
    constructor
    · intro hm; simp [hm]
    · intro hm
      rcases List.mem_append.1 hm with hm | hm
      · exact hm
      · rw [List.mem_singleton.1 hm]; exact hn
  · by_cases he : j = k
    · subst he
      rw [hk] at ha
      obtain rfl := Option.some.inj ha
      rw [List.getElem?_set_self hlt] at hu
      obtain rfl := Option.some.inj hu
      rw [h.cnt j _ _ hk ht, List.count_append]
      simp
    · rw [List.getElem?_set_ne (Ne.symm he)] at hu
      rw [h.cnt j _ _ ha hu, List.count_append]
      have hne : a ≠ n := by
        intro e
        subst e
        have h1 := (List.getElem?_eq_some_iff.1 ha).1
        exact he (((List.getElem?_inj h1 h.nodup).1 (by rw [ha, hk])))
      simp [Ne.symm hne]
theorem Tally.new {A T L : List Int} (h : Tally A T L) {n : Int} (hn : n ∉ A) : Tally (A ++ [n]) ((T ++ [0]).set T.length 1) (L ++ [n]) := by
  have hnl : n ∉ L := fun e => hn ((h.mem n).2 e)
  refine ⟨by simp [h.len], ?_, fun m => ?_, fun j a u ha hu => ?_, by simp; exact h.le⟩
  · rw [List.nodup_append]
    refine ⟨h.nodup, by simp, fun a ha b hb => ?_⟩
    rw [List.mem_singleton] at hb
    subst hb
    intro e
    subst e
    exact hn ha
  · simp [h.mem]
  · have hlen := h.len
    by_cases hj : j < T.length
    · rw [List.getElem?_set_ne (by omega), List.getElem?_append_left hj] at hu
      rw [List.getElem?_append_left (by omega)] at ha
      have hne : a ≠ n := fun e => hn (by rw [← e]; exact List.mem_of_getElem? ha)
      rw [h.cnt j _ _ ha hu, List.count_append]
      simp [Ne.symm hne]
    · have hjl := (List.getElem?_eq_some_iff.1 ha).1
      simp only [List.length_append, List.length_singleton] at hjl
      obtain rfl : j = T.length := by omega
      rw [List.getElem?_set_self (by simp)] at hu
      obtain rfl := Option.some.inj hu
      rw [hlen, List.getElem?_append_right (Nat.le_refl _), Nat.sub_self] at ha
      obtain rfl := Option.some.inj ha
      rw [List.count_append, List.count_eq_zero.2 hnl]
      simp

/-- The best of those gone through. -/
def BestR (A L : List Int) (k : Nat) (b t : Int) : Prop :=
  ((b = -1 ∧ t = 0 ∧ k = 0) ∨ (b ∈ L ∧ t = L.count b)) ∧ ∀ (j : Nat) (x : Int), j < k → A[j]? = some x → (L.count x : Int) < t ∨ ((L.count x : Int) = t ∧ b ≤ x)
theorem BestR.start (A L : List Int) : BestR A L 0 (-1) 0 := ⟨.inl ⟨rfl, rfl, rfl⟩, fun _ _ h => absurd h (Nat.not_lt_zero _)⟩
theorem BestR.next {A L : List Int} {k : Nat} {b t x : Int} (h : BestR A L k b t) (hk : A[k]? = some x) (hx : x ∈ L) (b' t' : Int) (hb : (b' = x ∧ t' = L.count x ∧ (t < L.count x ∨ ((L.count x : Int) = t ∧ x < b))) ∨ (b' = b ∧ t' = t ∧ ((L.count x : Int) < t ∨ ((L.count x : Int) = t ∧ b ≤ x)))) : BestR A L (k + 1) b' t' := by
  obtain ⟨h1, h2⟩ := h
  have hpos : 0 < L.count x := List.count_pos_iff.2 hx
  rcases hb with ⟨rfl, rfl, hb⟩ | ⟨rfl, rfl, hb⟩
  · refine ⟨.inr ⟨hx, rfl⟩, fun j y hj hy => ?_⟩
    by_cases he : j = k
    · subst he; rw [hk] at hy; obtain rfl := Option.some.inj hy; omega
    · have := h2 j y (by omega) hy; omega
  · refine ⟨.inr ?_, fun j y hj hy => ?_⟩
    · rcases h1 with ⟨rfl, rfl, rfl⟩ | h1
      · omega
      · exact h1
    · by_cases he : j = k
      · subst he; rw [hk] at hy; obtain rfl := Option.some.inj hy; exact hb
      · exact h2 j y (by omega) hy
theorem BestR.done {A T L : List Int} {b t : Int} (h : BestR A L A.length b t) (hT : Tally A T L) : b = usualL L := by
  refine Usual.unique (L := L) ?_ (usual_usualL L)
  obtain ⟨h1, h2⟩ := h
  have hin : ∀ n ∈ L, ∃ j, A[j]? = some n ∧ j < A.length := fun n hn => by
    obtain ⟨j, hj, he⟩ := List.getElem_of_mem ((hT.mem n).2 hn)
    exact ⟨j, by rw [List.getElem?_eq_getElem hj, he], hj⟩
  rcases h1 with ⟨rfl, rfl, h3⟩ | ⟨h1, rfl⟩
  · refine .inl ⟨?_, rfl⟩
    cases L with
    | nil => rfl
    | cons x L =>
      obtain ⟨j, _, hj⟩ := hin x (by simp)
      omega
  · refine .inr ⟨h1, fun n hn => ?_⟩
    obtain ⟨j, hj, hl⟩ := hin n hn
    have := h2 j n hl hj
    omega
end Go.Proofs.Ytkfakkonlnjckaa
