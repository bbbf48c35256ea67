/- What is put is taken: plain laws. -/
import Derived.Test.YtkfakkonlnjckaaTakeA
namespace Go.Proofs.Ytkfakkonlnjckaa
open Go.RowKit

theorem takeL_put : ∀ (m k acc : Nat) (rest : List Int), acc + m * 128 ^ k < 4294967296 → k + (putL m).length ≤ 5 → (m ≠ 0 ∨ k = 0) →
    takeL k acc (putL m ++ rest) = some (acc + m * 128 ^ k, k + (putL m).length) := by
  intro m
  induction m using Nat.strongRecOn with
  | _ m ih =>
    intro k acc rest hlt hl hm
    by_cases h : m < 128
    · rw [putL_small h] at hl ⊢
      simp only [List.length_singleton] at hl
      rw [List.singleton_append, takeL, if_neg (by omega), if_neg (by omega), Int.toNat_natCast, Nat.mod_eq_of_lt h, if_neg (by rintro (h1 | h1) <;> omega)]
      rfl
    · rw [putL_big (by omega)] at hl ⊢
      simp only [List.length_cons] at hl
      have e1 : (((m % 128 + 128 : Nat) : Int)).toNat % 128 = m % 128 := by omega
      rw [List.cons_append, takeL, if_neg (by omega), if_pos (by omega), e1]
      have e2 : acc + m % 128 * 128 ^ k + m / 128 * 128 ^ (k + 1) = acc + m * 128 ^ k := by
        rw [Nat.pow_succ, Nat.mul_comm (128 ^ k) 128, ← Nat.mul_assoc, Nat.add_assoc, ← Nat.add_mul]
        congr 2
        omega
      rw [ih (m / 128) (by omega) (k + 1) _ rest (by rw [e2]; exact hlt) (by omega) (.inl (by omega)), e2, List.length_cons]
      congr 2
      omega
theorem takeL_cut : ∀ (m i k acc : Nat), i < (putL m).length → takeL k acc ((putL m).take i) = none := by
  intro m
  induction m using Nat.strongRecOn with
  | _ m ih =>
    intro i k acc hi
    cases i with
    | zero => rfl
    | succ i =>
      by_cases h : m < 128
      · rw [putL_small h] at hi
        simp at hi
      · rw [putL_big (by omega)] at hi ⊢
        simp only [List.length_cons] at hi
        rw [List.take_succ_cons, takeL]
        split
        · rfl
        · rw [if_pos (by omega)]
          exact ih (m / 128) (by omega) i _ _ (by omega)
theorem putL_mono : ∀ (n m : Nat), n ≤ m → (putL n).length ≤ (putL m).length := by
  intro n
  induction n using Nat.strongRecOn with
  | _ n ih =>
    intro m hm
    by_cases h : n < 128
    · rw [putL_small h]
      exact putL_pos m
    · rw [putL_big (n := n) (by omega), putL_big (n := m) (by omega)]
      have := ih (n / 128) (by omega) (m / 128) (by omega)
      simp only [List.length_cons]
      omega
theorem putL_inj : ∀ (n m : Nat), putL n = putL m → n = m := by
  intro n
  induction n using Nat.strongRecOn with
  | _ n ih =>
    intro m he
    by_cases h : n < 128
    · rw [putL_small h] at he
      by_cases h' : m < 128
      · rw [putL_small h'] at he
        simp at he
        omega
      · rw [putL_big (by omega)] at he
        simp only [List.cons.injEq] at he
        have := putL_pos (m / 128)
        rw [← he.2] at this
        simp at this
    · rw [putL_big (n := n) (by omega)] at he
      by_cases h' : m < 128
      · rw [putL_small h'] at he
        simp only [List.cons.injEq] at he
        have := putL_pos (n / 128)
        rw [he.2] at this
        simp at this
      · rw [putL_big (n := m) (by omega)] at he
        simp only [List.cons.injEq] at he
        have := ih (n / 128) (by omega) (m / 128) he.2
        omega
theorem takeL_whole {n : Nat} (hn : n < 4294967296) (rest : List Int) : takeL 0 0 (putL n ++ rest) = some (n, (putL n).length) := by
  have := takeL_put n 0 0 rest (by simpa using hn) (by have := putL_len5 hn; omega) (.inr rfl)
  simpa using this
end Go.Proofs.Ytkfakkonlnjckaa
