/- The table's way and the bits' way to a sum of bytes are one: a plain law. -/
import Derived.Test.YtnfniilimgfjoaaCrc
namespace Go.Proofs.Ytnfniilimgfjoaa
open Go.RowKit

/-- A bit goes out. -/
def stepN (y : Nat) : Nat := (y / 2) ^^^ (if y % 2 = 1 then 3988292384 else 0)
def iterN : Nat → Nat → Nat
  | 0, y => y
  | j + 1, y => stepN (iterN j y)
theorem stepN_lt {y : Nat} (h : y < 4294967296) : stepN y < 4294967296 := Nat.xor_lt_two_pow (n := 32) (by omega) (by split <;> decide)
theorem stepI_nat {y : Nat} (h : y < 4294967296) : stepI y = (stepN y : Nat) := by
  have h1 : bits BinOp.and IntKind.u32 (y : Int) 1 = ((y % 2 : Nat) : Int) := by
    have := (bits_nat .u32 32 (by decide) wraps_u32 y 1 (by omega) (by decide)).1
    rw [Nat.and_one_is_mod] at this
    exact this
  unfold stepI stepN
  rw [h1, show ((y : Int) / 2) = ((y / 2 : Nat) : Int) by omega]
  rcases Nat.mod_two_eq_zero_or_one y with h2 | h2
  · rw [h2, if_neg (by omega)]
    exact xor32 _ 0 (by omega) (by omega)
  · rw [h2, if_pos rfl]
    exact xor32 _ 3988292384 (by omega) (by omega)
theorem iterI_nat (j : Nat) {y : Nat} (h : y < 4294967296) : iterI j y = (iterN j y : Nat) ∧ iterN j y < 4294967296 := by
  induction j with
  | zero => exact ⟨rfl, h⟩
  | succ j ih =>
    refine ⟨?_, stepN_lt ih.2⟩
    show stepI (iterI j y) = _
    rw [ih.1, stepI_nat ih.2]
    rfl
theorem stepN_xor (a b : Nat) : stepN (a ^^^ b) = stepN a ^^^ stepN b := by
  unfold stepN
  have hd : (a ^^^ b) / 2 = a / 2 ^^^ b / 2 := Nat.xor_div_two_pow (n := 1)
  have hm : (a ^^^ b) % 2 = a % 2 ^^^ b % 2 := Nat.xor_mod_two_pow (n := 1)
  rw [hd, hm]
  have e : ∀ p q r s : Nat, (p ^^^ r) ^^^ (q ^^^ s) = (p ^^^ q) ^^^ (r ^^^ s) := fun p q r s => by
    rw [Nat.xor_assoc, Nat.xor_assoc, ← Nat.xor_assoc r q s, Nat.xor_comm r q, Nat.xor_assoc q r s]
  rw [e]
  congr 1
  rcases Nat.mod_two_eq_zero_or_one a with h1 | h1 <;> rcases Nat.mod_two_eq_zero_or_one b with h2 | h2 <;> rw [h1, h2] <;> decide
theorem iterN_xor (j a b : Nat) : iterN j (a ^^^ b) = iterN j a ^^^ iterN j b := by
  induction j with
  | zero => rfl
  | succ j ih =>
    show stepN (iterN j (a ^^^ b)) = _
    rw [ih, stepN_xor]
    rfl
theorem iterN_shift (j m : Nat) : iterN j (2 ^ j * m) = m := by
  induction j generalizing m with
  | zero => simp [iterN]
  | succ j ih =>
    show stepN (iterN j (2 ^ (j + 1) * m)) = m
    rw [Nat.pow_succ, Nat.mul_assoc, ih]
    unfold stepN
    rw [if_neg (by omega), Nat.xor_zero]
    omega
theorem xor_parts (x : Nat) : x = 256 * (x / 256) ^^^ x % 256 := by
  have hd : (256 * (x / 256) ^^^ x % 256) / 256 = (256 * (x / 256)) / 256 ^^^ (x % 256) / 256 := Nat.xor_div_two_pow (n := 8)
  have hm : (256 * (x / 256) ^^^ x % 256) % 256 = (256 * (x / 256)) % 256 ^^^ (x % 256) % 256 := Nat.xor_mod_two_pow (n := 8)
  rw [Nat.mul_div_cancel_left _ (by omega), show x % 256 / 256 = 0 by omega, Nat.xor_zero] at hd
  rw [Nat.mul_mod_right, Nat.zero_xor, Nat.mod_mod] at hm
  have := Nat.div_add_mod (256 * (x / 256) ^^^ x % 256) 256
  rw [hd, hm] at this
  omega
/-- A byte, by the table and by its bits. -/
theorem ofStep_bits {y c : Nat} (hy : y < 4294967296) (hc : c < 256) : ofStep y c = ((iterN 8 (y ^^^ c) : Nat) : Int) := by
  obtain ⟨t, h1, h2, _, _⟩ := ofStep_nat hy hc
  have hx : y % 256 ^^^ c < 256 := Nat.xor_lt_two_pow (n := 8) (Nat.mod_lt _ (by omega)) hc
  have ht : t = iterN 8 (y % 256 ^^^ c) := by
    have := (iterI_nat 8 (y := y % 256 ^^^ c) (by omega)).1
    rw [tabI] at h1
    rw [this] at h1
    exact_mod_cast h1.symm
  rw [h2, ht]
  congr 1
  have hd : (y ^^^ c) / 256 = y / 256 ^^^ c / 256 := Nat.xor_div_two_pow (n := 8)
  have hm : (y ^^^ c) % 256 = y % 256 ^^^ c % 256 := Nat.xor_mod_two_pow (n := 8)
  rw [show c / 256 = 0 by omega, Nat.xor_zero] at hd
  rw [show c % 256 = c by omega] at hm
  conv => rhs; rw [xor_parts (y ^^^ c), iterN_xor, hd, hm]
  rw [show 256 * (y / 256) = 2 ^ 8 * (y / 256) from rfl, iterN_shift]
/-- The sum, by its bits. -/
def foldN (Z : List Int) (y : Nat) : Nat := Z.foldl (fun y c => iterN 8 (y ^^^ c.toNat)) y
theorem foldN_lt (Z : List Int) (hZ : ∀ a ∈ Z, Byte a) (y : Nat) (hy : y < 4294967296) : foldN Z y < 4294967296 ∧ Z.foldl ofStep (y : Int) = (foldN Z y : Nat) := by
  induction Z generalizing y with
  | nil => exact ⟨hy, rfl⟩
  | cons z Z ih =>
    have hz := hZ z (by simp)
    obtain ⟨c, rfl⟩ := Int.eq_ofNat_of_zero_le hz.1
    have hc : c < 256 := by have := hz.2; omega
    have hx : y ^^^ c < 4294967296 := Nat.xor_lt_two_pow (n := 32) hy (by omega)
    have := ih (fun a ha => hZ a (by simp [ha])) (iterN 8 (y ^^^ c)) (iterI_nat 8 hx).2
    refine ⟨this.1, ?_⟩
    rw [List.foldl_cons, ofStep_bits hy hc]
    exact this.2
theorem ofI_bits (Z : List Int) (hZ : ∀ a ∈ Z, Byte a) : ofI Z = ((4294967295 ^^^ foldN Z 4294967295 : Nat) : Int) := by
  have h := foldN_lt Z hZ 4294967295 (by omega)
  unfold ofI ofFold
  have hm : (IntKind.u32.max : Int) = ((4294967295 : Nat) : Int) := by decide
  have h2 : Z.foldl ofStep 4294967295 = (foldN Z 4294967295 : Nat) := h.2
  rw [h2, hm]
  exact xor32 _ _ (by omega) h.1
end Go.Proofs.Ytnfniilimgfjoaa
