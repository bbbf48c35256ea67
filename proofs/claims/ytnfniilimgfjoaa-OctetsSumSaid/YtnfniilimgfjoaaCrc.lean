/- The sum of bytes tells one byte from another: a plain law. -/
import Derived.Test.YtnfniilimgfjoaaSeal
import Derived.Lib.EndianBits
namespace Go.Proofs.Ytnfniilimgfjoaa
open Go.RowKit

theorem xor_nat (k : IntKind) (j : Nat) (hj : j ≤ k.bits) (hk : ∀ n : Int, 0 ≤ n → n < 2 ^ j → k.wrap n = n) (a b : Nat) (ha : a < 2 ^ j) (hb : b < 2 ^ j) : bits .xor k a b = ((a ^^^ b : Nat) : Int) := by
  have hp : 2 ^ j ≤ 2 ^ k.bits := Nat.pow_le_pow_right (by decide) hj
  have ha' : a % 2 ^ k.bits = a := Nat.mod_eq_of_lt (Nat.lt_of_lt_of_le ha hp)
  have hb' : b % 2 ^ k.bits = b := Nat.mod_eq_of_lt (Nat.lt_of_lt_of_le hb hp)
  have cast : ∀ n : Nat, n < 2 ^ j → ((n : Nat) : Int) < 2 ^ j := fun n h => by exact_mod_cast h
  simp only [bits, BitVec.ofInt_natCast, BitVec.toNat_xor, BitVec.toNat_ofNat, ha', hb']
  exact hk _ (Int.natCast_nonneg _) (cast _ (Nat.xor_lt_two_pow ha hb))
theorem xor32 (a b : Nat) (ha : a < 4294967296) (hb : b < 4294967296) : bits .xor .u32 a b = ((a ^^^ b : Nat) : Int) := xor_nat .u32 32 (by decide) wraps_u32 a b ha hb
theorem xor8 (a b : Nat) (ha : a < 256) (hb : b < 256) : bits .xor .u8 a b = ((a ^^^ b : Nat) : Int) := xor_nat .u8 8 (by decide) wraps_u8 a b ha hb
theorem xor_left {a b c : Nat} (h : a ^^^ b = a ^^^ c) : b = c := by
  have := congrArg (fun x => a ^^^ x) h
  simpa [← Nat.xor_assoc] using this
theorem xor_right {a b c : Nat} (h : a ^^^ c = b ^^^ c) : a = b := by
  rw [Nat.xor_comm a c, Nat.xor_comm b c] at h
  exact xor_left h

/-- Which byte has an entry that begins so. -/
def invL : List Nat := [0, 65, 195, 130, 134, 199, 69, 4, 77, 12, 142, 207, 203, 138, 8, 73, 154, 219, 89, 24, 28, 93, 223, 158, 215, 150, 20, 85, 81, 16, 146, 211, 117, 52, 182, 247, 243, 178, 48, 113, 56, 121, 251, 186, 190, 255, 125, 60, 239, 174, 44, 109, 105, 40, 170, 235, 162, 227, 97, 32, 36, 101, 231, 166, 234, 171, 41, 104, 108, 45, 175, 238, 167, 230, 100, 37, 33, 96, 226, 163, 112, 49, 179, 242, 246, 183, 53, 116, 61, 124, 254, 191, 187, 250, 120, 57, 159, 222, 92, 29, 25, 88, 218, 155, 210, 147, 17, 80, 84, 21, 151, 214, 5, 68, 198, 135, 131, 194, 64, 1, 72, 9, 139, 202, 206, 143, 13, 76, 149, 212, 86, 23, 19, 82, 208, 145, 216, 153, 27, 90, 94, 31, 157, 220, 15, 78, 204, 141, 137, 200, 74, 11, 66, 3, 129, 192, 196, 133, 7, 70, 224, 161, 35, 98, 102, 39, 165, 228, 173, 236, 110, 47, 43, 106, 232, 169, 122, 59, 185, 248, 252, 189, 63, 126, 55, 118, 244, 181, 177, 240, 114, 51, 127, 62, 188, 253, 249, 184, 58, 123, 50, 115, 241, 176, 180, 245, 119, 54, 229, 164, 38, 103, 99, 34, 160, 225, 168, 233, 107, 42, 46, 111, 237, 172, 10, 75, 201, 136, 140, 205, 79, 14, 71, 6, 132, 197, 193, 128, 2, 67, 144, 209, 83, 18, 22, 87, 213, 148, 221, 156, 30, 95, 91, 26, 152, 217]
theorem tab_inv : ∀ i : Fin 256, 0 ≤ tabI i.val ∧ tabI i.val < 4294967296 ∧ invL[(tabI i.val).toNat / 16777216]? = some i.val := by decide +kernel
/-- An entry, as a number. -/
theorem tab_nat {i : Nat} (hi : i < 256) : ∃ t : Nat, tabI i = t ∧ t < 4294967296 ∧ invL[t / 16777216]? = some i := by
  obtain ⟨h1, h2, h3⟩ := tab_inv ⟨i, hi⟩
  exact ⟨(tabI i).toNat, by simp only at h1; omega, by simp only at h2; omega, h3⟩

theorem ofStep_nat {y c : Nat} (hy : y < 4294967296) (hc : c < 256) : ∃ t : Nat, tabI (y % 256 ^^^ c) = t ∧ ofStep y c = ((y / 256 ^^^ t : Nat) : Int) ∧ t < 4294967296 ∧ invL[t / 16777216]? = some (y % 256 ^^^ c) := by
  have hx : y % 256 ^^^ c < 256 := Nat.xor_lt_two_pow (n := 8) (Nat.mod_lt _ (by omega)) hc
  obtain ⟨t, ht, ht2, ht3⟩ := tab_nat hx
  refine ⟨t, ht, ?_, ht2, ht3⟩
  unfold ofStep
  rw [show ((y : Int) % 256) = ((y % 256 : Nat) : Int) by omega, show ((y : Int) / 256) = ((y / 256 : Nat) : Int) by omega, xor8 _ _ (Nat.mod_lt _ (by omega)) hc, Int.toNat_natCast, ht, xor32 _ _ (by omega) ht2]
/-- One byte more tells what was. -/
theorem ofStep_inj {y1 y2 c1 c2 : Nat} (h1 : y1 < 4294967296) (h2 : y2 < 4294967296) (hc1 : c1 < 256) (hc2 : c2 < 256) (h : ofStep y1 c1 = ofStep y2 c2) : y1 / 256 = y2 / 256 ∧ y1 % 256 ^^^ c1 = y2 % 256 ^^^ c2 := by
  obtain ⟨t1, a1, e1, b1, i1⟩ := ofStep_nat h1 hc1
  obtain ⟨t2, a2, e2, b2, i2⟩ := ofStep_nat h2 hc2
  rw [e1, e2] at h
  have h' : y1 / 256 ^^^ t1 = y2 / 256 ^^^ t2 := by exact_mod_cast h
  have top := congrArg (fun x => x / 2 ^ 24) h'
  simp only [Nat.xor_div_two_pow] at top
  have z1 : y1 / 256 / 2 ^ 24 = 0 := by omega
  have z2 : y2 / 256 / 2 ^ 24 = 0 := by omega
  rw [z1, z2, Nat.zero_xor, Nat.zero_xor, show (2 : Nat) ^ 24 = 16777216 from rfl] at top
  rw [top] at i1
  have hi := Option.some.inj (i1.symm.trans i2)
  have ht : t1 = t2 := by
    rw [hi, a2] at a1
    exact_mod_cast a1.symm
  subst ht
  exact ⟨xor_right h', hi⟩

/-- In the range of 32 bits. -/
theorem ofStep_range (y c : Int) : 0 ≤ ofStep y c ∧ ofStep y c ≤ 4294967295 := bounds_u32 (wf_bits BinOp.xor IntKind.u32 _ _)
theorem foldl_range (Z : List Int) (y : Int) (hy : 0 ≤ y ∧ y ≤ 4294967295) : 0 ≤ Z.foldl ofStep y ∧ Z.foldl ofStep y ≤ 4294967295 := by
  induction Z generalizing y with
  | nil => exact hy
  | cons z Z ih => exact ih _ (ofStep_range y z)
/-- The same byte keeps two numbers apart; another byte parts them. -/
theorem step_state {y1 y2 c : Int} (h1 : 0 ≤ y1 ∧ y1 ≤ 4294967295) (h2 : 0 ≤ y2 ∧ y2 ≤ 4294967295) (hc : Byte c) (h : ofStep y1 c = ofStep y2 c) : y1 = y2 := by
  obtain ⟨a, rfl⟩ := Int.eq_ofNat_of_zero_le h1.1
  obtain ⟨b, rfl⟩ := Int.eq_ofNat_of_zero_le h2.1
  obtain ⟨d, rfl⟩ := Int.eq_ofNat_of_zero_le hc.1
  have hd := hc.2
  obtain ⟨e1, e2⟩ := ofStep_inj (y1 := a) (y2 := b) (c1 := d) (c2 := d) (by omega) (by omega) (by omega) (by omega) h
  have e3 := xor_right e2
  omega
theorem step_byte {y c1 c2 : Int} (h1 : 0 ≤ y ∧ y ≤ 4294967295) (hc1 : Byte c1) (hc2 : Byte c2) (h : ofStep y c1 = ofStep y c2) : c1 = c2 := by
  obtain ⟨a, rfl⟩ := Int.eq_ofNat_of_zero_le h1.1
  obtain ⟨d, rfl⟩ := Int.eq_ofNat_of_zero_le hc1.1
  obtain ⟨f, rfl⟩ := Int.eq_ofNat_of_zero_le hc2.1
  have hd := hc1.2
  have hf := hc2.2
  obtain ⟨_, e2⟩ := ofStep_inj (y1 := a) (y2 := a) (c1 := d) (c2 := f) (by omega) (by omega) (by omega) (by omega) h
  rw [xor_left e2]
theorem foldl_state {Z : List Int} (hZ : ∀ a ∈ Z, Byte a) {y1 y2 : Int} (h1 : 0 ≤ y1 ∧ y1 ≤ 4294967295) (h2 : 0 ≤ y2 ∧ y2 ≤ 4294967295) (h : Z.foldl ofStep y1 = Z.foldl ofStep y2) : y1 = y2 := by
  induction Z generalizing y1 y2 with
  | nil => exact h
  | cons z Z ih => exact step_state h1 h2 (hZ z (by simp)) (ih (fun a ha => hZ a (by simp [ha])) (ofStep_range _ _) (ofStep_range _ _) h)
theorem ofI_inj {Z Z' : List Int} (h : ofI Z = ofI Z') : ofFold Z = ofFold Z' := by
  have r : ∀ X : List Int, 0 ≤ ofFold X ∧ ofFold X ≤ 4294967295 := fun X => foldl_range X _ ⟨by omega, by omega⟩
  obtain ⟨a, ha⟩ := Int.eq_ofNat_of_zero_le (r Z).1
  obtain ⟨b, hb⟩ := Int.eq_ofNat_of_zero_le (r Z').1
  have ra := (r Z).2
  have rb := (r Z').2
  unfold ofI at h
  rw [ha] at h ra ⊢
  rw [hb] at h rb ⊢
  have hm : (IntKind.u32.max : Int) = ((4294967295 : Nat) : Int) := by decide
  rw [hm, xor32 _ _ (by omega) (by omega), xor32 _ _ (by omega) (by omega)] at h
  have h' : 4294967295 ^^^ a = 4294967295 ^^^ b := by exact_mod_cast h
  rw [xor_left h']
/-- Another byte, another sum. -/
theorem ofI_set {Z : List Int} (hZ : ∀ a ∈ Z, Byte a) {k : Nat} {z y : Int} (hk : Z[k]? = some z) (hy : Byte y) (hne : y ≠ z) : ofI (Z.set k y) ≠ ofI Z := by
  intro h
  have h := ofI_inj h
  have hlt := (List.getElem?_eq_some_iff.1 hk).1
  have e1 : Z = Z.take k ++ z :: Z.drop (k + 1) := by
    have h1 := List.take_append_drop k Z
    rw [List.drop_eq_getElem_cons hlt, (List.getElem?_eq_some_iff.1 hk).2] at h1
    exact h1.symm
  have e2 : Z.set k y = Z.take k ++ y :: Z.drop (k + 1) := by rw [List.set_eq_take_append_cons_drop, if_pos hlt]
  have e3 : ofFold Z = (Z.drop (k + 1)).foldl ofStep (ofStep ((Z.take k).foldl ofStep 4294967295) z) := by
    have := congrArg ofFold e1
    rw [this]
    unfold ofFold
    rw [List.foldl_append, List.foldl_cons]
  rw [e3] at h
  unfold ofFold at h
  rw [e2, List.foldl_append, List.foldl_cons] at h
  have h2 := foldl_state (fun a ha => hZ a (List.mem_of_mem_drop ha)) (ofStep_range _ _) (ofStep_range _ _) h
  exact hne (step_byte (foldl_range _ _ ⟨by omega, by omega⟩) hy (hZ z (List.mem_of_getElem? hk)) h2)
theorem fourL_inj {n m : Int} (h : fourL n = fourL m) : n = m := by
  simp only [fourL, List.cons.injEq] at h
  omega
end Go.Proofs.Ytnfniilimgfjoaa
