/- The number that bytes begin with: octets.Take. -/
import Derived.Test.YtkfakkonlnjckaaPutB
import Derived.Lib.VarintBits
namespace Go.Proofs.Ytkfakkonlnjckaa
open Go.RowKit

/-- The number that bytes begin with, and how many bytes it has: from the byte number i on, acc the number so far. -/
def takeL : Nat → Nat → List Int → Option (Nat × Nat)
  | _, _, [] => none
  | i, acc, c :: l => if 5 ≤ i then none else if 128 ≤ c then takeL (i + 1) (acc + c.toNat % 128 * 128 ^ i) l
    else if (c = 0 ∧ 0 < i) ∨ 4294967295 < acc + c.toNat % 128 * 128 ^ i then none else some (acc + c.toNat % 128 * 128 ^ i, i + 1)
def takeV : Option (Nat × Nat) → Value
  | none => .tuple #[.int .u32 0, .int .i64 0, .int .i64 4]
  | some (n, s) => .tuple #[.int .u32 n, .int .i64 s, .int .i64 0]

theorem takeL_end (i acc : Nat) (Z : List Int) (h : Z = [] ∨ 5 ≤ i) : takeL i acc Z = none := by
  cases Z with
  | nil => rfl
  | cons c l =>
    unfold takeL
    rw [if_pos (by rcases h with h | h; · cases h
                   · exact h)]

theorem andNotF : ∀ k : Fin 256, bits BinOp.andNot IntKind.u8 (k.val : Int) 128 = ((k.val % 128 : Nat) : Int) := by decide +kernel
theorem step_or (k acc : Nat) (z : Int) (hk : k < 5) (hacc : acc < 128 ^ k) (hz : Byte z) :
    bits BinOp.or IntKind.u64 (acc : Int) (IntKind.u64.wrap (IntKind.u64.wrap (bits BinOp.andNot IntKind.u8 z 128) * 2 ^ (7 * k))) = ((acc + z.toNat % 128 * 128 ^ k : Nat) : Int) := by
  obtain ⟨h0, h1⟩ := hz
  obtain ⟨n, rfl⟩ := Int.eq_ofNat_of_zero_le h0
  have e1 := andNotF ⟨n, by omega⟩
  simp only at e1
  have e1' : bits BinOp.andNot IntKind.u8 (Int.ofNat n) 128 = ((n % 128 : Nat) : Int) := e1
  have hw : ∀ m : Nat, m < 18446744073709551616 → IntKind.u64.wrap (m : Int) = m := fun m hm => by
    simp [IntKind.wrap, IntKind.bits, IntKind.signed]
    omega
  rw [show ((n : Nat) : Int) = Int.ofNat n from rfl, e1', hw _ (by omega), show (Int.ofNat n).toNat = n from rfl]
  have hm : n % 128 < 128 := Nat.mod_lt _ (by omega)
  generalize n % 128 = m at *
  match k, hk with
  | 0, _ =>
    rw [show ((m : Nat) : Int) * 2 ^ (7 * 0) = ((m : Nat) : Int) by simp, hw _ (by omega)]
    refine (u64_orv0 (acc : Int) _ (by omega) (by simp at hacc; omega) (by omega) (by omega) (by omega)).trans ?_
    simp
  | 1, _ =>
    rw [show ((m : Nat) : Int) * 2 ^ (7 * 1) = ((m * 128 : Nat) : Int) by simp, hw _ (by omega)]
    refine (u64_orv7 (acc : Int) _ (by omega) (by simp at hacc; omega) (by omega) (by omega) (by omega)).trans ?_
    simp
  | 2, _ =>
    rw [show ((m : Nat) : Int) * 2 ^ (7 * 2) = ((m * 16384 : Nat) : Int) by simp, hw _ (by omega)]
    refine (u64_orv14 (acc : Int) _ (by omega) (by simp at hacc; omega) (by omega) (by omega) (by omega)).trans ?_
    simp
  | 3, _ =>
    rw [show ((m : Nat) : Int) * 2 ^ (7 * 3) = ((m * 2097152 : Nat) : Int) by simp, hw _ (by omega)]
    refine (u64_orv21 (acc : Int) _ (by omega) (by simp at hacc; omega) (by omega) (by omega) (by omega)).trans ?_
    simp
  | 4, _ =>
    rw [show ((m : Nat) : Int) * 2 ^ (7 * 4) = ((m * 268435456 : Nat) : Int) by simp, hw _ (by omega)]
    refine (u64_orv28 (acc : Int) _ (by omega) (by simp at hacc; omega) (by omega) (by omega) (by omega)).trans ?_
    simp

theorem acc_lt {k acc : Nat} {z : Int} (hacc : acc < 128 ^ k) : acc + z.toNat % 128 * 128 ^ k < 128 ^ (k + 1) := by
  have h1 : z.toNat % 128 < 128 := Nat.mod_lt _ (by omega)
  rw [Nat.pow_succ, Nat.mul_comm (128 ^ k) 128]
  have h2 : z.toNat % 128 * 128 ^ k ≤ 127 * 128 ^ k := Nat.mul_le_mul_right _ (by omega)
  omega
theorem takeL_step {k acc : Nat} {Z : List Int} {z : Int} (hz : Z[k]? = some z) (hk : k < 5) :
    takeL k acc (Z.drop k) = if 128 ≤ z then takeL (k + 1) (acc + z.toNat % 128 * 128 ^ k) (Z.drop (k + 1))
      else if (z = 0 ∧ 0 < k) ∨ 4294967295 < acc + z.toNat % 128 * 128 ^ k then none else some (acc + z.toNat % 128 * 128 ^ k, k + 1) := by
  have h1 := (List.getElem?_eq_some_iff.1 hz).1
  rw [List.drop_eq_getElem_cons h1, (List.getElem?_eq_some_iff.1 hz).2, takeL, if_neg (by omega)]

set_option maxRecDepth 100000 in
set_option maxHeartbeats 2000000 in
theorem take_any (Z : List Int) (a : Option Addr) (g o c : Nat) (w : World) (hz : BytesAt w g o Z) (ha : 0 < Z.length → a = some ⟨g, o, none⟩) (hc : Z.length ≤ c) (hl : Z.length ≤ 100000000) :
    Calls Try.prog 71 #[.slice a Z.length c] w fun e w' => e = .returned (takeV (takeL 0 0 Z)) ∧ Chg (fun _ => False) w w' := by
  have HZ := Lib.hid hz
  have HA := Lib.hid ha
  clear hz ha
  by_cases h5 : Z.length ≤ 5
  · go_enter Try.func71, Try.ntmps71
    go_wp2
    go_loopw [5, 14] (fun q i wr => ∃ (k acc : Nat), k ≤ Z.length ∧ i = .int .i64 k ∧ q = .int .u64 acc ∧ acc < 128 ^ k ∧ takeL 0 0 Z = takeL k acc (Z.drop k) ∧ Chg (fun _ => False) w wr) (fun _ i _ => Z.length - (intOf i).toNat)
    case atStart => exact ⟨0, 0, by omega, rfl, rfl, by simp, by simp, Chg.refl _ _⟩
    case round =>
      obtain ⟨k, acc, hk, rfl, rfl, hacc, he, hc⟩ := hrel
      have HE := Lib.hid he
      have HC := Lib.hid hc
      clear he hc
      by_cases hkl : k < Z.length
      · have b15 : decide ((k : Int) < ((Z.length : Nat) : Int)) = true := by simp; omega
        obtain ⟨z, hz, c1, z0, z1⟩ := (HZ.out.chg HC.out (fun _ h => h)).get (k := k) (by omega)
        have e1 := HA.out (by omega)
        subst e1
        have HZG := Lib.hid hz
        obtain ⟨A, hA⟩ : ∃ A : Int, bits BinOp.or IntKind.u64 (acc : Int) (IntKind.u64.wrap (IntKind.u64.wrap (bits BinOp.andNot IntKind.u8 z 128) * 2 ^ (7 * k))) = A := ⟨_, rfl⟩
        have HAV : Hid (A = ((acc + z.toNat % 128 * 128 ^ k : Nat) : Int)) := Lib.hid (by rw [← hA]; exact step_or k acc z (by omega) hacc ⟨z0, z1⟩)
        have HT := Lib.hid (HE.out.trans (takeL_step hz (by omega)))
        have HL := Lib.hid (acc_lt (z := z) hacc)
        clear hz hacc HE
        by_cases h128 : 128 ≤ z
        · rw [if_pos h128] at HT
          go_wp2
          rw [HAV.out]
          go_roundw
          case rel => exact ⟨k + 1, _, by omega, by go_num, rfl, HL.out, HT.out, HC.out⟩
          case measure => simp [intOf]; omega
        · rw [if_neg h128] at HT
          by_cases h0 : z = 0 ∧ 0 < k
          · obtain ⟨h0, hk0⟩ := h0
            rw [if_pos (.inl ⟨h0, hk0⟩)] at HT
            have q1 : (z == 0) = true := by simpa using h0
            have q2 : decide (0 < (k : Int)) = true := by simp; omega
            clear h0
            go_wp2
            go_ret3
            exact ⟨by rw [HT.out]; rfl, HC.out⟩
          · by_cases hmax : 4294967295 < acc + z.toNat % 128 * 128 ^ k
            · rw [if_pos (.inr hmax)] at HT
              have q3 : decide (4294967295 < A) = true := by rw [HAV.out]; simp only [decide_eq_true_eq]; omega
              clear hmax
              by_cases hz0 : z = 0
              · have q1 : (z == 0) = true := by simpa using hz0
                have q2 : decide (0 < (k : Int)) = false := by simp; omega
                have q5 : ¬ 0 < k := by omega
                clear hz0 h0
                go_wp2
                go_ret3
                exact ⟨by rw [HT.out]; rfl, HC.out⟩
              · have q1 : (z == 0) = false := by simpa using hz0
                clear hz0 h0
                go_wp2
                go_ret3
                exact ⟨by rw [HT.out]; rfl, HC.out⟩
            · rw [if_neg (by rintro (h | h); · exact h0 h
                             · exact hmax h)] at HT
              have q3 : decide (4294967295 < A) = false := by rw [HAV.out]; simp only [decide_eq_false_iff_not]; omega
              have q4 : A % 4294967296 = A := by rw [HAV.out]; omega
              clear hmax
              by_cases hz0 : z = 0
              · have q1 : (z == 0) = true := by simpa using hz0
                have q2 : decide (0 < (k : Int)) = false := by simp; omega
                have q5 : ¬ 0 < k := by omega
                clear hz0 h0
                go_wp2
                go_ret3
                exact ⟨by rw [HT.out, HAV.out]; rfl, HC.out⟩
              · have q1 : (z == 0) = false := by simpa using hz0
                clear hz0 h0
                go_wp2
                go_ret3
                exact ⟨by rw [HT.out, HAV.out]; rfl, HC.out⟩
      · have HT : Hid (takeL 0 0 Z = none) := Lib.hid (by rw [HE.out]; exact takeL_end _ _ _ (by first | (right; omega) | (left; exact List.drop_eq_nil_of_le (by omega))))
        obtain rfl : k = Z.length := by omega
        go_wp2
        go_ret3
        exact ⟨by rw [HT.out]; rfl, HC.out⟩
  · go_enter Try.func71, Try.ntmps71
    go_wp2
    go_loopw [5, 14] (fun q i wr => ∃ (k acc : Nat), k ≤ 5 ∧ i = .int .i64 k ∧ q = .int .u64 acc ∧ acc < 128 ^ k ∧ takeL 0 0 Z = takeL k acc (Z.drop k) ∧ Chg (fun _ => False) w wr) (fun _ i _ => 5 - (intOf i).toNat)
    case atStart => exact ⟨0, 0, by omega, rfl, rfl, by simp, by simp, Chg.refl _ _⟩
    case round =>
      obtain ⟨k, acc, hk, rfl, rfl, hacc, he, hc⟩ := hrel
      have HE := Lib.hid he
      have HC := Lib.hid hc
      clear he hc
      by_cases hkl : k < 5
      · have b15 : decide ((k : Int) < ((5 : Nat) : Int)) = true := by simp; omega
        obtain ⟨z, hz, c1, z0, z1⟩ := (HZ.out.chg HC.out (fun _ h => h)).get (k := k) (by omega)
        have e1 := HA.out (by omega)
        subst e1
        have HZG := Lib.hid hz
        obtain ⟨A, hA⟩ : ∃ A : Int, bits BinOp.or IntKind.u64 (acc : Int) (IntKind.u64.wrap (IntKind.u64.wrap (bits BinOp.andNot IntKind.u8 z 128) * 2 ^ (7 * k))) = A := ⟨_, rfl⟩
        have HAV : Hid (A = ((acc + z.toNat % 128 * 128 ^ k : Nat) : Int)) := Lib.hid (by rw [← hA]; exact step_or k acc z (by omega) hacc ⟨z0, z1⟩)
        have HT := Lib.hid (HE.out.trans (takeL_step hz (by omega)))
        have HL := Lib.hid (acc_lt (z := z) hacc)
        clear hz hacc HE
        by_cases h128 : 128 ≤ z
        · rw [if_pos h128] at HT
          go_wp2
          rw [HAV.out]
          go_roundw
          case rel => exact ⟨k + 1, _, by omega, by go_num, rfl, HL.out, HT.out, HC.out⟩
          case measure => simp [intOf]; omega
        · rw [if_neg h128] at HT
          by_cases h0 : z = 0 ∧ 0 < k
          · obtain ⟨h0, hk0⟩ := h0
            rw [if_pos (.inl ⟨h0, hk0⟩)] at HT
            have q1 : (z == 0) = true := by simpa using h0
            have q2 : decide (0 < (k : Int)) = true := by simp; omega
            clear h0
            go_wp2
            go_ret3
            exact ⟨by rw [HT.out]; rfl, HC.out⟩
          · by_cases hmax : 4294967295 < acc + z.toNat % 128 * 128 ^ k
            · rw [if_pos (.inr hmax)] at HT
              have q3 : decide (4294967295 < A) = true := by rw [HAV.out]; simp only [decide_eq_true_eq]; omega
              clear hmax
              by_cases hz0 : z = 0
              · have q1 : (z == 0) = true := by simpa using hz0
                have q2 : decide (0 < (k : Int)) = false := by simp; omega
                have q5 : ¬ 0 < k := by omega
                clear hz0 h0
                go_wp2
                go_ret3
                exact ⟨by rw [HT.out]; rfl, HC.out⟩
              · have q1 : (z == 0) = false := by simpa using hz0
                clear hz0 h0
                go_wp2
                go_ret3
                exact ⟨by rw [HT.out]; rfl, HC.out⟩
            · rw [if_neg (by rintro (h | h); · exact h0 h
                             · exact hmax h)] at HT
              have q3 : decide (4294967295 < A) = false := by rw [HAV.out]; simp only [decide_eq_false_iff_not]; omega
              have q4 : A % 4294967296 = A := by rw [HAV.out]; omega
              clear hmax
              by_cases hz0 : z = 0
              · have q1 : (z == 0) = true := by simpa using hz0
                have q2 : decide (0 < (k : Int)) = false := by simp; omega
                have q5 : ¬ 0 < k := by omega
                clear hz0 h0
                go_wp2
                go_ret3
                exact ⟨by rw [HT.out, HAV.out]; rfl, HC.out⟩
              · have q1 : (z == 0) = false := by simpa using hz0
                clear hz0 h0
                go_wp2
                go_ret3
                exact ⟨by rw [HT.out, HAV.out]; rfl, HC.out⟩
      · have HT : Hid (takeL 0 0 Z = none) := Lib.hid (by rw [HE.out]; exact takeL_end _ _ _ (by first | (right; omega) | (left; exact List.drop_eq_nil_of_le (by omega))))
        obtain rfl : k = 5 := by omega
        go_wp2
        go_ret3
        exact ⟨by rw [HT.out]; rfl, HC.out⟩
end Go.Proofs.Ytkfakkonlnjckaa
