/- What a string's bytes at a place decode to, plainly; the document's way (by sizes, one after the other) comes to the same. No program. -/
import Derived.Lib.RuneCountTail
import Derived.Lib.MapLaws
namespace Go.Proofs.YtfhmblbomkhcpaaDoor
open Go.RowKit

/-- Byte j behind place i. -/
def byteN (s : ByteArray) (i j : Nat) : Nat := (s.get! (i + j)).toNat
theorem byteN_lt (s : ByteArray) (i j : Nat) : byteN s i j < 256 := (s.get! (i + j)).toNat_lt
/-- The rune that begins at place i, and how many bytes it has; none: a byte that is no rune's. -/
def decU (s : ByteArray) (i : Nat) : Option (Nat × Nat) :=
  if (Utf8.decode s i).1 = 65533 ∧ (Utf8.decode s i).2 = 1 then none else some (Utf8.decode s i)
theorem decode_byteN (s : ByteArray) (i : Nat) : Utf8.decode s i = Lib.decodeN (s.size - i) (byteN s i 0) (byteN s i 1) (byteN s i 2) (byteN s i 3) := Lib.decode_at s i

/-- The document's number of the first j of k bytes. -/
def partN (s : ByteArray) (i k : Nat) : Nat → Nat
  | 0 => 0
  | 1 => if 1 < k then byteN s i 0 % 2 ^ (7 - k) else byteN s i 0
  | j + 2 => 64 * partN s i k (j + 1) + byteN s i (j + 1) % 64
def encN (n : Nat) : List Nat :=
  if 55296 ≤ n ∧ (n < 57344 ∨ 1114111 < n) then [] else if n < 128 then [n] else if n < 2048 then [192 + n / 64, 128 + n % 64]
  else if n < 65536 then [224 + n / 4096, 128 + n / 64 % 64, 128 + n % 64] else [240 + n / 262144, 128 + n / 4096 % 64, 128 + n / 64 % 64, 128 + n % 64]
def bytesN (s : ByteArray) (i k : Nat) : List Nat := (List.range k).map (byteN s i)
/-- Does it begin there with so many bytes? -/
def fits (s : ByteArray) (i k : Nat) : Prop := encN (partN s i k k) = bytesN s i k

theorem fits_one {s : ByteArray} {i : Nat} : fits s i 1 ↔ byteN s i 0 < 128 := by
  have h0 := byteN_lt s i 0
  have e : bytesN s i 1 = [byteN s i 0] := rfl
  have e2 : partN s i 1 1 = byteN s i 0 := rfl
  unfold fits
  rw [e, e2]
  unfold encN
  constructor
  · intro h
    repeat' (split at h)
    all_goals first | omega | (simp at h; omega) | (simp at h)
  · intro h
    rw [if_neg (by omega), if_pos h]
theorem fits_two {s : ByteArray} {i : Nat} : fits s i 2 ↔ byteN s i 0 / 32 = 6 ∧ byteN s i 1 / 64 = 2 ∧ 128 ≤ byteN s i 0 % 32 * 64 + byteN s i 1 % 64 := by
  have h0 := byteN_lt s i 0
  have h1 := byteN_lt s i 1
  have e : bytesN s i 2 = [byteN s i 0, byteN s i 1] := rfl
  have e2 : partN s i 2 2 = byteN s i 0 % 32 * 64 + byteN s i 1 % 64 := by
    show 64 * (byteN s i 0 % 32) + byteN s i 1 % 64 = _
    omega
  unfold fits
  rw [e, e2]
  generalize byteN s i 0 = b0 at *
  generalize byteN s i 1 = b1 at *
  unfold encN
  constructor
  · intro h
    repeat' (split at h)
    all_goals first | (simp at h; omega) | (simp at h)
  · intro h
    rw [if_neg (by omega), if_neg (by omega), if_pos (by omega)]
    congr 1
    · omega
    · congr 1; omega
theorem fits_three {s : ByteArray} {i : Nat} : fits s i 3 ↔ byteN s i 0 / 16 = 14 ∧ byteN s i 1 / 64 = 2 ∧ byteN s i 2 / 64 = 2 ∧ 2048 ≤ byteN s i 0 % 16 * 4096 + byteN s i 1 % 64 * 64 + byteN s i 2 % 64 ∧ (byteN s i 0 % 16 * 4096 + byteN s i 1 % 64 * 64 + byteN s i 2 % 64 < 55296 ∨ 57344 ≤ byteN s i 0 % 16 * 4096 + byteN s i 1 % 64 * 64 + byteN s i 2 % 64) := by
  have h0 := byteN_lt s i 0
  have h1 := byteN_lt s i 1
  have h2 := byteN_lt s i 2
  have e : bytesN s i 3 = [byteN s i 0, byteN s i 1, byteN s i 2] := rfl
  have e2 : partN s i 3 3 = byteN s i 0 % 16 * 4096 + byteN s i 1 % 64 * 64 + byteN s i 2 % 64 := by
    show 64 * (64 * (byteN s i 0 % 16) + byteN s i 1 % 64) + byteN s i 2 % 64 = _
    omega
  unfold fits
  rw [e, e2]
  generalize byteN s i 0 = b0 at *
  generalize byteN s i 1 = b1 at *
  generalize byteN s i 2 = b2 at *
  unfold encN
  constructor
  · intro h
    repeat' (split at h)
    all_goals first | (simp at h; omega) | (simp at h)
  · intro h
    rw [if_neg (by omega), if_neg (by omega), if_neg (by omega), if_pos (by omega)]
    congr 1
    · omega
    · congr 1
      · omega
      · congr 1; omega
theorem fits_four {s : ByteArray} {i : Nat} : fits s i 4 ↔ byteN s i 0 / 8 = 30 ∧ byteN s i 1 / 64 = 2 ∧ byteN s i 2 / 64 = 2 ∧ byteN s i 3 / 64 = 2 ∧ 65536 ≤ byteN s i 0 % 8 * 262144 + byteN s i 1 % 64 * 4096 + byteN s i 2 % 64 * 64 + byteN s i 3 % 64 ∧ byteN s i 0 % 8 * 262144 + byteN s i 1 % 64 * 4096 + byteN s i 2 % 64 * 64 + byteN s i 3 % 64 ≤ 1114111 := by
  have h0 := byteN_lt s i 0
  have h1 := byteN_lt s i 1
  have h2 := byteN_lt s i 2
  have h3 := byteN_lt s i 3
  have e : bytesN s i 4 = [byteN s i 0, byteN s i 1, byteN s i 2, byteN s i 3] := rfl
  have e2 : partN s i 4 4 = byteN s i 0 % 8 * 262144 + byteN s i 1 % 64 * 4096 + byteN s i 2 % 64 * 64 + byteN s i 3 % 64 := by
    show 64 * (64 * (64 * (byteN s i 0 % 8) + byteN s i 1 % 64) + byteN s i 2 % 64) + byteN s i 3 % 64 = _
    omega
  unfold fits
  rw [e, e2]
  generalize byteN s i 0 = b0 at *
  generalize byteN s i 1 = b1 at *
  generalize byteN s i 2 = b2 at *
  generalize byteN s i 3 = b3 at *
  unfold encN
  constructor
  · intro h
    repeat' (split at h)
    all_goals first | (simp at h; omega) | (simp at h)
  · intro h
    rw [if_neg (by omega), if_neg (by omega), if_neg (by omega), if_neg (by omega)]
    congr 1
    · omega
    · congr 1
      · omega
      · congr 1
        · omega
        · congr 1; omega

theorem part_two (s : ByteArray) (i : Nat) : partN s i 2 2 = byteN s i 0 % 32 * 64 + byteN s i 1 % 64 := by
  show 64 * (byteN s i 0 % 32) + byteN s i 1 % 64 = _
  omega
theorem part_three (s : ByteArray) (i : Nat) : partN s i 3 3 = byteN s i 0 % 16 * 4096 + byteN s i 1 % 64 * 64 + byteN s i 2 % 64 := by
  show 64 * (64 * (byteN s i 0 % 16) + byteN s i 1 % 64) + byteN s i 2 % 64 = _
  omega
theorem part_four (s : ByteArray) (i : Nat) : partN s i 4 4 = byteN s i 0 % 8 * 262144 + byteN s i 1 % 64 * 4096 + byteN s i 2 % 64 * 64 + byteN s i 3 % 64 := by
  show 64 * (64 * (64 * (byteN s i 0 % 8) + byteN s i 1 % 64) + byteN s i 2 % 64) + byteN s i 3 % 64 = _
  omega

/-- It begins there with so many bytes. -/
theorem decU_fits {s : ByteArray} {i k : Nat} (h1 : 1 ≤ k) (h4 : k ≤ 4) (hk : i + k ≤ s.size) (h : fits s i k) : decU s i = some (partN s i k k, k) := by
  have h0 := byteN_lt s i 0
  have key : Lib.decodeN (s.size - i) (byteN s i 0) (byteN s i 1) (byteN s i 2) (byteN s i 3) = (partN s i k k, k) ∧ ¬ (partN s i k k = 65533 ∧ k = 1) := by
    unfold Lib.decodeN
    obtain rfl | rfl | rfl | rfl : k = 1 ∨ k = 2 ∨ k = 3 ∨ k = 4 := by omega
    · have h := fits_one.1 h
      rw [if_pos h]
      exact ⟨rfl, fun hh => by have : partN s i 1 1 = byteN s i 0 := rfl; omega⟩
    · have h := fits_two.1 h
      rw [part_two, if_neg (by omega), if_pos (by omega), if_pos (by omega)]
      exact ⟨rfl, by omega⟩
    · have h := fits_three.1 h
      rw [part_three, if_neg (by omega), if_neg (by omega), if_pos (by omega), if_pos (by omega)]
      exact ⟨rfl, by omega⟩
    · have h := fits_four.1 h
      rw [part_four, if_neg (by omega), if_neg (by omega), if_neg (by omega), if_pos (by omega), if_pos (by omega)]
      exact ⟨rfl, by omega⟩
  unfold decU
  rw [decode_byteN, key.1, if_neg key.2]
/-- It does with no size. -/
theorem decU_none {s : ByteArray} {i : Nat} (hi : i < s.size) (h : ∀ k, 1 ≤ k → k ≤ 4 → i + k ≤ s.size → ¬ fits s i k) : decU s i = none := by
  unfold decU
  rw [decode_byteN]
  rcases Lib.decodeN_shape (s.size - i) (byteN s i 0) (byteN s i 1) (byteN s i 2) (byteN s i 3) with ⟨c, e⟩ | ⟨c1, c2, c3, cv, e⟩ | ⟨c1, c2, c3, c4, cv, cs, e⟩ | ⟨c1, c2, c3, c4, c5, cv, cw, e⟩ | e
  · exact absurd (fits_one.2 c) (h 1 (by omega) (by omega) (by omega))
  · exact absurd (fits_two.2 ⟨c1, c3, cv⟩) (h 2 (by omega) (by omega) (by omega))
  · exact absurd (fits_three.2 ⟨c1, c3, c4, cv, cs⟩) (h 3 (by omega) (by omega) (by omega))
  · exact absurd (fits_four.2 ⟨c1, c3, c4, c5, cv, cw⟩) (h 4 (by omega) (by omega) (by omega))
  · rw [e]; rfl
/-- What is known of a rune that begins there. -/
theorem decU_some {s : ByteArray} {i c n : Nat} (hi : i < s.size) (h : decU s i = some (c, n)) : Utf8.decode s i = (c, n) ∧ 1 ≤ n ∧ n ≤ 4 ∧ i + n ≤ s.size ∧ c ≤ 1114111 ∧ ¬ (c = 65533 ∧ n = 1) ∧ (c ≠ 65533 → Lib.runeLen (c : Int) = (n : Int)) := by
  have k0 := byteN_lt s i 0
  have k1 := byteN_lt s i 1
  unfold decU at h
  split at h
  · cases h
  · rename_i hn
    simp only [Option.some.injEq] at h
    rw [h] at hn
    refine ⟨h, ?_⟩
    rw [decode_byteN] at h
    rcases Lib.decodeN_shape (s.size - i) (byteN s i 0) (byteN s i 1) (byteN s i 2) (byteN s i 3) with ⟨c1, e⟩ | ⟨c1, c2, c3, cv, e⟩ | ⟨c1, c2, c3, c4, cv, cs, e⟩ | ⟨c1, c2, c3, c4, c5, cv, cw, e⟩ | e
    all_goals (rw [e] at h; injection h with e1 e2; subst e1 e2)
    all_goals (refine ⟨by omega, by omega, by omega, by omega, hn, fun hc => ?_⟩)
    all_goals (unfold Lib.runeLen)
    all_goals (repeat' split)
    all_goals omega
theorem decU_no {s : ByteArray} {i : Nat} (h : decU s i = none) : Utf8.decode s i = (65533, 1) := by
  unfold decU at h
  split at h
  · rename_i hn
    exact Prod.ext hn.1 hn.2
  · cases h
/-- The text of a rune. -/
def encS (n : Nat) : ByteArray := ⟨((encN n).map UInt8.ofNat).toArray⟩
theorem encN_lt (n : Nat) : ∀ b ∈ encN n, b < 256 := by
  unfold encN
  intro b hb
  repeat' (split at hb)
  all_goals (simp at hb)
  all_goals omega
theorem bytes_eq {l m : List Nat} (hl : ∀ b ∈ l, b < 256) (hm : ∀ b ∈ m, b < 256) : l.map UInt8.ofNat = m.map UInt8.ofNat ↔ l = m := by
  induction l generalizing m with
  | nil => cases m <;> simp
  | cons x l ih =>
    cases m with
    | nil => simp
    | cons y m =>
      have hx := hl x (by simp)
      have hy := hm y (by simp)
      simp only [List.map_cons, List.cons.injEq]
      rw [ih (fun b hb => hl b (by simp [hb])) (fun b hb => hm b (by simp [hb]))]
      refine and_congr_left fun _ => ⟨fun h => ?_, fun h => by rw [h]⟩
      have := congrArg UInt8.toNat h
      simp only [UInt8.toNat_ofNat'] at this
      omega
theorem extract_bytesN {s : ByteArray} {i k : Nat} (h : i + k ≤ s.size) : (s.extract i (i + k)).data.toList = (bytesN s i k).map UInt8.ofNat := by
  rw [Lib.extract_data]
  apply List.ext_getElem?
  intro j
  have hs := Lib.size_eq s
  by_cases hj : j < k
  · rw [List.getElem?_take_of_lt (by omega), List.getElem?_drop]
    simp only [bytesN, List.map_map]
    rw [List.getElem?_map, List.getElem?_range hj]
    simp only [Option.map_some, Function.comp, byteN]
    rw [← Lib.getD_get!']
    have hl : i + j < s.data.toList.length := by omega
    rw [List.getElem?_eq_getElem hl, List.getD_eq_getElem?_getD, List.getElem?_eq_getElem hl]
    simp
  · rw [List.getElem?_eq_none (by rw [List.length_take]; omega), List.getElem?_eq_none (by simp [bytesN]; omega)]
theorem encS_eq {s : ByteArray} {i k : Nat} (h : i + k ≤ s.size) : ((encS (partN s i k k)).toList == (s.extract i (i + k)).toList) = true ↔ fits s i k := by
  rw [beq_iff_eq, Lib.toList_data, Lib.toList_data, extract_bytesN h]
  show ((encN (partN s i k k)).map UInt8.ofNat).toArray.toList = _ ↔ _
  rw [List.toList_toArray, bytes_eq (encN_lt _) (by unfold bytesN; simp only [List.mem_map]; rintro b ⟨j, _, rfl⟩; exact byteN_lt s i j)]
  exact Iff.rfl
end Go.Proofs.YtfhmblbomkhcpaaDoor
