/- A number's bytes: octets.Put, and the document's. -/
import Derived.Test.YtkfakkonlnjckaaPutA
namespace Go.Proofs.Ytkfakkonlnjckaa
open Go.RowKit

/-- A number's bytes: seven bits each, the lowest first; 128 more where another one follows. -/
def putL (n : Nat) : List Int := if n < 128 then [(n : Int)] else ((n % 128 + 128 : Nat) : Int) :: putL (n / 128)
termination_by n
decreasing_by omega
theorem putL_small {n : Nat} (h : n < 128) : putL n = [(n : Int)] := by rw [putL, if_pos h]
theorem putL_big {n : Nat} (h : 128 ≤ n) : putL n = ((n % 128 + 128 : Nat) : Int) :: putL (n / 128) := by rw [putL, if_neg (by omega)]
theorem putL_len : ∀ (k n : Nat), n < 128 ^ (k + 1) → (putL n).length ≤ k + 1
  | 0, n, h => by rw [putL_small (by simpa using h)]; simp
  | k + 1, n, h => by
    by_cases h1 : n < 128
    · rw [putL_small h1]; simp
    · rw [putL_big (by omega)]
      have := putL_len k (n / 128) (by rw [Nat.pow_succ] at h; exact Nat.div_lt_of_lt_mul (by rw [Nat.mul_comm]; exact h))
      simp only [List.length_cons]
      omega
theorem putL_pos (n : Nat) : 0 < (putL n).length := by
  rw [putL]
  split <;> simp
theorem putL_byte (n : Nat) : ∀ a ∈ putL n, Byte a := by
  induction n using Nat.strongRecOn with
  | _ n ih =>
    intro a ha
    by_cases h1 : n < 128
    · rw [putL_small h1] at ha
      simp at ha
      subst ha
      exact ⟨by omega, by omega⟩
    · rw [putL_big (by omega), List.mem_cons] at ha
      rcases ha with rfl | ha
      · exact ⟨by omega, by omega⟩
      · exact ih (n / 128) (by omega) a ha
theorem putL_len5 {n : Nat} (h : n < 4294967296) : (putL n).length ≤ 5 := putL_len 4 n (by omega)

theorem or128F : ∀ k : Fin 256, bits BinOp.or IntKind.u8 (k.val : Int) 128 = ((k.val % 128 + 128 : Nat) : Int) := by decide +kernel
theorem or128 (n : Nat) : bits BinOp.or IntKind.u8 ((n : Int) % 256) 128 = ((n % 128 + 128 : Nat) : Int) := by
  have h := or128F ⟨n % 256, by omega⟩
  simp only at h
  rw [show ((n : Int) % 256) = ((n % 256 : Nat) : Int) by omega, h]
  congr 1
  omega

set_option maxRecDepth 100000 in
set_option maxHeartbeats 2000000 in
theorem put_any (Z : List Int) (n : Nat) (a : Option Addr) (g o c : Nat) (w : World) (hz : BytesAt w g o Z) (ha : 0 < Z.length → a = some ⟨g, o, none⟩) (hl : Z.length ≤ 100000000) (hn : n < 4294967296) :
    Calls Try.prog 51 #[.slice a Z.length c, .int .u32 n] w fun e w' => ∃ h, e = .returned (.slice (some ⟨h, 0, none⟩) (Z ++ putL n).length (Z ++ putL n).length) ∧ w.heap.size ≤ h ∧ Row w' h (Z ++ putL n) ∧ Chg (fun _ => False) w w' := by
  have HZ := Lib.hid hz
  have HA := Lib.hid ha
  clear hz ha
  go_enter Try.func51, Try.ntmps51
  go_wp2_with fail
  refine (clone_any Z a g o c w HZ.out HA.out (by omega)).mono ?_
  rintro e w1 ⟨v1, rfl, ho1, hc1⟩
  have HO1 := Lib.hid ho1
  have HC1 := Lib.hid hc1
  clear ho1 hc1
  go_wp2_with fail
  refine (grow_any w1 w.heap.size v1 Z HO1.out HC1.out.size (by omega)).mono ?_
  rintro e w2 ⟨v2, rfl, ho2, hc2⟩
  have HO2 := Lib.hid ho2
  have HC2 := Lib.hid (HC1.out.any.trans hc2)
  clear ho2 hc2 HO1 HC1
  go_wp2
  go_loopw [1, 5] (fun m v wr => ∃ (n' : Nat) (X : List Int), m = .int .u32 n' ∧ n' ≤ n ∧ Own wr w.heap.size v X ∧ X ++ putL n' = Z ++ putL n ∧ Chg (fun k => w.heap.size ≤ k) w wr) (fun m _ _ => (intOf m).toNat)
  case atStart => exact ⟨n, Z, rfl, Nat.le_refl _, HO2.out, rfl, HC2.out⟩
  case round =>
    clear HO2 HC2
    obtain ⟨n', X, rfl, hn', ho, he, hc⟩ := hrel
    have HO := Lib.hid ho
    have HE := Lib.hid he
    have HC := Lib.hid hc
    have hX : X.length ≤ 200000000 := by
      have h1 := congrArg List.length he
      have h2 := putL_len5 hn
      simp only [List.length_append] at h1
      omega
    clear ho he hc
    by_cases h128 : 128 ≤ n'
    · obtain ⟨b, hb⟩ : ∃ b : Int, bits BinOp.or IntKind.u8 ((n' : Int) % 256) 128 = b := ⟨_, rfl⟩
      have HB : Hid (b = ((n' % 128 + 128 : Nat) : Int)) := Lib.hid (by rw [← hb]; exact or128 n')
      have HY : Hid (∀ a ∈ [b], Byte a) := Lib.hid (by rw [HB.out]; simp; omega)
      go_upto_region 4 with (fail)
      go_wp2_with (at_builtin; refine wpList_append8 rfl _ _ 55 rfl w.heap.size _ X [b] (.slice (some ⟨wr.heap.size, 0, none⟩) 1 1) rfl rfl (HO.out.chg ((Chg.refl (fun _ => False) wr).alloc _) (fun _ _ _ h => h)) (Nat.le_trans HC.out.size ((Chg.refl (fun _ => False) wr).alloc _).size) (srcLit 1 HY.out) HY.out (by simp; omega) ?_; intro v3 w3 H1 H2 H3)
      have HF : Hid ((X ++ [b]) ++ putL (n' / 128) = Z ++ putL n ∧ Chg (fun k => w.heap.size ≤ k) w w3) := Lib.hid ⟨by rw [List.append_assoc, List.singleton_append, HB.out, ← putL_big h128]; exact HE.out, HC.out.trans (((Chg.refl _ _).alloc _).trans H2.out)⟩
      go_roundw
      case rel => exact ⟨n' / 128, X ++ [b], by first | rfl | go_num, by omega, H1.out, HF.out.1, HF.out.2⟩
      case measure => simp [intOf]; omega
    · have h256 : (n' : Int) % 256 = n' := by omega
      have HY : Hid (∀ a ∈ [(n' : Int)], Byte a) := Lib.hid (by simp; omega)
      have HE2 : Hid (X ++ [(n' : Int)] = Z ++ putL n) := Lib.hid (by rw [← putL_small (by omega)]; exact HE.out)
      go_upto_region 5 with (fail)
      go_wp2_with (at_builtin; refine wpList_append8 rfl _ _ 55 rfl w.heap.size _ X [(n' : Int)] (.slice (some ⟨wr.heap.size, 0, none⟩) 1 1) rfl rfl (HO.out.chg ((Chg.refl (fun _ => False) wr).alloc _) (fun _ _ _ h => h)) (Nat.le_trans HC.out.size ((Chg.refl (fun _ => False) wr).alloc _).size) (srcLit 1 HY.out) HY.out (by simp; omega) ?_; intro v3 w3 H1 H2 H3)
      obtain ⟨g3, C3, e3, hg3, hR3, hp3, hm3⟩ := H1.out.some (by simp)
      rw [e3]
      refine (clip_any w3 g3 _ _ hp3.length_le).mono ?_
      rintro e w4 ⟨rfl, rfl⟩
      have HF : Hid (Row w4 g3 (Z ++ putL n) ∧ Chg (fun _ => False) w w4) := Lib.hid ⟨by rw [← HE2.out]; exact ⟨fun k a hk => by have := (hR3.bytes hp3).c k a hk; rw [Nat.zero_add] at this; exact this.1, hR3.z, hR3.lt, fun a ha => hR3.byte a (hp3.subset ha)⟩, (HC.out.trans (((Chg.refl _ _).alloc _).trans H2.out)).fresh⟩
      rw [HE2.out]
      clear hR3 hp3 e3
      go_wp2
      go_ret
      exact ⟨g3, by simp only [List.length_append]; rfl, hg3, HF.out.1, HF.out.2⟩

set_option maxRecDepth 100000 in
set_option maxHeartbeats 2000000 in
/-- The document's. -/
theorem refPut_any (Z : List Int) (n : Nat) (a : Option Addr) (g o c : Nat) (w : World) (hz : BytesAt w g o Z) (ha : 0 < Z.length → a = some ⟨g, o, none⟩) (hl : Z.length ≤ 100000000) (hn : n < 4294967296) :
    Calls Try.prog 54 #[.slice a Z.length c, .int .u32 n] w fun e w' => ∃ h C, e = .returned (.slice (some ⟨h, 0, none⟩) (Z ++ putL n).length C) ∧ w.heap.size ≤ h ∧ Row w' h (Z ++ putL n) ∧ Chg (fun _ => False) w w' := by
  have HZ := Lib.hid hz
  have HA := Lib.hid ha
  have HBZ := Lib.hid hz.byte
  clear hz ha
  go_enter Try.func54, Try.ntmps54
  go_wp2_with (at_builtin; refine wpList_append8 rfl _ _ 55 rfl w.heap.size (.slice none 0 0) [] Z (.slice a Z.length c) rfl rfl (.inl ⟨rfl, rfl⟩) (Nat.le_refl _) (srcBytes HZ.out HA.out) HBZ.out (by simp; omega) ?_; intro v2 w2 H1 H2 H3)
  go_loopw [1, 5] (fun m v wr => ∃ (n' : Nat) (X : List Int), m = .int .u32 n' ∧ n' ≤ n ∧ Own wr w.heap.size v X ∧ X ++ putL n' = Z ++ putL n ∧ Chg (fun k => w.heap.size ≤ k) w wr) (fun m _ _ => (intOf m).toNat)
  case atStart => exact ⟨n, Z, rfl, Nat.le_refl _, H1.out, rfl, H2.out⟩
  case round =>
    clear H1 H2 H3
    obtain ⟨n', X, rfl, hn', ho, he, hc⟩ := hrel
    have HO := Lib.hid ho
    have HE := Lib.hid he
    have HC := Lib.hid hc
    have hX : X.length ≤ 200000000 := by
      have h1 := congrArg List.length he
      have h2 := putL_len5 hn
      simp only [List.length_append] at h1
      omega
    clear ho he hc
    by_cases h128 : 128 ≤ n'
    · obtain ⟨b, hb⟩ : ∃ b : Int, (n' : Int) % 128 + 128 = b := ⟨_, rfl⟩
      have hb1 : b % 256 = b := by omega
      have hb2 : 0 ≤ b := by omega
      have hb3 : b ≤ 255 := by omega
      have HB : Hid (b = ((n' % 128 + 128 : Nat) : Int)) := Lib.hid (by rw [← hb]; omega)
      have HY : Hid (∀ a ∈ [b], Byte a) := Lib.hid (by rw [HB.out]; simp; omega)
      go_upto_region 3 with (fail)
      go_wp2_with (at_builtin; refine wpList_append8 rfl _ _ 55 rfl w.heap.size _ X [b] (.slice (some ⟨wr.heap.size, 0, none⟩) 1 1) rfl rfl (HO.out.chg ((Chg.refl (fun _ => False) wr).alloc _) (fun _ _ _ h => h)) (Nat.le_trans HC.out.size ((Chg.refl (fun _ => False) wr).alloc _).size) (srcLit 1 HY.out) HY.out (by simp; omega) ?_; intro v3 w3 H1 H2 H3)
      have HF : Hid ((X ++ [b]) ++ putL (n' / 128) = Z ++ putL n ∧ Chg (fun k => w.heap.size ≤ k) w w3) := Lib.hid ⟨by rw [List.append_assoc, List.singleton_append, HB.out, ← putL_big h128]; exact HE.out, HC.out.trans (((Chg.refl _ _).alloc _).trans H2.out)⟩
      go_roundw
      case rel => exact ⟨n' / 128, X ++ [b], by first | rfl | go_num, by omega, H1.out, HF.out.1, HF.out.2⟩
      case measure => simp [intOf]; omega
    · have h256 : (n' : Int) % 256 = n' := by omega
      have HY : Hid (∀ a ∈ [(n' : Int)], Byte a) := Lib.hid (by simp; omega)
      have HE2 : Hid (X ++ [(n' : Int)] = Z ++ putL n) := Lib.hid (by rw [← putL_small (by omega)]; exact HE.out)
      go_upto_region 5 with (fail)
      go_wp2_with (at_builtin; refine wpList_append8 rfl _ _ 55 rfl w.heap.size _ X [(n' : Int)] (.slice (some ⟨wr.heap.size, 0, none⟩) 1 1) rfl rfl (HO.out.chg ((Chg.refl (fun _ => False) wr).alloc _) (fun _ _ _ h => h)) (Nat.le_trans HC.out.size ((Chg.refl (fun _ => False) wr).alloc _).size) (srcLit 1 HY.out) HY.out (by simp; omega) ?_; intro v3 w3 H1 H2 H3)
      obtain ⟨g3, C3, e3, hg3, hR3, hp3, hm3⟩ := H1.out.some (by simp)
      have HF : Hid (Row w3 g3 (Z ++ putL n) ∧ Chg (fun _ => False) w w3) := Lib.hid ⟨by rw [← HE2.out]; exact ⟨fun k a hk => by have := (hR3.bytes hp3).c k a hk; rw [Nat.zero_add] at this; exact this.1, hR3.z, hR3.lt, fun a ha => hR3.byte a (hp3.subset ha)⟩, (HC.out.trans (((Chg.refl _ _).alloc _).trans H2.out)).fresh⟩
      rw [e3, HE2.out]
      clear hR3 hp3 e3
      go_ret
      exact ⟨g3, _, rfl, hg3, HF.out.1, HF.out.2⟩
end Go.Proofs.Ytkfakkonlnjckaa
