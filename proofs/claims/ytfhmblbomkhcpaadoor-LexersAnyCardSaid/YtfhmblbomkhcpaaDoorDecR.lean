/- The rune at a place: the document's Decode. -/
import Derived.Test.YtfhmblbomkhcpaaDoorDec
import Derived.Laws.RangeAny
namespace Go.Proofs.YtfhmblbomkhcpaaDoor
open Go.RowKit

def decV (s : ByteArray) (i : Nat) : Value := match decU s i with
  | some (c, n) => .tuple #[.int .i32 c, .int .i64 n, .bool true]
  | none => .tuple #[.int .i32 0, .int .i64 1, .bool false]
theorem partN_succ (s : ByteArray) (i k j : Nat) (hj : 1 ≤ j) : partN s i k (j + 1) = 64 * partN s i k j + byteN s i j % 64 := by
  obtain ⟨m, rfl⟩ : ∃ m, j = m + 1 := ⟨j - 1, by omega⟩
  rfl
theorem partN_le (s : ByteArray) (i k : Nat) : partN s i k 0 = 0 ∧ partN s i k 1 ≤ 255 ∧ partN s i k 2 ≤ 16383 ∧ partN s i k 3 ≤ 1048575 ∧ partN s i k 4 ≤ 67108863 := by
  have h1 : partN s i k 1 ≤ 255 := by
    have := byteN_lt s i 0
    simp only [partN]
    split
    · have := Nat.mod_le (byteN s i 0) (2 ^ (7 - k)); omega
    · omega
  have h2 : partN s i k 2 = 64 * partN s i k 1 + byteN s i 1 % 64 := rfl
  have h3 : partN s i k 3 = 64 * partN s i k 2 + byteN s i 2 % 64 := rfl
  have h4 : partN s i k 4 = 64 * partN s i k 3 + byteN s i 3 % 64 := rfl
  refine ⟨rfl, h1, by omega, by omega, by omega⟩
theorem partN_le' (s : ByteArray) (i k j : Nat) (hj : j ≤ 4) : partN s i k j ≤ 67108863 ∧ (j ≤ 3 → partN s i k j ≤ 1048575) := by
  obtain ⟨h0, h1, h2, h3, h4⟩ := partN_le s i k
  obtain rfl | rfl | rfl | rfl | rfl : j = 0 ∨ j = 1 ∨ j = 2 ∨ j = 3 ∨ j = 4 := by omega
  all_goals omega

set_option maxRecDepth 100000 in
set_option maxHeartbeats 4000000 in
theorem refDecode_in (s : ByteArray) (i : Nat) (w : World) (hi : i < s.size) (hs : s.size ≤ 1000000000000) : Calls Tryd.prog 38 #[.string s, .int .i64 i] w fun e w' => e = .returned (decV s i) ∧ Chg (fun _ => False) w w' := by
  have d0 : decide ((i : Int) < 0) = false := by simp <;> omega
  have d1 : decide ((s.size : Int) ≤ (i : Int)) = false := by simp; omega
  have d1' : decide (s.size ≤ i) = false := by simp; omega
  go_enter Tryd.func38, Tryd.ntmps38
  go_wp2
  go_loopw [7] (fun q wr => ∃ k : Nat, 1 ≤ k ∧ k ≤ 5 ∧ q = .int .i64 k ∧ (∀ j, 1 ≤ j → j < k → i + j ≤ s.size → ¬ fits s i j) ∧ Chg (fun _ => False) w wr) (fun q _ => 5 - (intOf q).toNat)
  case atStart => exact ⟨1, by omega, by omega, rfl, fun j h1 h2 => by omega, Chg.refl _ _⟩
  case round =>
    obtain ⟨k, hk1, hk5, rfl, hb, hc⟩ := hrel
    have HB := Lib.hid hb
    have HC := Lib.hid hc
    clear hb hc
    by_cases hk4 : k ≤ 4
    · have d2 : decide ((k : Int) ≤ 4) = true := by simp; omega
      by_cases hik : i + k ≤ s.size
      · have d3 : decide ((i : Int) + k ≤ s.size) = true := by simp; omega
        go_wp2
        obtain ⟨wo, hwo⟩ : ∃ wo : World, wo = wr := ⟨_, rfl⟩
        go_loopw [8, 9] (fun n q wx => ∃ j : Nat, j ≤ k ∧ q = .int .i64 j ∧ n = .int .i64 (partN s i k j) ∧ wx = wr) (fun _ q _ => k - (intOf q).toNat)
        case atStart => exact ⟨0, by omega, rfl, rfl, rfl⟩
        case round =>
          obtain ⟨j, hj, rfl, rfl, rfl⟩ := hrel
          by_cases hjk : j < k
          · have d4 : decide ((j : Int) < (k : Int)) = true := by simp; omega
            have hlt : i + j < s.size := by omega
            obtain ⟨b, hb⟩ : ∃ b, byteN s i j = b := ⟨_, rfl⟩
            have hb255 : b ≤ 255 := by have := byteN_lt s i j; omega
            have hget : (s[i + j]'hlt).toNat = b := by rw [← hb]; unfold byteN; exact (congrArg UInt8.toNat (get_at s (i + j) hlt)).symm
            have hwb : wrap64 (b : Int) = b := by unfold wrap64; omega
            have HB0 := Lib.hid hb
            clear hb
            by_cases hj0 : j = 0
            · have d5 : ((j : Int) == 0) = true := by simp; omega
              have HJ := Lib.hid hj0
              clear hj0
              by_cases hk1 : k = 1
              · have d6 : decide (1 < (k : Int)) = false := by simp; omega
                have HP : Hid (partN s i k (j + 1) = b) := Lib.hid (by rw [← HB0.out, HJ.out, hk1]; rfl)
                clear hk1
                go_wp2
                go_roundw
                case rel => exact ⟨j + 1, by omega, by go_num, by rw [HP.out], by first | rfl | trivial⟩
                case measure => simp [intOf]; omega
              · have d6 : decide (1 < (k : Int)) = true := by simp; omega
                obtain ⟨z, hz, hkz⟩ : ∃ z : Nat, (z = 32 ∧ k = 2 ∨ z = 16 ∧ k = 3 ∨ z = 8 ∧ k = 4) ∧ k = k := by
                  obtain h | h | h : k = 2 ∨ k = 3 ∨ k = 4 := by omega
                  · exact ⟨32, .inl ⟨rfl, h⟩, rfl⟩
                  · exact ⟨16, .inr (.inl ⟨rfl, h⟩), rfl⟩
                  · exact ⟨8, .inr (.inr ⟨rfl, h⟩), rfl⟩
                clear hkz
                have HP : Hid (partN s i k (j + 1) = b % z) := Lib.hid (by
                  rw [← HB0.out, HJ.out]
                  rcases hz with ⟨rfl, rfl⟩ | ⟨rfl, rfl⟩ | ⟨rfl, rfl⟩ <;> rfl)
                have HZ := Lib.hid hz
                clear hk1
                rcases hz with ⟨rfl, hk2⟩ | ⟨rfl, hk2⟩ | ⟨rfl, hk2⟩
                · have e7 : (7 : Int) - k = 5 := by omega
                  clear hk2
                  go_wp2
                  go_roundw
                  case rel => exact ⟨j + 1, by omega, by go_num, by rw [HP.out]; go_num, by first | rfl | trivial⟩
                  case measure => simp [intOf]; omega
                · have e7 : (7 : Int) - k = 4 := by omega
                  clear hk2
                  go_wp2
                  go_roundw
                  case rel => exact ⟨j + 1, by omega, by go_num, by rw [HP.out]; go_num, by first | rfl | trivial⟩
                  case measure => simp [intOf]; omega
                · have e7 : (7 : Int) - k = 3 := by omega
                  clear hk2
                  go_wp2
                  go_roundw
                  case rel => exact ⟨j + 1, by omega, by go_num, by rw [HP.out]; go_num, by first | rfl | trivial⟩
                  case measure => simp [intOf]; omega
            · have d5 : ((j : Int) == 0) = false := by simp; omega
              obtain ⟨p, hp⟩ : ∃ p, partN s i k j = p := ⟨_, rfl⟩
              have hp4 : p ≤ 1048575 := by rw [← hp]; exact (partN_le' s i k j (by omega)).2 (by omega)
              have HP : Hid (partN s i k (j + 1) = 64 * p + b % 64) := Lib.hid (by rw [partN_succ s i k j (by omega), hp, HB0.out])
              rw [hp]
              clear hp hj0
              go_wp2
              go_roundw
              case rel => exact ⟨j + 1, by omega, by go_num, by rw [HP.out]; go_num, by first | rfl | trivial⟩
              case measure => simp [intOf]; omega
          · obtain rfl : j = k := by omega
            have d4 : decide ((j : Int) < (j : Int)) = false := by simp
            obtain ⟨p, hp⟩ : ∃ p, partN s i j j = p := ⟨_, rfl⟩
            have hp4 : p ≤ 67108863 := by rw [← hp]; exact (partN_le' s i j j (by omega)).1
            have HP := Lib.hid hp
            rw [hp]
            clear hp
            have HE := Lib.hid (encS_eq hik)
            rw [HP.out] at HE
            have HE8 : Hid (((i : Int) + j).toNat = i + j) := Lib.hid (by omega)
            have HW1 : Hid (IntKind.i32.wrap (p : Int) = p) := Lib.hid (by rw [IntKind.wrap_i32]; omega)
            have HW2 : Hid (IntKind.i64.wrap ((i : Int) + j) = (i : Int) + j) := Lib.hid (by rw [IntKind.wrap_i64]; omega)
            by_cases hf : fits s i j
            · have hq : ((encS p).toList == (s.extract i (i + j)).toList) = true := HE.out.2 hf
              have HF : Hid (decV s i = .tuple #[.int .i32 p, .int .i64 j, .bool true]) := Lib.hid (by unfold decV; rw [decU_fits hk1 hk4 hik hf, HP.out])
              have HQ := Lib.hid hq
              clear hf hq
              go_upto_region 16 with (fail)
              refine wp_region_same (fun w' => Chg (fun _ => False) wr w') (by kernel_rfl) (by kernel_rfl) ?_ ?_
              · exact (Chg.refl _ _).drew
              (refine wpC_read rfl (fun _ _ _ h => h) (fun K hK => ?_); apply Exists.intro; refine ⟨fun _ w' _ hC => ?_, ?_⟩; ((skip); go_simp; try with_reducible rfl); (try go_simp); refine hK _ ?_; clear hK K)
              (refine wpC_read rfl (fun _ _ _ h => h) (fun K hK => ?_); apply Exists.intro; refine ⟨fun _ w' _ hC => ?_, ?_⟩; ((have e9 := HW1.out); go_simp; try with_reducible rfl); (try go_simp); refine hK _ ?_; clear hK K)
              refine wpC_call rfl (Value.string (encS p) )  57  ( #[.int .i32 p]) (fun w' => by go_simp) (fun _ w' _ hC => ?_) (fun K hK => ?_)
              · refine (encode_any p w' (by omega)).mono ?_
                rintro e w2 ⟨rfl, hc⟩
                exact ⟨rfl, hC.trans hc⟩
              ((try go_simp); refine hK _ ?_; clear hK K)
              (refine wpC_read rfl (fun _ _ _ h => h) (fun K hK => ?_); apply Exists.intro; refine ⟨fun _ w' _ hC => ?_, ?_⟩; ((skip); go_simp; try with_reducible rfl); (try go_simp); refine hK _ ?_; clear hK K)
              (refine wpC_read rfl (fun _ _ _ h => h) (fun K hK => ?_); apply Exists.intro; refine ⟨fun _ w' _ hC => ?_, ?_⟩; ((skip); go_simp; try with_reducible rfl); (try go_simp); refine hK _ ?_; clear hK K)
              (refine wpC_read rfl (fun _ _ _ h => h) (fun K hK => ?_); apply Exists.intro; refine ⟨fun _ w' _ hC => ?_, ?_⟩; ((skip); go_simp; try with_reducible rfl); (try go_simp); refine hK _ ?_; clear hK K)
              (refine wpC_read rfl (fun _ _ _ h => h) (fun K hK => ?_); apply Exists.intro; refine ⟨fun _ w' _ hC => ?_, ?_⟩; ((skip); go_simp; try with_reducible rfl); (try go_simp); refine hK _ ?_; clear hK K)
              (refine wpC_read rfl (fun _ _ _ h => h) (fun K hK => ?_); apply Exists.intro; refine ⟨fun _ w' _ hC => ?_, ?_⟩; ((have e9 := HW2.out); go_simp; try with_reducible rfl); (try go_simp); refine hK _ ?_; clear hK K)
              (refine wpC_read rfl (fun _ _ _ h => h) (fun K hK => ?_); apply Exists.intro; refine ⟨fun _ w' _ hC => ?_, ?_⟩; ((have e9 := HW2.out; have e8 := HE8.out; have e10 : (0 : Int) ≤ (i : Int) + j := (by omega); have e11 : (i : Int) + j ≤ s.size := (by omega); have e12 : (i : Int) ≤ (i : Int) + j := (by omega)); go_simp; try with_reducible rfl); (try go_simp); refine hK _ ?_; clear hK K)
              (refine wpC_read rfl (fun _ _ _ h => h) (fun K hK => ?_); apply Exists.intro; refine ⟨fun _ w' _ hC => ?_, ?_⟩; ((have q9 := HQ.out); go_simp; try with_reducible rfl); (try go_simp); refine hK _ ?_; clear hK K)
              refine wpC_nil ?_
              intro w2 hC2
              have HC2 := Lib.hid (HC.out.trans hC2)
              clear hC2
              go_wp2
              exact bodyPost_ret (v := .tuple #[.int .i32 p, .int .i64 j, .bool true]) (by simp [results, Tryd.results38, go_sem]) rfl ⟨by rw [HF.out], HC2.out⟩
            · have hq : ((encS p).toList == (s.extract i (i + j)).toList) = false := by
                cases hx : ((encS p).toList == (s.extract i (i + j)).toList)
                · rfl
                · exact absurd (HE.out.1 hx) hf
              have HB2 : Hid (∀ m, 1 ≤ m → m < j + 1 → i + m ≤ s.size → ¬ fits s i m) := Lib.hid (fun m h1 h2 h3 => by
                by_cases he : m = j
                · rw [he]; exact hf
                · exact HB.out m h1 (by omega) h3)
              have HQ := Lib.hid hq
              clear hf hq
              go_upto_region 16 with (fail)
              refine wp_region_same (fun w' => Chg (fun _ => False) wr w') (by kernel_rfl) (by kernel_rfl) ?_ ?_
              · exact (Chg.refl _ _).drew
              (refine wpC_read rfl (fun _ _ _ h => h) (fun K hK => ?_); apply Exists.intro; refine ⟨fun _ w' _ hC => ?_, ?_⟩; ((skip); go_simp; try with_reducible rfl); (try go_simp); refine hK _ ?_; clear hK K)
              (refine wpC_read rfl (fun _ _ _ h => h) (fun K hK => ?_); apply Exists.intro; refine ⟨fun _ w' _ hC => ?_, ?_⟩; ((have e9 := HW1.out); go_simp; try with_reducible rfl); (try go_simp); refine hK _ ?_; clear hK K)
              refine wpC_call rfl (Value.string (encS p) )  57  ( #[.int .i32 p]) (fun w' => by go_simp) (fun _ w' _ hC => ?_) (fun K hK => ?_)
              · refine (encode_any p w' (by omega)).mono ?_
                rintro e w2 ⟨rfl, hc⟩
                exact ⟨rfl, hC.trans hc⟩
              ((try go_simp); refine hK _ ?_; clear hK K)
              (refine wpC_read rfl (fun _ _ _ h => h) (fun K hK => ?_); apply Exists.intro; refine ⟨fun _ w' _ hC => ?_, ?_⟩; ((skip); go_simp; try with_reducible rfl); (try go_simp); refine hK _ ?_; clear hK K)
              (refine wpC_read rfl (fun _ _ _ h => h) (fun K hK => ?_); apply Exists.intro; refine ⟨fun _ w' _ hC => ?_, ?_⟩; ((skip); go_simp; try with_reducible rfl); (try go_simp); refine hK _ ?_; clear hK K)
              (refine wpC_read rfl (fun _ _ _ h => h) (fun K hK => ?_); apply Exists.intro; refine ⟨fun _ w' _ hC => ?_, ?_⟩; ((skip); go_simp; try with_reducible rfl); (try go_simp); refine hK _ ?_; clear hK K)
              (refine wpC_read rfl (fun _ _ _ h => h) (fun K hK => ?_); apply Exists.intro; refine ⟨fun _ w' _ hC => ?_, ?_⟩; ((skip); go_simp; try with_reducible rfl); (try go_simp); refine hK _ ?_; clear hK K)
              (refine wpC_read rfl (fun _ _ _ h => h) (fun K hK => ?_); apply Exists.intro; refine ⟨fun _ w' _ hC => ?_, ?_⟩; ((have e9 := HW2.out); go_simp; try with_reducible rfl); (try go_simp); refine hK _ ?_; clear hK K)
              (refine wpC_read rfl (fun _ _ _ h => h) (fun K hK => ?_); apply Exists.intro; refine ⟨fun _ w' _ hC => ?_, ?_⟩; ((have e9 := HW2.out; have e8 := HE8.out; have e10 : (0 : Int) ≤ (i : Int) + j := (by omega); have e11 : (i : Int) + j ≤ s.size := (by omega); have e12 : (i : Int) ≤ (i : Int) + j := (by omega)); go_simp; try with_reducible rfl); (try go_simp); refine hK _ ?_; clear hK K)
              (refine wpC_read rfl (fun _ _ _ h => h) (fun K hK => ?_); apply Exists.intro; refine ⟨fun _ w' _ hC => ?_, ?_⟩; ((have q9 := HQ.out); go_simp; try with_reducible rfl); (try go_simp); refine hK _ ?_; clear hK K)
              refine wpC_nil ?_
              intro w2 hC2
              have HC2 := Lib.hid (HC.out.trans hC2)
              clear hC2
              go_wp2
              go_roundw
              case rel => first | exact ⟨j + 1, by omega, by omega, by go_num, HB2.out, HC2.out⟩ | ((repeat apply Exists.intro); exact ⟨⟨j + 1, by omega, by omega, by go_num, HB2.out, HC2.out⟩, by (repeat' apply And.intro) <;> first | rfl | go_num⟩)
              case measure => simp [intOf]; omega
      · have d3 : decide ((i : Int) + k ≤ s.size) = false := by simp; omega
        have HF : Hid (decV s i = .tuple #[.int .i32 0, .int .i64 1, .bool false]) := Lib.hid (by unfold decV; rw [decU_none hi (fun j h1 h2 h3 => HB.out j h1 (by omega) h3)])
        go_wp2
        exact bodyPost_ret (v := .tuple #[.int .i32 0, .int .i64 1, .bool false]) (by simp [results, Tryd.results38, go_sem]) rfl ⟨by rw [HF.out], HC.out⟩
    · have d2 : decide ((k : Int) ≤ 4) = false := by simp; omega
      have HF : Hid (decV s i = .tuple #[.int .i32 0, .int .i64 1, .bool false]) := Lib.hid (by unfold decV; rw [decU_none hi (fun j h1 h2 h3 => HB.out j h1 (by omega) h3)])
      go_wp2
      exact bodyPost_ret (v := .tuple #[.int .i32 0, .int .i64 1, .bool false]) (by simp [results, Tryd.results38, go_sem]) rfl ⟨by rw [HF.out], HC.out⟩
end Go.Proofs.YtfhmblbomkhcpaaDoor
