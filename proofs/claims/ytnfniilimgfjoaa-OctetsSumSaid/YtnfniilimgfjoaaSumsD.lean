/- The sum of bytes, by sums that are there: the table is filled once. Four bytes of a sum. Two lists compared, by the library. -/
import Derived.Test.YtnfniilimgfjoaaSumsC
namespace Go.Proofs.Ytnfniilimgfjoaa
open Go.RowKit

/-- Sums, filled or not. -/
def SumsSt (w : World) (b : Nat) : Prop := ∃ (d : Int) (T : Nat → Int), SumsAt w b d 0 T ∧ (d = 0 ∨ (d = 1 ∧ T = tabI))
theorem SumsSt.chg {S : Nat → Prop} {w w' : World} {b : Nat} (h : SumsSt w b) (hc : Chg S w w') (hs : ¬ S b) : SumsSt w' b := by
  obtain ⟨d, T, h1, h2⟩ := h
  exact ⟨d, T, h1.chg hc hs, h2⟩
theorem SumsSt.lt {w : World} {b : Nat} (h : SumsSt w b) : b < w.heap.size := by
  obtain ⟨d, T, h1, h2⟩ := h
  exact World.block_lt_of_cell? _ _ h1.c0

theorem do_any (b : Nat) (w : World) (h : SumsSt w b) :
    Calls Try.prog 34 #[.pointer (some ⟨b, 0, none⟩), .func (.func 35) #[.pointer (some ⟨b, 0, none⟩)] #[]] w fun e w' => e = .returned (.tuple #[]) ∧ SumsAt w' b 1 0 tabI ∧ Chg (· = b) w w' := by
  obtain ⟨d, T, h1, h2⟩ := h
  rcases h2 with rfl | ⟨rfl, rfl⟩
  · exact do_first b T w h1
  · exact (do_done b 0 tabI _ w h1).mono fun e w' ⟨he, hw⟩ => by subst hw; exact ⟨he, h1, Chg.refl _ _⟩

set_option maxRecDepth 100000 in
set_option maxHeartbeats 2000000 in
theorem of_any (b : Nat) (Z : List Int) (a : Option Addr) (g o c : Nat) (w : World) (hs : SumsSt w b) (hz : BytesAt w g o Z) (hgb : Z ≠ [] → g ≠ b) (ha : 0 < Z.length → a = some ⟨g, o, none⟩) (hl : Z.length ≤ 1000000000) :
    Calls Try.prog 21 #[.pointer (some ⟨b, 0, none⟩), .slice a Z.length c] w fun e w' => e = .returned (.int .u32 (ofI Z)) ∧ SumsSt w' b ∧ Chg (· = b) w w' := by
  have HZ := Lib.hid hz
  have HA := Lib.hid ha
  have HS := Lib.hid hs
  have HG := Lib.hid hgb
  clear hz ha hs hgb
  go_enter Try.func21, Try.ntmps21
  go_wp2_with fail
  refine (do_any b w HS.out).mono ?_
  rintro e w1 ⟨rfl, h1, hc1⟩
  have H1 := Lib.hid h1
  have HC1 := Lib.hid hc1
  clear h1 hc1 HS
  go_wp2
  go_loopw [5, 20] (fun n i wr => ∃ (k : Nat) (y : Int), k ≤ Z.length ∧ i = .int .i64 k ∧ n = .int .u32 y ∧ y = ofFold (Z.take k) ∧ SumsAt wr b 1 0 tabI ∧ Chg (· = b) w wr) (fun _ i _ => Z.length - (intOf i).toNat)
  case atStart => exact ⟨0, _, by omega, rfl, rfl, rfl, H1.out, HC1.out⟩
  case round =>
    clear H1 HC1
    obtain ⟨k, y, hk, rfl, rfl, hy, h, hc⟩ := hrel
    have HY := Lib.hid hy
    have H := Lib.hid h
    have HC := Lib.hid hc
    clear hy h hc
    by_cases hkl : k < Z.length
    · have b21 : decide ((k : Int) < (Z.length : Int)) = true := by simp; omega
      obtain ⟨z, hz, c1, z0, z1⟩ := (HZ.out.chg HC.out HG.out).get hkl
      have e1 := HA.out (by omega)
      subst e1
      obtain ⟨x, hx, hx2⟩ : ∃ x : Nat, bits BinOp.xor IntKind.u8 (y % 256) z = (x : Int) ∧ x < 256 := by
        have h1 := bounds_u8 (wf_bits BinOp.xor IntKind.u8 (y % 256) z)
        exact ⟨(bits BinOp.xor IntKind.u8 (y % 256) z).toNat, by omega, by omega⟩
      have c2 := H.out.tab x hx2
      have HN : Hid (bits BinOp.xor IntKind.u32 (y / 256) (tabI x) = ofFold (Z.take (k + 1))) := Lib.hid (by
        rw [List.take_add_one, hz]
        show _ = List.foldl ofStep 4294967295 (Z.take k ++ [z])
        rw [List.foldl_append]
        show _ = ofStep (ofFold (Z.take k)) z
        rw [← HY.out]
        unfold ofStep
        rw [hx]
        rfl)
      clear hz HY
      go_wp2
      go_roundw
      case rel => first | exact ⟨k + 1, _, by omega, by go_num, rfl, HN.out, H.out, HC.out⟩ | ((repeat apply Exists.intro); exact ⟨⟨k + 1, _, by omega, rfl, rfl, HN.out, H.out, HC.out⟩, rfl⟩)
      case measure => simp [intOf]; omega
    · obtain rfl : k = Z.length := by omega
      have HF : Hid (y = ofFold Z) := Lib.hid (by rw [HY.out, List.take_length])
      have HST : Hid (SumsSt wr b) := Lib.hid ⟨1, tabI, H.out, .inr ⟨rfl, rfl⟩⟩
      clear HY H
      go_wp2
      go_ret
      exact ⟨by unfold ofI; rw [← HF.out]; rfl, HST.out, HC.out⟩

/-- Four bytes of a number, the lowest one first. -/
def fourL (n : Int) : List Int := [n % 256, n / 256 % 256, n / 65536 % 256, n / 16777216]
theorem fourL_byte {n : Int} (h0 : 0 ≤ n) (h1 : n ≤ 4294967295) : ∀ a ∈ fourL n, Byte a := by
  intro a ha
  simp [fourL] at ha
  rcases ha with rfl | rfl | rfl | rfl <;> constructor <;> omega
theorem four_any (n : Int) (w : World) (h0 : 0 ≤ n) (h1 : n ≤ 4294967295) :
    Calls Try.prog 32 #[.int .u32 n] w fun e w' => ∃ h, e = .returned (.slice (some ⟨h, 0, none⟩) 4 4) ∧ w.heap.size ≤ h ∧ Row w' h (fourL n) ∧ Chg (fun _ => False) w w' := by
  have HR := Lib.hid (Row.alloc w (fourL n) 5 (fourL_byte h0 h1))
  go_enter Try.func32, Try.ntmps32
  go_wp2
  go_ret
  exact ⟨_, rfl, Nat.le_refl _, HR.out, (Chg.refl _ _).alloc _⟩

set_option maxRecDepth 100000 in
set_option maxHeartbeats 2000000 in
theorem equal_any (X Y : List Int) (ax ay : Option Addr) (gx ox gy oy cx cy : Nat) (w : World) (hx : BytesAt w gx ox X) (hax : 0 < X.length → ax = some ⟨gx, ox, none⟩) (hy : BytesAt w gy oy Y) (hay : 0 < Y.length → ay = some ⟨gy, oy, none⟩) (hl : X.length ≤ 1000000000000) :
    Calls Try.prog 33 #[.slice ax X.length cx, .slice ay Y.length cy] w fun e w' => e = .returned (.bool (decide (X = Y))) ∧ Chg (fun _ => False) w w' := by
  have HX := Lib.hid hx
  have HY := Lib.hid hy
  have HAX := Lib.hid hax
  have HAY := Lib.hid hay
  clear hx hy hax hay
  by_cases hxy : X.length = Y.length
  · have b10 : ((X.length : Int) != (Y.length : Int)) = false := by simp [hxy]
    go_enter Try.func33, Try.ntmps33
    go_wp2
    go_loopw [13] (fun i wr => ∃ k : Nat, k ≤ X.length ∧ i = .int .i64 k ∧ Chg (fun _ => False) w wr ∧ X.take k = Y.take k) (fun i _ => X.length - (intOf i).toNat)
    case atStart => exact ⟨0, by omega, rfl, Chg.refl _ _, by simp⟩
    case round =>
      obtain ⟨k, hk, rfl, hc, he⟩ := hrel
      have HC := Lib.hid hc
      have HE := Lib.hid he
      clear hc he
      by_cases hkl : k < X.length
      · have b14 : decide ((k : Int) < (X.length : Int)) = true := by simp; omega
        obtain ⟨p, hp, c1, p0, p1⟩ := (HX.out.chg HC.out (fun _ h => h)).get hkl
        obtain ⟨q, hq, c2, q0, q1⟩ := (HY.out.chg HC.out (fun _ h => h)).get (k := k) (by omega)
        have e1 := HAX.out (by omega)
        have e2 := HAY.out (by omega)
        subst e1 e2
        have HP := Lib.hid hp
        have HQ := Lib.hid hq
        clear hp hq
        by_cases hpq : p = q
        · subst hpq
          have HT : Hid (X.take (k + 1) = Y.take (k + 1)) := Lib.hid (by rw [List.take_add_one, List.take_add_one, HE.out, HP.out, HQ.out])
          clear HE HP HQ
          go_upto_region 6 with (fail)
          go_still (by kernel_rfl)
          go_wp2
          go_roundw
          case rel => first | exact ⟨k + 1, by omega, by go_num, HC.out.drew, HT.out⟩ | ((repeat apply Exists.intro); exact ⟨⟨k + 1, by omega, by first | rfl | go_num, HC.out.drew, HT.out⟩, rfl, rfl, rfl⟩)
          case measure => simp [intOf]; omega
        · have b25 : (p != q) = true := by simpa using hpq
          have HD : Hid (decide (X = Y) = false) := Lib.hid (by
            apply decide_eq_false
            intro h
            rw [h, HQ.out] at HP
            exact hpq (Option.some.inj HP.out).symm)
          clear HE HP HQ hpq
          go_upto_region 6 with (fail)
          go_still (by kernel_rfl)
          go_wp2
          go_ret
          exact ⟨by rw [HD.out]; rfl, HC.out.drew⟩
      · obtain rfl : k = X.length := by omega
        have HD : Hid (decide (X = Y) = true) := Lib.hid (by
          have := HE.out
          rw [List.take_length, hxy, List.take_length] at this
          simp [this])
        clear HE
        go_wp2
        go_ret
        exact ⟨by rw [HD.out]; rfl, HC.out⟩
  · have b10 : ((X.length : Int) != (Y.length : Int)) = true := by simp; omega
    have HD : Hid (decide (X = Y) = false) := Lib.hid (by
      apply decide_eq_false
      intro h
      exact hxy (by rw [h]))
    go_enter Try.func33, Try.ntmps33
    go_wp2
    go_ret
    exact ⟨by rw [HD.out]; rfl, Chg.refl _ _⟩

end Go.Proofs.Ytnfniilimgfjoaa
