/- The statements' twins of lists of bytes: a copy with two marked places behind it; two lists compared; was a twin left as it was? -/
import Derived.Test.YtfhmblbomkhcpaaDoorNums
import Derived.LoopTactic
import Derived.Deep.DeepCutAuto
import Derived.Deep.CutBlock
import Derived.OwnWalk
namespace Go.Proofs.YtfhmblbomkhcpaaDoor.I
open Go.RowKit

set_option maxRecDepth 100000 in
set_option maxHeartbeats 2000000 in
theorem same_any (X Y : List Int) (ax ay : Option Addr) (gx ox gy oy cx cy : Nat) (w : World) (hx : BytesAt w gx ox X) (hax : 0 < X.length → ax = some ⟨gx, ox, none⟩) (hy : BytesAt w gy oy Y) (hay : 0 < Y.length → ay = some ⟨gy, oy, none⟩) (hl : X.length ≤ 1000000000000) :
    Calls Tryd.prog 62 #[.slice ax X.length cx, .slice ay Y.length cy] w fun e w' => e = .returned (.bool (decide (X = Y))) ∧ Chg (fun _ => False) w w' := by
  have HX := Lib.hid hx
  have HY := Lib.hid hy
  have HAX := Lib.hid hax
  have HAY := Lib.hid hay
  clear hx hy hax hay
  by_cases hxy : X.length = Y.length
  · have b10 : ((X.length : Int) != (Y.length : Int)) = false := by simp [hxy]
    go_enter Tryd.func62, Tryd.ntmps62
    go_wp2
    go_loopw [5] (fun i wr => ∃ k : Nat, k ≤ X.length ∧ i = .int .i64 k ∧ Chg (fun _ => False) w wr ∧ X.take k = Y.take k) (fun i _ => X.length - (intOf i).toNat)
    case atStart => exact ⟨0, by omega, rfl, Chg.refl _ _, by simp⟩
    case round =>
      obtain ⟨k, hk, rfl, hc, he⟩ := hrel
      have HC := Lib.hid hc
      have HE := Lib.hid he
      clear hc he
      by_cases hkl : k < X.length
      · have b14 : decide ((k : Int) < (X.length : Int)) = true := by simp; omega
        obtain ⟨p, hp, c1, p0, p1⟩ := (HX.out.chg HC.out (fun _ h => h)).get hkl
        obtain ⟨q, hq, c2, q0, q1⟩ := (HY.out.chg HC.out (fun _ h => h)).get (k := k) (by omega)
        have e1 := HAX.out (by omega)
        have e2 := HAY.out (by omega)
        subst e1 e2
        have HP := Lib.hid hp
        have HQ := Lib.hid hq
        clear hp hq
        by_cases hpq : p = q
        · subst hpq
          have HT : Hid (X.take (k + 1) = Y.take (k + 1)) := Lib.hid (by rw [List.take_add_one, List.take_add_one, HE.out, HP.out, HQ.out])
          clear HE HP HQ
          go_upto_region 6 with (fail)
          go_still (by kernel_rfl)
          go_wp2
          go_roundw
          case rel => exact ⟨k + 1, by omega, by go_num, HC.out.drew, HT.out⟩
          case measure => simp [intOf]; omega
        · have b25 : (p != q) = true := by simpa using hpq
          have HD : Hid (decide (X = Y) = false) := Lib.hid (by
            apply decide_eq_false
            intro h
            rw [h, HQ.out] at HP
            exact hpq (Option.some.inj HP.out).symm)
          clear HE HP HQ hpq
          go_upto_region 6 with (fail)
          go_still (by kernel_rfl)
          go_wp2
          go_ret
          exact ⟨by rw [HD.out]; rfl, HC.out.drew⟩
      · obtain rfl : k = X.length := by omega
        have HD : Hid (decide (X = Y) = true) := Lib.hid (by
          have := HE.out
          rw [List.take_length, hxy, List.take_length] at this
          simp [this])
        clear HE
        go_wp2
        go_ret
        exact ⟨by rw [HD.out]; rfl, HC.out⟩
  · have b10 : ((X.length : Int) != (Y.length : Int)) = true := by simp; omega
    have HD : Hid (decide (X = Y) = false) := Lib.hid (by
      apply decide_eq_false
      intro h
      exact hxy (by rw [h]))
    go_enter Tryd.func62, Tryd.ntmps62
    go_wp2
    go_ret
    exact ⟨by rw [HD.out]; rfl, Chg.refl _ _⟩

set_option maxRecDepth 100000 in
set_option maxHeartbeats 2000000 in
theorem twin_any (Z : List Int) (m : Int) (a : Option Addr) (g o c : Nat) (w : World) (hz : BytesAt w g o Z) (ha : 0 < Z.length → a = some ⟨g, o, none⟩) (hm : Byte m) (hl : Z.length ≤ 1000000000) :
    Calls Tryd.prog 51 #[.slice a Z.length c, .int .i64 m] w fun e w' => ∃ h, e = .returned (.slice (some ⟨h, 0, none⟩) Z.length (Z.length + 2)) ∧ w.heap.size ≤ h ∧ Row w' h (Z ++ [m, m]) ∧ Chg (fun _ => False) w w' := by
  have HZ := Lib.hid hz
  have HA := Lib.hid ha
  have HB := Lib.hid (hz.byte)
  have HM : Hid (∀ a ∈ [m, m], Byte a) := Lib.hid (by simp; exact hm)
  obtain ⟨hm0, hm1⟩ := hm
  clear hz ha
  go_enter Tryd.func51, Tryd.ntmps51
  go_upto_region 1 with (fail)
  go_wp2_with (first
    | (at_make; refine wpList_make8 rfl _ _ rfl _ _ _ _ 0 (Z.length + 2) rfl rfl rfl (by omega) (by omega) (by omega) ?_; intro w1 HR1 HC1)
    | (at_builtin; refine wpList_room8 rfl _ _ 23 rfl w.heap.size (List.replicate (Z.length + 2) 0) [] Z 0 Z.length (Z.length + 2) (.slice a Z.length c) rfl rfl rfl (by simp) rfl HR1.out (List.nil_prefix) (srcBytes (HZ.out.chg HC1.out (fun _ h => h)) HA.out) HB.out (by simp) ?_; intro w2 C2 HR2 HL2 HP2 HC2)
    | (at_builtin; refine wpList_room8 rfl _ _ 23 rfl w.heap.size C2 ([] ++ Z) [m, m] Z.length 2 (Z.length + 2) (.slice (some ⟨w2.heap.size, 0, none⟩) 2 2) rfl rfl rfl HL2.out.symm rfl (HR2.out.chg ((Chg.refl (fun _ => False) _).alloc _) (fun h => h)) HP2.out (srcLit 2 HM.out) HM.out (by rw [HL2.out]; simp) ?_; intro w3 C3 HR3 HL3 HP3 HC3))
  have HF : Hid (Row w3 w.heap.size (Z ++ [m, m]) ∧ Chg (fun _ => False) w w3) := Lib.hid (by
    have e : C3 = Z ++ [m, m] := prefix_whole HP3.out (by rw [HL3.out]; simp)
    exact ⟨e ▸ HR3.out, ((HC1.out.any.trans (HC2.out.mono (fun k _ e => by omega))).trans (((Chg.refl _ w2).alloc _).trans (HC3.out.mono (fun k _ e => by omega)))).fresh⟩)
  go_ret
  exact ⟨_, rfl, Nat.le_refl _, HF.out.1, HF.out.2⟩

set_option maxRecDepth 100000 in
set_option maxHeartbeats 2000000 in
/-- Was the twin left as it was? (It was.) -/
theorem left_any (Z X : List Int) (m : Int) (a : Option Addr) (h g o c : Nat) (w : World) (hr : Row w h (X ++ [m, m])) (hz : BytesAt w g o Z) (ha : 0 < Z.length → a = some ⟨g, o, none⟩) (hl : X.length ≤ 1000000000) :
    Calls Tryd.prog 54 #[.slice (some ⟨h, 0, none⟩) X.length (X.length + 2), .slice a Z.length c, .int .i64 m] w fun e w' => e = .returned (.bool (decide (X = Z))) ∧ Chg (fun _ => False) w w' := by
  have HR := Lib.hid hr
  have HZ := Lib.hid hz
  have HA := Lib.hid ha
  clear hr hz ha
  by_cases hxz : X = Z
  · have HD : Hid (decide (X = Z) = true) := Lib.hid (by simp [hxz])
    have e2 : X.length + 2 - X.length = 2 := by omega
    clear hxz
    go_enter Tryd.func54, Tryd.ntmps54
    go_wp2_with fail
    refine (same_any X Z _ a h 0 g o _ c w (HR.out.bytes (List.prefix_append _ _)) (fun _ => rfl) HZ.out HA.out (by omega)).mono ?_
    rintro e w1 ⟨rfl, hc⟩
    rw [HD.out]
    have HC := Lib.hid hc
    have q0 : w1.cell? ⟨h, X.length, none⟩ = some (.int .i64 m) := (HR.out.chg hc (fun h => h)).c X.length m (by simp)
    have q1 : w1.cell? ⟨h, X.length + 1, none⟩ = some (.int .i64 m) := (HR.out.chg hc (fun h => h)).c (X.length + 1) m (by simp)
    clear hc
    go_wp2
    go_ret
    exact ⟨by rw [HD.out]; rfl, HC.out⟩
  · have HD : Hid (decide (X = Z) = false) := Lib.hid (by simp [hxz])
    have e2 : X.length + 2 - X.length = 2 := by omega
    clear hxz
    go_enter Tryd.func54, Tryd.ntmps54
    go_wp2_with fail
    refine (same_any X Z _ a h 0 g o _ c w (HR.out.bytes (List.prefix_append _ _)) (fun _ => rfl) HZ.out HA.out (by omega)).mono ?_
    rintro e w1 ⟨rfl, hc⟩
    rw [HD.out]
    have HC := Lib.hid hc
    clear hc
    go_wp2
    go_ret
    exact ⟨by rw [HD.out]; rfl, HC.out⟩
end Go.Proofs.YtfhmblbomkhcpaaDoor.I
