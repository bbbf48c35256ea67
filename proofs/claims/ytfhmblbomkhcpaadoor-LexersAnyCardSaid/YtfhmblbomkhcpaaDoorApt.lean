/- Do ranges rise apart: the program's. -/
import Derived.Test.YtfhmblbomkhcpaaDoorRefStep
namespace Go.Proofs.YtfhmblbomkhcpaaDoor
open Go.RowKit

theorem apOk_bad {R : List (Int × Int)} {k : Nat} {x y : Int} (h : R[k]? = some (x, y)) (hb : y < x) : apOk R k = false := by
  unfold apOk
  rw [List.getD_eq_getElem?_getD, h]
  simp only [Option.getD_some]
  rw [decide_eq_false (by omega)]
  rfl
theorem apOk_zero {R : List (Int × Int)} {x y : Int} (h : R[0]? = some (x, y)) (hb : x ≤ y) : apOk R 0 = true := by
  unfold apOk
  rw [List.getD_eq_getElem?_getD, h]
  simp only [Option.getD_some]
  rw [decide_eq_true hb]
  rfl
theorem apOk_succ {R : List (Int × Int)} {k : Nat} {x y x' y' : Int} (h : R[k + 1]? = some (x, y)) (h' : R[k]? = some (x', y')) (hb : x ≤ y) : apOk R (k + 1) = decide (y' < x) := by
  unfold apOk
  rw [List.getD_eq_getElem?_getD, List.getD_eq_getElem?_getD, h, Nat.add_sub_cancel, h']
  simp only [Option.getD_some]
  rw [decide_eq_true hb, decide_eq_false (show ¬ k + 1 = 0 by omega)]
  simp

set_option maxRecDepth 100000 in
set_option maxHeartbeats 4000000 in
theorem apart_rng (R : List (Int × Int)) (a : Option Addr) (c B : Nat) (w : World) (h : rngE.In w B (a, R.length, c) R) (hl : R.length ≤ 1000000000) :
    Calls Tryd.prog 43 #[.slice a R.length c] w fun e w' => e = .returned (.bool (apartB R)) ∧ Chg (fun _ => False) w w' := by
  have HL := Lib.hid h
  clear h
  go_enter Tryd.func43, Tryd.ntmps43
  go_wp2
  go_loopw [7] (fun q wr => ∃ k : Nat, k ≤ R.length ∧ q = .int .i64 k ∧ (∀ j, j < k → apOk R j = true) ∧ Chg (fun _ => False) w wr) (fun q _ => R.length - (intOf q).toNat)
  case atStart => exact ⟨0, by omega, rfl, fun j h => absurd h (Nat.not_lt_zero _), Chg.refl _ _⟩
  case round =>
    obtain ⟨k, hk, rfl, hb, hc⟩ := hrel
    have HB := Lib.hid hb
    have HC := Lib.hid hc
    clear hb hc
    by_cases hkl : k < R.length
    · have b9 : decide ((k : Int) < (R.length : Int)) = true := by simp; omega
      obtain ⟨x, y, g, o, hx, rfl, c0, c1, hx32, hy32, hB, hg⟩ := (HL.out.same HC.out).getR hkl
      have HX := Lib.hid hx
      obtain ⟨wa, hwa⟩ : ∃ v, v = (wr.alloc (.cells #[.int .i32 x, .int .i32 y] 63)) := ⟨_, rfl⟩
      have p0 : wa.cell? ⟨wr.heap.size, 0, none⟩ = some (.int .i32 x) := by rw [hwa, World.cell?_alloc_new]; rfl
      have p1 : wa.cell? ⟨wr.heap.size, 1, none⟩ = some (.int .i32 y) := by rw [hwa, World.cell?_alloc_new]; rfl
      have HCA : Hid (Chg (fun _ => False) w wa) := Lib.hid (by rw [hwa]; exact HC.out.alloc _)
      have HP : Hid (∀ wx, Chg (fun _ => False) wa wx → wx.cell? ⟨wr.heap.size, 0, none⟩ = some (.int .i32 x) ∧ wx.cell? ⟨wr.heap.size, 1, none⟩ = some (.int .i32 y)) := Lib.hid (fun wx hx => ⟨hx.cellS p0 (fun h => h), hx.cellS p1 (fun h => h)⟩)
      have HWA := Lib.hid hwa
      clear p0 p1
      clear hx hwa
      by_cases h1 : y < x
      · have d1 : decide (y < x) = true := by simpa using h1
        have HF : Hid (apartB R = false) := Lib.hid (apartB_false hkl (apOk_bad HX.out h1))
        go_upto_region 4 with (fail)
        rw [← HWA.out]
        clear c0 c1
        refine wp_region_same (fun w' => Chg (fun _ => False) wa w') (by kernel_rfl) (by kernel_rfl) ?_ ?_
        · exact (Chg.refl _ _).drew
        (refine wpC_read rfl (fun _ _ _ h => h) (fun K hK => ?_); apply Exists.intro; refine ⟨fun _ w' _ hC => ?_, ?_⟩; ((skip); go_simp; try with_reducible rfl); (try go_simp); refine hK _ ?_; clear hK K); (refine wpC_read rfl (fun _ _ _ h => h) (fun K hK => ?_); apply Exists.intro; refine ⟨fun _ w' _ hC => ?_, ?_⟩; ((obtain ⟨p0, p1⟩ := HP.out w' hC; (try have c3 := hC.cellS HC3.out (fun h => h)); (try have e4 := HE.out); (try have e5 := HW.out)); go_simp; try with_reducible rfl); (try go_simp); refine hK _ ?_; clear hK K); (refine wpC_read rfl (fun _ _ _ h => h) (fun K hK => ?_); apply Exists.intro; refine ⟨fun _ w' _ hC => ?_, ?_⟩; ((skip); go_simp; try with_reducible rfl); (try go_simp); refine hK _ ?_; clear hK K); (refine wpC_read rfl (fun _ _ _ h => h) (fun K hK => ?_); apply Exists.intro; refine ⟨fun _ w' _ hC => ?_, ?_⟩; ((obtain ⟨p0, p1⟩ := HP.out w' hC; (try have c3 := hC.cellS HC3.out (fun h => h)); (try have e4 := HE.out); (try have e5 := HW.out)); go_simp; try with_reducible rfl); (try go_simp); refine hK _ ?_; clear hK K); (refine wpC_read rfl (fun _ _ _ h => h) (fun K hK => ?_); apply Exists.intro; refine ⟨fun _ w' _ hC => ?_, ?_⟩; ((skip); go_simp; try with_reducible rfl); (try go_simp); refine hK _ ?_; clear hK K); (refine wpC_read rfl (fun _ _ _ h => h) (fun K hK => ?_); apply Exists.intro; refine ⟨fun _ w' _ hC => ?_, ?_⟩; ((skip); go_simp; try with_reducible rfl); (try go_simp); refine hK _ ?_; clear hK K); (refine wpC_skip rfl (fun _ _ _ h => h) (fun K hK => ?_); (try go_simp); refine hK _ ?_; clear hK K); (refine wpC_skip rfl (fun _ _ _ h => h) (fun K hK => ?_); (try go_simp); refine hK _ ?_; clear hK K); (refine wpC_skip rfl (fun _ _ _ h => h) (fun K hK => ?_); (try go_simp); refine hK _ ?_; clear hK K); (refine wpC_skip rfl (fun _ _ _ h => h) (fun K hK => ?_); (try go_simp); refine hK _ ?_; clear hK K); (refine wpC_skip rfl (fun _ _ _ h => h) (fun K hK => ?_); (try go_simp); refine hK _ ?_; clear hK K); (refine wpC_skip rfl (fun _ _ _ h => h) (fun K hK => ?_); (try go_simp); refine hK _ ?_; clear hK K); (refine wpC_skip rfl (fun _ _ _ h => h) (fun K hK => ?_); (try go_simp); refine hK _ ?_; clear hK K); (refine wpC_skip rfl (fun _ _ _ h => h) (fun K hK => ?_); (try go_simp); refine hK _ ?_; clear hK K); (refine wpC_skip rfl (fun _ _ _ h => h) (fun K hK => ?_); (try go_simp); refine hK _ ?_; clear hK K); (refine wpC_skip rfl (fun _ _ _ h => h) (fun K hK => ?_); (try go_simp); refine hK _ ?_; clear hK K); (refine wpC_skip rfl (fun _ _ _ h => h) (fun K hK => ?_); (try go_simp); refine hK _ ?_; clear hK K); (refine wpC_skip rfl (fun _ _ _ h => h) (fun K hK => ?_); (try go_simp); refine hK _ ?_; clear hK K); (refine wpC_skip rfl (fun _ _ _ h => h) (fun K hK => ?_); (try go_simp); refine hK _ ?_; clear hK K); (refine wpC_read rfl (fun _ _ _ h => h) (fun K hK => ?_); apply Exists.intro; refine ⟨fun _ w' _ hC => ?_, ?_⟩; ((skip); go_simp; try with_reducible rfl); (try go_simp); refine hK _ ?_; clear hK K)
        refine wpC_nil ?_
        intro w2 hC2
        have HC2 := Lib.hid (HCA.out.trans hC2)
        clear hC2
        go_wp2
        go_ret
        exact ⟨by rw [HF.out]; rfl, HC2.out⟩
      · have d1 : decide (y < x) = false := by simpa using h1
        by_cases hk0 : k = 0
        · have HK : Hid (∀ j, j < k + 1 → apOk R j = true) := Lib.hid (fun j hj => by
            obtain rfl : j = k := by omega
            have h3 := HX.out
            subst hk0
            exact apOk_zero h3 (by omega))
          have d2 : decide (0 < (k : Int)) = false := by simp; omega
          have d3 : decide (0 < k) = false := by simp; omega
          clear hk0
          go_upto_region 4 with (fail)
          rw [← HWA.out]
          clear c0 c1
          refine wp_region_same (fun w' => Chg (fun _ => False) wa w') (by kernel_rfl) (by kernel_rfl) ?_ ?_
          · exact (Chg.refl _ _).drew
          (refine wpC_read rfl (fun _ _ _ h => h) (fun K hK => ?_); apply Exists.intro; refine ⟨fun _ w' _ hC => ?_, ?_⟩; ((skip); go_simp; try with_reducible rfl); (try go_simp); refine hK _ ?_; clear hK K); (refine wpC_read rfl (fun _ _ _ h => h) (fun K hK => ?_); apply Exists.intro; refine ⟨fun _ w' _ hC => ?_, ?_⟩; ((obtain ⟨p0, p1⟩ := HP.out w' hC; (try have c3 := hC.cellS HC3.out (fun h => h)); (try have e4 := HE.out); (try have e5 := HW.out)); go_simp; try with_reducible rfl); (try go_simp); refine hK _ ?_; clear hK K); (refine wpC_read rfl (fun _ _ _ h => h) (fun K hK => ?_); apply Exists.intro; refine ⟨fun _ w' _ hC => ?_, ?_⟩; ((skip); go_simp; try with_reducible rfl); (try go_simp); refine hK _ ?_; clear hK K); (refine wpC_read rfl (fun _ _ _ h => h) (fun K hK => ?_); apply Exists.intro; refine ⟨fun _ w' _ hC => ?_, ?_⟩; ((obtain ⟨p0, p1⟩ := HP.out w' hC; (try have c3 := hC.cellS HC3.out (fun h => h)); (try have e4 := HE.out); (try have e5 := HW.out)); go_simp; try with_reducible rfl); (try go_simp); refine hK _ ?_; clear hK K); (refine wpC_read rfl (fun _ _ _ h => h) (fun K hK => ?_); apply Exists.intro; refine ⟨fun _ w' _ hC => ?_, ?_⟩; ((skip); go_simp; try with_reducible rfl); (try go_simp); refine hK _ ?_; clear hK K); (refine wpC_read rfl (fun _ _ _ h => h) (fun K hK => ?_); apply Exists.intro; refine ⟨fun _ w' _ hC => ?_, ?_⟩; ((skip); go_simp; try with_reducible rfl); (try go_simp); refine hK _ ?_; clear hK K); (refine wpC_read rfl (fun _ _ _ h => h) (fun K hK => ?_); apply Exists.intro; refine ⟨fun _ w' _ hC => ?_, ?_⟩; ((skip); go_simp; try with_reducible rfl); (try go_simp); refine hK _ ?_; clear hK K); (refine wpC_read rfl (fun _ _ _ h => h) (fun K hK => ?_); apply Exists.intro; refine ⟨fun _ w' _ hC => ?_, ?_⟩; ((skip); go_simp; try with_reducible rfl); (try go_simp); refine hK _ ?_; clear hK K); (refine wpC_read rfl (fun _ _ _ h => h) (fun K hK => ?_); apply Exists.intro; refine ⟨fun _ w' _ hC => ?_, ?_⟩; ((skip); go_simp; try with_reducible rfl); (try go_simp); refine hK _ ?_; clear hK K); (refine wpC_skip rfl (fun _ _ _ h => h) (fun K hK => ?_); (try go_simp); refine hK _ ?_; clear hK K); (refine wpC_skip rfl (fun _ _ _ h => h) (fun K hK => ?_); (try go_simp); refine hK _ ?_; clear hK K); (refine wpC_skip rfl (fun _ _ _ h => h) (fun K hK => ?_); (try go_simp); refine hK _ ?_; clear hK K); (refine wpC_skip rfl (fun _ _ _ h => h) (fun K hK => ?_); (try go_simp); refine hK _ ?_; clear hK K); (refine wpC_skip rfl (fun _ _ _ h => h) (fun K hK => ?_); (try go_simp); refine hK _ ?_; clear hK K); (refine wpC_skip rfl (fun _ _ _ h => h) (fun K hK => ?_); (try go_simp); refine hK _ ?_; clear hK K); (refine wpC_skip rfl (fun _ _ _ h => h) (fun K hK => ?_); (try go_simp); refine hK _ ?_; clear hK K); (refine wpC_skip rfl (fun _ _ _ h => h) (fun K hK => ?_); (try go_simp); refine hK _ ?_; clear hK K); (refine wpC_skip rfl (fun _ _ _ h => h) (fun K hK => ?_); (try go_simp); refine hK _ ?_; clear hK K); (refine wpC_read rfl (fun _ _ _ h => h) (fun K hK => ?_); apply Exists.intro; refine ⟨fun _ w' _ hC => ?_, ?_⟩; ((skip); go_simp; try with_reducible rfl); (try go_simp); refine hK _ ?_; clear hK K); (refine wpC_read rfl (fun _ _ _ h => h) (fun K hK => ?_); apply Exists.intro; refine ⟨fun _ w' _ hC => ?_, ?_⟩; ((skip); go_simp; try with_reducible rfl); (try go_simp); refine hK _ ?_; clear hK K)
          refine wpC_nil ?_
          intro w2 hC2
          have HC2 := Lib.hid (HCA.out.trans hC2)
          clear hC2
          go_wp2
          go_roundw
          case rel => exact ⟨k + 1, by omega, by go_num, HK.out, HC2.out⟩
          case measure => simp [intOf]; omega
        · obtain ⟨m, hm⟩ : ∃ m, k = m + 1 := ⟨k - 1, by omega⟩
          obtain ⟨x', y', g', o', hx', ha', c2, c3, -, hy', -, -⟩ := (HL.out.same HCA.out).getR (show m < R.length by omega)
          injection ha' with ha'
          injection ha' with e1 e2
          subst e1 e2
          have d2 : decide (0 < (k : Int)) = true := by simp; omega
          have d3 : decide (0 < k) = true := by simp; omega
          have e4 : (k : Int) - 1 = (m : Int) := by omega
          have hml : m < R.length := by omega
          have hm1 : (1 : Int) ≤ k := by omega
          have HM := Lib.hid hm
          have HE := Lib.hid e4
          have HW : Hid (IntKind.i64.wrap (m : Int) = m) := Lib.hid (IntWalk.i64_in _ (by omega))
          have HAP : Hid (apOk R k = decide (y' < x)) := Lib.hid (by have := HX.out; rw [hm] at this ⊢; exact apOk_succ this hx' (by omega))
          have HC3 := Lib.hid c3
          clear hx' hm e4 c2 c3
          by_cases h2 : x ≤ y'
          · have d4 : decide (x ≤ y') = true := by simpa using h2
            have HF : Hid (apartB R = false) := Lib.hid (apartB_false hkl (by rw [HAP.out]; simpa using h2))
            go_upto_region 4 with (fail)
            rw [← HWA.out]
            clear c0 c1
            refine wp_region_same (fun w' => Chg (fun _ => False) wa w') (by kernel_rfl) (by kernel_rfl) ?_ ?_
            · exact (Chg.refl _ _).drew
            (refine wpC_read rfl (fun _ _ _ h => h) (fun K hK => ?_); apply Exists.intro; refine ⟨fun _ w' _ hC => ?_, ?_⟩; ((skip); go_simp; try with_reducible rfl); (try go_simp); refine hK _ ?_; clear hK K); (refine wpC_read rfl (fun _ _ _ h => h) (fun K hK => ?_); apply Exists.intro; refine ⟨fun _ w' _ hC => ?_, ?_⟩; ((obtain ⟨p0, p1⟩ := HP.out w' hC; (try have c3 := hC.cellS HC3.out (fun h => h)); (try have e4 := HE.out); (try have e5 := HW.out)); go_simp; try with_reducible rfl); (try go_simp); refine hK _ ?_; clear hK K); (refine wpC_read rfl (fun _ _ _ h => h) (fun K hK => ?_); apply Exists.intro; refine ⟨fun _ w' _ hC => ?_, ?_⟩; ((skip); go_simp; try with_reducible rfl); (try go_simp); refine hK _ ?_; clear hK K); (refine wpC_read rfl (fun _ _ _ h => h) (fun K hK => ?_); apply Exists.intro; refine ⟨fun _ w' _ hC => ?_, ?_⟩; ((obtain ⟨p0, p1⟩ := HP.out w' hC; (try have c3 := hC.cellS HC3.out (fun h => h)); (try have e4 := HE.out); (try have e5 := HW.out)); go_simp; try with_reducible rfl); (try go_simp); refine hK _ ?_; clear hK K); (refine wpC_read rfl (fun _ _ _ h => h) (fun K hK => ?_); apply Exists.intro; refine ⟨fun _ w' _ hC => ?_, ?_⟩; ((skip); go_simp; try with_reducible rfl); (try go_simp); refine hK _ ?_; clear hK K); (refine wpC_read rfl (fun _ _ _ h => h) (fun K hK => ?_); apply Exists.intro; refine ⟨fun _ w' _ hC => ?_, ?_⟩; ((skip); go_simp; try with_reducible rfl); (try go_simp); refine hK _ ?_; clear hK K); (refine wpC_read rfl (fun _ _ _ h => h) (fun K hK => ?_); apply Exists.intro; refine ⟨fun _ w' _ hC => ?_, ?_⟩; ((skip); go_simp; try with_reducible rfl); (try go_simp); refine hK _ ?_; clear hK K); (refine wpC_read rfl (fun _ _ _ h => h) (fun K hK => ?_); apply Exists.intro; refine ⟨fun _ w' _ hC => ?_, ?_⟩; ((skip); go_simp; try with_reducible rfl); (try go_simp); refine hK _ ?_; clear hK K); (refine wpC_read rfl (fun _ _ _ h => h) (fun K hK => ?_); apply Exists.intro; refine ⟨fun _ w' _ hC => ?_, ?_⟩; ((skip); go_simp; try with_reducible rfl); (try go_simp); refine hK _ ?_; clear hK K); (refine wpC_read rfl (fun _ _ _ h => h) (fun K hK => ?_); apply Exists.intro; refine ⟨fun _ w' _ hC => ?_, ?_⟩; ((skip); go_simp; try with_reducible rfl); (try go_simp); refine hK _ ?_; clear hK K); (refine wpC_read rfl (fun _ _ _ h => h) (fun K hK => ?_); apply Exists.intro; refine ⟨fun _ w' _ hC => ?_, ?_⟩; ((obtain ⟨p0, p1⟩ := HP.out w' hC; (try have c3 := hC.cellS HC3.out (fun h => h)); (try have e4 := HE.out); (try have e5 := HW.out)); go_simp; try with_reducible rfl); (try go_simp); refine hK _ ?_; clear hK K); (refine wpC_read rfl (fun _ _ _ h => h) (fun K hK => ?_); apply Exists.intro; refine ⟨fun _ w' _ hC => ?_, ?_⟩; ((skip); go_simp; try with_reducible rfl); (try go_simp); refine hK _ ?_; clear hK K); (refine wpC_read rfl (fun _ _ _ h => h) (fun K hK => ?_); apply Exists.intro; refine ⟨fun _ w' _ hC => ?_, ?_⟩; ((skip); go_simp; try with_reducible rfl); (try go_simp); refine hK _ ?_; clear hK K); (refine wpC_read rfl (fun _ _ _ h => h) (fun K hK => ?_); apply Exists.intro; refine ⟨fun _ w' _ hC => ?_, ?_⟩; ((obtain ⟨p0, p1⟩ := HP.out w' hC; (try have c3 := hC.cellS HC3.out (fun h => h)); (try have e4 := HE.out); (try have e5 := HW.out)); go_simp; try with_reducible rfl); (try go_simp); refine hK _ ?_; clear hK K); (refine wpC_read rfl (fun _ _ _ h => h) (fun K hK => ?_); apply Exists.intro; refine ⟨fun _ w' _ hC => ?_, ?_⟩; ((obtain ⟨p0, p1⟩ := HP.out w' hC; (try have c3 := hC.cellS HC3.out (fun h => h)); (try have e4 := HE.out); (try have e5 := HW.out)); go_simp; try with_reducible rfl); (try go_simp); refine hK _ ?_; clear hK K); (refine wpC_read rfl (fun _ _ _ h => h) (fun K hK => ?_); apply Exists.intro; refine ⟨fun _ w' _ hC => ?_, ?_⟩; ((obtain ⟨p0, p1⟩ := HP.out w' hC; (try have c3 := hC.cellS HC3.out (fun h => h)); (try have e4 := HE.out); (try have e5 := HW.out)); go_simp; try with_reducible rfl); (try go_simp); refine hK _ ?_; clear hK K); (refine wpC_read rfl (fun _ _ _ h => h) (fun K hK => ?_); apply Exists.intro; refine ⟨fun _ w' _ hC => ?_, ?_⟩; ((obtain ⟨p0, p1⟩ := HP.out w' hC; (try have c3 := hC.cellS HC3.out (fun h => h)); (try have e4 := HE.out); (try have e5 := HW.out)); go_simp; try with_reducible rfl); (try go_simp); refine hK _ ?_; clear hK K); (refine wpC_read rfl (fun _ _ _ h => h) (fun K hK => ?_); apply Exists.intro; refine ⟨fun _ w' _ hC => ?_, ?_⟩; ((skip); go_simp; try with_reducible rfl); (try go_simp); refine hK _ ?_; clear hK K); (refine wpC_read rfl (fun _ _ _ h => h) (fun K hK => ?_); apply Exists.intro; refine ⟨fun _ w' _ hC => ?_, ?_⟩; ((skip); go_simp; try with_reducible rfl); (try go_simp); refine hK _ ?_; clear hK K); (refine wpC_read rfl (fun _ _ _ h => h) (fun K hK => ?_); apply Exists.intro; refine ⟨fun _ w' _ hC => ?_, ?_⟩; ((skip); go_simp; try with_reducible rfl); (try go_simp); refine hK _ ?_; clear hK K)
            refine wpC_nil ?_
            intro w2 hC2
            have HC2 := Lib.hid (HCA.out.trans hC2)
            clear hC2
            go_wp2
            go_ret
            exact ⟨by rw [HF.out]; rfl, HC2.out⟩
          · have d4 : decide (x ≤ y') = false := by simpa using h2
            have HK : Hid (∀ j, j < k + 1 → apOk R j = true) := Lib.hid (fun j hj => by
              by_cases he : j = k
              · rw [he, HAP.out]; simp; omega
              · exact HB.out j (by omega))
            go_upto_region 4 with (fail)
            rw [← HWA.out]
            clear c0 c1
            refine wp_region_same (fun w' => Chg (fun _ => False) wa w') (by kernel_rfl) (by kernel_rfl) ?_ ?_
            · exact (Chg.refl _ _).drew
            (refine wpC_read rfl (fun _ _ _ h => h) (fun K hK => ?_); apply Exists.intro; refine ⟨fun _ w' _ hC => ?_, ?_⟩; ((skip); go_simp; try with_reducible rfl); (try go_simp); refine hK _ ?_; clear hK K); (refine wpC_read rfl (fun _ _ _ h => h) (fun K hK => ?_); apply Exists.intro; refine ⟨fun _ w' _ hC => ?_, ?_⟩; ((obtain ⟨p0, p1⟩ := HP.out w' hC; (try have c3 := hC.cellS HC3.out (fun h => h)); (try have e4 := HE.out); (try have e5 := HW.out)); go_simp; try with_reducible rfl); (try go_simp); refine hK _ ?_; clear hK K); (refine wpC_read rfl (fun _ _ _ h => h) (fun K hK => ?_); apply Exists.intro; refine ⟨fun _ w' _ hC => ?_, ?_⟩; ((skip); go_simp; try with_reducible rfl); (try go_simp); refine hK _ ?_; clear hK K); (refine wpC_read rfl (fun _ _ _ h => h) (fun K hK => ?_); apply Exists.intro; refine ⟨fun _ w' _ hC => ?_, ?_⟩; ((obtain ⟨p0, p1⟩ := HP.out w' hC; (try have c3 := hC.cellS HC3.out (fun h => h)); (try have e4 := HE.out); (try have e5 := HW.out)); go_simp; try with_reducible rfl); (try go_simp); refine hK _ ?_; clear hK K); (refine wpC_read rfl (fun _ _ _ h => h) (fun K hK => ?_); apply Exists.intro; refine ⟨fun _ w' _ hC => ?_, ?_⟩; ((skip); go_simp; try with_reducible rfl); (try go_simp); refine hK _ ?_; clear hK K); (refine wpC_read rfl (fun _ _ _ h => h) (fun K hK => ?_); apply Exists.intro; refine ⟨fun _ w' _ hC => ?_, ?_⟩; ((skip); go_simp; try with_reducible rfl); (try go_simp); refine hK _ ?_; clear hK K); (refine wpC_read rfl (fun _ _ _ h => h) (fun K hK => ?_); apply Exists.intro; refine ⟨fun _ w' _ hC => ?_, ?_⟩; ((skip); go_simp; try with_reducible rfl); (try go_simp); refine hK _ ?_; clear hK K); (refine wpC_read rfl (fun _ _ _ h => h) (fun K hK => ?_); apply Exists.intro; refine ⟨fun _ w' _ hC => ?_, ?_⟩; ((skip); go_simp; try with_reducible rfl); (try go_simp); refine hK _ ?_; clear hK K); (refine wpC_read rfl (fun _ _ _ h => h) (fun K hK => ?_); apply Exists.intro; refine ⟨fun _ w' _ hC => ?_, ?_⟩; ((skip); go_simp; try with_reducible rfl); (try go_simp); refine hK _ ?_; clear hK K); (refine wpC_read rfl (fun _ _ _ h => h) (fun K hK => ?_); apply Exists.intro; refine ⟨fun _ w' _ hC => ?_, ?_⟩; ((skip); go_simp; try with_reducible rfl); (try go_simp); refine hK _ ?_; clear hK K); (refine wpC_read rfl (fun _ _ _ h => h) (fun K hK => ?_); apply Exists.intro; refine ⟨fun _ w' _ hC => ?_, ?_⟩; ((obtain ⟨p0, p1⟩ := HP.out w' hC; (try have c3 := hC.cellS HC3.out (fun h => h)); (try have e4 := HE.out); (try have e5 := HW.out)); go_simp; try with_reducible rfl); (try go_simp); refine hK _ ?_; clear hK K); (refine wpC_read rfl (fun _ _ _ h => h) (fun K hK => ?_); apply Exists.intro; refine ⟨fun _ w' _ hC => ?_, ?_⟩; ((skip); go_simp; try with_reducible rfl); (try go_simp); refine hK _ ?_; clear hK K); (refine wpC_read rfl (fun _ _ _ h => h) (fun K hK => ?_); apply Exists.intro; refine ⟨fun _ w' _ hC => ?_, ?_⟩; ((skip); go_simp; try with_reducible rfl); (try go_simp); refine hK _ ?_; clear hK K); (refine wpC_read rfl (fun _ _ _ h => h) (fun K hK => ?_); apply Exists.intro; refine ⟨fun _ w' _ hC => ?_, ?_⟩; ((obtain ⟨p0, p1⟩ := HP.out w' hC; (try have c3 := hC.cellS HC3.out (fun h => h)); (try have e4 := HE.out); (try have e5 := HW.out)); go_simp; try with_reducible rfl); (try go_simp); refine hK _ ?_; clear hK K); (refine wpC_read rfl (fun _ _ _ h => h) (fun K hK => ?_); apply Exists.intro; refine ⟨fun _ w' _ hC => ?_, ?_⟩; ((obtain ⟨p0, p1⟩ := HP.out w' hC; (try have c3 := hC.cellS HC3.out (fun h => h)); (try have e4 := HE.out); (try have e5 := HW.out)); go_simp; try with_reducible rfl); (try go_simp); refine hK _ ?_; clear hK K); (refine wpC_read rfl (fun _ _ _ h => h) (fun K hK => ?_); apply Exists.intro; refine ⟨fun _ w' _ hC => ?_, ?_⟩; ((obtain ⟨p0, p1⟩ := HP.out w' hC; (try have c3 := hC.cellS HC3.out (fun h => h)); (try have e4 := HE.out); (try have e5 := HW.out)); go_simp; try with_reducible rfl); (try go_simp); refine hK _ ?_; clear hK K); (refine wpC_read rfl (fun _ _ _ h => h) (fun K hK => ?_); apply Exists.intro; refine ⟨fun _ w' _ hC => ?_, ?_⟩; ((obtain ⟨p0, p1⟩ := HP.out w' hC; (try have c3 := hC.cellS HC3.out (fun h => h)); (try have e4 := HE.out); (try have e5 := HW.out)); go_simp; try with_reducible rfl); (try go_simp); refine hK _ ?_; clear hK K); (refine wpC_read rfl (fun _ _ _ h => h) (fun K hK => ?_); apply Exists.intro; refine ⟨fun _ w' _ hC => ?_, ?_⟩; ((skip); go_simp; try with_reducible rfl); (try go_simp); refine hK _ ?_; clear hK K); (refine wpC_read rfl (fun _ _ _ h => h) (fun K hK => ?_); apply Exists.intro; refine ⟨fun _ w' _ hC => ?_, ?_⟩; ((skip); go_simp; try with_reducible rfl); (try go_simp); refine hK _ ?_; clear hK K); (refine wpC_read rfl (fun _ _ _ h => h) (fun K hK => ?_); apply Exists.intro; refine ⟨fun _ w' _ hC => ?_, ?_⟩; ((skip); go_simp; try with_reducible rfl); (try go_simp); refine hK _ ?_; clear hK K)
            refine wpC_nil ?_
            intro w2 hC2
            have HC2 := Lib.hid (HCA.out.trans hC2)
            clear hC2
            go_wp2
            go_roundw
            case rel => exact ⟨k + 1, by omega, by go_num, HK.out, HC2.out⟩
            case measure => simp [intOf]; omega
    · obtain rfl : k = R.length := by omega
      have HF : Hid (apartB R = true) := Lib.hid (apartB_true HB.out)
      go_wp2
      go_ret
      exact ⟨by rw [HF.out]; rfl, HC.out⟩
end Go.Proofs.YtfhmblbomkhcpaaDoor
