/- The chapter's examples. -/
import Derived.Test.YtnfniilimgfjoaaSumsC
import Derived.Test.YtnfniilimgfjoaaStrs
namespace Go.Proofs.Ytnfniilimgfjoaa
open Go.RowKit

def vals3T (x : Int × Int × Int) : Value := .tuple #[.int .u32 x.1, .int .i64 x.2.1, .int .i64 x.2.2]
theorem putL300 : [7] ++ putL 300 = [7, 172, 2] := by
  rw [putL_big (by omega), putL_small (by omega)]
  rfl

set_option maxRecDepth 100000 in
set_option maxHeartbeats 4000000 in
theorem lives_any (w : World) : Calls Try.prog 8 #[] w fun e w' => e = .returned (.bool true) ∧ Chg (fun _ => False) w w' := by
  have HC0 := Lib.hid (Chg.refl (fun _ => False) w)
  go_enter Try.func8, Try.ntmps8
  go_wp2_with fail
  refine (take_any [172,2,9] _ _ 0 3 _ (lit8 _ [172,2,9] 5 (by decide)) (fun _ => rfl) (by decide) (by decide)).mono ?_
  rintro e w1 ⟨rfl, hc⟩
  rw [show takeV (takeL 0 0 [172,2,9]) = (vals3T (300,2,0)) from by kernel_rfl]
  unfold vals3T
  have HC1 := Lib.hid (HC0.out.trans (((Chg.refl (fun _ => False) _).alloc _).trans hc))
  clear hc HC0
  go_wp2_with fail
  refine (take_any [128] _ _ 0 1 _ (lit8 _ [128] 5 (by decide)) (fun _ => rfl) (by decide) (by decide)).mono ?_
  rintro e w2 ⟨rfl, hc⟩
  rw [show takeV (takeL 0 0 [128]) = (vals3T (0,0,4)) from by kernel_rfl]
  unfold vals3T
  have HC2 := Lib.hid (HC1.out.trans (((Chg.refl (fun _ => False) _).alloc _).trans hc))
  clear hc HC1
  go_wp2_with fail
  refine (take_any [128,0] _ _ 0 2 _ (lit8 _ [128,0] 5 (by decide)) (fun _ => rfl) (by decide) (by decide)).mono ?_
  rintro e w3 ⟨rfl, hc⟩
  rw [show takeV (takeL 0 0 [128,0]) = (vals3T (0,0,4)) from by kernel_rfl]
  unfold vals3T
  have HC3 := Lib.hid (HC2.out.trans (((Chg.refl (fun _ => False) _).alloc _).trans hc))
  clear hc HC2
  go_wp2_with fail
  refine (take_any [255,255,255,255,15] _ _ 0 5 _ (lit8 _ [255,255,255,255,15] 5 (by decide)) (fun _ => rfl) (by decide) (by decide)).mono ?_
  rintro e w4 ⟨rfl, hc⟩
  rw [show takeV (takeL 0 0 [255,255,255,255,15]) = (vals3T (4294967295,5,0)) from by kernel_rfl]
  unfold vals3T
  have HC4 := Lib.hid (HC3.out.trans (((Chg.refl (fun _ => False) _).alloc _).trans hc))
  clear hc HC3
  go_wp2_with fail
  refine (take_any [255,255,255,255,16] _ _ 0 5 _ (lit8 _ [255,255,255,255,16] 5 (by decide)) (fun _ => rfl) (by decide) (by decide)).mono ?_
  rintro e w5 ⟨rfl, hc⟩
  rw [show takeV (takeL 0 0 [255,255,255,255,16]) = (vals3T (0,0,4)) from by kernel_rfl]
  unfold vals3T
  have HC5 := Lib.hid (HC4.out.trans (((Chg.refl (fun _ => False) _).alloc _).trans hc))
  clear hc HC4
  go_wp2_with fail
  refine (put_any [7] 300 _ _ 0 1 _ (lit8 _ [7] 5 (by decide)) (fun _ => rfl) (by decide) (by decide)).mono ?_
  rintro e w6 ⟨h, rfl, hh, hr, hc⟩
  rw [putL300] at hr ⊢
  have HC6 := Lib.hid (HC5.out.trans (((Chg.refl (fun _ => False) _).alloc _).trans hc))
  have hcv : (convert 22 9 (.slice (some ⟨h, 0, none⟩) 3 3)).run Try.prog w6 = .ok (.string ⟨#[7, 172, 2]⟩) w6 := conv8 (Z := [7, 172, 2]) 3 (hr.bytes (List.prefix_refl _)) (fun _ => rfl)
  have hcs := Lib.run_convert_bytes_const (P := Try.prog) w6 22 5 #[.int .u8 49, .int .u8 50, .int .u8 51, .int .u8 52, .int .u8 53, .int .u8 54, .int .u8 55, .int .u8 56, .int .u8 57] 9 9 Try.underlying22 Try.underlying5
  clear hc HC5 hr hh
  go_wp2_with fail
  refine (of_nil [49, 50, 51, 52, 53, 54, 55, 56, 57] _ _ 0 9 _ (litMark _ [49, 50, 51, 52, 53, 54, 55, 56, 57] 5 _ (by decide)) (fun _ => rfl) (by decide)).mono ?_
  rintro e w7 ⟨rfl, hc⟩
  rw [of_nine]
  have HC7 := Lib.hid (HC6.out.trans (((Chg.refl (fun _ => False) _).alloc _).trans hc))
  clear hc HC6 hcv hcs
  go_wp2_with fail
  refine (of_nil [] none 0 0 0 _ ⟨fun k a hk => by simp at hk, fun h => (h rfl).elim⟩ (fun h => by simp at h) (by decide)).mono ?_
  rintro e w8 ⟨rfl, hc⟩
  rw [of_none]
  have HC8 := Lib.hid (HC7.out.trans hc)
  clear hc HC7
  go_wp2
  go_ret
  exact ⟨rfl, HC8.out⟩
end Go.Proofs.Ytnfniilimgfjoaa
