/- Was a twin of ranges left as it was? (It was.) -/
import Derived.Test.YtfhmblbomkhcpaaDoorTwinsR
namespace Go.Proofs.YtfhmblbomkhcpaaDoor
open Go.RowKit

theorem Elt.Row.cell {α : Type} {E : Elt α} {w : World} {g : Nat} {C : List α} (h : E.Row w g C) {k i j : Nat} {x : α} {u : Value} (hx : C[k]? = some x) (hu : (E.enc x)[i]? = some u) (hj : j = k * E.sz + i) : w.cell? ⟨g, j, none⟩ = some u := by
  have := (h.at' (List.prefix_refl _)).get hx hu
  rw [Nat.zero_add] at this
  rw [hj]
  exact this

set_option maxRecDepth 100000 in
set_option maxHeartbeats 4000000 in
theorem leftRng (X : List (Int × Int)) (m : Int × Int) (a : Option Addr) (h c B : Nat) (w : World) (hr : rngE.Row w h (X ++ [m, m])) (hz : rngE.In w B (a, X.length, c) X) (hl : X.length ≤ 1000000000) :
    Calls Tryd.prog 53 #[.slice (some ⟨h, 0, none⟩) X.length (X.length + 2), .slice a X.length c, .agg #[.int .i32 m.1, .int .i32 m.2]] w fun e w' => e = .returned (.bool true) ∧ Chg (fun _ => False) w w' := by
  have HR := Lib.hid hr
  have HZ := Lib.hid hz
  obtain ⟨m0, m1⟩ := m
  simp only
  obtain ⟨wa, hwa⟩ : ∃ x, x = w.alloc (.cells #[.int .i32 m0, .int .i32 m1] 63) := ⟨_, rfl⟩
  have p0 : wa.cell? ⟨w.heap.size, 0, none⟩ = some (.int .i32 m0) := by rw [hwa, World.cell?_alloc_new]; rfl
  have p1 : wa.cell? ⟨w.heap.size, 1, none⟩ = some (.int .i32 m1) := by rw [hwa, World.cell?_alloc_new]; rfl
  have HCA : Hid (Chg (fun _ => False) w wa) := Lib.hid (by rw [hwa]; exact (Chg.refl _ _).alloc _)
  have HWA := Lib.hid hwa
  have hra := hr.chg HCA.out (fun h => h)
  have k0 : wa.cell? ⟨h, X.length * 2, none⟩ = some (.int .i32 m0) := hra.cell (k := X.length) (i := 0) (x := (m0, m1)) (by simp) rfl (by show _ = X.length * 2 + 0; omega)
  have k1 : wa.cell? ⟨h, X.length * 2 + 1, none⟩ = some (.int .i32 m1) := hra.cell (k := X.length) (i := 1) (x := (m0, m1)) (by simp) rfl (by show _ = X.length * 2 + 1; omega)
  have k2 : wa.cell? ⟨h, X.length * 2 + 2, none⟩ = some (.int .i32 m0) := hra.cell (k := X.length + 1) (i := 0) (x := (m0, m1)) (by simp) rfl (by show _ = (X.length + 1) * 2 + 0; omega)
  have k3 : wa.cell? ⟨h, X.length * 2 + 3, none⟩ = some (.int .i32 m1) := hra.cell (k := X.length + 1) (i := 1) (x := (m0, m1)) (by simp) rfl (by show _ = (X.length + 1) * 2 + 1; omega)
  have HP := Lib.hid (show _ ∧ _ ∧ _ ∧ _ ∧ _ ∧ _ from ⟨p0, p1, k0, k1, k2, k3⟩)
  clear hr hz hwa hra p0 p1 k0 k1 k2 k3
  have e2 : X.length + 2 - X.length = 2 := by omega
  go_enter Tryd.func53, Tryd.ntmps53
  go_upto_region 1 with (fail)
  rw [← HWA.out]
  go_upto_region 2 with (fail)
  refine wp_region_same (fun w' => Chg (fun _ => False) wa w') (by kernel_rfl) (by kernel_rfl) ?_ ?_
  · exact (Chg.refl _ _).drew
  (refine wpC_read rfl (fun _ _ _ h => h) (fun K hK => ?_); apply Exists.intro; refine ⟨fun _ w' _ hC => ?_, ?_⟩; ((skip); go_simp; try with_reducible rfl); (try go_simp); refine hK _ ?_; clear hK K)
  (refine wpC_read rfl (fun _ _ _ h => h) (fun K hK => ?_); apply Exists.intro; refine ⟨fun _ w' _ hC => ?_, ?_⟩; ((skip); go_simp; try with_reducible rfl); (try go_simp); refine hK _ ?_; clear hK K)
  refine wpC_call rfl (Value.bool true )  61  ( #[.slice (some ⟨h, 0, none⟩) X.length (X.length + 2), .slice a X.length c]) (fun w' => by go_simp) (fun _ w' _ hC => ?_) (fun K hK => ?_)
  · refine (sameRng X (some ⟨h, 0, none⟩) a _ c 0 B w' ⟨rfl, by show X.length ≤ X.length + 2; omega, h, 0, (HR.out.chg (HCA.out.trans hC) (fun h => h)).at' (List.prefix_append _ _), fun _ => ⟨rfl, Nat.zero_le _⟩⟩ (HZ.out.same (HCA.out.trans hC)) (by omega)).mono ?_
    rintro e w2 ⟨rfl, hc⟩
    exact ⟨rfl, hC.trans hc⟩
  ((try go_simp); refine hK _ ?_; clear hK K)
  (refine wpC_read rfl (fun _ _ _ h => h) (fun K hK => ?_); apply Exists.intro; refine ⟨fun _ w' _ hC => ?_, ?_⟩; ((skip); go_simp; try with_reducible rfl); (try go_simp); refine hK _ ?_; clear hK K); (refine wpC_read rfl (fun _ _ _ h => h) (fun K hK => ?_); apply Exists.intro; refine ⟨fun _ w' _ hC => ?_, ?_⟩; ((skip); go_simp; try with_reducible rfl); (try go_simp); refine hK _ ?_; clear hK K); (refine wpC_read rfl (fun _ _ _ h => h) (fun K hK => ?_); apply Exists.intro; refine ⟨fun _ w' _ hC => ?_, ?_⟩; ((skip); go_simp; try with_reducible rfl); (try go_simp); refine hK _ ?_; clear hK K); (refine wpC_read rfl (fun _ _ _ h => h) (fun K hK => ?_); apply Exists.intro; refine ⟨fun _ w' _ hC => ?_, ?_⟩; ((skip); go_simp; try with_reducible rfl); (try go_simp); refine hK _ ?_; clear hK K); (refine wpC_read rfl (fun _ _ _ h => h) (fun K hK => ?_); apply Exists.intro; refine ⟨fun _ w' _ hC => ?_, ?_⟩; ((skip); go_simp; try with_reducible rfl); (try go_simp); refine hK _ ?_; clear hK K); (refine wpC_read rfl (fun _ _ _ h => h) (fun K hK => ?_); apply Exists.intro; refine ⟨fun _ w' _ hC => ?_, ?_⟩; ((skip); go_simp; try with_reducible rfl); (try go_simp); refine hK _ ?_; clear hK K); (refine wpC_read rfl (fun _ _ _ h => h) (fun K hK => ?_); apply Exists.intro; refine ⟨fun _ w' _ hC => ?_, ?_⟩; ((skip); go_simp; try with_reducible rfl); (try go_simp); refine hK _ ?_; clear hK K); (refine wpC_read rfl (fun _ _ _ h => h) (fun K hK => ?_); apply Exists.intro; refine ⟨fun _ w' _ hC => ?_, ?_⟩; ((have p0 := hC.cellS HP.out.1 (fun h => h); have p1 := hC.cellS HP.out.2.1 (fun h => h); have k0 := hC.cellS HP.out.2.2.1 (fun h => h); have k1 := hC.cellS HP.out.2.2.2.1 (fun h => h); have k2 := hC.cellS HP.out.2.2.2.2.1 (fun h => h); have k3 := hC.cellS HP.out.2.2.2.2.2 (fun h => h)); go_simp; try with_reducible rfl); (try go_simp); refine hK _ ?_; clear hK K); (refine wpC_read rfl (fun _ _ _ h => h) (fun K hK => ?_); apply Exists.intro; refine ⟨fun _ w' _ hC => ?_, ?_⟩; ((have p0 := hC.cellS HP.out.1 (fun h => h); have p1 := hC.cellS HP.out.2.1 (fun h => h); have k0 := hC.cellS HP.out.2.2.1 (fun h => h); have k1 := hC.cellS HP.out.2.2.2.1 (fun h => h); have k2 := hC.cellS HP.out.2.2.2.2.1 (fun h => h); have k3 := hC.cellS HP.out.2.2.2.2.2 (fun h => h)); go_simp; try with_reducible rfl); (try go_simp); refine hK _ ?_; clear hK K); (refine wpC_read rfl (fun _ _ _ h => h) (fun K hK => ?_); apply Exists.intro; refine ⟨fun _ w' _ hC => ?_, ?_⟩; ((skip); go_simp; try with_reducible rfl); (try go_simp); refine hK _ ?_; clear hK K); (refine wpC_read rfl (fun _ _ _ h => h) (fun K hK => ?_); apply Exists.intro; refine ⟨fun _ w' _ hC => ?_, ?_⟩; ((skip); go_simp; try with_reducible rfl); (try go_simp); refine hK _ ?_; clear hK K); (refine wpC_read rfl (fun _ _ _ h => h) (fun K hK => ?_); apply Exists.intro; refine ⟨fun _ w' _ hC => ?_, ?_⟩; ((skip); go_simp; try with_reducible rfl); (try go_simp); refine hK _ ?_; clear hK K); (refine wpC_read rfl (fun _ _ _ h => h) (fun K hK => ?_); apply Exists.intro; refine ⟨fun _ w' _ hC => ?_, ?_⟩; ((skip); go_simp; try with_reducible rfl); (try go_simp); refine hK _ ?_; clear hK K); (refine wpC_read rfl (fun _ _ _ h => h) (fun K hK => ?_); apply Exists.intro; refine ⟨fun _ w' _ hC => ?_, ?_⟩; ((have p0 := hC.cellS HP.out.1 (fun h => h); have p1 := hC.cellS HP.out.2.1 (fun h => h); have k0 := hC.cellS HP.out.2.2.1 (fun h => h); have k1 := hC.cellS HP.out.2.2.2.1 (fun h => h); have k2 := hC.cellS HP.out.2.2.2.2.1 (fun h => h); have k3 := hC.cellS HP.out.2.2.2.2.2 (fun h => h)); go_simp; try with_reducible rfl); (try go_simp); refine hK _ ?_; clear hK K); (refine wpC_read rfl (fun _ _ _ h => h) (fun K hK => ?_); apply Exists.intro; refine ⟨fun _ w' _ hC => ?_, ?_⟩; ((have p0 := hC.cellS HP.out.1 (fun h => h); have p1 := hC.cellS HP.out.2.1 (fun h => h); have k0 := hC.cellS HP.out.2.2.1 (fun h => h); have k1 := hC.cellS HP.out.2.2.2.1 (fun h => h); have k2 := hC.cellS HP.out.2.2.2.2.1 (fun h => h); have k3 := hC.cellS HP.out.2.2.2.2.2 (fun h => h)); go_simp; try with_reducible rfl); (try go_simp); refine hK _ ?_; clear hK K); (refine wpC_read rfl (fun _ _ _ h => h) (fun K hK => ?_); apply Exists.intro; refine ⟨fun _ w' _ hC => ?_, ?_⟩; ((skip); go_simp; try with_reducible rfl); (try go_simp); refine hK _ ?_; clear hK K); (refine wpC_read rfl (fun _ _ _ h => h) (fun K hK => ?_); apply Exists.intro; refine ⟨fun _ w' _ hC => ?_, ?_⟩; ((skip); go_simp; try with_reducible rfl); (try go_simp); refine hK _ ?_; clear hK K); (refine wpC_read rfl (fun _ _ _ h => h) (fun K hK => ?_); apply Exists.intro; refine ⟨fun _ w' _ hC => ?_, ?_⟩; ((skip); go_simp; try with_reducible rfl); (try go_simp); refine hK _ ?_; clear hK K); (refine wpC_read rfl (fun _ _ _ h => h) (fun K hK => ?_); apply Exists.intro; refine ⟨fun _ w' _ hC => ?_, ?_⟩; ((skip); go_simp; try with_reducible rfl); (try go_simp); refine hK _ ?_; clear hK K); (refine wpC_read rfl (fun _ _ _ h => h) (fun K hK => ?_); apply Exists.intro; refine ⟨fun _ w' _ hC => ?_, ?_⟩; ((skip); go_simp; try with_reducible rfl); (try go_simp); refine hK _ ?_; clear hK K)
  refine wpC_nil ?_
  intro w2 hC2
  have HC2 := Lib.hid (HCA.out.trans hC2)
  clear hC2
  go_wp2
  go_ret
  exact ⟨rfl, HC2.out⟩
set_option maxRecDepth 100000 in
set_option maxHeartbeats 2000000 in
theorem leftRanges (X : List (Int × Int)) (a : Option Addr) (h c B : Nat) (w : World) (hr : rngE.Row w h (X ++ [(-77, 0), (-77, 0)])) (hz : rngE.In w B (a, X.length, c) X) (hl : X.length ≤ 1000000000) :
    Calls Tryd.prog 32 #[.slice (some ⟨h, 0, none⟩) X.length (X.length + 2), .slice a X.length c] w fun e w' => e = .returned (.bool true) ∧ Chg (fun _ => False) w w' := by
  have HZ := Lib.hid hz
  have HR := Lib.hid hr
  clear hz hr
  go_enter Tryd.func32, Tryd.ntmps32
  go_wp2_with fail
  refine (leftRng X (-77, 0) a h c B w HR.out HZ.out hl).mono ?_
  rintro e w1 ⟨rfl, hc⟩
  have HC := Lib.hid hc
  clear hc
  go_wp2
  go_ret
  exact ⟨rfl, HC.out⟩
end Go.Proofs.YtfhmblbomkhcpaaDoor
