/- Does a page of tokens stand as it was written? -/
import Derived.Test.YtfhmblbomkhcpaaDoorPageB
namespace Go.Proofs.YtfhmblbomkhcpaaDoor
open Go.RowKit

set_option maxRecDepth 100000 in
set_option maxHeartbeats 2000000 in
theorem standsT_any (p : PgT) (w : World) (h : PageTSt w p 2) (hlt : ∀ g, p.g = some g → g < w.heap.size) :
    Calls Tryd.prog 81 #[p.row] w fun e w' => e = .returned (.bool true) ∧ Chg (fun _ => False) w w' := by
  obtain ⟨pg, len, cap, ⟨m0, m1, m2⟩, ⟨h0, h1, h2⟩⟩ := p
  have hmax : cap ≤ 1000000000000 := h.max
  have hlen : len ≤ cap := h.len
  have HNONE : Hid (pg = none → cap = 0) := Lib.hid h.none
  have HROW : Hid (∀ g, pg = some g → ∃ C : List TokD, tokE.Row w g C ∧ C.length = cap ∧ (∀ k, k < len → C[k]? = some (m0, m1, m2)) ∧ ∀ k, len ≤ k → k < cap → C[k]? = some (h0, h1, h2)) := Lib.hid fun g hg => by
    obtain ⟨C, h1, h2, h3, h4⟩ := h.row g hg
    exact ⟨C, h1, h2, h3 (by omega), h4 (by omega)⟩
  obtain ⟨v, hv⟩ : ∃ v : Value, v = .slice (pg.map fun g => ⟨g, 0, none⟩) len cap := ⟨_, rfl⟩
  obtain ⟨wa, hwa⟩ : ∃ x, x = w.alloc (.cells #[v, .int .i64 m0, .string m1, .int .i64 m2, .int .i64 h0, .string h1, .int .i64 h2] 85) := ⟨_, rfl⟩
  have HBX : Hid (wa.cell? ⟨w.heap.size, 0, none⟩ = some v ∧ wa.cell? ⟨w.heap.size, 1, none⟩ = some (.int .i64 m0) ∧ wa.cell? ⟨w.heap.size, 2, none⟩ = some (.string m1) ∧ wa.cell? ⟨w.heap.size, 3, none⟩ = some (.int .i64 m2) ∧ wa.cell? ⟨w.heap.size, 4, none⟩ = some (.int .i64 h0) ∧ wa.cell? ⟨w.heap.size, 5, none⟩ = some (.string h1) ∧ wa.cell? ⟨w.heap.size, 6, none⟩ = some (.int .i64 h2)) := Lib.hid (by
    rw [hwa]
    refine ⟨?_, ?_, ?_, ?_, ?_, ?_, ?_⟩ <;> · rw [World.cell?_alloc_new]; rfl)
  have HC0 : Hid (Chg (fun _ => False) w wa) := Lib.hid (by rw [hwa]; exact (Chg.refl _ w).alloc _)
  clear h hlt
  show Calls Tryd.prog 81 #[.agg #[.slice (pg.map fun g => ⟨g, 0, none⟩) len cap, .int .i64 m0, .string m1, .int .i64 m2, .int .i64 h0, .string h1, .int .i64 h2]] w _
  rw [← hv]
  cases pg with
  | none =>
    obtain rfl : cap = 0 := HNONE.out rfl
    obtain rfl : len = 0 := by omega
    simp only [Option.map_none] at hv
    subst hv
    have HWA := Lib.hid hwa
    obtain ⟨b0, -⟩ := HBX.out
    clear hwa
    go_enter Tryd.func81, Tryd.ntmps81
    go_upto_region 1 with (fail)
    rw [← HWA.out]
    go_wp2
    go_loopw [4] (fun i wr => i = .int .i64 0 ∧ Chg (fun _ => False) w wr) (fun i _ => 0)
    case atStart => exact ⟨rfl, HC0.out⟩
    case round =>
      obtain ⟨rfl, hc⟩ := hrel
      have HC := Lib.hid hc
      clear hc
      go_wp2
      go_ret
      exact ⟨rfl, HC.out⟩
  | some g =>
    obtain ⟨C, hR, hCl, hCm, hCb⟩ := HROW.out g rfl
    have HR := Lib.hid hR
    have HCM := Lib.hid hCm
    have HCB := Lib.hid hCb
    simp only [Option.map_some] at hv
    subst hv
    have HWA := Lib.hid hwa
    obtain ⟨b0, -⟩ := HBX.out
    clear hR hCm hCb hCl HROW HNONE hwa
    go_enter Tryd.func81, Tryd.ntmps81
    go_upto_region 1 with (fail)
    rw [← HWA.out]
    go_wp2
    clear b0
    go_loopw [4] (fun i wr => ∃ k : Nat, k ≤ cap ∧ i = .int .i64 k ∧ Chg (fun _ => False) wa wr) (fun i _ => cap - (intOf i).toNat)
    case atStart => exact ⟨0, by omega, rfl, Chg.refl _ _⟩
    case round =>
      obtain ⟨k, hk, rfl, hc⟩ := hrel
      have HC := Lib.hid hc
      have HCW := Lib.hid (HC0.out.trans hc)
      clear hc
      by_cases hkl : k < cap
      · have hb14 : decide ((k : Int) < (cap : Int)) = true := by simp; omega
        by_cases hkn : k < len
        · have hr := HR.out.chg HCW.out (fun h => h)
          have c0 : wr.cell? ⟨g, k * 3, none⟩ = some (.int .i64 m0) := hr.cell (HCM.out k hkn) (i := 0) rfl (by show _ = k * 3 + 0; omega)
          have c1 : wr.cell? ⟨g, k * 3 + 1, none⟩ = some (.string m1) := hr.cell (HCM.out k hkn) (i := 1) rfl (by show _ = k * 3 + 1; omega)
          have c2 : wr.cell? ⟨g, k * 3 + 2, none⟩ = some (.int .i64 m2) := hr.cell (HCM.out k hkn) (i := 2) rfl (by show _ = k * 3 + 2; omega)
          have HK := Lib.hid (show _ ∧ _ ∧ _ from ⟨c0, c1, c2⟩)
          have hb21 : decide ((k : Int) < (len : Int)) = true := by simp; omega
          have hb36 : ¬ len ≤ k := by omega
          clear hr c0 c1 c2
          go_upto_region 5 with (fail)
          refine wp_region_same (fun w' => Chg (fun _ => False) wr w') (by kernel_rfl) (by kernel_rfl) ?_ ?_
          · exact (Chg.refl _ _).drew
          (refine wpC_read rfl (fun _ _ _ h => h) (fun K hK => ?_); apply Exists.intro; refine ⟨fun _ w' _ hC => ?_, ?_⟩; ((skip); go_simp; try with_reducible rfl); (try go_simp); refine hK _ ?_; clear hK K); (refine wpC_read rfl (fun _ _ _ h => h) (fun K hK => ?_); apply Exists.intro; refine ⟨fun _ w' _ hC => ?_, ?_⟩; ((skip); go_simp; try with_reducible rfl); (try go_simp); refine hK _ ?_; clear hK K); (refine wpC_read rfl (fun _ _ _ h => h) (fun K hK => ?_); apply Exists.intro; refine ⟨fun _ w' _ hC => ?_, ?_⟩; ((obtain ⟨b0, b1, b2, b3, b4, b5, b6⟩ := HBX.out; have b0 := (HC.out.trans hC).cellS b0 (fun h => h); have b1 := (HC.out.trans hC).cellS b1 (fun h => h); have b2 := (HC.out.trans hC).cellS b2 (fun h => h); have b3 := (HC.out.trans hC).cellS b3 (fun h => h); have c0 := hC.cellS HK.out.1 (fun h => h); have c1 := hC.cellS HK.out.2.1 (fun h => h); have c2 := hC.cellS HK.out.2.2 (fun h => h)); go_simp; try with_reducible rfl); (try go_simp); refine hK _ ?_; clear hK K); (refine wpC_read rfl (fun _ _ _ h => h) (fun K hK => ?_); apply Exists.intro; refine ⟨fun _ w' _ hC => ?_, ?_⟩; ((skip); go_simp; try with_reducible rfl); (try go_simp); refine hK _ ?_; clear hK K); (refine wpC_read rfl (fun _ _ _ h => h) (fun K hK => ?_); apply Exists.intro; refine ⟨fun _ w' _ hC => ?_, ?_⟩; ((skip); go_simp; try with_reducible rfl); (try go_simp); refine hK _ ?_; clear hK K); (refine wpC_read rfl (fun _ _ _ h => h) (fun K hK => ?_); apply Exists.intro; refine ⟨fun _ w' _ hC => ?_, ?_⟩; ((skip); go_simp; try with_reducible rfl); (try go_simp); refine hK _ ?_; clear hK K); (refine wpC_read rfl (fun _ _ _ h => h) (fun K hK => ?_); apply Exists.intro; refine ⟨fun _ w' _ hC => ?_, ?_⟩; ((skip); go_simp; try with_reducible rfl); (try go_simp); refine hK _ ?_; clear hK K); (refine wpC_read rfl (fun _ _ _ h => h) (fun K hK => ?_); apply Exists.intro; refine ⟨fun _ w' _ hC => ?_, ?_⟩; ((skip); go_simp; try with_reducible rfl); (try go_simp); refine hK _ ?_; clear hK K); (refine wpC_read rfl (fun _ _ _ h => h) (fun K hK => ?_); apply Exists.intro; refine ⟨fun _ w' _ hC => ?_, ?_⟩; ((skip); go_simp; try with_reducible rfl); (try go_simp); refine hK _ ?_; clear hK K); (refine wpC_read rfl (fun _ _ _ h => h) (fun K hK => ?_); apply Exists.intro; refine ⟨fun _ w' _ hC => ?_, ?_⟩; ((obtain ⟨b0, b1, b2, b3, b4, b5, b6⟩ := HBX.out; have b0 := (HC.out.trans hC).cellS b0 (fun h => h); have b1 := (HC.out.trans hC).cellS b1 (fun h => h); have b2 := (HC.out.trans hC).cellS b2 (fun h => h); have b3 := (HC.out.trans hC).cellS b3 (fun h => h); have c0 := hC.cellS HK.out.1 (fun h => h); have c1 := hC.cellS HK.out.2.1 (fun h => h); have c2 := hC.cellS HK.out.2.2 (fun h => h)); go_simp; try with_reducible rfl); (try go_simp); refine hK _ ?_; clear hK K); (refine wpC_read rfl (fun _ _ _ h => h) (fun K hK => ?_); apply Exists.intro; refine ⟨fun _ w' _ hC => ?_, ?_⟩; ((skip); go_simp; try with_reducible rfl); (try go_simp); refine hK _ ?_; clear hK K); (refine wpC_read rfl (fun _ _ _ h => h) (fun K hK => ?_); apply Exists.intro; refine ⟨fun _ w' _ hC => ?_, ?_⟩; ((obtain ⟨b0, b1, b2, b3, b4, b5, b6⟩ := HBX.out; have b0 := (HC.out.trans hC).cellS b0 (fun h => h); have b1 := (HC.out.trans hC).cellS b1 (fun h => h); have b2 := (HC.out.trans hC).cellS b2 (fun h => h); have b3 := (HC.out.trans hC).cellS b3 (fun h => h); have c0 := hC.cellS HK.out.1 (fun h => h); have c1 := hC.cellS HK.out.2.1 (fun h => h); have c2 := hC.cellS HK.out.2.2 (fun h => h)); go_simp; try with_reducible rfl); (try go_simp); refine hK _ ?_; clear hK K); (refine wpC_read rfl (fun _ _ _ h => h) (fun K hK => ?_); apply Exists.intro; refine ⟨fun _ w' _ hC => ?_, ?_⟩; ((skip); go_simp; try with_reducible rfl); (try go_simp); refine hK _ ?_; clear hK K); (refine wpC_read rfl (fun _ _ _ h => h) (fun K hK => ?_); apply Exists.intro; refine ⟨fun _ w' _ hC => ?_, ?_⟩; ((skip); go_simp; try with_reducible rfl); (try go_simp); refine hK _ ?_; clear hK K); (refine wpC_read rfl (fun _ _ _ h => h) (fun K hK => ?_); apply Exists.intro; refine ⟨fun _ w' _ hC => ?_, ?_⟩; ((skip); go_simp; try with_reducible rfl); (try go_simp); refine hK _ ?_; clear hK K); (refine wpC_read rfl (fun _ _ _ h => h) (fun K hK => ?_); apply Exists.intro; refine ⟨fun _ w' _ hC => ?_, ?_⟩; ((skip); go_simp; try with_reducible rfl); (try go_simp); refine hK _ ?_; clear hK K); (refine wpC_read rfl (fun _ _ _ h => h) (fun K hK => ?_); apply Exists.intro; refine ⟨fun _ w' _ hC => ?_, ?_⟩; ((skip); go_simp; try with_reducible rfl); (try go_simp); refine hK _ ?_; clear hK K); (refine wpC_read rfl (fun _ _ _ h => h) (fun K hK => ?_); apply Exists.intro; refine ⟨fun _ w' _ hC => ?_, ?_⟩; ((obtain ⟨b0, b1, b2, b3, b4, b5, b6⟩ := HBX.out; have b0 := (HC.out.trans hC).cellS b0 (fun h => h); have b1 := (HC.out.trans hC).cellS b1 (fun h => h); have b2 := (HC.out.trans hC).cellS b2 (fun h => h); have b3 := (HC.out.trans hC).cellS b3 (fun h => h); have c0 := hC.cellS HK.out.1 (fun h => h); have c1 := hC.cellS HK.out.2.1 (fun h => h); have c2 := hC.cellS HK.out.2.2 (fun h => h)); go_simp; try with_reducible rfl); (try go_simp); refine hK _ ?_; clear hK K); (refine wpC_read rfl (fun _ _ _ h => h) (fun K hK => ?_); apply Exists.intro; refine ⟨fun _ w' _ hC => ?_, ?_⟩; ((skip); go_simp; try with_reducible rfl); (try go_simp); refine hK _ ?_; clear hK K); (refine wpC_read rfl (fun _ _ _ h => h) (fun K hK => ?_); apply Exists.intro; refine ⟨fun _ w' _ hC => ?_, ?_⟩; ((skip); go_simp; try with_reducible rfl); (try go_simp); refine hK _ ?_; clear hK K); (refine wpC_read rfl (fun _ _ _ h => h) (fun K hK => ?_); apply Exists.intro; refine ⟨fun _ w' _ hC => ?_, ?_⟩; ((skip); go_simp; try with_reducible rfl); (try go_simp); refine hK _ ?_; clear hK K); (refine wpC_skip rfl (fun _ _ _ h => h) (fun K hK => ?_); (try go_simp); refine hK _ ?_; clear hK K); (refine wpC_skip rfl (fun _ _ _ h => h) (fun K hK => ?_); (try go_simp); refine hK _ ?_; clear hK K); (refine wpC_skip rfl (fun _ _ _ h => h) (fun K hK => ?_); (try go_simp); refine hK _ ?_; clear hK K); (refine wpC_skip rfl (fun _ _ _ h => h) (fun K hK => ?_); (try go_simp); refine hK _ ?_; clear hK K); (refine wpC_skip rfl (fun _ _ _ h => h) (fun K hK => ?_); (try go_simp); refine hK _ ?_; clear hK K); (refine wpC_skip rfl (fun _ _ _ h => h) (fun K hK => ?_); (try go_simp); refine hK _ ?_; clear hK K); (refine wpC_skip rfl (fun _ _ _ h => h) (fun K hK => ?_); (try go_simp); refine hK _ ?_; clear hK K); (refine wpC_read rfl (fun _ _ _ h => h) (fun K hK => ?_); apply Exists.intro; refine ⟨fun _ w' _ hC => ?_, ?_⟩; ((skip); go_simp; try with_reducible rfl); (try go_simp); refine hK _ ?_; clear hK K); (refine wpC_read rfl (fun _ _ _ h => h) (fun K hK => ?_); apply Exists.intro; refine ⟨fun _ w' _ hC => ?_, ?_⟩; ((skip); go_simp; try with_reducible rfl); (try go_simp); refine hK _ ?_; clear hK K)
          refine wpC_nil ?_
          intro w2 hC2
          have HC2 := Lib.hid (HC.out.trans hC2)
          clear hC2
          go_wp2
          go_roundw
          case rel => exact ⟨k + 1, by omega, by go_num, HC2.out⟩
          case measure => simp [intOf]; omega
        · have hr := HR.out.chg HCW.out (fun h => h)
          have c0 : wr.cell? ⟨g, k * 3, none⟩ = some (.int .i64 h0) := hr.cell (HCB.out k (by omega) hkl) (i := 0) rfl (by show _ = k * 3 + 0; omega)
          have c1 : wr.cell? ⟨g, k * 3 + 1, none⟩ = some (.string h1) := hr.cell (HCB.out k (by omega) hkl) (i := 1) rfl (by show _ = k * 3 + 1; omega)
          have c2 : wr.cell? ⟨g, k * 3 + 2, none⟩ = some (.int .i64 h2) := hr.cell (HCB.out k (by omega) hkl) (i := 2) rfl (by show _ = k * 3 + 2; omega)
          have HK := Lib.hid (show _ ∧ _ ∧ _ from ⟨c0, c1, c2⟩)
          have hb21 : decide ((k : Int) < (len : Int)) = false := by simp; omega
          have hb36 : len ≤ k := by omega
          clear hr c0 c1 c2
          go_upto_region 5 with (fail)
          refine wp_region_same (fun w' => Chg (fun _ => False) wr w') (by kernel_rfl) (by kernel_rfl) ?_ ?_
          · exact (Chg.refl _ _).drew
          (refine wpC_read rfl (fun _ _ _ h => h) (fun K hK => ?_); apply Exists.intro; refine ⟨fun _ w' _ hC => ?_, ?_⟩; ((skip); go_simp; try with_reducible rfl); (try go_simp); refine hK _ ?_; clear hK K); (refine wpC_read rfl (fun _ _ _ h => h) (fun K hK => ?_); apply Exists.intro; refine ⟨fun _ w' _ hC => ?_, ?_⟩; ((skip); go_simp; try with_reducible rfl); (try go_simp); refine hK _ ?_; clear hK K); (refine wpC_read rfl (fun _ _ _ h => h) (fun K hK => ?_); apply Exists.intro; refine ⟨fun _ w' _ hC => ?_, ?_⟩; ((obtain ⟨b0, b1, b2, b3, b4, b5, b6⟩ := HBX.out; have b0 := (HC.out.trans hC).cellS b0 (fun h => h); have b4 := (HC.out.trans hC).cellS b4 (fun h => h); have b5 := (HC.out.trans hC).cellS b5 (fun h => h); have b6 := (HC.out.trans hC).cellS b6 (fun h => h); have c0 := hC.cellS HK.out.1 (fun h => h); have c1 := hC.cellS HK.out.2.1 (fun h => h); have c2 := hC.cellS HK.out.2.2 (fun h => h)); go_simp; try with_reducible rfl); (try go_simp); refine hK _ ?_; clear hK K); (refine wpC_read rfl (fun _ _ _ h => h) (fun K hK => ?_); apply Exists.intro; refine ⟨fun _ w' _ hC => ?_, ?_⟩; ((skip); go_simp; try with_reducible rfl); (try go_simp); refine hK _ ?_; clear hK K); (refine wpC_read rfl (fun _ _ _ h => h) (fun K hK => ?_); apply Exists.intro; refine ⟨fun _ w' _ hC => ?_, ?_⟩; ((skip); go_simp; try with_reducible rfl); (try go_simp); refine hK _ ?_; clear hK K); (refine wpC_read rfl (fun _ _ _ h => h) (fun K hK => ?_); apply Exists.intro; refine ⟨fun _ w' _ hC => ?_, ?_⟩; ((skip); go_simp; try with_reducible rfl); (try go_simp); refine hK _ ?_; clear hK K); (refine wpC_skip rfl (fun _ _ _ h => h) (fun K hK => ?_); (try go_simp); refine hK _ ?_; clear hK K); (refine wpC_skip rfl (fun _ _ _ h => h) (fun K hK => ?_); (try go_simp); refine hK _ ?_; clear hK K); (refine wpC_skip rfl (fun _ _ _ h => h) (fun K hK => ?_); (try go_simp); refine hK _ ?_; clear hK K); (refine wpC_skip rfl (fun _ _ _ h => h) (fun K hK => ?_); (try go_simp); refine hK _ ?_; clear hK K); (refine wpC_skip rfl (fun _ _ _ h => h) (fun K hK => ?_); (try go_simp); refine hK _ ?_; clear hK K); (refine wpC_skip rfl (fun _ _ _ h => h) (fun K hK => ?_); (try go_simp); refine hK _ ?_; clear hK K); (refine wpC_skip rfl (fun _ _ _ h => h) (fun K hK => ?_); (try go_simp); refine hK _ ?_; clear hK K); (refine wpC_read rfl (fun _ _ _ h => h) (fun K hK => ?_); apply Exists.intro; refine ⟨fun _ w' _ hC => ?_, ?_⟩; ((skip); go_simp; try with_reducible rfl); (try go_simp); refine hK _ ?_; clear hK K); (refine wpC_read rfl (fun _ _ _ h => h) (fun K hK => ?_); apply Exists.intro; refine ⟨fun _ w' _ hC => ?_, ?_⟩; ((skip); go_simp; try with_reducible rfl); (try go_simp); refine hK _ ?_; clear hK K); (refine wpC_read rfl (fun _ _ _ h => h) (fun K hK => ?_); apply Exists.intro; refine ⟨fun _ w' _ hC => ?_, ?_⟩; ((skip); go_simp; try with_reducible rfl); (try go_simp); refine hK _ ?_; clear hK K); (refine wpC_read rfl (fun _ _ _ h => h) (fun K hK => ?_); apply Exists.intro; refine ⟨fun _ w' _ hC => ?_, ?_⟩; ((skip); go_simp; try with_reducible rfl); (try go_simp); refine hK _ ?_; clear hK K); (refine wpC_read rfl (fun _ _ _ h => h) (fun K hK => ?_); apply Exists.intro; refine ⟨fun _ w' _ hC => ?_, ?_⟩; ((obtain ⟨b0, b1, b2, b3, b4, b5, b6⟩ := HBX.out; have b0 := (HC.out.trans hC).cellS b0 (fun h => h); have b4 := (HC.out.trans hC).cellS b4 (fun h => h); have b5 := (HC.out.trans hC).cellS b5 (fun h => h); have b6 := (HC.out.trans hC).cellS b6 (fun h => h); have c0 := hC.cellS HK.out.1 (fun h => h); have c1 := hC.cellS HK.out.2.1 (fun h => h); have c2 := hC.cellS HK.out.2.2 (fun h => h)); go_simp; try with_reducible rfl); (try go_simp); refine hK _ ?_; clear hK K); (refine wpC_read rfl (fun _ _ _ h => h) (fun K hK => ?_); apply Exists.intro; refine ⟨fun _ w' _ hC => ?_, ?_⟩; ((skip); go_simp; try with_reducible rfl); (try go_simp); refine hK _ ?_; clear hK K); (refine wpC_read rfl (fun _ _ _ h => h) (fun K hK => ?_); apply Exists.intro; refine ⟨fun _ w' _ hC => ?_, ?_⟩; ((skip); go_simp; try with_reducible rfl); (try go_simp); refine hK _ ?_; clear hK K); (refine wpC_read rfl (fun _ _ _ h => h) (fun K hK => ?_); apply Exists.intro; refine ⟨fun _ w' _ hC => ?_, ?_⟩; ((skip); go_simp; try with_reducible rfl); (try go_simp); refine hK _ ?_; clear hK K); (refine wpC_read rfl (fun _ _ _ h => h) (fun K hK => ?_); apply Exists.intro; refine ⟨fun _ w' _ hC => ?_, ?_⟩; ((skip); go_simp; try with_reducible rfl); (try go_simp); refine hK _ ?_; clear hK K); (refine wpC_read rfl (fun _ _ _ h => h) (fun K hK => ?_); apply Exists.intro; refine ⟨fun _ w' _ hC => ?_, ?_⟩; ((skip); go_simp; try with_reducible rfl); (try go_simp); refine hK _ ?_; clear hK K); (refine wpC_read rfl (fun _ _ _ h => h) (fun K hK => ?_); apply Exists.intro; refine ⟨fun _ w' _ hC => ?_, ?_⟩; ((skip); go_simp; try with_reducible rfl); (try go_simp); refine hK _ ?_; clear hK K); (refine wpC_read rfl (fun _ _ _ h => h) (fun K hK => ?_); apply Exists.intro; refine ⟨fun _ w' _ hC => ?_, ?_⟩; ((obtain ⟨b0, b1, b2, b3, b4, b5, b6⟩ := HBX.out; have b0 := (HC.out.trans hC).cellS b0 (fun h => h); have b4 := (HC.out.trans hC).cellS b4 (fun h => h); have b5 := (HC.out.trans hC).cellS b5 (fun h => h); have b6 := (HC.out.trans hC).cellS b6 (fun h => h); have c0 := hC.cellS HK.out.1 (fun h => h); have c1 := hC.cellS HK.out.2.1 (fun h => h); have c2 := hC.cellS HK.out.2.2 (fun h => h)); go_simp; try with_reducible rfl); (try go_simp); refine hK _ ?_; clear hK K); (refine wpC_read rfl (fun _ _ _ h => h) (fun K hK => ?_); apply Exists.intro; refine ⟨fun _ w' _ hC => ?_, ?_⟩; ((skip); go_simp; try with_reducible rfl); (try go_simp); refine hK _ ?_; clear hK K); (refine wpC_read rfl (fun _ _ _ h => h) (fun K hK => ?_); apply Exists.intro; refine ⟨fun _ w' _ hC => ?_, ?_⟩; ((obtain ⟨b0, b1, b2, b3, b4, b5, b6⟩ := HBX.out; have b0 := (HC.out.trans hC).cellS b0 (fun h => h); have b4 := (HC.out.trans hC).cellS b4 (fun h => h); have b5 := (HC.out.trans hC).cellS b5 (fun h => h); have b6 := (HC.out.trans hC).cellS b6 (fun h => h); have c0 := hC.cellS HK.out.1 (fun h => h); have c1 := hC.cellS HK.out.2.1 (fun h => h); have c2 := hC.cellS HK.out.2.2 (fun h => h)); go_simp; try with_reducible rfl); (try go_simp); refine hK _ ?_; clear hK K); (refine wpC_read rfl (fun _ _ _ h => h) (fun K hK => ?_); apply Exists.intro; refine ⟨fun _ w' _ hC => ?_, ?_⟩; ((skip); go_simp; try with_reducible rfl); (try go_simp); refine hK _ ?_; clear hK K); (refine wpC_read rfl (fun _ _ _ h => h) (fun K hK => ?_); apply Exists.intro; refine ⟨fun _ w' _ hC => ?_, ?_⟩; ((skip); go_simp; try with_reducible rfl); (try go_simp); refine hK _ ?_; clear hK K); (refine wpC_read rfl (fun _ _ _ h => h) (fun K hK => ?_); apply Exists.intro; refine ⟨fun _ w' _ hC => ?_, ?_⟩; ((skip); go_simp; try with_reducible rfl); (try go_simp); refine hK _ ?_; clear hK K)
          refine wpC_nil ?_
          intro w2 hC2
          have HC2 := Lib.hid (HC.out.trans hC2)
          clear hC2
          go_wp2
          go_roundw
          case rel => exact ⟨k + 1, by omega, by go_num, HC2.out⟩
          case measure => simp [intOf]; omega
      · obtain rfl : k = cap := by omega
        clear HR HCM HCB
        go_wp2
        go_ret
        exact ⟨rfl, HCW.out⟩
end Go.Proofs.YtfhmblbomkhcpaaDoor
