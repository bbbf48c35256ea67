/- Does a page stand as it was written? -/
import Derived.Test.YtkfakkonlnjckaaBookA
namespace Go.Proofs.Ytkfakkonlnjckaa
open Go.RowKit

set_option maxRecDepth 100000 in
set_option maxHeartbeats 1000000 in
theorem stands_any (p : Pg) (w : World) (h : PageSt w p 2) (hlt : ∀ g, p.g = some g → g < w.heap.size) :
    Calls Try.prog 88 #[p.row] w fun e w' => e = .returned (.bool true) ∧ Chg (fun _ => False) w w' := by
  obtain ⟨pg, len, cap, m, bh⟩ := p
  have hmax : cap ≤ 1000000000000 := h.max
  have hlen : len ≤ cap := h.len
  have HNONE : Hid (pg = none → cap = 0) := Lib.hid h.none
  have HROW : Hid (∀ g, pg = some g → ∃ C : List Int, Row w g C ∧ C.length = cap ∧ (∀ k, k < len → C[k]? = some m) ∧ ∀ k, len ≤ k → k < cap → C[k]? = some bh) := Lib.hid fun g hg => by
    obtain ⟨C, h1, h2, h3, h4⟩ := h.row g hg
    exact ⟨C, h1, h2, h3 (by omega), h4 (by omega)⟩
  have HC0 := Lib.hid ((Chg.refl (fun _ => False) w).alloc (.cells #[.slice (pg.map fun g => ⟨g, 0, none⟩) len cap, .int .u8 m, .int .u8 bh] 99))
  have HBX := Lib.hid (boxPage w (.slice (pg.map fun g => ⟨g, 0, none⟩) len cap) m bh 99)
  clear h hlt
  show Calls Try.prog 88 #[.agg #[.slice (pg.map fun g => ⟨g, 0, none⟩) len cap, .int .u8 m, .int .u8 bh]] w _
  cases pg with
  | none =>
    obtain rfl : cap = 0 := HNONE.out rfl
    obtain rfl : len = 0 := by omega
    go_enter Try.func88, Try.ntmps88
    go_wp2
    go_loopw [4] (fun i wr => i = .int .i64 0 ∧ Chg (fun _ => False) w wr) (fun i _ => 0)
    case atStart => exact ⟨rfl, HC0.out⟩
    case round =>
      obtain ⟨rfl, hc⟩ := hrel
      have HC := Lib.hid hc
      clear hc
      go_wp2
      go_ret
      exact ⟨rfl, HC.out⟩
  | some g =>
    obtain ⟨C, hR, hCl, hCm, hCb⟩ := HROW.out g rfl
    have HR := Lib.hid hR
    have HCM := Lib.hid hCm
    have HCB := Lib.hid hCb
    clear hR hCm hCb hCl HROW HNONE
    go_enter Try.func88, Try.ntmps88
    go_wp2
    go_loopw [4] (fun i wr => ∃ k : Nat, k ≤ cap ∧ i = .int .i64 k ∧ (wr.cell? ⟨w.heap.size, 0, none⟩ = some (.slice (some ⟨g, 0, none⟩) len cap) ∧ wr.cell? ⟨w.heap.size, 1, none⟩ = some (.int .u8 m) ∧ wr.cell? ⟨w.heap.size, 2, none⟩ = some (.int .u8 bh)) ∧ Chg (fun _ => False) w wr) (fun i _ => cap - (intOf i).toNat)
    case atStart => exact ⟨0, by omega, rfl, HBX.out, HC0.out⟩
    case round =>
      clear HBX HC0
      obtain ⟨k, hk, rfl, ⟨b0, b1, b2⟩, hc⟩ := hrel
      have HC := Lib.hid hc
      clear hc
      by_cases hkl : k < cap
      · have hb14 : decide ((k : Int) < (cap : Int)) = true := by simp; omega
        by_cases hkn : k < len
        · have hcell := (HR.out.chg HC.out (fun h => h)).c k m (HCM.out k hkn)
          have hb21 : decide ((k : Int) < (len : Int)) = true := by simp; omega
          have hb36 : ¬ len ≤ k := by omega
          have HBB : Hid (wr.drew.cell? ⟨w.heap.size, 0, none⟩ = some (.slice (some ⟨g, 0, none⟩) len cap) ∧ wr.drew.cell? ⟨w.heap.size, 1, none⟩ = some (.int .u8 m) ∧ wr.drew.cell? ⟨w.heap.size, 2, none⟩ = some (.int .u8 bh)) := Lib.hid (by simp only [World.cell?_drew]; exact ⟨b0, b1, b2⟩)
          go_upto_region 5 with (fail)
          refine wp_region_same (fun w' => w' = wr.drew) (by kernel_rfl) (by kernel_rfl) ?_ ?_
          · rfl
          iterate 21 (refine wpC_read rfl (fun _ _ _ h => h) (fun K hK => ?_); apply Exists.intro; refine ⟨fun _ w' _ hC => ?_, ?_⟩; ((subst hC); go_simp; try with_reducible rfl); (try go_simp); refine hK _ ?_; clear hK K)
          iterate 7 (refine wpC_skip rfl (fun _ _ _ h => h) (fun K hK => ?_); (try go_simp); refine hK _ ?_; clear hK K)
          iterate 2 (refine wpC_read rfl (fun _ _ _ h => h) (fun K hK => ?_); apply Exists.intro; refine ⟨fun _ w' _ hC => ?_, ?_⟩; ((subst hC); go_simp; try with_reducible rfl); (try go_simp); refine hK _ ?_; clear hK K)
          refine wpC_nil ?_
          rintro w' rfl
          go_wp2
          go_roundw
          case rel => first | exact ⟨k + 1, by omega, by go_num, HBB.out, HC.out.drew⟩ | ((repeat apply Exists.intro); exact ⟨⟨k + 1, by omega, rfl, HBB.out, HC.out.drew⟩, rfl⟩)
          case measure => simp [intOf]; omega
        · have hcell := (HR.out.chg HC.out (fun h => h)).c k bh (HCB.out k (by omega) hkl)
          have hb21 : decide ((k : Int) < (len : Int)) = false := by simp; omega
          have hb36 : len ≤ k := by omega
          have HBB : Hid (wr.drew.cell? ⟨w.heap.size, 0, none⟩ = some (.slice (some ⟨g, 0, none⟩) len cap) ∧ wr.drew.cell? ⟨w.heap.size, 1, none⟩ = some (.int .u8 m) ∧ wr.drew.cell? ⟨w.heap.size, 2, none⟩ = some (.int .u8 bh)) := Lib.hid (by simp only [World.cell?_drew]; exact ⟨b0, b1, b2⟩)
          go_upto_region 5 with (fail)
          refine wp_region_same (fun w' => w' = wr.drew) (by kernel_rfl) (by kernel_rfl) ?_ ?_
          · rfl
          iterate 6 (refine wpC_read rfl (fun _ _ _ h => h) (fun K hK => ?_); apply Exists.intro; refine ⟨fun _ w' _ hC => ?_, ?_⟩; ((subst hC); go_simp; try with_reducible rfl); (try go_simp); refine hK _ ?_; clear hK K)
          iterate 7 (refine wpC_skip rfl (fun _ _ _ h => h) (fun K hK => ?_); (try go_simp); refine hK _ ?_; clear hK K)
          iterate 17 (refine wpC_read rfl (fun _ _ _ h => h) (fun K hK => ?_); apply Exists.intro; refine ⟨fun _ w' _ hC => ?_, ?_⟩; ((subst hC); go_simp; try with_reducible rfl); (try go_simp); refine hK _ ?_; clear hK K)
          refine wpC_nil ?_
          rintro w' rfl
          go_wp2
          go_roundw
          case rel => first | exact ⟨k + 1, by omega, by go_num, HBB.out, HC.out.drew⟩ | ((repeat apply Exists.intro); exact ⟨⟨k + 1, by omega, rfl, HBB.out, HC.out.drew⟩, rfl⟩)
          case measure => simp [intOf]; omega
      · obtain rfl : k = cap := by omega
        clear HR HCM HCB
        go_wp2
        go_ret
        exact ⟨rfl, HC.out⟩
end Go.Proofs.Ytkfakkonlnjckaa
