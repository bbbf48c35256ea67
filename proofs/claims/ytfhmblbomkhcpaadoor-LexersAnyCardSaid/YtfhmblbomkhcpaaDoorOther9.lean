/- A table as the document has it: harbingerlaw09's Other; tokens that are the same. -/
import Derived.Test.YtfhmblbomkhcpaaDoorTwinsL
namespace Go.Proofs.YtfhmblbomkhcpaaDoor
open Go.RowKit

set_option maxRecDepth 100000 in
set_option maxHeartbeats 2000000 in
theorem other_any (rs cs ns es : Sl) (w : World) :
    Calls Tryd.prog 12 #[tabV rs cs ns es] w fun e w' => e = .returned (tabV rs cs ns es) ∧ Chg (fun _ => False) w w' := by
  obtain ⟨ra, rn, rc⟩ := rs
  obtain ⟨ca, cn, cc⟩ := cs
  obtain ⟨na, nn, nc⟩ := ns
  obtain ⟨ea, en, ec⟩ := es
  obtain ⟨wa, hwa⟩ : ∃ x, x = (w.alloc (.cells #[.slice ra rn rc, .slice ca cn cc, .slice na nn nc, .slice ea en ec] 26)).alloc (.cells #[.slice none 0 0, .slice none 0 0, .slice none 0 0, .slice none 0 0] 38) := ⟨_, rfl⟩
  have HCA : Hid (Chg (fun _ => False) w wa) := Lib.hid (by rw [hwa]; exact ((Chg.refl _ _).alloc _).alloc _)
  obtain ⟨q0, q1, q2, q3⟩ : wa.cell? ⟨w.heap.size, 0, none⟩ = some (.slice ra rn rc) ∧ wa.cell? ⟨w.heap.size, 1, none⟩ = some (.slice ca cn cc) ∧ wa.cell? ⟨w.heap.size, 2, none⟩ = some (.slice na nn nc) ∧ wa.cell? ⟨w.heap.size, 3, none⟩ = some (.slice ea en ec) := by
    rw [hwa]
    exact (tabBox w (ra, rn, rc) (ca, cn, cc) (na, nn, nc) (ea, en, ec) 26).chg ((Chg.refl (fun _ => False) _).alloc _) (fun h => h)
  obtain ⟨y0, y1, y2, y3, z0, z1, z2, z3⟩ : wa.cell? ⟨w.heap.size + 1, 0, none⟩ = some (.slice none 0 0) ∧ wa.cell? ⟨w.heap.size + 1, 1, none⟩ = some (.slice none 0 0) ∧ wa.cell? ⟨w.heap.size + 1, 2, none⟩ = some (.slice none 0 0) ∧ wa.cell? ⟨w.heap.size + 1, 3, none⟩ = some (.slice none 0 0) ∧ wa.frozen? ⟨w.heap.size + 1, 0, none⟩ = false ∧ wa.frozen? ⟨w.heap.size + 1, 1, none⟩ = false ∧ wa.frozen? ⟨w.heap.size + 1, 2, none⟩ = false ∧ wa.frozen? ⟨w.heap.size + 1, 3, none⟩ = false := by
    have e : w.heap.size + 1 = (w.alloc (.cells #[.slice ra rn rc, .slice ca cn cc, .slice na nn nc, .slice ea en ec] 26)).heap.size := by simp
    rw [hwa, e]
    exact ⟨by rw [World.cell?_alloc_new]; rfl, by rw [World.cell?_alloc_new]; rfl, by rw [World.cell?_alloc_new]; rfl, by rw [World.cell?_alloc_new]; rfl, World.frozen?_alloc_new _ _ _ _, World.frozen?_alloc_new _ _ _ _, World.frozen?_alloc_new _ _ _ _, World.frozen?_alloc_new _ _ _ _⟩
  obtain ⟨s0, s1, s2, s3, hsc, -⟩ := store4 (.slice ra rn rc) (.slice ca cn cc) (.slice na nn nc) (.slice ea en ec) y0 y1 y2 y3
  have HF : Hid (Chg (fun _ => False) w ((((wa.setCell ⟨w.heap.size + 1, 0, none⟩ (.slice ra rn rc)).setCell ⟨w.heap.size + 1, 1, none⟩ (.slice ca cn cc)).setCell ⟨w.heap.size + 1, 2, none⟩ (.slice na nn nc)).setCell ⟨w.heap.size + 1, 3, none⟩ (.slice ea en ec))) := Lib.hid ((HCA.out.any (S := fun k => w.heap.size ≤ k)).trans (hsc.mono (fun k _ e => by omega))).fresh
  have HWA := Lib.hid hwa
  have HS := Lib.hid (show _ ∧ _ ∧ _ ∧ _ from ⟨s0, s1, s2, s3⟩)
  clear hwa hsc s0 s1 s2 s3
  show Calls Tryd.prog 12 #[.agg #[.slice ra rn rc, .slice ca cn cc, .slice na nn nc, .slice ea en ec]] w _
  go_enter Tryd.func12, Tryd.ntmps12
  go_upto_region 1 with (fail)
  rw [← HWA.out]
  go_wp2
  obtain ⟨s0, s1, s2, s3⟩ := HS.out
  exact bodyPost_ret (v := .agg #[.slice ra rn rc, .slice ca cn cc, .slice na nn nc, .slice ea en ec]) (by simp [results, Tryd.results12, go_sem, s0, s1, s2, s3]) rfl ⟨rfl, HF.out⟩
set_option maxRecDepth 100000 in
set_option maxHeartbeats 2000000 in
theorem sameTokens (X : List TokD) (a b : Option Addr) (ca cb Ba Bb : Nat) (w : World) (hx : tokE.In w Ba (a, X.length, ca) X) (hy : tokE.In w Bb (b, X.length, cb) X) (hl : X.length ≤ 1000000000000) :
    Calls Tryd.prog 18 #[.slice a X.length ca, .slice b X.length cb] w fun e w' => e = .returned (.bool true) ∧ Chg (fun _ => False) w w' := by
  have HX := Lib.hid hx
  have HY := Lib.hid hy
  clear hx hy
  go_enter Tryd.func18, Tryd.ntmps18
  go_wp2_with fail
  refine (sameTok X a b ca cb Ba Bb w HX.out HY.out hl).mono ?_
  rintro e w1 ⟨rfl, hc⟩
  have HC := Lib.hid hc
  clear hc
  go_wp2
  go_ret
  exact ⟨rfl, HC.out⟩
end Go.Proofs.YtfhmblbomkhcpaaDoor
