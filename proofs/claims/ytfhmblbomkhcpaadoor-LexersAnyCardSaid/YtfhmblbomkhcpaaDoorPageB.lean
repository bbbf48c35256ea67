/- What stands behind a page of tokens is written over. -/
import Derived.Test.YtfhmblbomkhcpaaDoorPageW
namespace Go.Proofs.YtfhmblbomkhcpaaDoor
open Go.RowKit

set_option maxRecDepth 100000 in
set_option maxHeartbeats 2000000 in
theorem behindT_any (p : PgT) (w : World) (h : PageTSt w p 1) (hlt : ∀ g, p.g = some g → g < w.heap.size) :
    Calls Tryd.prog 83 #[p.row] w fun e w' => e = .returned (.tuple #[]) ∧ PageTSt w' p 2 ∧ Chg (fun x => p.g = some x) w w' := by
  obtain ⟨pg, len, cap, ⟨m0, m1, m2⟩, ⟨h0, h1, h2⟩⟩ := p
  have hmax : cap ≤ 1000000000000 := h.max
  have hlen : len ≤ cap := h.len
  have HNONE : Hid (pg = none → cap = 0) := Lib.hid h.none
  have HLT : Hid (∀ g, pg = some g → g < w.heap.size) := Lib.hid hlt
  have HROW : Hid (∀ g, pg = some g → ∃ C : List TokD, tokE.Row w g C ∧ C.length = cap ∧ ∀ k, k < len → C[k]? = some (m0, m1, m2)) := Lib.hid fun g hg => by
    obtain ⟨C, h1, h2, h3, _⟩ := h.row g hg
    exact ⟨C, h1, h2, h3 (Nat.le_refl _)⟩
  obtain ⟨wa, hwa⟩ : ∃ x, x = w.alloc (.cells #[.slice (pg.map fun g => ⟨g, 0, none⟩) len cap, .int .i64 m0, .string m1, .int .i64 m2, .int .i64 h0, .string h1, .int .i64 h2] 85) := ⟨_, rfl⟩
  have HBX : Hid (wa.cell? ⟨w.heap.size, 0, none⟩ = some (.slice (pg.map fun g => ⟨g, 0, none⟩) len cap) ∧ wa.cell? ⟨w.heap.size, 4, none⟩ = some (.int .i64 h0) ∧ wa.cell? ⟨w.heap.size, 5, none⟩ = some (.string h1) ∧ wa.cell? ⟨w.heap.size, 6, none⟩ = some (.int .i64 h2)) := Lib.hid (by
    rw [hwa]
    refine ⟨?_, ?_, ?_, ?_⟩ <;> · rw [World.cell?_alloc_new]; rfl)
  have HC0 : Hid (Chg (fun x => pg = some x ∨ w.heap.size ≤ x) w wa) := Lib.hid (by rw [hwa]; exact (Chg.refl _ w).alloc _)
  have HCF : Hid (Chg (fun _ => False) w wa) := Lib.hid (by rw [hwa]; exact (Chg.refl _ w).alloc _)
  have HWA := Lib.hid hwa
  clear h hlt hwa
  show Calls Tryd.prog 83 #[.agg #[.slice (pg.map fun g => ⟨g, 0, none⟩) len cap, .int .i64 m0, .string m1, .int .i64 m2, .int .i64 h0, .string h1, .int .i64 h2]] w _
  cases pg with
  | none =>
    obtain rfl : cap = 0 := HNONE.out rfl
    obtain rfl : len = 0 := by omega
    obtain ⟨b0, -⟩ := HBX.out
    simp only [Option.map_none] at b0
    have hwa := HWA.out
    simp only [Option.map_none] at hwa
    have HWA := Lib.hid hwa
    clear hwa
    go_enter Tryd.func83, Tryd.ntmps83
    go_upto_region 1 with (fail)
    rw [← HWA.out]
    go_wp2
    go_loopw [3] (fun i wr => i = .int .i64 0 ∧ Chg (fun x => none = some x ∨ w.heap.size ≤ x) w wr) (fun i _ => 0)
    case atStart => exact ⟨rfl, HC0.out⟩
    case round =>
      obtain ⟨rfl, hc⟩ := hrel
      have HC := Lib.hid hc
      clear hc
      go_wp2
      go_end0
      exact ⟨rfl, ⟨Nat.le_refl _, fun _ => rfl, by simp, fun g hg => by cases hg⟩, HC.out.mono (fun x hx e => e.resolve_right (by omega))⟩
  | some g =>
    obtain ⟨b0, -⟩ := HBX.out
    simp only [Option.map_some] at b0
    have hwa := HWA.out
    simp only [Option.map_some] at hwa
    have HWA := Lib.hid hwa
    clear hwa
    go_enter Tryd.func83, Tryd.ntmps83
    go_upto_region 1 with (fail)
    rw [← HWA.out]
    go_wp2
    clear b0
    go_loopw [3] (fun i wr => ∃ k : Nat, len ≤ k ∧ k ≤ cap ∧ i = .int .i64 k ∧ (wr.cell? ⟨w.heap.size, 4, none⟩ = some (.int .i64 h0) ∧ wr.cell? ⟨w.heap.size, 5, none⟩ = some (.string h1) ∧ wr.cell? ⟨w.heap.size, 6, none⟩ = some (.int .i64 h2)) ∧ (∃ C : List TokD, tokE.Row wr g C ∧ C.length = cap ∧ (∀ j, j < len → C[j]? = some (m0, m1, m2)) ∧ ∀ j, len ≤ j → j < k → C[j]? = some (h0, h1, h2)) ∧ Chg (fun x => some g = some x ∨ w.heap.size ≤ x) w wr) (fun i _ => cap - (intOf i).toNat)
    case atStart =>
      obtain ⟨C, h1, h2, h3⟩ := HROW.out g rfl
      exact ⟨len, Nat.le_refl _, hlen, rfl, HBX.out.2, ⟨C, h1.chg HCF.out (fun h => h), h2, h3, fun j hj hk => absurd hk (by omega)⟩, HC0.out⟩
    case round =>
      clear HBX HC0 HROW
      obtain ⟨k, hk0, hk, rfl, ⟨b4, b5, b6⟩, ⟨C, hR, hCl, hCm, hCb⟩, hc⟩ := hrel
      have HC := Lib.hid hc
      clear hc
      by_cases hkl : k < cap
      · obtain ⟨y, hy⟩ : ∃ y, C[k]? = some y := ⟨_, List.getElem?_eq_getElem (by omega)⟩
        have c0 : wr.cell? ⟨g, k * 3, none⟩ = some (.int .i64 y.1) := hR.cell hy (i := 0) rfl (by show _ = k * 3 + 0; omega)
        have c1 : wr.cell? ⟨g, k * 3 + 1, none⟩ = some (.string y.2.1) := hR.cell hy (i := 1) rfl (by show _ = k * 3 + 1; omega)
        have c2 : wr.cell? ⟨g, k * 3 + 2, none⟩ = some (.int .i64 y.2.2) := hR.cell hy (i := 2) rfl (by show _ = k * 3 + 2; omega)
        have z0 := hR.z (k * 3)
        have z1 := hR.z (k * 3 + 1)
        have z2 := hR.z (k * 3 + 2)
        have hset := tokSet hR (k := k) (by omega) (h0, h1, h2)
        simp only at hset
        have HLG := HLT.out g rfl
        have hne : ∀ {j : Nat} {u : Value}, wr.cell? ⟨w.heap.size, j, none⟩ = some u → (((wr.setCell ⟨g, k * 3, none⟩ (.int .i64 h0)).setCell ⟨g, k * 3 + 1, none⟩ (.string h1)).setCell ⟨g, k * 3 + 2, none⟩ (.int .i64 h2)).cell? ⟨w.heap.size, j, none⟩ = some u := fun hu => hset.2.cellS hu (fun e => by have e2 : w.heap.size = g := e; omega)
        have HX := Lib.hid (show _ ∧ _ ∧ _ from ⟨hne b4, hne b5, hne b6⟩)
        have HR := Lib.hid hset.1
        have HCW := Lib.hid (HC.out.trans (hset.2.mono (fun x _ e => .inl (by rw [e]))))
        have HM : Hid (∀ j, j < len → (C.set k (h0, h1, h2))[j]? = some (m0, m1, m2)) := Lib.hid (fun j hj => by
          rw [List.getElem?_set_ne (by omega)]; exact hCm j hj)
        have HB : Hid (∀ j, len ≤ j → j < k + 1 → (C.set k (h0, h1, h2))[j]? = some (h0, h1, h2)) := Lib.hid (fun j hj hjk => by
          by_cases he : j = k
          · subst he; rw [List.getElem?_set_self (by omega)]
          · rw [List.getElem?_set_ne (Ne.symm he)]; exact hCb j hj (by omega))
        have hb7 : decide ((k : Int) < (cap : Int)) = true := by simp; omega
        have HCL : Hid ((C.set k (h0, h1, h2)).length = cap) := Lib.hid (by rw [List.length_set]; exact hCl)
        clear hR hCm hCb HC hCl hset hne hy
        go_wp2
        go_roundw
        case rel => exact ⟨k + 1, by omega, by omega, by go_num, HX.out, ⟨_, HR.out, HCL.out, HM.out, HB.out⟩, HCW.out⟩
        case measure => simp [intOf]; omega
      · obtain rfl : k = cap := by omega
        have HX : Hid (PageTSt wr ⟨some g, len, k, (m0, m1, m2), (h0, h1, h2)⟩ 2) := Lib.hid ⟨hlen, HNONE.out, hmax, fun g' hg => by
          obtain rfl := Option.some.inj hg
          exact ⟨C, hR, hCl, fun _ => hCm, fun _ => hCb⟩⟩
        have HC2 : Hid (Chg (fun x => some g = some x) w wr) := Lib.hid (HC.out.mono (fun x hx e => e.resolve_right (by omega)))
        clear hR hCm hCb HC hCl
        go_wp2
        go_end0
        exact ⟨rfl, HX.out, HC2.out⟩
end Go.Proofs.YtfhmblbomkhcpaaDoor
