/- A page of tokens is written over. -/
import Derived.Test.YtfhmblbomkhcpaaDoorPageT
namespace Go.Proofs.YtfhmblbomkhcpaaDoor
open Go.RowKit

set_option maxRecDepth 100000 in
set_option maxHeartbeats 2000000 in
theorem writeT_any (p : PgT) (w : World) (h : PageTSt w p 0) (hlt : ∀ g, p.g = some g → g < w.heap.size) :
    Calls Tryd.prog 82 #[p.row] w fun e w' => e = .returned (.tuple #[]) ∧ PageTSt w' p 1 ∧ Chg (fun x => p.g = some x) w w' := by
  obtain ⟨pg, len, cap, ⟨m0, m1, m2⟩, ⟨h0, h1, h2⟩⟩ := p
  have hmax : cap ≤ 1000000000000 := h.max
  have hlen : len ≤ cap := h.len
  have HNONE : Hid (pg = none → cap = 0) := Lib.hid h.none
  have HLT : Hid (∀ g, pg = some g → g < w.heap.size) := Lib.hid hlt
  have HROW : Hid (∀ g, pg = some g → ∃ C : List TokD, tokE.Row w g C ∧ C.length = cap) := Lib.hid fun g hg => by
    obtain ⟨C, h1, h2, _⟩ := h.row g hg
    exact ⟨C, h1, h2⟩
  obtain ⟨v, hv⟩ : ∃ v : Value, v = .slice (pg.map fun g => ⟨g, 0, none⟩) len cap := ⟨_, rfl⟩
  have HV := Lib.hid hv
  obtain ⟨wa, hwa⟩ : ∃ x, x = w.alloc (.cells #[v, .int .i64 m0, .string m1, .int .i64 m2, .int .i64 h0, .string h1, .int .i64 h2] 85) := ⟨_, rfl⟩
  have HBX : Hid (wa.cell? ⟨w.heap.size, 0, none⟩ = some v ∧ wa.cell? ⟨w.heap.size, 1, none⟩ = some (.int .i64 m0) ∧ wa.cell? ⟨w.heap.size, 2, none⟩ = some (.string m1) ∧ wa.cell? ⟨w.heap.size, 3, none⟩ = some (.int .i64 m2)) := Lib.hid (by
    rw [hwa]
    refine ⟨?_, ?_, ?_, ?_⟩ <;> · rw [World.cell?_alloc_new]; rfl)
  have HC0 : Hid (Chg (fun x => pg = some x ∨ w.heap.size ≤ x) w wa) := Lib.hid (by rw [hwa]; exact (Chg.refl _ w).alloc _)
  have HCF : Hid (Chg (fun _ => False) w wa) := Lib.hid (by rw [hwa]; exact (Chg.refl _ w).alloc _)
  have HWA := Lib.hid hwa
  clear h hlt hwa
  show Calls Tryd.prog 82 #[.agg #[.slice (pg.map fun g => ⟨g, 0, none⟩) len cap, .int .i64 m0, .string m1, .int .i64 m2, .int .i64 h0, .string h1, .int .i64 h2]] w _
  rw [← hv]
  clear hv
  go_enter Tryd.func82, Tryd.ntmps82
  go_upto_region 1 with (fail)
  rw [← HWA.out]
  go_wp2
  go_loopw [2] (fun i wr => ∃ k : Nat, k ≤ len ∧ i = .int .i64 k ∧ (wr.cell? ⟨w.heap.size, 0, none⟩ = some v ∧ wr.cell? ⟨w.heap.size, 1, none⟩ = some (.int .i64 m0) ∧ wr.cell? ⟨w.heap.size, 2, none⟩ = some (.string m1) ∧ wr.cell? ⟨w.heap.size, 3, none⟩ = some (.int .i64 m2)) ∧ (∀ g, pg = some g → ∃ C : List TokD, tokE.Row wr g C ∧ C.length = cap ∧ ∀ j, j < k → C[j]? = some (m0, m1, m2)) ∧ Chg (fun x => pg = some x ∨ w.heap.size ≤ x) w wr) (fun i _ => len - (intOf i).toNat)
  case atStart =>
    refine ⟨0, by omega, rfl, HBX.out, fun g hg => ?_, HC0.out⟩
    obtain ⟨C, h1, h2⟩ := HROW.out g hg
    exact ⟨C, h1.chg HCF.out (fun h => h), h2, fun j hj => absurd hj (Nat.not_lt_zero _)⟩
  case round =>
    clear HBX HC0 HROW
    obtain ⟨k, hk, rfl, ⟨b0, b1, b2, b3⟩, hrow, hc⟩ := hrel
    have HC := Lib.hid hc
    rw [HV.out] at b0
    clear hc
    by_cases hkl : k < len
    · cases pg with
      | none => exact absurd (HNONE.out rfl) (by omega)
      | some g =>
        obtain ⟨C, hR, hCl, hCm⟩ := hrow g rfl
        obtain ⟨y, hy⟩ : ∃ y, C[k]? = some y := ⟨_, List.getElem?_eq_getElem (by omega)⟩
        have c0 : wr.cell? ⟨g, k * 3, none⟩ = some (.int .i64 y.1) := hR.cell hy (i := 0) rfl (by show _ = k * 3 + 0; omega)
        have c1 : wr.cell? ⟨g, k * 3 + 1, none⟩ = some (.string y.2.1) := hR.cell hy (i := 1) rfl (by show _ = k * 3 + 1; omega)
        have c2 : wr.cell? ⟨g, k * 3 + 2, none⟩ = some (.int .i64 y.2.2) := hR.cell hy (i := 2) rfl (by show _ = k * 3 + 2; omega)
        have z0 := hR.z (k * 3)
        have z1 := hR.z (k * 3 + 1)
        have z2 := hR.z (k * 3 + 2)
        have hset := tokSet hR (k := k) (by omega) (m0, m1, m2)
        simp only at hset
        have HLG := HLT.out g rfl
        have hne : ∀ {j : Nat} {u : Value}, wr.cell? ⟨w.heap.size, j, none⟩ = some u → (((wr.setCell ⟨g, k * 3, none⟩ (.int .i64 m0)).setCell ⟨g, k * 3 + 1, none⟩ (.string m1)).setCell ⟨g, k * 3 + 2, none⟩ (.int .i64 m2)).cell? ⟨w.heap.size, j, none⟩ = some u := fun hu => hset.2.cellS hu (fun e => by have e2 : w.heap.size = g := e; omega)
        have HX := Lib.hid (show _ ∧ _ ∧ _ ∧ _ from ⟨show _ = some v from (hne b0).trans (by rw [HV.out]), hne b1, hne b2, hne b3⟩)
        have HR := Lib.hid hset.1
        have HCW := Lib.hid (HC.out.trans (hset.2.mono (fun x _ e => .inl (by rw [e]))))
        have HM : Hid (∀ j, j < k + 1 → (C.set k (m0, m1, m2))[j]? = some (m0, m1, m2)) := Lib.hid (fun j hj => by
          by_cases he : j = k
          · subst he; rw [List.getElem?_set_self (by omega)]
          · rw [List.getElem?_set_ne (Ne.symm he)]; exact hCm j (by omega))
        have HCL : Hid ((C.set k (m0, m1, m2)).length = cap) := Lib.hid (by rw [List.length_set]; exact hCl)
        have hb7 : decide ((k : Int) < (len : Int)) = true := by simp; omega
        clear hR hCm hrow HC hCl hset hne hy
        simp only [Option.map_some] at b0
        go_wp2
        go_roundw
        case rel => exact ⟨k + 1, by omega, by go_num, HX.out, (fun g' hg' => by obtain rfl := Option.some.inj hg'; exact ⟨_, HR.out, HCL.out, HM.out⟩), HCW.out⟩
        case measure => simp [intOf]; omega
    · obtain rfl : k = len := by omega
      have HX : Hid (PageTSt wr ⟨pg, k, cap, (m0, m1, m2), (h0, h1, h2)⟩ 1) := Lib.hid ⟨hlen, HNONE.out, hmax, fun g hg => by
        obtain ⟨C, h1, h2, h3⟩ := hrow g hg
        exact ⟨C, h1, h2, fun _ => h3, fun h => absurd h (by omega)⟩⟩
      have HC2 : Hid (Chg (fun x => pg = some x) w wr) := Lib.hid (HC.out.mono (fun x hx e => e.resolve_right (by omega)))
      clear hrow HC
      go_wp2
      go_end0
      exact ⟨rfl, HX.out, HC2.out⟩
end Go.Proofs.YtfhmblbomkhcpaaDoor
