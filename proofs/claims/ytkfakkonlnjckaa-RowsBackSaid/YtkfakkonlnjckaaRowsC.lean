/- The program's row of values: rows.Of. -/
import Derived.Test.YtkfakkonlnjckaaRowsB
import Derived.Test.YtkfakkonlnjckaaCountM
namespace Go.Proofs.Ytkfakkonlnjckaa
open Go.RowKit

/-- Is it a value? -/
def valB (n : Int) : Bool := decide (isVal n)
theorem valB_true {n : Int} (h : isVal n) : valB n = true := by simpa [valB] using h
theorem valB_false {n : Int} (h : ¬ isVal n) : valB n = false := by simpa [valB] using h

theorem value_any (n : Int) (w : World) : Calls Try.prog 40 #[.int .i64 n] w fun e w' => e = .returned (.bool (valB n)) ∧ w = w' := by
  by_cases h1 : -1 ≤ n
  · by_cases h2 : n ≤ 16777215
    · have HV := Lib.hid (valB_true (n := n) ⟨h1, h2⟩)
      go_enter Try.func40, Try.ntmps40
      go_wp2
      go_ret
      exact ⟨by rw [HV.out]; rfl, rfl⟩
    · have HV := Lib.hid (valB_false (n := n) (fun h => h2 h.2))
      go_enter Try.func40, Try.ntmps40
      go_wp2
      go_ret
      exact ⟨by rw [HV.out]; rfl, rfl⟩
  · have HV := Lib.hid (valB_false (n := n) (fun h => h1 h.1))
    have q1 : decide (-1 ≤ n) = false := by simpa using h1
    go_enter Try.func40, Try.ntmps40
    go_wp2
    go_ret
    exact ⟨by rw [HV.out]; rfl, rfl⟩

theorem noVal_any (n : Int) (w : World) : Calls Try.prog 39 #[.int .i64 n] w fun e w' => e = .returned (.bool (!valB n)) ∧ w = w' := by
  go_enter Try.func39, Try.ntmps39
  go_wp2_with fail
  refine (value_any n _).mono ?_
  rintro e w2 ⟨rfl, rfl⟩
  go_wp2
  go_ret
  exact ⟨rfl, rfl⟩

set_option maxRecDepth 100000 in
set_option maxHeartbeats 1000000 in
theorem indexVal_any (Z : List Int) (a : Option Addr) (g o c : Nat) (w : World) (hz : I.BytesAt w g o Z) (ha : 0 < Z.length → a = some ⟨g, o, none⟩) (hl : Z.length ≤ 1000000000) :
    Calls Try.prog 66 #[.slice a Z.length c, .func (.func 39) #[] #[]] w fun e w' => e = .returned (.int .i64 (idxV (fun n => !valB n) Z)) ∧ w = w' := by
  have HZ := Lib.hid hz
  have HA := Lib.hid ha
  clear hz ha
  go_enter Try.func66, Try.ntmps66
  go_wp2
  go_loop [8] (fun q => ∃ k : Nat, k ≤ Z.length ∧ q = .int .i64 k ∧ (∀ (j : Nat) y, j < k → Z[j]? = some y → (!valB y) = false)) (fun q => Z.length - (intOf q).toNat)
  case atStart => exact ⟨0, by omega, rfl, fun j y h => absurd h (Nat.not_lt_zero _)⟩
  case round =>
    obtain ⟨k, hk, rfl, hb⟩ := hrel
    have HB := Lib.hid hb
    clear hb
    by_cases hkl : k < Z.length
    · have b9 : decide ((k : Int) < (Z.length : Int)) = true := by simp; omega
      obtain ⟨z, hz, c1, z0, z1⟩ := HZ.out.get hkl
      have e1 := HA.out (by omega)
      subst e1
      have HX := Lib.hid hz
      clear hz
      by_cases hv : (!valB z) = true
      · go_wp2_with fail
        refine (noVal_any z w).mono ?_
        rintro e w2 ⟨rfl, rfl⟩
        rw [hv]
        have HF : Hid (idxV (fun n => !valB n) Z = k) := Lib.hid (idxV_found HX.out hv HB.out)
        go_wp2
        go_ret
        exact ⟨by rw [HF.out]; rfl, rfl⟩
      · have hv' : (!valB z) = false := by simpa using hv
        have HB2 : Hid (∀ (j : Nat) y, j < k + 1 → Z[j]? = some y → (!valB y) = false) := Lib.hid (fun j y hj hy => by
          by_cases he : j = k
          · subst he; rw [HX.out] at hy; obtain rfl := Option.some.inj hy; exact hv'
          · exact HB.out j y (by omega) hy)
        go_wp2_with fail
        refine (noVal_any z w).mono ?_
        rintro e w2 ⟨rfl, rfl⟩
        rw [hv']
        clear hv hv'
        go_wp2
        go_round
        case rel => exact ⟨k + 1, by omega, by go_num, HB2.out⟩
        case measure => simp [intOf]; omega
    · obtain rfl : k = Z.length := by omega
      have HF : Hid (idxV (fun n => !valB n) Z = -1) := Lib.hid (idxV_none HB.out)
      go_wp2
      go_ret
      exact ⟨by rw [HF.out]; rfl, rfl⟩

/-- Is one no value? -/
def noValB (Z : List Int) : Bool := Z.any (fun n => !valB n)
theorem noValB_false {Z : List Int} : noValB Z = false ↔ ∀ n ∈ Z, isVal n := by simp [noValB, valB]
theorem containsVal_any (Z : List Int) (a : Option Addr) (g o c : Nat) (w : World) (hz : I.BytesAt w g o Z) (ha : 0 < Z.length → a = some ⟨g, o, none⟩) (hl : Z.length ≤ 1000000000) :
    Calls Try.prog 38 #[.slice a Z.length c, .func (.func 39) #[] #[]] w fun e w' => e = .returned (.bool (noValB Z)) ∧ w = w' := by
  have HZ := Lib.hid hz
  have HA := Lib.hid ha
  clear hz ha
  rcases idx_cases (fun n => !valB n) Z with ⟨k, x, -, -, h3, -, h5⟩ | ⟨h3, -, h5⟩
  · have HI := Lib.hid h3
    have HN : Hid (noValB Z = true) := Lib.hid h5
    clear h3 h5
    go_enter Try.func38, Try.ntmps38
    go_wp2_with fail
    refine (indexVal_any Z a g o c _ HZ.out HA.out hl).mono ?_
    rintro e w2 ⟨rfl, rfl⟩
    rw [HI.out]
    go_wp2
    go_ret
    exact ⟨by rw [HN.out]; rfl, rfl⟩
  · have HI := Lib.hid h3
    have HN : Hid (noValB Z = false) := Lib.hid h5
    clear h3 h5
    go_enter Try.func38, Try.ntmps38
    go_wp2_with fail
    refine (indexVal_any Z a g o c _ HZ.out HA.out hl).mono ?_
    rintro e w2 ⟨rfl, rfl⟩
    rw [HI.out]
    go_wp2
    go_ret
    exact ⟨by rw [HN.out]; rfl, rfl⟩

theorem clipCell (w : World) (a : Option Addr) (n c : Nat) (hn : n ≤ c) :
    Calls Try.prog 42 #[.slice a n c] w fun e w' => e = .returned (.slice a n n) ∧ w = w' := by
  go_enter Try.func42, Try.ntmps42
  go_wp2
  go_ret
  exact ⟨rfl, rfl⟩
theorem clipRow (w : World) (a : Option Addr) (n c : Nat) (hn : n ≤ c) :
    Calls Try.prog 47 #[.slice a n c] w fun e w' => e = .returned (.slice a n n) ∧ w = w' := by
  go_enter Try.func47, Try.ntmps47
  go_wp2
  go_ret
  exact ⟨rfl, rfl⟩
theorem clipInt (w : World) (a : Option Addr) (n c : Nat) (hn : n ≤ c) :
    Calls Try.prog 48 #[.slice a n c] w fun e w' => e = .returned (.slice a n n) ∧ w = w' := by
  go_enter Try.func48, Try.ntmps48
  go_wp2
  go_ret
  exact ⟨rfl, rfl⟩

/-- The value of a row and an error. -/
def ofV (d : Int) (s : Sl) (e : Int) : Value := .tuple #[.agg #[.int .i64 d, slV s], .int .i64 e]

set_option maxRecDepth 100000 in
set_option maxHeartbeats 2000000 in
theorem of_bad (Z : List Int) (a : Option Addr) (g o c : Nat) (w : World) (hz : I.BytesAt w g o Z) (ha : 0 < Z.length → a = some ⟨g, o, none⟩) (hl : Z.length ≤ 65536) (hv : noValB Z = true) :
    Calls Try.prog 11 #[.slice a Z.length c] w fun e w' => e = .returned (ofV 0 (none, 0, 0) 1) ∧ Chg (fun _ => False) w w' := by
  have HZ := Lib.hid hz
  have HA := Lib.hid ha
  have HN := Lib.hid hv
  have HC0 := Lib.hid ((Chg.refl (fun _ => False) w).alloc (.cells #[.int .i64 0, .slice none 0 0] 27))
  clear hz ha hv
  go_enter Try.func11, Try.ntmps11
  go_wp2_with fail
  refine (containsVal_any Z a g o c _ (HZ.out.chg HC0.out (fun _ h => h)) HA.out (by omega)).mono ?_
  rintro e w2 ⟨rfl, rfl⟩
  rw [HN.out]
  go_wp2
  refine bodyPost_ret (v := .tuple #[.agg #[.int .i64 0, .slice none 0 0], .int .i64 1]) (by simp [results, Try.results11, go_sem]) rfl ⟨rfl, HC0.out⟩

set_option maxRecDepth 100000 in
set_option maxHeartbeats 4000000 in
theorem of_ok (Z : List Int) (a : Option Addr) (g o c : Nat) (w : World) (hz : I.BytesAt w g o Z) (ha : 0 < Z.length → a = some ⟨g, o, none⟩) (hl : Z.length ≤ 65536) (hv : noValB Z = false) :
    Calls Try.prog 11 #[.slice a Z.length c] w fun e w' => ∃ s, e = .returned (ofV (usualL Z) s 0) ∧ cellE.In w' w.heap.size s (cellsFrom (usualL Z) 0 Z) ∧ Chg (fun _ => False) w w' := by
  have HZ := Lib.hid hz
  have HA := Lib.hid ha
  have HN := Lib.hid hv
  have HV := Lib.hid (noValB_false.1 hv)
  have HC0 := Lib.hid ((Chg.refl (fun _ => False) w).alloc (.cells #[.int .i64 0, .slice none 0 0] 27))
  clear hz ha hv
  obtain ⟨d, hd⟩ : ∃ d, usualL Z = d := ⟨_, rfl⟩
  rw [hd]
  have HD := Lib.hid hd
  clear hd
  go_enter Try.func11, Try.ntmps11
  go_wp2_with fail
  refine (containsVal_any Z a g o c _ (HZ.out.chg HC0.out (fun _ h => h)) HA.out (by omega)).mono ?_
  rintro e w2 ⟨rfl, rfl⟩
  rw [HN.out]
  go_wp2_with fail
  refine (usual_any Z a g o c _ (HZ.out.chg HC0.out (fun _ h => h)) HA.out (by omega)).mono ?_
  rintro e w2 ⟨rfl, hc2⟩
  rw [HD.out]
  have hsz : w.heap.size < w2.heap.size := by have := hc2.size; simp at this; omega
  have r0 := hc2.cellS (p := ⟨w.heap.size, 0, none⟩) (v := .int .i64 0) (by simp) (fun h => h)
  have r1 := hc2.cellS (p := ⟨w.heap.size, 1, none⟩) (v := .slice none 0 0) (by simp) (fun h => h)
  have r2 := (hc2.frozen (p := ⟨w.heap.size, 0, none⟩) (by simp) (fun h => h)).trans (World.frozen?_alloc_new _ _ _ _)
  have r3 := (hc2.frozen (p := ⟨w.heap.size, 1, none⟩) (by simp) (fun h => h)).trans (World.frozen?_alloc_new _ _ _ _)
  have HR : Hid (w2.cell? ⟨w.heap.size, 0, none⟩ = some (.int .i64 0) ∧ w2.cell? ⟨w.heap.size, 1, none⟩ = some (.slice none 0 0) ∧ w2.frozen? ⟨w.heap.size, 0, none⟩ = false ∧ w2.frozen? ⟨w.heap.size, 1, none⟩ = false) := Lib.hid ⟨r0, r1, r2, r3⟩
  have HC2 := Lib.hid (HC0.out.trans hc2)
  clear hc2 r0 r1 r2 r3
  go_wp2_with fail
  go_loopw [20] (fun q wr => ∃ (k : Nat) (v : Value), k ≤ Z.length ∧ q = .int .i64 k ∧ Fld cellE w2.heap.size 1 wr v (cellsFrom d 0 (Z.take k)) ∧ wr.cell? ⟨w2.heap.size, 0, none⟩ = some (.int .i64 d) ∧ Chg (fun k => w2.heap.size ≤ k) w2 wr) (fun q _ => Z.length - (intOf q).toNat)
  case atStart => exact ⟨0, _, by omega, rfl, ⟨by simp, by simp, .nil _ _⟩, by simp, (Chg.refl _ _).alloc _⟩
  case round =>
    obtain ⟨k, v, hk, rfl, hf, c0, hc⟩ := hrel
    have HF := Lib.hid hf
    have HC := Lib.hid hc
    have HC02 := Lib.hid c0
    have c1 := hf.c
    have z1 := hf.z
    clear hf hc
    have HRR : Hid (wr.cell? ⟨w.heap.size, 0, none⟩ = some (.int .i64 0) ∧ wr.cell? ⟨w.heap.size, 1, none⟩ = some (.slice none 0 0) ∧ wr.frozen? ⟨w.heap.size, 0, none⟩ = false ∧ wr.frozen? ⟨w.heap.size, 1, none⟩ = false) := Lib.hid ⟨HC.out.cellS HR.out.1 (by show ¬ w2.heap.size ≤ w.heap.size; omega), HC.out.cellS HR.out.2.1 (by show ¬ w2.heap.size ≤ w.heap.size; omega), (HC.out.frozen (p := ⟨w.heap.size, 0, none⟩) hsz (by show ¬ w2.heap.size ≤ w.heap.size; omega)).trans HR.out.2.2.1, (HC.out.frozen (p := ⟨w.heap.size, 1, none⟩) hsz (by show ¬ w2.heap.size ≤ w.heap.size; omega)).trans HR.out.2.2.2⟩
    by_cases hkl : k < Z.length
    · have b21 : decide ((k : Int) < (Z.length : Int)) = true := by simp; omega
      obtain ⟨z, hz, q1, z0, z2⟩ := (HZ.out.chg (HC2.out.trans HC.out.fresh) (fun _ h => h)).get hkl
      have e1 := HA.out (by omega)
      subst e1
      have HX := Lib.hid hz
      have htk : (Z.take k).length = k := by rw [List.length_take]; omega
      have HTK := Lib.hid (cellsFrom_snoc d (Z.take k) z 0)
      rw [htk, Nat.zero_add] at HTK
      have HTT : Hid (Z.take (k + 1) = Z.take k ++ [z]) := Lib.hid (by rw [List.take_add_one, HX.out]; rfl)
      clear hz htk
      by_cases hzd : z = d
      · subst hzd
        have b28 : (z != z) = false := by simp
        have HFN : Hid (Fld cellE w2.heap.size 1 wr v (cellsFrom z 0 (Z.take (k + 1)))) := Lib.hid (by rw [HTT.out, HTK.out, if_pos rfl]; exact HF.out)
        clear HF HTK HTT
        go_wp2
        go_roundw
        case rel => exact ⟨k + 1, v, by omega, by go_num, HFN.out, HC02.out, HC.out⟩
        case measure => simp [intOf]; omega
      · have b28 : (z != d) = true := by simpa using hzd
        have HLE : Hid ((cellsFrom d 0 (Z.take k)).length ≤ 65536) := Lib.hid (by have := cellsFrom_le d (Z.take k) 0; have := List.length_take_le k Z; omega)
        have HTE : Hid (cellsFrom d 0 (Z.take (k + 1)) = cellsFrom d 0 (Z.take k) ++ [((k : Int), z)]) := Lib.hid (by rw [HTT.out, HTK.out, if_neg hzd])
        have HOK : Hid (∀ x ∈ [((k : Int), z)], cellE.ok x) := Lib.hid (by
          intro x hx
          simp only [List.mem_singleton] at hx
          subst hx
          exact ⟨⟨by show -9223372036854775808 ≤ (k : Int); omega, by show (k : Int) ≤ 9223372036854775807; omega⟩, ⟨z0, z2⟩⟩)
        have HF1 := Lib.hid (HF.out.chg ((Chg.refl (fun _ => False) wr).alloc (.cells #[.int .i64 k, .int .i64 z] 79)) (fun _ _ _ h => h))
        have HBS : Hid (w2.heap.size + 1 ≤ (wr.alloc (.cells #[.int .i64 k, .int .i64 z] 79)).heap.size) := Lib.hid (by have := HF.out.lt; simp; omega)
        have HFIN : Hid (∀ v' w1, cellE.Own w1 (w2.heap.size + 1) v' (cellsFrom d 0 (Z.take k) ++ [((k : Int), z)]) → Chg (fun j => w2.heap.size + 1 ≤ j) (wr.alloc (.cells #[.int .i64 k, .int .i64 z] 79)) w1 →
            (w1.cell? ⟨w2.heap.size, 1, none⟩ = some v ∧ w1.frozen? ⟨w2.heap.size, 1, none⟩ = false) ∧ Fld cellE w2.heap.size 1 (w1.setCell ⟨w2.heap.size, 1, none⟩ v') v' (cellsFrom d 0 (Z.take (k + 1))) ∧ (w1.setCell ⟨w2.heap.size, 1, none⟩ v').cell? ⟨w2.heap.size, 0, none⟩ = some (.int .i64 d) ∧ Chg (fun k => w2.heap.size ≤ k) w2 (w1.setCell ⟨w2.heap.size, 1, none⟩ v')) := Lib.hid (by
          intro v' w1 h1 h2
          obtain ⟨k1, k2, k3, k4⟩ := HF1.out.step h1 h2
          refine ⟨k1, by rw [HTE.out]; exact k2, k4 0 _ (by omega) (((Chg.refl (fun _ => False) wr).alloc _).cellS HC02.out (fun h => h)), HC.out.trans (((Chg.refl _ wr).alloc _).trans k3)⟩)
        go_wp2_with (at_builtin; refine Elt.wpList_append cellE rfl _ _ 25 25 rfl rfl (w2.heap.size + 1) v (cellsFrom d 0 (Z.take k)) [((k : Int), z)] (.slice (some ⟨wr.heap.size, 0, none⟩) 1 1) rfl rfl HF1.out.own HBS.out (cellE.srcLit 1 HOK.out) HOK.out (by have := HLE.out; simp; omega) ?_; intro v' w1 H1 H2 H3; obtain ⟨va, vl, vc, hv'⟩ := H1.out.shape3; subst hv'; obtain ⟨⟨k1, k2⟩, hf⟩ := HFIN.out _ w1 H1.out H2.out; have HFF := Lib.hid hf; clear hf)
        go_roundw
        case rel => exact ⟨k + 1, _, by omega, by go_num, HFF.out.1, HFF.out.2.1, HFF.out.2.2⟩
        case measure => simp [intOf]; omega
    · obtain rfl : k = Z.length := by omega
      obtain ⟨va, vg, vc, rfl, hle, -, -⟩ := HF.out.own.at'
      obtain ⟨r0, r1, r2, r3⟩ := HRR.out
      have hne : w.heap.size ≠ w2.heap.size := by omega
      have hlt2 := HF.out.lt
      have HTE : Hid (Z.take Z.length = Z) := Lib.hid (List.take_length)
      rw [HTE.out] at hle c1
      have hlen := cellsFrom_le d Z 0
      have HO := Lib.hid (HF.out.own.lower (B' := w.heap.size) (by omega))
      rw [HTE.out] at HO
      obtain ⟨X, hX⟩ : ∃ X, cellsFrom d 0 Z = X := ⟨_, rfl⟩
      rw [hX] at hle c1 hlen HO
      have HIN := Lib.hid (HF.out.own)
      rw [HTE.out, hX] at HIN
      have HXE := Lib.hid hX
      clear hX HF
      go_wp2_with fail
      refine (clipCell _ va _ vc hle).mono ?_
      rintro e w3 ⟨rfl, rfl⟩
      go_wp2
      have hcs := setCellChg wr w2.heap.size 1 (.slice va X.length X.length)
      obtain ⟨f0, f1, f2⟩ := store2 (.int .i64 d) (.slice va X.length X.length) (hcs.cellS r0 hne) (hcs.cellS r1 hne)
      have hcc := (hcs.mono (T := fun k => k = w2.heap.size ∨ k = w.heap.size) (fun k _ e => .inl e)).trans (f2.mono (fun k _ e => .inr e))
      have h3 := ((HIN.out.chg hcc (fun g hg _ e => by omega)).in' (Nat.le_refl _)).lower (B' := w.heap.size) (by omega)
      have h4 := ((HC2.out.any.trans (HC.out.mono (T := fun k => w.heap.size ≤ k) (fun k _ e => by omega))).trans (hcc.mono (fun k _ e => by omega))).fresh
      clear f2 hcc hcs
      generalize ((wr.setCell ⟨w2.heap.size, 1, none⟩ (.slice va X.length X.length)).setCell ⟨w.heap.size, 0, none⟩ (.int .i64 d)).setCell ⟨w.heap.size, 1, none⟩ (.slice va X.length X.length) = W at *
      exact bodyPost_ret (v := .tuple #[.agg #[.int .i64 d, .slice va X.length X.length], .int .i64 0]) (by simp [results, Try.results11, go_sem, f0, f1]) rfl ⟨(va, X.length, X.length), rfl, by rw [HXE.out]; exact h3, h4⟩
end Go.Proofs.Ytkfakkonlnjckaa
