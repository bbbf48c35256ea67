/- May a table be: the document's May. -/
import Derived.Test.YtkfakkonlnjckaaRefMake
namespace Go.Proofs.Ytkfakkonlnjckaa
open Go.RowKit

/-- Number k of a row of ints is written over. -/
theorem I.Row.putAt {w : World} {g k : Nat} {V : List Int} (h : I.Row w g V) (hk : k < V.length) {x : Int} (hx : I.Byte x) : I.Row (w.setCell ⟨g, k, none⟩ (.int .i64 x)) g (V.set k x) := by
  refine ⟨fun j a hj => ?_, fun j => (World.frozen?_setCell _ _ _ _).trans (h.z j), Nat.lt_of_lt_of_le h.lt (setCellChg _ _ _ _).size, fun a ha => ?_⟩
  · by_cases he : j = k
    · subst he
      rw [List.getElem?_set_self hk] at hj
      obtain rfl := Option.some.inj hj
      exact World.cell?_setCell_same _ _ _ (h.c j _ (List.getElem?_eq_getElem hk))
    · rw [List.getElem?_set_ne (Ne.symm he)] at hj
      rw [World.cell?_setCell_other _ _ _ _ (by intro e; injection e with _ e; exact he e.symm)]
      exact h.c j a hj
  · rcases List.mem_or_eq_of_mem_set ha with h1 | rfl
    · exact h.byte a h1
    · exact hx
theorem I.Row.cell {w : World} {g k : Nat} {V : List Int} (h : I.Row w g V) (hk : k < V.length) : w.cell? ⟨g, k, none⟩ = some (.int .i64 V[k]) := h.c k _ (List.getElem?_eq_getElem hk)
theorem I.Row.of_eq {w : World} {g : Nat} {V U : List Int} (h : I.Row w g V) (e : V = U) : I.Row w g U := e ▸ h
theorem rep_set (W j : Nat) (d : Int) (h : j < W) : (List.replicate j d ++ List.replicate (W - j) 0).set j d = List.replicate (j + 1) d ++ List.replicate (W - (j + 1)) 0 := by
  obtain ⟨n, rfl⟩ : ∃ n, W = j + 1 + n := ⟨W - (j + 1), by omega⟩
  rw [List.set_append_right _ _ (by simp)]
  rw [show j + 1 + n - j = n + 1 by omega, show j + 1 + n - (j + 1) = n by omega]
  rw [List.length_replicate, Nat.sub_self, List.replicate_succ (n := n), List.set_cons_zero, List.replicate_succ' (n := j), List.append_assoc]
  rfl
/-- A row filled in by its first cells. -/
def fillTo (W : Nat) (d : Int) (X : List (Int × Int)) (j : Nat) : List Int := (X.take j).foldl (fun vs c => vs.set c.1.toNat c.2) (List.replicate W d)
theorem fillTo_len (W : Nat) (d : Int) (X : List (Int × Int)) (j : Nat) : (fillTo W d X j).length = W := by
  unfold fillTo
  have key : ∀ (Y : List (Int × Int)) (V : List Int), (Y.foldl (fun vs c => vs.set c.1.toNat c.2) V).length = V.length := by
    intro Y
    induction Y with
    | nil => intro V; rfl
    | cons y Y ih => intro V; rw [List.foldl_cons, ih, List.length_set]
  rw [key]; simp
theorem fillTo_zero (W : Nat) (d : Int) (X : List (Int × Int)) : fillTo W d X 0 = List.replicate W d := rfl
theorem fillTo_succ (W : Nat) (d : Int) (X : List (Int × Int)) (j n : Nat) (p1 : Int) (h : X[j]? = some ((n : Int), p1)) : (fillTo W d X j).set n p1 = fillTo W d X (j + 1) := by
  unfold fillTo
  rw [List.take_add_one, h]
  simp
theorem fillTo_all (W : Nat) (d : Int) (X : List (Int × Int)) : fillTo W d X X.length = fillL W (d, X) := by
  unfold fillTo fillL
  rw [List.take_length]
theorem ofRow {Z : List Int} (h : noValB Z = false) : (ofD Z, ofL Z) = rowL Z := by
  simp [ofD, ofL, h, rowL]
theorem fine_range {W : Nat} {d : Int} {X : List (Int × Int)} {j : Nat} {p : Int × Int} (h : X[j]? = some p) (hp : p.1 < 0 ∨ (W : Int) ≤ p.1) : fineL W (d, X) = false := by
  rw [← Bool.not_eq_true, fineL_iff]
  rintro ⟨h1, -⟩
  have := h1 p (List.mem_of_getElem? h)
  omega
theorem fine_val {W : Nat} {r : RowD} (h : noValB (fillL W r) = true) : fineL W r = false := by
  rw [← Bool.not_eq_true, fineL_iff]
  rintro ⟨-, h1, -⟩
  rw [noValB_false.2 h1] at h
  cases h
theorem fine_row {W : Nat} {r : RowD} (h : rowL (fillL W r) ≠ r) : fineL W r = false := by
  rw [← Bool.not_eq_true, fineL_iff]
  rintro ⟨-, -, h1⟩
  exact h h1

def CellsTo (W : Nat) (X : List (Int × Int)) (j : Nat) : Prop := ∀ (i : Nat) p, i < j → X[i]? = some p → 0 ≤ p.1 ∧ p.1 < (W : Int)
def NoneTo (R : List RowD) (r : RowD) (j : Nat) : Prop := ∀ (i : Nat) y, i < j → R[i]? = some y → y ≠ r

set_option maxRecDepth 100000 in
set_option maxHeartbeats 16000000 in
theorem refMay_any (W : Int) (R : List RowD) (O : List Int) (ra oa : Option Addr) (rc oc B g o : Nat) (w : World) (hW : I.Byte W) (hR : RowsIn cellR rowR w B (ra, R.length, rc) R) (hrl : R.length ≤ 100000000) (hcl : ∀ r ∈ R, r.2.length ≤ 1000000000)
    (hO : I.BytesAt w g o O) (ha : 0 < O.length → oa = some ⟨g, o, none⟩) (hol : O.length ≤ 100000000) :
    Calls Try.prog 32 #[.agg #[.int .i64 W, .slice ra R.length rc, .slice oa O.length oc]] w fun e w' => e = .returned (.bool (mayL (W, R, O))) ∧ Chg (fun _ => False) w w' := by
  have HR := Lib.hid hR
  have HO := Lib.hid hO
  have HA := Lib.hid ha
  have HCL := Lib.hid hcl
  obtain ⟨hW0, hW1⟩ := hW
  obtain ⟨wa, hwa⟩ : ∃ x, x = w.alloc (.cells #[.int .i64 W, .slice ra R.length rc, .slice oa O.length oc] 50) := ⟨_, rfl⟩
  have HC0 : Hid (Chg (fun _ => False) w wa) := Lib.hid (by rw [hwa]; exact (Chg.refl _ _).alloc _)
  have HB0 : Hid (∀ wr, Chg (fun _ => False) wa wr → wr.cell? ⟨w.heap.size, 0, none⟩ = some (.int .i64 W) ∧ wr.cell? ⟨w.heap.size, 1, none⟩ = some (.slice ra R.length rc) ∧ wr.cell? ⟨w.heap.size, 2, none⟩ = some (.slice oa O.length oc)) := Lib.hid fun wr hc => by
    subst hwa
    exact ⟨hc.cellS (by simp) (fun h => h), hc.cellS (by simp) (fun h => h), hc.cellS (by simp) (fun h => h)⟩
  have HWA := Lib.hid hwa
  have HBD : Hid (w.heap.size < wa.heap.size) := Lib.hid (by rw [hwa]; simp)
  clear hR hO ha hcl hwa
  by_cases h1 : 0 ≤ W
  · have d1 : decide (W < 0) = false := by simp; omega
    by_cases h2 : W ≤ 65536
    · have d2 : decide (65536 < W) = false := by simp; omega
      by_cases h3 : O.length ≤ 65536
      · have d3 : decide (65536 < (O.length : Int)) = false := by simp; omega
        obtain ⟨WN, rfl⟩ := Int.eq_ofNat_of_zero_le h1
        go_enter Try.func32, Try.ntmps32
        go_upto_region 3 with (fail)
        rw [← HWA.out]
        go_wp2
        clear d1 d2 d3
        have HCI : Hid (Chg (fun _ => False) wa wa) := Lib.hid (Chg.refl _ _)
        go_loopw [3, 4] (fun nv q wr => ∃ (k : Nat) (next : Int), k ≤ O.length ∧ q = .int .i64 k ∧ nv = .int .i64 next ∧ (0 ≤ next ∧ next ≤ k) ∧ nextL 0 R.length O = nextL next R.length (O.drop k) ∧ Chg (fun _ => False) wa wr) (fun _ q _ => O.length - (intOf q).toNat)
        case atStart => first | exact ⟨0, 0, by omega, rfl, rfl, by omega, by simp, by first | exact HCI.out | exact HCI.out.drew⟩
        case round =>
          clear HCI
          obtain ⟨k, next, hk, rfl, rfl, ⟨n0, n1⟩, he, hc⟩ := hrel
          have HE := Lib.hid he
          have HC := Lib.hid hc
          have HCW := Lib.hid (HC0.out.trans hc)
          have HCD := Lib.hid (hc.drew)
          obtain ⟨b0, b1, b2⟩ := HB0.out wr hc
          clear he hc
          by_cases hkl : k < O.length
          · have b32 : decide ((k : Int) < (O.length : Int)) = true := by simp; omega
            obtain ⟨i, hi, c1, i0, i1⟩ := (HO.out.chg HCW.out (fun _ h => h)).get hkl
            have e1 := HA.out (by omega)
            subst e1
            have HST := Lib.hid (nextL_step (next := next) (m := R.length) hi)
            clear hi
            by_cases g1 : i < 0
            · have q1 : decide (i < 0) = true := by simpa using g1
              have HF : Hid (mayL ((WN : Int), R, O) = false) := Lib.hid (mayL_next (by rw [HE.out, HST.out, if_pos (.inl g1)]; simp))
              go_upto_region 7 with (fail)
              refine wp_region_same (fun w' => w' = wr.drew) (by kernel_rfl) (by kernel_rfl) ?_ ?_
              · rfl
              iterate 7 (refine wpC_read rfl (fun _ _ _ h => h) (fun K hK => ?_); apply Exists.intro; refine ⟨fun _ w' _ hC => ?_, ?_⟩; ((subst hC); go_simp; try with_reducible rfl); (try go_simp); refine hK _ ?_; clear hK K)
              iterate 7 (refine wpC_skip rfl (fun _ _ _ h => h) (fun K hK => ?_); (try go_simp); refine hK _ ?_; clear hK K)
              iterate 2 (refine wpC_read rfl (fun _ _ _ h => h) (fun K hK => ?_); apply Exists.intro; refine ⟨fun _ w' _ hC => ?_, ?_⟩; ((subst hC); go_simp; try with_reducible rfl); (try go_simp); refine hK _ ?_; clear hK K)
              iterate 9 (refine wpC_skip rfl (fun _ _ _ h => h) (fun K hK => ?_); (try go_simp); refine hK _ ?_; clear hK K)
              iterate 1 (refine wpC_read rfl (fun _ _ _ h => h) (fun K hK => ?_); apply Exists.intro; refine ⟨fun _ w' _ hC => ?_, ?_⟩; ((subst hC); go_simp; try with_reducible rfl); (try go_simp); refine hK _ ?_; clear hK K)
              refine wpC_nil ?_
              rintro w' rfl
              go_wp2
              go_ret
              exact ⟨by rw [HF.out]; rfl, HCW.out.drew⟩
            · have q1 : decide (i < 0) = false := by simpa using g1
              by_cases g2 : next < i
              · have q2 : decide (next < i) = true := by simpa using g2
                have HF : Hid (mayL ((WN : Int), R, O) = false) := Lib.hid (mayL_next (by rw [HE.out, HST.out, if_pos (.inr (.inl g2))]; simp))
                go_upto_region 7 with (fail)
                refine wp_region_same (fun w' => w' = wr.drew) (by kernel_rfl) (by kernel_rfl) ?_ ?_
                · rfl
                iterate 16 (refine wpC_read rfl (fun _ _ _ h => h) (fun K hK => ?_); apply Exists.intro; refine ⟨fun _ w' _ hC => ?_, ?_⟩; ((subst hC); go_simp; try with_reducible rfl); (try go_simp); refine hK _ ?_; clear hK K)
                iterate 9 (refine wpC_skip rfl (fun _ _ _ h => h) (fun K hK => ?_); (try go_simp); refine hK _ ?_; clear hK K)
                iterate 1 (refine wpC_read rfl (fun _ _ _ h => h) (fun K hK => ?_); apply Exists.intro; refine ⟨fun _ w' _ hC => ?_, ?_⟩; ((subst hC); go_simp; try with_reducible rfl); (try go_simp); refine hK _ ?_; clear hK K)
                refine wpC_nil ?_
                rintro w' rfl
                go_wp2
                go_ret
                exact ⟨by rw [HF.out]; rfl, HCW.out.drew⟩
              · have q2 : decide (next < i) = false := by simpa using g2
                by_cases g3 : (R.length : Int) ≤ i
                · have q3 : decide ((R.length : Int) ≤ i) = true := by simpa using g3
                  have HF : Hid (mayL ((WN : Int), R, O) = false) := Lib.hid (mayL_next (by rw [HE.out, HST.out, if_pos (.inr (.inr g3))]; simp))
                  go_upto_region 7 with (fail)
                  refine wp_region_same (fun w' => w' = wr.drew) (by kernel_rfl) (by kernel_rfl) ?_ ?_
                  · rfl
                  iterate 26 (refine wpC_read rfl (fun _ _ _ h => h) (fun K hK => ?_); apply Exists.intro; refine ⟨fun _ w' _ hC => ?_, ?_⟩; ((subst hC); go_simp; try with_reducible rfl); (try go_simp); refine hK _ ?_; clear hK K)
                  refine wpC_nil ?_
                  rintro w' rfl
                  go_wp2
                  go_ret
                  exact ⟨by rw [HF.out]; rfl, HCW.out.drew⟩
                · have q3 : decide ((R.length : Int) ≤ i) = false := by simpa using g3
                  have HEN : Hid (nextL 0 R.length O = nextL (if i = next then next + 1 else next) R.length (O.drop (k + 1))) := Lib.hid (by rw [HE.out, HST.out, if_neg (by omega)])
                  clear HE HST
                  by_cases g4 : i = next
                  · subst g4
                    rw [if_pos rfl] at HEN
                    have q4 : (i == i) = true := by simp
                    go_upto_region 7 with (fail)
                    refine wp_region_same (fun w' => w' = wr.drew) (by kernel_rfl) (by kernel_rfl) ?_ ?_
                    · rfl
                    iterate 26 (refine wpC_read rfl (fun _ _ _ h => h) (fun K hK => ?_); apply Exists.intro; refine ⟨fun _ w' _ hC => ?_, ?_⟩; ((subst hC); go_simp; try with_reducible rfl); (try go_simp); refine hK _ ?_; clear hK K)
                    refine wpC_nil ?_
                    rintro w' rfl
                    go_wp2
                    go_roundw
                    case rel => first | exact ⟨k + 1, i + 1, by omega, by go_num, rfl, by omega, HEN.out, HCD.out⟩ | ((repeat apply Exists.intro); exact ⟨⟨k + 1, i + 1, by omega, rfl, rfl, by omega, HEN.out, HCD.out⟩, by (repeat' apply And.intro) <;> first | rfl | go_num⟩)
                    case measure => simp [intOf]; omega
                  · have q4 : (i == next) = false := by simpa using g4
                    rw [if_neg g4] at HEN
                    go_upto_region 7 with (fail)
                    refine wp_region_same (fun w' => w' = wr.drew) (by kernel_rfl) (by kernel_rfl) ?_ ?_
                    · rfl
                    iterate 26 (refine wpC_read rfl (fun _ _ _ h => h) (fun K hK => ?_); apply Exists.intro; refine ⟨fun _ w' _ hC => ?_, ?_⟩; ((subst hC); go_simp; try with_reducible rfl); (try go_simp); refine hK _ ?_; clear hK K)
                    refine wpC_nil ?_
                    rintro w' rfl
                    go_wp2
                    go_roundw
                    case rel => first | exact ⟨k + 1, next, by omega, by go_num, rfl, by omega, HEN.out, HCD.out⟩ | ((repeat apply Exists.intro); exact ⟨⟨k + 1, next, by omega, rfl, rfl, by omega, HEN.out, HCD.out⟩, by (repeat' apply And.intro) <;> first | rfl | go_num⟩)
                    case measure => simp [intOf]; omega
          · obtain rfl : k = O.length := by omega
            have b32 : decide ((O.length : Int) < (O.length : Int)) = false := by simp
            have HNX : Hid (nextL 0 R.length O = some next) := Lib.hid (by rw [HE.out, List.drop_length]; rfl)
            by_cases hnx : next = (R.length : Int)
            · have q1 : (next != (R.length : Int)) = false := by simpa using hnx
              have HNE : Hid (nextL 0 R.length O = some (R.length : Int)) := Lib.hid (by rw [HNX.out, hnx])
              have HFT0 : Hid (FineTo (WN : Int) R 0) := Lib.hid ⟨fun j r hj => absurd hj (Nat.not_lt_zero _), by simp⟩
              clear hnx HNX HE
              go_wp2
              go_loopw [5] (fun q wx => ∃ k : Nat, k ≤ R.length ∧ q = .int .i64 k ∧ FineTo (WN : Int) R k ∧ Chg (fun _ => False) wa wx) (fun q _ => R.length - (intOf q).toNat)
              case atStart => exact ⟨0, by omega, rfl, HFT0.out, HC.out⟩
              case round =>
                clear HFT0 HC HCW b0 b1 b2 q1 HCD
                obtain ⟨k, hk, rfl, hft, hc⟩ := hrel
                have HFT := Lib.hid hft
                have HC := Lib.hid hc
                have HCW := Lib.hid (HC0.out.trans hc)
                obtain ⟨b0, b1, b2⟩ := HB0.out wr hc
                clear hft hc
                by_cases hkl : k < R.length
                · have b79 : decide ((k : Int) < (R.length : Int)) = true := by simp; omega
                  obtain ⟨r, g', o', xa, xc, hr, rfl, c0, c1, hrb, hin, -, -⟩ := (HR.out.same HCW.out).get rfl (fun _ => rfl) hkl
                  obtain ⟨rd, rl⟩ := r
                  simp only at c0 c1 hin hrb
                  have HRK := Lib.hid hr
                  have HRL : Hid (rl.length ≤ 1000000000) := Lib.hid (HCL.out _ (List.mem_of_getElem? hr))
                  have HRB := Lib.hid hrb
                  have HBAD : Hid (fineL WN (rd, rl) = false → mayL ((WN : Int), R, O) = false) := Lib.hid (fun h => mayL_fine (List.mem_of_getElem? HRK.out) (by rw [Int.toNat_natCast]; exact h))
                  obtain ⟨wb, hwb⟩ : ∃ x, x = wr.alloc (.cells #[.int .i64 rd, .slice xa rl.length xc] 33) := ⟨_, rfl⟩
                  have HWRB : Hid (Chg (fun _ => False) wr wb) := Lib.hid (by rw [hwb]; exact (Chg.refl _ _).alloc _)
                  have HCB := Lib.hid (HC.out.trans HWRB.out)
                  have HIN := Lib.hid (hin.same HWRB.out)
                  have HBX : Hid (∀ wx, Chg (fun _ => False) wb wx → (wx.cell? ⟨w.heap.size, 0, none⟩ = some (.int .i64 WN) ∧ wx.cell? ⟨w.heap.size, 1, none⟩ = some (.slice (some ⟨g', o', none⟩) R.length rc)) ∧ wx.cell? ⟨wr.heap.size, 0, none⟩ = some (.int .i64 rd) ∧ wx.cell? ⟨wr.heap.size, 1, none⟩ = some (.slice xa rl.length xc)) := Lib.hid fun wx hx => by
                    obtain ⟨q0, q1, -⟩ := HB0.out wx (HCB.out.trans hx)
                    subst hwb
                    exact ⟨⟨q0, q1⟩, hx.cellS (by simp) (fun h => h), hx.cellS (by simp) (fun h => h)⟩
                  have HWB := Lib.hid hwb
                  have HSZ : Hid (wr.heap.size < wb.heap.size) := Lib.hid (by rw [hwb]; simp)
                  have c0' := HWRB.out.cellS c0 (fun h => h)
                  clear hr hin hrb hwb b2
                  go_upto_region 17 with (fail)
                  rw [← HWB.out]
                  clear c0 c1 b0 b1 c0'
                  obtain ⟨⟨b0, b1⟩, -, -⟩ := HBX.out wb (Chg.refl _ _)
                  go_upto_region 18 with (at_make; refine I.wpList_make8 rfl _ _ rfl _ _ _ _ WN WN rfl rfl rfl rfl (Nat.le_refl _) (by omega) ?_; intro w2 HV HCV)
                  obtain ⟨H, hH⟩ : ∃ H, H = wb.heap.size := ⟨_, rfl⟩
                  rw [← hH] at HV ⊢
                  have HH := Lib.hid hH
                  have HCS : Hid (∀ wx k v, Chg (fun _ => False) wb wx → Chg (fun _ => False) wb (wx.setCell ⟨H, k, none⟩ v)) := Lib.hid (fun wx k v h => ((h.any (S := fun k => wb.heap.size ≤ k)).trans ((setCellChg wx H k v).mono (fun k _ e => by have := HH.out; omega))).fresh)
                  clear b0 b1 hH
                  go_wp2
                  go_loopw [8] (fun q wx => ∃ j : Nat, j ≤ WN ∧ q = .int .i64 j ∧ I.Row wx H (List.replicate j rd ++ List.replicate (WN - j) 0) ∧ Chg (fun _ => False) wb wx) (fun q _ => WN - (intOf q).toNat)
                  case atStart => exact ⟨0, by omega, rfl, by simpa using HV.out, HCV.out⟩
                  case round =>
                    clear HV HCV
                    obtain ⟨j, hj, rfl, hv, hcx⟩ := hrel
                    have HV := Lib.hid hv
                    have HX := Lib.hid hcx
                    obtain ⟨⟨b0, b1⟩, x0, x1⟩ := HBX.out wr hcx
                    clear hv hcx
                    by_cases hjl : j < WN
                    · have b93 : decide ((j : Int) < (WN : Int)) = true := by simp; omega
                      have z := HV.out.z j
                      have zc := HV.out.cell (k := j) (by simp; omega)
                      have HVN := Lib.hid ((HV.out.putAt (k := j) (by simp; omega) HRB.out).of_eq (rep_set WN j rd hjl))
                      have HXN := Lib.hid (HCS.out _ j (.int .i64 rd) HX.out)
                      go_wp2
                      go_roundw
                      case rel => first | exact ⟨j + 1, by omega, by go_num, HVN.out, HXN.out⟩ | ((repeat apply Exists.intro); exact ⟨⟨j + 1, by omega, rfl, HVN.out, HXN.out⟩, by (repeat' apply And.intro) <;> first | rfl | go_num⟩)
                      case measure => simp [intOf]; omega
                    · obtain rfl : WN = j := by omega
                      have b93 : decide ((WN : Int) < (WN : Int)) = false := by simp
                      have HV0 : Hid (I.Row wr H (fillTo WN rd rl 0)) := Lib.hid (HV.out.of_eq (by simp [fillTo_zero]))
                      have HT0 : Hid (CellsTo WN rl 0) := Lib.hid (fun i p h => absurd h (Nat.not_lt_zero _))
                      clear b0 b1 x0 x1
                      go_wp2
                      go_loopw [9] (fun q wx => ∃ j : Nat, j ≤ rl.length ∧ q = .int .i64 j ∧ I.Row wx H (fillTo WN rd rl j) ∧ CellsTo WN rl j ∧ Chg (fun _ => False) wb wx) (fun q _ => rl.length - (intOf q).toNat)
                      case atStart => exact ⟨0, by omega, rfl, HV0.out, HT0.out, HX.out⟩
                      case round =>
                        clear HV0 HX HV HT0 b93
                        obtain ⟨i, hi, rfl, hv, htt, hcx⟩ := hrel
                        have HV := Lib.hid hv
                        have HX := Lib.hid hcx
                        have HTT := Lib.hid htt
                        obtain ⟨⟨b0, b1⟩, x0, x1⟩ := HBX.out wr hcx
                        have HRW := Lib.hid (HCW.out.trans (HWRB.out.trans hcx))
                        clear hv hcx htt
                        by_cases hil : i < rl.length
                        · have b105 : decide ((i : Int) < (rl.length : Int)) = true := by simp; omega
                          obtain ⟨p, g5, o5, u, v, hp, rfl, he, c0, c1, hpb, -, -⟩ := (HIN.out.same HX.out).get2 rfl hil
                          obtain ⟨rfl, rfl⟩ := pairOf he
                          obtain ⟨p0, p1⟩ := p
                          simp only at c0 c1 hpb
                          have hrl9 := HRL.out
                          have hpb2 : I.Byte p1 := hpb.2
                          have HP := Lib.hid hp
                          obtain ⟨wc, hwc⟩ : ∃ x, x = wr.alloc (.cells #[.int .i64 p0, .int .i64 p1] 85) := ⟨_, rfl⟩
                          have HWC : Hid (Chg (fun _ => False) wr wc) := Lib.hid (by rw [hwc]; exact (Chg.refl _ _).alloc _)
                          have HCC : Hid (wc.cell? ⟨wr.heap.size, 0, none⟩ = some (.int .i64 p0) ∧ wc.cell? ⟨wr.heap.size, 1, none⟩ = some (.int .i64 p1)) := Lib.hid (by rw [hwc]; exact ⟨by simp, by simp⟩)
                          have HWE := Lib.hid hwc
                          have HCX := Lib.hid (HX.out.trans HWC.out)
                          have HVC := Lib.hid (HV.out.chg HWC.out (fun h => h))
                          clear hp he hwc
                          go_upto_region 26 with (fail)
                          rw [← HWE.out]
                          clear b0 b1 x0 x1 c0 c1
                          obtain ⟨⟨b0, b1⟩, -, -⟩ := HBX.out wc HCX.out
                          obtain ⟨k0, k1⟩ := HCC.out
                          by_cases n1 : p0 < 0
                          · have q1 : decide (p0 < 0) = true := by simpa using n1
                            have HF := Lib.hid (HBAD.out (fine_range HP.out (.inl n1)))
                            go_wp2
                            go_ret
                            exact ⟨by rw [HF.out]; rfl, HRW.out.trans HWC.out⟩
                          · have q1 : decide (p0 < 0) = false := by simpa using n1
                            by_cases n2 : (WN : Int) ≤ p0
                            · have q2 : decide ((WN : Int) ≤ p0) = true := by simpa using n2
                              have HF := Lib.hid (HBAD.out (fine_range HP.out (.inr n2)))
                              go_wp2
                              go_ret
                              exact ⟨by rw [HF.out]; rfl, HRW.out.trans HWC.out⟩
                            · have q2 : decide ((WN : Int) ≤ p0) = false := by simpa using n2
                              obtain ⟨m, rfl⟩ := Int.eq_ofNat_of_zero_le (show 0 ≤ p0 by omega)
                              have hm : m < WN := by omega
                              have z := HVC.out.z m
                              have zc := HVC.out.cell (k := m) (by rw [fillTo_len]; exact hm)
                              have HVN := Lib.hid ((HVC.out.putAt (k := m) (by rw [fillTo_len]; exact hm) hpb2).of_eq (fillTo_succ WN rd rl i m p1 HP.out))
                              have HXN := Lib.hid (HCS.out _ m (.int .i64 p1) HCX.out)
                              have HTN : Hid (CellsTo WN rl (i + 1)) := Lib.hid (fun i' p' h h' => by
                                by_cases he : i' = i
                                · subst he; rw [HP.out] at h'; obtain rfl := Option.some.inj h'; exact ⟨by show (0 : Int) ≤ m; omega, by show (m : Int) < WN; omega⟩
                                · exact HTT.out i' p' (by omega) h')
                              clear hpb hpb2 n1 n2
                              go_wp2
                              go_roundw
                              case rel => first | exact ⟨i + 1, by omega, by go_num, HVN.out, HTN.out, HXN.out⟩ | ((repeat apply Exists.intro); exact ⟨⟨i + 1, by omega, rfl, HVN.out, HTN.out, HXN.out⟩, by (repeat' apply And.intro) <;> first | rfl | go_num⟩)
                              case measure => simp [intOf]; omega
                        · obtain rfl : i = rl.length := by omega
                          have b105 : decide ((rl.length : Int) < (rl.length : Int)) = false := by simp
                          obtain ⟨Z, hZ⟩ : ∃ Z, Z = fillL WN (rd, rl) := ⟨_, rfl⟩
                          have HVZ : Hid (I.Row wr H Z) := Lib.hid (HV.out.of_eq (by rw [fillTo_all, hZ]))
                          have hZl : Z.length = WN := by rw [hZ, ← fillTo_all, fillTo_len]
                          have HFV : Hid (noValB Z = true → fineL WN (rd, rl) = false) := Lib.hid (fun h => fine_val (by rw [← hZ]; exact h))
                          have HFR : Hid (rowL Z ≠ (rd, rl) → fineL WN (rd, rl) = false) := Lib.hid (fun h => fine_row (by rw [← hZ]; exact h))
                          have HFG : Hid (noValB Z = false → rowL Z = (rd, rl) → fineL WN (rd, rl) = true) := Lib.hid (fun h h' => fineL_iff.2 ⟨fun c hc => by
                            obtain ⟨i, hi, he⟩ := List.getElem_of_mem hc
                            exact HTT.out i c hi (by rw [← he]; exact List.getElem?_eq_getElem hi), by rw [← hZ]; exact noValB_false.1 h, by rw [← hZ]; exact h'⟩)
                          have hof := refOf_all Z (some ⟨H, 0, none⟩) H 0 WN wr (HVZ.out.bytes (List.prefix_refl _)) (fun _ => rfl) (by omega)
                          rw [hZl] at hof
                          have HOF := Lib.hid hof
                          have HLE := Lib.hid (ofL_le Z)
                          have HZL := Lib.hid hZl
                          clear hof hZ hZl b0 b1 x0
                          go_wp2_with fail
                          refine HOF.out.mono ?_
                          rintro e w3 ⟨⟨sa, sn, sc⟩, rfl, hin3, hc3⟩
                          obtain rfl : sn = (ofL Z).length := hin3.1
                          unfold ofV slV
                          simp only
                          clear x1
                          have HC3 := Lib.hid (HX.out.trans hc3)
                          have HRW3 := Lib.hid (HRW.out.trans hc3)
                          have HIN3 := Lib.hid hin3
                          have hl9 : (ofL Z).length ≤ 1000000000 := by have := HLE.out; have := HZL.out; omega
                          obtain ⟨⟨b0, b1⟩, x0, x1⟩ := HBX.out w3 HC3.out
                          clear hin3 hc3
                          by_cases hnv : noValB Z = true
                          · have HF := Lib.hid (HBAD.out (HFV.out hnv))
                            have hE : ofE Z = 1 := by simp [ofE, hnv]
                            rw [hE]
                            go_wp2
                            go_ret
                            exact ⟨by rw [HF.out]; rfl, HRW3.out.alloc _⟩
                          · have hnv : noValB Z = false := by simpa using hnv
                            have hE : ofE Z = 0 := by simp [ofE, hnv]
                            rw [hE]
                            have HRE := Lib.hid (ofRow hnv)
                            obtain ⟨D, hD⟩ : ∃ D, ofD Z = D := ⟨_, rfl⟩
                            obtain ⟨X, hX⟩ : ∃ X, ofL Z = X := ⟨_, rfl⟩
                            rw [hD, hX] at HRE ⊢
                            rw [hX] at HIN3 hl9
                            clear hD hX hE HLE
                            obtain ⟨wd, hwd⟩ : ∃ x, x = w3.alloc (.cells #[.int .i64 D, .slice sa X.length sc] 33) := ⟨_, rfl⟩
                            have HWD : Hid (Chg (fun _ => False) w3 wd) := Lib.hid (by rw [hwd]; exact (Chg.refl _ _).alloc _)
                            have HDD : Hid (wd.cell? ⟨w3.heap.size, 0, none⟩ = some (.int .i64 D) ∧ wd.cell? ⟨w3.heap.size, 1, none⟩ = some (.slice sa X.length sc)) := Lib.hid (by rw [hwd]; exact ⟨by simp, by simp⟩)
                            have HWE := Lib.hid hwd
                            clear hwd
                            go_upto_region 30 with (fail)
                            rw [← HWE.out]
                            clear b0 b1 x0 x1
                            obtain ⟨-, x0, x1⟩ := HBX.out wd (HC3.out.trans HWD.out)
                            obtain ⟨y0, y1⟩ := HDD.out
                            go_wp2_with fail
                            refine (refSame_any D rd X rl sa xa sc xc _ _ wd (HIN3.out.same HWD.out) (HIN.out.same (HC3.out.trans HWD.out)) hl9).mono ?_
                            rintro e w4 ⟨rfl, hc4⟩
                            have HC4 := Lib.hid ((HC3.out.trans HWD.out).trans hc4)
                            have HRW4 := Lib.hid ((HRW3.out.trans HWD.out).trans hc4)
                            clear hc4 x0 x1 y0 y1
                            by_cases hre : (D, X) = (rd, rl)
                            · have HFI := Lib.hid (HFG.out hnv (HRE.out ▸ hre))
                              rw [show rowEq (D, X) (rd, rl) = true by simp [rowEq, hre]]
                              have HND0 : Hid (NoneTo R (rd, rl) 0) := Lib.hid (fun i y h => absurd h (Nat.not_lt_zero _))
                              clear hre HFG HFR HFV HBAD HOF HVZ HV HTT HCS
                              go_wp2
                              go_loopw [13] (fun q wx => ∃ i : Nat, i ≤ k ∧ q = .int .i64 i ∧ NoneTo R (rd, rl) i ∧ Chg (fun _ => False) wb wx) (fun q _ => k - (intOf q).toNat)
                              case atStart => exact ⟨0, by omega, rfl, HND0.out, HC4.out⟩
                              case round =>
                                clear HND0 HC4 HRW4 HRW HRW3 HC3
                                obtain ⟨i, hi, rfl, hnt, hcx⟩ := hrel
                                have HNT := Lib.hid hnt
                                have HX := Lib.hid hcx
                                have HRW := Lib.hid (HCW.out.trans (HWRB.out.trans hcx))
                                clear hnt hcx
                                by_cases hik : i < k
                                · have b144 : decide ((i : Int) < (k : Int)) = true := by simp; omega
                                  obtain ⟨r5, g5, o5, ya, yc, hr5, e5, k0, k1, -, hin5, -, -⟩ := (HR.out.same HRW.out).get rfl (fun _ => rfl) (show i < R.length by omega)
                                  injection e5 with e5
                                  injection e5 with e5 e6
                                  subst e5 e6
                                  obtain ⟨yd, yl⟩ := r5
                                  simp only at k0 k1 hin5
                                  have HR5 := Lib.hid hr5
                                  have HIN5 := Lib.hid hin5
                                  have HK := Lib.hid (And.intro k0 k1)
                                  have HYL : Hid (yl.length ≤ 1000000000) := Lib.hid (HCL.out _ (List.mem_of_getElem? hr5))
                                  have HANS : ∃ b, rowEq (yd, yl) (rd, rl) = b := ⟨_, rfl⟩
                                  obtain ⟨b, hb⟩ := HANS
                                  have HBV := Lib.hid hb
                                  have hir : i < R.length := by omega
                                  clear hr5 hin5 k0 k1 hb
                                  go_upto_region 35 with (fail)
                                  refine wp_region_same (fun w' => Chg (fun _ => False) wr w') (by kernel_rfl) (by kernel_rfl) ?_ ?_
                                  · exact (Chg.refl _ _).drew
                                  (refine wpC_read rfl (fun _ _ _ h => h) (fun K hK => ?_); apply Exists.intro; refine ⟨fun _ w' _ hC => ?_, ?_⟩; ((obtain ⟨⟨q0, q1⟩, -, -⟩ := HBX.out w' (HX.out.trans hC)); go_simp; try with_reducible rfl); (try go_simp); refine hK _ ?_; clear hK K)
                                  (refine wpC_read rfl (fun _ _ _ h => h) (fun K hK => ?_); apply Exists.intro; refine ⟨fun _ w' _ hC => ?_, ?_⟩; ((obtain ⟨⟨q0, q1⟩, -, -⟩ := HBX.out w' (HX.out.trans hC)); go_simp; try with_reducible rfl); (try go_simp); refine hK _ ?_; clear hK K)
                                  (refine wpC_read rfl (fun _ _ _ h => h) (fun K hK => ?_); apply Exists.intro; refine ⟨fun _ w' _ hC => ?_, ?_⟩; ((skip); go_simp; try with_reducible rfl); (try go_simp); refine hK _ ?_; clear hK K)
                                  (refine wpC_read rfl (fun _ _ _ h => h) (fun K hK => ?_); apply Exists.intro; refine ⟨fun _ w' _ hC => ?_, ?_⟩; ((skip); go_simp; try with_reducible rfl); (try go_simp); refine hK _ ?_; clear hK K)
                                  (refine wpC_read rfl (fun _ _ _ h => h) (fun K hK => ?_); apply Exists.intro; refine ⟨fun _ w' _ hC => ?_, ?_⟩; ((have q0 := hC.cellS HK.out.1 (fun h => h); have q1 := hC.cellS HK.out.2 (fun h => h)); go_simp; try with_reducible rfl); (try go_simp); refine hK _ ?_; clear hK K)
                                  (refine wpC_read rfl (fun _ _ _ h => h) (fun K hK => ?_); apply Exists.intro; refine ⟨fun _ w' _ hC => ?_, ?_⟩; ((obtain ⟨-, q0, q1⟩ := HBX.out w' (HX.out.trans hC)); go_simp; try with_reducible rfl); (try go_simp); refine hK _ ?_; clear hK K)
                                  refine wpC_call rfl (Value.bool b )  49  ( #[.agg #[.int .i64 yd, .slice ya yl.length yc], .agg #[.int .i64 rd, .slice xa rl.length xc]]) (fun w' => by go_simp) (fun _ w' _ hC => ?_) (fun K hK => ?_)
                                  · refine (refSame_any yd rd yl rl ya xa yc xc _ _ w' (HIN5.out.same hC) (HIN.out.same (HX.out.trans hC)) HYL.out).mono ?_
                                    rintro e w4 ⟨rfl, hc⟩
                                    exact ⟨by rw [HBV.out], hC.trans hc⟩
                                  ((try go_simp); refine hK _ ?_; clear hK K)
                                  refine wpC_nil ?_
                                  intro w5 hC5
                                  have HX5 := Lib.hid (HX.out.trans hC5)
                                  have HRW5 := Lib.hid (HRW.out.trans hC5)
                                  clear hC5
                                  cases b with
                                  | true =>
                                    have HF : Hid (mayL ((WN : Int), R, O) = false) := Lib.hid (mayL_twice (fun hn => by
                                      have he : (yd, yl) = (rd, rl) := by simpa [rowEq] using HBV.out
                                      have h1 := HR5.out
                                      rw [he] at h1
                                      have h2 := (List.getElem?_inj (i := i) (j := k) hir hn).1 (by rw [h1, HRK.out])
                                      omega))
                                    go_wp2
                                    go_ret
                                    exact ⟨by rw [HF.out]; rfl, HRW5.out⟩
                                  | false =>
                                    have HNT2 : Hid (NoneTo R (rd, rl) (i + 1)) := Lib.hid (fun i' y h h' => by
                                      by_cases he : i' = i
                                      · subst he; rw [HR5.out] at h'; obtain rfl := Option.some.inj h'; intro e; have := HBV.out; rw [e] at this; simp [rowEq] at this
                                      · exact HNT.out i' y (by omega) h')
                                    go_wp2
                                    go_roundw
                                    case rel => first | exact ⟨i + 1, by omega, by go_num, HNT2.out, HX5.out⟩ | ((repeat apply Exists.intro); exact ⟨⟨i + 1, by omega, rfl, HNT2.out, HX5.out⟩, by (repeat' apply And.intro) <;> first | rfl | go_num⟩)
                                    case measure => simp [intOf]; omega
                                · obtain rfl : i = k := by omega
                                  have b144 : decide ((i : Int) < (i : Int)) = false := by simp
                                  have HFTN : Hid (FineTo (WN : Int) R (i + 1)) := Lib.hid ⟨fun j r hj hr => by
                                    by_cases he : j = i
                                    · subst he; rw [HRK.out] at hr; obtain rfl := Option.some.inj hr; rw [Int.toNat_natCast]; exact HFI.out
                                    · exact HFT.out.1 j r (by omega) hr, by
                                    rw [List.take_add_one, HRK.out, List.nodup_append]
                                    refine ⟨HFT.out.2, by simp, fun a ha b hb => ?_⟩
                                    simp at hb
                                    subst hb
                                    obtain ⟨j, hj, he⟩ := List.getElem_of_mem ha
                                    rw [List.length_take] at hj
                                    refine HNT.out j a (by omega) ?_
                                    rw [← he, List.getElem_take]
                                    exact List.getElem?_eq_getElem _⟩
                                  have HCN := Lib.hid (HCB.out.trans HX.out)
                                  go_wp2
                                  go_roundw
                                  case rel => first | exact ⟨i + 1, by omega, by go_num, HFTN.out, HCN.out⟩ | ((repeat apply Exists.intro); exact ⟨⟨i + 1, by omega, rfl, HFTN.out, HCN.out⟩, by (repeat' apply And.intro) <;> first | rfl | go_num⟩)
                                  case measure => simp [intOf]; omega
                            · have HF := Lib.hid (HBAD.out (HFR.out (by rw [← HRE.out]; exact hre)))
                              rw [show rowEq (D, X) (rd, rl) = false by simpa [rowEq] using hre]
                              clear hre
                              go_wp2
                              go_ret
                              exact ⟨by rw [HF.out]; rfl, HRW4.out⟩
                · obtain rfl : k = R.length := by omega
                  have b79 : decide ((R.length : Int) < (R.length : Int)) = false := by simp
                  have HF : Hid (mayL ((WN : Int), R, O) = true) := Lib.hid (by
                    rw [mayL_good ⟨h1, h2, h3⟩ (fun r hr => by
                      obtain ⟨j, hj, he⟩ := List.getElem_of_mem hr
                      exact HFT.out.1 j r hj (by rw [List.getElem?_eq_getElem hj, he])) (by have := HFT.out.2; rwa [List.take_length] at this), HNE.out]
                    simp)
                  go_wp2
                  go_ret
                  exact ⟨by rw [HF.out]; rfl, HCW.out⟩
            · have q1 : (next != (R.length : Int)) = true := by simpa using hnx
              have HF : Hid (mayL ((WN : Int), R, O) = false) := Lib.hid (mayL_next (by rw [HNX.out]; simpa using hnx))
              go_wp2
              go_ret
              exact ⟨by rw [HF.out]; rfl, HCW.out⟩
      · have d3 : decide (65536 < (O.length : Int)) = true := by simp; omega
        have HF : Hid (mayL (W, R, O) = false) := Lib.hid (mayL_width (by omega))
        obtain ⟨b0, b1, b2⟩ := HB0.out wa (Chg.refl _ _)
        go_enter Try.func32, Try.ntmps32
        go_upto_region 1 with (fail)
        rw [← HWA.out]
        go_wp2
        go_ret
        exact ⟨by rw [HF.out]; rfl, HC0.out⟩
    · have d2 : decide (65536 < W) = true := by simp; omega
      have HF : Hid (mayL (W, R, O) = false) := Lib.hid (mayL_width (by omega))
      obtain ⟨b0, b1, b2⟩ := HB0.out wa (Chg.refl _ _)
      go_enter Try.func32, Try.ntmps32
      go_upto_region 1 with (fail)
      rw [← HWA.out]
      go_wp2
      go_ret
      exact ⟨by rw [HF.out]; rfl, HC0.out⟩
  · have d1 : decide (W < 0) = true := by simp; omega
    have HF : Hid (mayL (W, R, O) = false) := Lib.hid (mayL_width (by omega))
    obtain ⟨b0, b1, b2⟩ := HB0.out wa (Chg.refl _ _)
    go_enter Try.func32, Try.ntmps32
    go_upto_region 1 with (fail)
    rw [← HWA.out]
    go_wp2
    go_ret
    exact ⟨by rw [HF.out]; rfl, HC0.out⟩
end Go.Proofs.Ytkfakkonlnjckaa
