/- A table is the document's; what stands at a place of a table: the document's. -/
import Derived.Test.YtkfakkonlnjckaaRowsX
namespace Go.Proofs.Ytkfakkonlnjckaa
open Go.RowKit

set_option maxRecDepth 100000 in
set_option maxHeartbeats 8000000 in
theorem refAtTab_any (W l i : Int) (R : List RowD) (O : List Int) (ra oa : Option Addr) (rc oc B g o : Nat) (w : World) (hW : I.Byte W) (hll : I.Byte l) (hii : I.Byte i) (hR : RowsIn cellR rowR w B (ra, R.length, rc) R) (hcl : ∀ r ∈ R, r.2.length ≤ 1000000000)
    (hO : I.BytesAt w g o O) (ha : 0 < O.length → oa = some ⟨g, o, none⟩) (hol : O.length ≤ 100000000) :
    Calls Try.prog 22 #[.agg #[.int .i64 W, .slice ra R.length rc, .slice oa O.length oc], .int .i64 l, .int .i64 i] w fun e w' => e = .returned (.int .i64 (atTab (W, R, O) l i)) ∧ Chg (fun _ => False) w w' := by
  have HR := Lib.hid hR
  have HO := Lib.hid hO
  have HA := Lib.hid ha
  have HCL := Lib.hid hcl
  obtain ⟨wd, hwd⟩ : ∃ wd, wd = (w.alloc (.cells #[.int .i64 W, .slice ra R.length rc, .slice oa O.length oc] 50)).drew := ⟨_, rfl⟩
  have HCD : Hid (Chg (fun _ => False) w wd) := Lib.hid (by rw [hwd]; exact ((Chg.refl _ _).alloc _).drew)
  have b0 : wd.cell? ⟨w.heap.size, 0, none⟩ = some (.int .i64 W) := by rw [hwd]; simp
  have b1 : wd.cell? ⟨w.heap.size, 1, none⟩ = some (.slice ra R.length rc) := by rw [hwd]; simp
  have b2 : wd.cell? ⟨w.heap.size, 2, none⟩ = some (.slice oa O.length oc) := by rw [hwd]; simp
  have HWE := Lib.hid hwd
  obtain ⟨_, _⟩ := hW
  obtain ⟨_, _⟩ := hll
  obtain ⟨_, _⟩ := hii
  clear hR hO ha hcl hwd
  by_cases h1 : l < 0
  · have d1 : decide (l < 0) = true := by simpa using h1
    have HF := Lib.hid (atTab_no (W := W) (R := R) (O := O) (i := i) (.inl h1))
    go_enter Try.func22, Try.ntmps22
    go_upto_region 1 with (fail)
    refine wp_region_same (fun w' => w' = wd) (by kernel_rfl) (by kernel_rfl) ?_ ?_
    · rw [HWE.out]
    iterate 3 (refine wpC_read rfl (fun _ _ _ h => h) (fun K hK => ?_); apply Exists.intro; refine ⟨fun _ w' _ hC => ?_, ?_⟩; ((subst hC); go_simp; try with_reducible rfl); (try go_simp); refine hK _ ?_; clear hK K)
    iterate 5 (refine wpC_skip rfl (fun _ _ _ h => h) (fun K hK => ?_); (try go_simp); refine hK _ ?_; clear hK K)
    iterate 2 (refine wpC_read rfl (fun _ _ _ h => h) (fun K hK => ?_); apply Exists.intro; refine ⟨fun _ w' _ hC => ?_, ?_⟩; ((subst hC); go_simp; try with_reducible rfl); (try go_simp); refine hK _ ?_; clear hK K)
    iterate 2 (refine wpC_skip rfl (fun _ _ _ h => h) (fun K hK => ?_); (try go_simp); refine hK _ ?_; clear hK K)
    iterate 2 (refine wpC_read rfl (fun _ _ _ h => h) (fun K hK => ?_); apply Exists.intro; refine ⟨fun _ w' _ hC => ?_, ?_⟩; ((subst hC); go_simp; try with_reducible rfl); (try go_simp); refine hK _ ?_; clear hK K)
    iterate 4 (refine wpC_skip rfl (fun _ _ _ h => h) (fun K hK => ?_); (try go_simp); refine hK _ ?_; clear hK K)
    iterate 2 (refine wpC_read rfl (fun _ _ _ h => h) (fun K hK => ?_); apply Exists.intro; refine ⟨fun _ w' _ hC => ?_, ?_⟩; ((subst hC); go_simp; try with_reducible rfl); (try go_simp); refine hK _ ?_; clear hK K)
    iterate 6 (refine wpC_skip rfl (fun _ _ _ h => h) (fun K hK => ?_); (try go_simp); refine hK _ ?_; clear hK K)
    iterate 2 (refine wpC_read rfl (fun _ _ _ h => h) (fun K hK => ?_); apply Exists.intro; refine ⟨fun _ w' _ hC => ?_, ?_⟩; ((subst hC); go_simp; try with_reducible rfl); (try go_simp); refine hK _ ?_; clear hK K)
    iterate 9 (refine wpC_skip rfl (fun _ _ _ h => h) (fun K hK => ?_); (try go_simp); refine hK _ ?_; clear hK K)
    iterate 1 (refine wpC_read rfl (fun _ _ _ h => h) (fun K hK => ?_); apply Exists.intro; refine ⟨fun _ w' _ hC => ?_, ?_⟩; ((subst hC); go_simp; try with_reducible rfl); (try go_simp); refine hK _ ?_; clear hK K)
    refine wpC_nil ?_
    rintro w' rfl
    go_wp2
    go_ret
    exact ⟨by rw [HF.out]; rfl, HCD.out⟩
  · have d1 : decide (l < 0) = false := by simpa using h1
    obtain ⟨k, rfl⟩ := Int.eq_ofNat_of_zero_le (show 0 ≤ l by omega)
    by_cases h2 : O.length ≤ k
    · have d2 : decide ((O.length : Int) ≤ (k : Int)) = true := by simp; omega
      have HF := Lib.hid (atTab_no (W := W) (R := R) (O := O) (i := i) (l := (k : Int)) (.inr (.inl (by omega))))
      go_enter Try.func22, Try.ntmps22
      go_upto_region 1 with (fail)
      refine wp_region_same (fun w' => w' = wd) (by kernel_rfl) (by kernel_rfl) ?_ ?_
      · rw [HWE.out]
      iterate 10 (refine wpC_read rfl (fun _ _ _ h => h) (fun K hK => ?_); apply Exists.intro; refine ⟨fun _ w' _ hC => ?_, ?_⟩; ((subst hC); go_simp; try with_reducible rfl); (try go_simp); refine hK _ ?_; clear hK K)
      iterate 2 (refine wpC_skip rfl (fun _ _ _ h => h) (fun K hK => ?_); (try go_simp); refine hK _ ?_; clear hK K)
      iterate 2 (refine wpC_read rfl (fun _ _ _ h => h) (fun K hK => ?_); apply Exists.intro; refine ⟨fun _ w' _ hC => ?_, ?_⟩; ((subst hC); go_simp; try with_reducible rfl); (try go_simp); refine hK _ ?_; clear hK K)
      iterate 4 (refine wpC_skip rfl (fun _ _ _ h => h) (fun K hK => ?_); (try go_simp); refine hK _ ?_; clear hK K)
      iterate 2 (refine wpC_read rfl (fun _ _ _ h => h) (fun K hK => ?_); apply Exists.intro; refine ⟨fun _ w' _ hC => ?_, ?_⟩; ((subst hC); go_simp; try with_reducible rfl); (try go_simp); refine hK _ ?_; clear hK K)
      iterate 6 (refine wpC_skip rfl (fun _ _ _ h => h) (fun K hK => ?_); (try go_simp); refine hK _ ?_; clear hK K)
      iterate 2 (refine wpC_read rfl (fun _ _ _ h => h) (fun K hK => ?_); apply Exists.intro; refine ⟨fun _ w' _ hC => ?_, ?_⟩; ((subst hC); go_simp; try with_reducible rfl); (try go_simp); refine hK _ ?_; clear hK K)
      iterate 9 (refine wpC_skip rfl (fun _ _ _ h => h) (fun K hK => ?_); (try go_simp); refine hK _ ?_; clear hK K)
      iterate 1 (refine wpC_read rfl (fun _ _ _ h => h) (fun K hK => ?_); apply Exists.intro; refine ⟨fun _ w' _ hC => ?_, ?_⟩; ((subst hC); go_simp; try with_reducible rfl); (try go_simp); refine hK _ ?_; clear hK K)
      refine wpC_nil ?_
      rintro w' rfl
      go_wp2
      go_ret
      exact ⟨by rw [HF.out]; rfl, HCD.out⟩
    · have d2 : decide ((O.length : Int) ≤ (k : Int)) = false := by simp; omega
      by_cases h3 : i < 0
      · have d3 : decide (i < 0) = true := by simpa using h3
        have HF := Lib.hid (atTab_no (W := W) (R := R) (O := O) (i := i) (l := (k : Int)) (.inr (.inr (.inl h3))))
        go_enter Try.func22, Try.ntmps22
        go_upto_region 1 with (fail)
        refine wp_region_same (fun w' => w' = wd) (by kernel_rfl) (by kernel_rfl) ?_ ?_
        · rw [HWE.out]
        iterate 14 (refine wpC_read rfl (fun _ _ _ h => h) (fun K hK => ?_); apply Exists.intro; refine ⟨fun _ w' _ hC => ?_, ?_⟩; ((subst hC); go_simp; try with_reducible rfl); (try go_simp); refine hK _ ?_; clear hK K)
        iterate 4 (refine wpC_skip rfl (fun _ _ _ h => h) (fun K hK => ?_); (try go_simp); refine hK _ ?_; clear hK K)
        iterate 2 (refine wpC_read rfl (fun _ _ _ h => h) (fun K hK => ?_); apply Exists.intro; refine ⟨fun _ w' _ hC => ?_, ?_⟩; ((subst hC); go_simp; try with_reducible rfl); (try go_simp); refine hK _ ?_; clear hK K)
        iterate 6 (refine wpC_skip rfl (fun _ _ _ h => h) (fun K hK => ?_); (try go_simp); refine hK _ ?_; clear hK K)
        iterate 2 (refine wpC_read rfl (fun _ _ _ h => h) (fun K hK => ?_); apply Exists.intro; refine ⟨fun _ w' _ hC => ?_, ?_⟩; ((subst hC); go_simp; try with_reducible rfl); (try go_simp); refine hK _ ?_; clear hK K)
        iterate 9 (refine wpC_skip rfl (fun _ _ _ h => h) (fun K hK => ?_); (try go_simp); refine hK _ ?_; clear hK K)
        iterate 1 (refine wpC_read rfl (fun _ _ _ h => h) (fun K hK => ?_); apply Exists.intro; refine ⟨fun _ w' _ hC => ?_, ?_⟩; ((subst hC); go_simp; try with_reducible rfl); (try go_simp); refine hK _ ?_; clear hK K)
        refine wpC_nil ?_
        rintro w' rfl
        go_wp2
        go_ret
        exact ⟨by rw [HF.out]; rfl, HCD.out⟩
      · have d3 : decide (i < 0) = false := by simpa using h3
        by_cases h4 : W ≤ i
        · have d4 : decide (W ≤ i) = true := by simpa using h4
          have HF := Lib.hid (atTab_no (W := W) (R := R) (O := O) (i := i) (l := (k : Int)) (.inr (.inr (.inr h4))))
          go_enter Try.func22, Try.ntmps22
          go_upto_region 1 with (fail)
          refine wp_region_same (fun w' => w' = wd) (by kernel_rfl) (by kernel_rfl) ?_ ?_
          · rw [HWE.out]
          iterate 20 (refine wpC_read rfl (fun _ _ _ h => h) (fun K hK => ?_); apply Exists.intro; refine ⟨fun _ w' _ hC => ?_, ?_⟩; ((subst hC); go_simp; try with_reducible rfl); (try go_simp); refine hK _ ?_; clear hK K)
          iterate 6 (refine wpC_skip rfl (fun _ _ _ h => h) (fun K hK => ?_); (try go_simp); refine hK _ ?_; clear hK K)
          iterate 2 (refine wpC_read rfl (fun _ _ _ h => h) (fun K hK => ?_); apply Exists.intro; refine ⟨fun _ w' _ hC => ?_, ?_⟩; ((subst hC); go_simp; try with_reducible rfl); (try go_simp); refine hK _ ?_; clear hK K)
          iterate 9 (refine wpC_skip rfl (fun _ _ _ h => h) (fun K hK => ?_); (try go_simp); refine hK _ ?_; clear hK K)
          iterate 1 (refine wpC_read rfl (fun _ _ _ h => h) (fun K hK => ?_); apply Exists.intro; refine ⟨fun _ w' _ hC => ?_, ?_⟩; ((subst hC); go_simp; try with_reducible rfl); (try go_simp); refine hK _ ?_; clear hK K)
          refine wpC_nil ?_
          rintro w' rfl
          go_wp2
          go_ret
          exact ⟨by rw [HF.out]; rfl, HCD.out⟩
        · have d4 : decide (W ≤ i) = false := by simpa using h4
          obtain ⟨q, hq, c1, q0, q1⟩ := (HO.out.chg HCD.out (fun _ h => h)).get (k := k) (by omega)
          have e1 := HA.out (by omega)
          subst e1
          have HT := Lib.hid (atTab_row (W := W) (R := R) (i := i) (l := k) (by omega) hq)
          have hk : k < O.length := by omega
          clear hq
          by_cases h5 : q < 0
          · have d5 : decide (q < 0) = true := by simpa using h5
            rw [if_pos (.inl h5)] at HT
            go_enter Try.func22, Try.ntmps22
            go_upto_region 1 with (fail)
            refine wp_region_same (fun w' => w' = wd) (by kernel_rfl) (by kernel_rfl) ?_ ?_
            · rw [HWE.out]
            iterate 28 (refine wpC_read rfl (fun _ _ _ h => h) (fun K hK => ?_); apply Exists.intro; refine ⟨fun _ w' _ hC => ?_, ?_⟩; ((subst hC); go_simp; try with_reducible rfl); (try go_simp); refine hK _ ?_; clear hK K)
            iterate 9 (refine wpC_skip rfl (fun _ _ _ h => h) (fun K hK => ?_); (try go_simp); refine hK _ ?_; clear hK K)
            iterate 1 (refine wpC_read rfl (fun _ _ _ h => h) (fun K hK => ?_); apply Exists.intro; refine ⟨fun _ w' _ hC => ?_, ?_⟩; ((subst hC); go_simp; try with_reducible rfl); (try go_simp); refine hK _ ?_; clear hK K)
            refine wpC_nil ?_
            rintro w' rfl
            go_wp2
            go_ret
            exact ⟨by rw [HT.out]; rfl, HCD.out⟩
          · have d5 : decide (q < 0) = false := by simpa using h5
            obtain ⟨n, rfl⟩ := Int.eq_ofNat_of_zero_le (show 0 ≤ q by omega)
            by_cases h6 : R.length ≤ n
            · have d6 : decide ((R.length : Int) ≤ (n : Int)) = true := by simp; omega
              rw [if_pos (.inr (by omega))] at HT
              go_enter Try.func22, Try.ntmps22
              go_upto_region 1 with (fail)
              refine wp_region_same (fun w' => w' = wd) (by kernel_rfl) (by kernel_rfl) ?_ ?_
              · rw [HWE.out]
              iterate 38 (refine wpC_read rfl (fun _ _ _ h => h) (fun K hK => ?_); apply Exists.intro; refine ⟨fun _ w' _ hC => ?_, ?_⟩; ((subst hC); go_simp; try with_reducible rfl); (try go_simp); refine hK _ ?_; clear hK K)
              refine wpC_nil ?_
              rintro w' rfl
              go_wp2
              go_ret
              exact ⟨by rw [HT.out]; rfl, HCD.out⟩
            · have d6 : decide ((R.length : Int) ≤ (n : Int)) = false := by simp; omega
              obtain ⟨r, g', o', xa, xc, hr, rfl, c0, c2, hrb, hin, -, -⟩ := (HR.out.same HCD.out).get rfl (fun _ => rfl) (show n < R.length by omega)
              obtain ⟨rd, rl⟩ := r
              simp only at c0 c2 hin hrb
              rw [if_neg (by omega), Int.toNat_natCast, hr] at HT
              have HIN := Lib.hid hin
              have HRL := Lib.hid (HCL.out _ (List.mem_of_getElem? hr))
              have hn : n < R.length := by omega
              clear hr hin hrb
              go_enter Try.func22, Try.ntmps22
              go_upto_region 1 with (fail)
              refine wp_region_same (fun w' => w' = wd) (by kernel_rfl) (by kernel_rfl) ?_ ?_
              · rw [HWE.out]
              iterate 38 (refine wpC_read rfl (fun _ _ _ h => h) (fun K hK => ?_); apply Exists.intro; refine ⟨fun _ w' _ hC => ?_, ?_⟩; ((subst hC); go_simp; try with_reducible rfl); (try go_simp); refine hK _ ?_; clear hK K)
              refine wpC_nil ?_
              rintro w' rfl
              have HBB : Hid ((w'.cell? ⟨w.heap.size, 1, none⟩ = some (.slice (some ⟨g', o', none⟩) R.length rc) ∧ w'.cell? ⟨w.heap.size, 2, none⟩ = some (.slice (some ⟨g, o, none⟩) O.length oc)) ∧ w'.cell? ⟨g, o + k, none⟩ = some (.int .i64 n) ∧ w'.cell? ⟨g', o' + n * 2, none⟩ = some (.int .i64 rd) ∧ w'.cell? ⟨g', o' + n * 2 + 1, none⟩ = some (.slice xa rl.length xc)) := Lib.hid ⟨⟨b1, b2⟩, c1, c0, c2⟩
              clear b0 b1 b2 c0 c1 c2 HWE
              go_upto_region 3 with (fail)
              refine wp_region_same (fun wx => Chg (fun _ => False) w' wx) (by kernel_rfl) (by kernel_rfl) ?_ ?_
              · exact (Chg.refl _ _).drew
              (refine wpC_read rfl (fun _ _ _ h => h) (fun K hK => ?_); apply Exists.intro; refine ⟨fun _ w' _ hC => ?_, ?_⟩; ((skip); go_simp; try with_reducible rfl); (try go_simp); refine hK _ ?_; clear hK K)
              (refine wpC_read rfl (fun _ _ _ h => h) (fun K hK => ?_); apply Exists.intro; refine ⟨fun _ w' _ hC => ?_, ?_⟩; ((have q := hC.cellS HBB.out.1.1 (fun h => h)); go_simp; try with_reducible rfl); (try go_simp); refine hK _ ?_; clear hK K)
              (refine wpC_read rfl (fun _ _ _ h => h) (fun K hK => ?_); apply Exists.intro; refine ⟨fun _ w' _ hC => ?_, ?_⟩; ((skip); go_simp; try with_reducible rfl); (try go_simp); refine hK _ ?_; clear hK K)
              (refine wpC_read rfl (fun _ _ _ h => h) (fun K hK => ?_); apply Exists.intro; refine ⟨fun _ w' _ hC => ?_, ?_⟩; ((have q := hC.cellS HBB.out.1.2 (fun h => h)); go_simp; try with_reducible rfl); (try go_simp); refine hK _ ?_; clear hK K)
              (refine wpC_read rfl (fun _ _ _ h => h) (fun K hK => ?_); apply Exists.intro; refine ⟨fun _ w' _ hC => ?_, ?_⟩; ((skip); go_simp; try with_reducible rfl); (try go_simp); refine hK _ ?_; clear hK K)
              (refine wpC_read rfl (fun _ _ _ h => h) (fun K hK => ?_); apply Exists.intro; refine ⟨fun _ w' _ hC => ?_, ?_⟩; ((skip); go_simp; try with_reducible rfl); (try go_simp); refine hK _ ?_; clear hK K)
              (refine wpC_read rfl (fun _ _ _ h => h) (fun K hK => ?_); apply Exists.intro; refine ⟨fun _ w' _ hC => ?_, ?_⟩; ((have q := hC.cellS HBB.out.2.1 (fun h => h)); go_simp; try with_reducible rfl); (try go_simp); refine hK _ ?_; clear hK K)
              (refine wpC_read rfl (fun _ _ _ h => h) (fun K hK => ?_); apply Exists.intro; refine ⟨fun _ w' _ hC => ?_, ?_⟩; ((skip); go_simp; try with_reducible rfl); (try go_simp); refine hK _ ?_; clear hK K)
              (refine wpC_read rfl (fun _ _ _ h => h) (fun K hK => ?_); apply Exists.intro; refine ⟨fun _ w' _ hC => ?_, ?_⟩; ((have q := hC.cellS HBB.out.2.2.1 (fun h => h); have q2 := hC.cellS HBB.out.2.2.2 (fun h => h)); go_simp; try with_reducible rfl); (try go_simp); refine hK _ ?_; clear hK K)
              (refine wpC_read rfl (fun _ _ _ h => h) (fun K hK => ?_); apply Exists.intro; refine ⟨fun _ w' _ hC => ?_, ?_⟩; ((skip); go_simp; try with_reducible rfl); (try go_simp); refine hK _ ?_; clear hK K)
              refine wpC_call rfl (Value.int .i64 (atRow (rd, rl) i) )  15  ( #[.agg #[.int .i64 rd, .slice xa rl.length xc], .int .i64 i]) (fun w' => by go_simp) (fun _ w' _ hC => ?_) (fun K hK => ?_)
              · refine (refAt_any rd rl xa xc B i _ (HIN.out.same hC) HRL.out).mono ?_
                rintro e w4 ⟨rfl, hc⟩
                exact ⟨rfl, hC.trans hc⟩
              ((try go_simp); refine hK _ ?_; clear hK K)
              (refine wpC_read rfl (fun _ _ _ h => h) (fun K hK => ?_); apply Exists.intro; refine ⟨fun _ w' _ hC => ?_, ?_⟩; ((skip); go_simp; try with_reducible rfl); (try go_simp); refine hK _ ?_; clear hK K)
              refine wpC_nil ?_
              intro w4 hC4
              have HC4 := Lib.hid (HCD.out.trans hC4)
              clear hC4
              go_wp2
              go_ret
              exact ⟨by rw [HT.out]; rfl, HC4.out⟩

set_option maxRecDepth 100000 in
set_option maxHeartbeats 8000000 in
/-- A table is the document's. -/
theorem same_ok (W : Int) (R : List RowD) (O : List Int) (ra oa ra2 oa2 : Option Addr) (rc oc rc2 oc2 B B2 g o g2 o2 : Nat) (w : World) (hR : RowsIn cellE rowE w B (ra, R.length, rc) R) (hR2 : RowsIn cellR rowR w B2 (ra2, R.length, rc2) R) (hcl : ∀ r ∈ R, r.2.length ≤ 1000000000)
    (hO : I.BytesAt w g o O) (ha : 0 < O.length → oa = some ⟨g, o, none⟩) (hO2 : I.BytesAt w g2 o2 O) (ha2 : 0 < O.length → oa2 = some ⟨g2, o2, none⟩) (hol : O.length ≤ 100000000) (hrl : R.length ≤ 100000000) :
    Calls Try.prog 20 #[.agg #[.int .i64 W, .slice ra R.length rc, .slice oa O.length oc], .agg #[.int .i64 W, .slice ra2 R.length rc2, .slice oa2 O.length oc2]] w fun e w' => e = .returned (.bool true) ∧ Chg (fun _ => False) w w' := by
  have HR := Lib.hid hR
  have HR2 := Lib.hid hR2
  have HO := Lib.hid hO
  have HA := Lib.hid ha
  have HO2 := Lib.hid hO2
  have HA2 := Lib.hid ha2
  have HCL := Lib.hid hcl
  obtain ⟨wa, hwa⟩ : ∃ wa, wa = (w.alloc (.cells #[.int .i64 W, .slice ra R.length rc, .slice oa O.length oc] 45)).alloc (.cells #[.int .i64 W, .slice ra2 R.length rc2, .slice oa2 O.length oc2] 50) := ⟨_, rfl⟩
  have HCD : Hid (Chg (fun _ => False) w wa) := Lib.hid (by rw [hwa]; exact ((Chg.refl _ _).alloc _).alloc _)
  have HB : Hid (∀ wx, Chg (fun _ => False) wa wx → (wx.cell? ⟨w.heap.size, 1, none⟩ = some (.slice ra R.length rc)) ∧ wx.cell? ⟨w.heap.size + 1, 1, none⟩ = some (.slice ra2 R.length rc2)) := Lib.hid (fun wx hx => by subst hwa; exact ⟨hx.cellS (by simp) (fun h => h), hx.cellS (by simp) (fun h => h)⟩)
  have HWE := Lib.hid hwa
  have q1 : (W != W) = false := by simp
  have q2 : ((R.length : Int) != (R.length : Int)) = false := by simp
  clear hR hR2 hO ha hO2 ha2 hcl
  go_enter Try.func20, Try.ntmps20
  go_wp2_with fail
  rw [← hwa]
  clear hwa
  refine (sameNums_any O O oa oa2 g o g2 o2 oc oc2 wa (HO.out.chg HCD.out (fun _ h => h)) HA.out (HO2.out.chg HCD.out (fun _ h => h)) HA2.out (by omega)).mono ?_
  rintro e w1 ⟨rfl, hc1⟩
  rw [show decide (O = O) = true by simp]
  obtain ⟨b1, b2⟩ := HB.out w1 hc1
  have HC1 := Lib.hid hc1
  clear hc1
  go_wp2
  go_loopw [5] (fun q wr => ∃ k : Nat, k ≤ R.length ∧ q = .int .i64 k ∧ Chg (fun _ => False) wa wr) (fun q _ => R.length - (intOf q).toNat)
  case atStart => exact ⟨0, by omega, rfl, HC1.out⟩
  case round =>
    clear HC1 b1 b2 q1 q2
    obtain ⟨k, hk, rfl, hc⟩ := hrel
    have HC := Lib.hid hc
    have HCW := Lib.hid (HCD.out.trans hc)
    obtain ⟨b1, b2⟩ := HB.out wr hc
    clear hc
    by_cases hkl : k < R.length
    · have b60 : decide ((k : Int) < (R.length : Int)) = true := by simp; omega
      obtain ⟨r, g', o', xa, xc, hr, rfl, c0, c1, -, hin, -, -⟩ := (HR.out.same HCW.out).get rfl (fun _ => rfl) hkl
      obtain ⟨r2, g3, o3, xa2, xc2, hr2, rfl, c2, c3, -, hin2, -, -⟩ := (HR2.out.same HCW.out).get rfl (fun _ => rfl) hkl
      rw [hr] at hr2
      obtain rfl := Option.some.inj hr2
      obtain ⟨rd, rl⟩ := r
      simp only at c0 c1 c2 c3 hin hin2
      have HIN := Lib.hid hin
      have HIN2 := Lib.hid hin2
      have HRL := Lib.hid (HCL.out _ (List.mem_of_getElem? hr))
      have HK := Lib.hid (And.intro (And.intro b1 b2) (And.intro (And.intro c0 c1) (And.intro c2 c3)))
      clear hr hin hin2 hr2 c0 c1 c2 c3
      go_upto_region 6 with (fail)
      refine wp_region_same (fun wx => Chg (fun _ => False) wr wx) (by kernel_rfl) (by kernel_rfl) ?_ ?_
      · exact (Chg.refl _ _).drew
      (refine wpC_read rfl (fun _ _ _ h => h) (fun K hK => ?_); apply Exists.intro; refine ⟨fun _ w' _ hC => ?_, ?_⟩; ((skip); go_simp; try with_reducible rfl); (try go_simp); refine hK _ ?_; clear hK K)
      (refine wpC_read rfl (fun _ _ _ h => h) (fun K hK => ?_); apply Exists.intro; refine ⟨fun _ w' _ hC => ?_, ?_⟩; ((have q := hC.cellS HK.out.1.1 (fun h => h)); go_simp; try with_reducible rfl); (try go_simp); refine hK _ ?_; clear hK K)
      (refine wpC_read rfl (fun _ _ _ h => h) (fun K hK => ?_); apply Exists.intro; refine ⟨fun _ w' _ hC => ?_, ?_⟩; ((skip); go_simp; try with_reducible rfl); (try go_simp); refine hK _ ?_; clear hK K)
      (refine wpC_read rfl (fun _ _ _ h => h) (fun K hK => ?_); apply Exists.intro; refine ⟨fun _ w' _ hC => ?_, ?_⟩; ((skip); go_simp; try with_reducible rfl); (try go_simp); refine hK _ ?_; clear hK K)
      (refine wpC_read rfl (fun _ _ _ h => h) (fun K hK => ?_); apply Exists.intro; refine ⟨fun _ w' _ hC => ?_, ?_⟩; ((have q := hC.cellS HK.out.2.1.1 (fun h => h); have q2 := hC.cellS HK.out.2.1.2 (fun h => h)); go_simp; try with_reducible rfl); (try go_simp); refine hK _ ?_; clear hK K)
      (refine wpC_read rfl (fun _ _ _ h => h) (fun K hK => ?_); apply Exists.intro; refine ⟨fun _ w' _ hC => ?_, ?_⟩; ((skip); go_simp; try with_reducible rfl); (try go_simp); refine hK _ ?_; clear hK K)
      (refine wpC_read rfl (fun _ _ _ h => h) (fun K hK => ?_); apply Exists.intro; refine ⟨fun _ w' _ hC => ?_, ?_⟩; ((have q := hC.cellS HK.out.1.2 (fun h => h)); go_simp; try with_reducible rfl); (try go_simp); refine hK _ ?_; clear hK K)
      (refine wpC_read rfl (fun _ _ _ h => h) (fun K hK => ?_); apply Exists.intro; refine ⟨fun _ w' _ hC => ?_, ?_⟩; ((skip); go_simp; try with_reducible rfl); (try go_simp); refine hK _ ?_; clear hK K)
      (refine wpC_read rfl (fun _ _ _ h => h) (fun K hK => ?_); apply Exists.intro; refine ⟨fun _ w' _ hC => ?_, ?_⟩; ((skip); go_simp; try with_reducible rfl); (try go_simp); refine hK _ ?_; clear hK K)
      (refine wpC_read rfl (fun _ _ _ h => h) (fun K hK => ?_); apply Exists.intro; refine ⟨fun _ w' _ hC => ?_, ?_⟩; ((have q := hC.cellS HK.out.2.2.1 (fun h => h); have q2 := hC.cellS HK.out.2.2.2 (fun h => h)); go_simp; try with_reducible rfl); (try go_simp); refine hK _ ?_; clear hK K)
      refine wpC_call rfl (Value.bool true )  13  ( #[.agg #[.int .i64 rd, .slice xa rl.length xc], .agg #[.int .i64 rd, .slice xa2 rl.length xc2]]) (fun w' => by go_simp) (fun _ w' _ hC => ?_) (fun K hK => ?_)
      · refine (sameRow_ok rd rl xa xa2 xc xc2 _ _ w' (HIN.out.same hC) (HIN2.out.same hC) HRL.out).mono ?_
        rintro e w4 ⟨rfl, hc⟩
        exact ⟨rfl, hC.trans hc⟩
      ((try go_simp); refine hK _ ?_; clear hK K)
      (refine wpC_read rfl (fun _ _ _ h => h) (fun K hK => ?_); apply Exists.intro; refine ⟨fun _ w' _ hC => ?_, ?_⟩; ((skip); go_simp; try with_reducible rfl); (try go_simp); refine hK _ ?_; clear hK K)
      refine wpC_nil ?_
      intro w4 hC4
      have HC4 := Lib.hid (HC.out.trans hC4)
      clear hC4 b1 b2
      go_wp2
      go_roundw
      case rel => exact ⟨k + 1, by omega, by go_num, HC4.out⟩
      case measure => simp [intOf]; omega
    · obtain rfl : k = R.length := by omega
      go_wp2
      go_ret
      exact ⟨rfl, HCW.out⟩
end Go.Proofs.Ytkfakkonlnjckaa
