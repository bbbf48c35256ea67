/- What stands at a place of a table: the program's. -/
import Derived.Test.YtkfakkonlnjckaaRowsM
namespace Go.Proofs.Ytkfakkonlnjckaa
open Go.RowKit

def atTab : TabD → Int → Int → Int
  | (W, R, O), l, i => if l < 0 ∨ (O.length : Int) ≤ l ∨ i < 0 ∨ W ≤ i then -1 else match O[l.toNat]? with
    | none => -1
    | some k => if k < 0 ∨ (R.length : Int) ≤ k then -1 else match R[k.toNat]? with
      | none => -1
      | some r => atRow r i
theorem atTab_no {W l i : Int} {R : List RowD} {O : List Int} (h : l < 0 ∨ (O.length : Int) ≤ l ∨ i < 0 ∨ W ≤ i) : atTab (W, R, O) l i = -1 := by simp only [atTab, if_pos h]
theorem atTab_row {W i : Int} {l : Nat} {R : List RowD} {O : List Int} {k : Int} (h : ¬ ((l : Int) < 0 ∨ (O.length : Int) ≤ l ∨ i < 0 ∨ W ≤ i)) (hk : O[l]? = some k) : atTab (W, R, O) l i = if k < 0 ∨ (R.length : Int) ≤ k then -1 else match R[k.toNat]? with
    | none => -1
    | some r => atRow r i := by simp only [atTab, if_neg h, Int.toNat_natCast, hk]

set_option maxRecDepth 100000 in
set_option maxHeartbeats 4000000 in
theorem atTab_any (W l i : Int) (R : List RowD) (O : List Int) (ra oa : Option Addr) (rc oc B g o : Nat) (w : World) (hW : I.Byte W) (hll : I.Byte l) (hii : I.Byte i) (hR : RowsIn cellE rowE w B (ra, R.length, rc) R) (hcl : ∀ r ∈ R, r.2.length ≤ 1000000000)
    (hO : I.BytesAt w g o O) (ha : 0 < O.length → oa = some ⟨g, o, none⟩) (hol : O.length ≤ 100000000) :
    Calls Try.prog 21 #[.agg #[.int .i64 W, .slice ra R.length rc, .slice oa O.length oc], .int .i64 l, .int .i64 i] w fun e w' => e = .returned (.int .i64 (atTab (W, R, O) l i)) ∧ Chg (fun _ => False) w w' := by
  have HR := Lib.hid hR
  have HO := Lib.hid hO
  have HA := Lib.hid ha
  have HCL := Lib.hid hcl
  have HC0 := Lib.hid ((Chg.refl (fun _ => False) w).alloc (.cells #[.int .i64 W, .slice ra R.length rc, .slice oa O.length oc] 45))
  obtain ⟨_, _⟩ := hW
  obtain ⟨_, _⟩ := hll
  obtain ⟨_, _⟩ := hii
  clear hR hO ha hcl
  by_cases h1 : l < 0
  · have d1 : decide (l < 0) = true := by simpa using h1
    have HF := Lib.hid (atTab_no (W := W) (R := R) (O := O) (i := i) (.inl h1))
    go_enter Try.func21, Try.ntmps21
    go_wp2
    go_ret
    exact ⟨by rw [HF.out]; rfl, HC0.out⟩
  · have d1 : decide (l < 0) = false := by simpa using h1
    obtain ⟨k, rfl⟩ := Int.eq_ofNat_of_zero_le (show 0 ≤ l by omega)
    by_cases h2 : O.length ≤ k
    · have d2 : decide ((O.length : Int) ≤ (k : Int)) = true := by simp; omega
      have HF := Lib.hid (atTab_no (W := W) (R := R) (O := O) (i := i) (l := (k : Int)) (.inr (.inl (by omega))))
      go_enter Try.func21, Try.ntmps21
      go_wp2
      go_ret
      exact ⟨by rw [HF.out]; rfl, HC0.out⟩
    · have d2 : decide ((O.length : Int) ≤ (k : Int)) = false := by simp; omega
      by_cases h3 : i < 0
      · have d3 : decide (i < 0) = true := by simpa using h3
        have HF := Lib.hid (atTab_no (W := W) (R := R) (O := O) (i := i) (l := (k : Int)) (.inr (.inr (.inl h3))))
        go_enter Try.func21, Try.ntmps21
        go_wp2
        go_ret
        exact ⟨by rw [HF.out]; rfl, HC0.out⟩
      · have d3 : decide (i < 0) = false := by simpa using h3
        by_cases h4 : W ≤ i
        · have d4 : decide (W ≤ i) = true := by simpa using h4
          have HF := Lib.hid (atTab_no (W := W) (R := R) (O := O) (i := i) (l := (k : Int)) (.inr (.inr (.inr h4))))
          go_enter Try.func21, Try.ntmps21
          go_wp2
          go_ret
          exact ⟨by rw [HF.out]; rfl, HC0.out⟩
        · have d4 : decide (W ≤ i) = false := by simpa using h4
          obtain ⟨q, hq, c1, q0, q1⟩ := (HO.out.chg HC0.out (fun _ h => h)).get (k := k) (by omega)
          have e1 := HA.out (by omega)
          subst e1
          have HT := Lib.hid (atTab_row (W := W) (R := R) (i := i) (l := k) (by omega) hq)
          have hk : k < O.length := by omega
          clear hq
          by_cases h5 : q < 0
          · have d5 : decide (q < 0) = true := by simpa using h5
            rw [if_pos (.inl h5)] at HT
            go_enter Try.func21, Try.ntmps21
            go_wp2
            go_ret
            exact ⟨by rw [HT.out]; rfl, HC0.out⟩
          · have d5 : decide (q < 0) = false := by simpa using h5
            obtain ⟨n, rfl⟩ := Int.eq_ofNat_of_zero_le (show 0 ≤ q by omega)
            by_cases h6 : R.length ≤ n
            · have d6 : decide ((R.length : Int) ≤ (n : Int)) = true := by simp; omega
              rw [if_pos (.inr (by omega))] at HT
              go_enter Try.func21, Try.ntmps21
              go_wp2
              go_ret
              exact ⟨by rw [HT.out]; rfl, HC0.out⟩
            · have d6 : decide ((R.length : Int) ≤ (n : Int)) = false := by simp; omega
              obtain ⟨r, g', o', xa, xc, hr, rfl, c0, c2, hrb, hin, -, -⟩ := (HR.out.same HC0.out).get rfl (fun _ => rfl) (show n < R.length by omega)
              obtain ⟨rd, rl⟩ := r
              simp only at c0 c2 hin hrb
              rw [if_neg (by omega), Int.toNat_natCast, hr] at HT
              have HIN := Lib.hid hin
              have HRL := Lib.hid (HCL.out _ (List.mem_of_getElem? hr))
              have hn : n < R.length := by omega
              clear hr hin hrb
              go_enter Try.func21, Try.ntmps21
              go_wp2_with fail
              refine (at_any rd rl xa xc B i _ HIN.out HRL.out).mono ?_
              rintro e w2 ⟨rfl, hc2⟩
              have HC2 := Lib.hid (HC0.out.trans hc2)
              clear hc2
              go_wp2
              go_ret
              exact ⟨by rw [HT.out]; rfl, HC2.out⟩
end Go.Proofs.Ytkfakkonlnjckaa
