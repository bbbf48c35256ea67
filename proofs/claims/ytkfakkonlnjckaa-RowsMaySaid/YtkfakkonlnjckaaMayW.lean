/- 'RowsMay': its walk (printed by wip/gen/mayw.py). -/
import Derived.Test.YtkfakkonlnjckaaOther
import Derived.Test.YtkfakkonlnjckaaWrapsB
import Derived.Test.YtkfakkonlnjckaaRefPut
import Derived.Test.YtkfakkonlnjckaaRowsV
import Derived.Test.YtkfakkonlnjckaaRowsY
import Derived.Test.YtkfakkonlnjckaaMakeP
namespace Go.Proofs.Ytkfakkonlnjckaa
open Go.RowKit

def tsum (R : List RowD) (O : List Int) : Nat := R.length + O.length + (R.map (·.2.length)).sum
def tsumTo (R : List RowD) (O : List Int) (k : Nat) : Nat := R.length + O.length + ((R.take k).map (·.2.length)).sum
theorem tsumTo_all (R : List RowD) (O : List Int) : tsumTo R O R.length = tsum R O := by unfold tsumTo tsum; rw [List.take_length]
theorem tsumTo_succ {R : List RowD} {O : List Int} {k : Nat} {r : RowD} (h : R[k]? = some r) : tsumTo R O (k + 1) = tsumTo R O k + r.2.length := by
  unfold tsumTo
  rw [List.take_add_one, h]
  simp
  omega
theorem tsumTo_le (R : List RowD) (O : List Int) (k : Nat) : tsumTo R O k ≤ tsum R O := by
  unfold tsumTo tsum
  have h : R = R.take k ++ R.drop k := (List.take_append_drop k R).symm
  have h2 : (R.map (·.2.length)).sum = ((R.take k).map (·.2.length)).sum + ((R.drop k).map (·.2.length)).sum := by
    rw [← List.sum_append, ← List.map_append, ← h]
  omega
theorem tsum_each {R : List RowD} {O : List Int} : ∀ r ∈ R, r.2.length ≤ tsum R O := by
  intro r hr
  have key : ∀ (M : List RowD), r ∈ M → r.2.length ≤ (M.map (·.2.length)).sum := by
    intro M
    induction M with
    | nil => intro h; cases h
    | cons m M ih =>
      intro h
      rw [List.map_cons, List.sum_cons]
      rcases List.mem_cons.1 h with rfl | h
      · omega
      · have := ih h; omega
  have := key R hr
  unfold tsum
  omega
theorem tsum_nums (W : Int) (R : List RowD) (O : List Int) : (tabNums (W, R, O)).length ≤ 2 * tsum R O + 3 := by
  have h : (R.flatMap rowPut).length = 2 * R.length + 2 * (R.map (·.2.length)).sum := by
    induction R with
    | nil => rfl
    | cons r R ih => simp only [List.flatMap_cons, List.length_append, rowPut_length, ih, List.length_cons, List.map_cons, List.sum_cons]; omega
  simp only [tabNums, List.length_cons, List.length_append, h]
  unfold tsum
  omega
/-- What both Puts answer. -/
def ptX (Z : List Int) (t : TabD) : List Int := if mayL t then Z ++ putTab t else []
def ptE (t : TabD) : Int := if mayL t then 0 else 1
theorem put_all (Z : List Int) (W : Int) (R : List RowD) (O : List Int) (ra oa ab : Option Addr) (rc oc cb gb ob B g o : Nat) (w : World) (hW : I.Byte W) (hR : RowsIn cellE rowE w B (ra, R.length, rc) R) (hrl : R.length ≤ 100000000) (hcl : ∀ r ∈ R, r.2.length ≤ 1000000000)
    (hO : I.BytesAt w g o O) (ha : 0 < O.length → oa = some ⟨g, o, none⟩) (hol : O.length ≤ 100000000)
    (hb : BytesAt w gb ob Z) (hab : 0 < Z.length → ab = some ⟨gb, ob, none⟩) (hzl : Z.length ≤ 1000000) (hN : (tabNums (W, R, O)).length ≤ 10000000) :
    Calls Try.prog 23 #[.slice ab Z.length cb, .agg #[.int .i64 W, .slice ra R.length rc, .slice oa O.length oc]] w fun e w' => ∃ ax gx cx, e = .returned (.tuple #[.slice ax (ptX Z (W, R, O)).length cx, .int .i64 (ptE (W, R, O))]) ∧ BytesAt w' gx 0 (ptX Z (W, R, O)) ∧ (0 < (ptX Z (W, R, O)).length → ax = some ⟨gx, 0, none⟩) ∧ Chg (fun _ => False) w w' := by
  by_cases hm : mayL (W, R, O) = true
  · refine (put_ok Z W R O ra oa ab rc oc cb gb ob B g o w hW hR hrl hcl hO ha hol hm hb hab hzl hN).mono ?_
    rintro e w' ⟨h, h1, -, h2, h3⟩
    have e1 : ptX Z (W, R, O) = Z ++ putTab (W, R, O) := by simp [ptX, hm]
    have e2 : ptE (W, R, O) = 0 := by simp [ptE, hm]
    rw [e1, e2]
    exact ⟨_, h, _, h1, h2.bytes (List.prefix_refl _), fun _ => rfl, h3⟩
  · refine (put_bad W R O ra oa ab rc oc _ cb B g o w hW hR hrl hcl hO ha hol (by simpa using hm)).mono ?_
    rintro e w' ⟨h1, h2⟩
    have e1 : ptX Z (W, R, O) = [] := by simp [ptX, hm]
    have e2 : ptE (W, R, O) = 1 := by simp [ptE, hm]
    rw [e1, e2]
    exact ⟨none, 0, 0, h1, bytesNil _ _ _, fun h => absurd h (by simp), h2⟩
theorem refPut_all (Z : List Int) (W : Int) (R : List RowD) (O : List Int) (ra oa ab : Option Addr) (rc oc cb gb ob B g o : Nat) (w : World) (hW : I.Byte W) (hR : RowsIn cellR rowR w B (ra, R.length, rc) R) (hrl : R.length ≤ 100000000) (hcl : ∀ r ∈ R, r.2.length ≤ 1000000000)
    (hO : I.BytesAt w g o O) (ha : 0 < O.length → oa = some ⟨g, o, none⟩) (hol : O.length ≤ 100000000)
    (hb : BytesAt w gb ob Z) (hab : 0 < Z.length → ab = some ⟨gb, ob, none⟩) (hzl : Z.length ≤ 1000000) (hN : (tabNums (W, R, O)).length ≤ 10000000) :
    Calls Try.prog 24 #[.slice ab Z.length cb, .agg #[.int .i64 W, .slice ra R.length rc, .slice oa O.length oc]] w fun e w' => ∃ ax gx cx, e = .returned (.tuple #[.slice ax (ptX Z (W, R, O)).length cx, .int .i64 (ptE (W, R, O))]) ∧ BytesAt w' gx 0 (ptX Z (W, R, O)) ∧ (0 < (ptX Z (W, R, O)).length → ax = some ⟨gx, 0, none⟩) ∧ Chg (fun _ => False) w w' := by
  by_cases hm : mayL (W, R, O) = true
  · refine (refPutTab_ok Z W R O ra oa ab rc oc cb gb ob B g o w hW hR hrl hcl hO ha hol hm hb hab hzl hN).mono ?_
    rintro e w' ⟨v, h1, h2, h3⟩
    have e1 : ptX Z (W, R, O) = Z ++ putTab (W, R, O) := by simp [ptX, hm]
    have e2 : ptE (W, R, O) = 0 := by simp [ptE, hm]
    rw [e1, e2]
    obtain ⟨a, g, c, rfl, h4, h5⟩ := h2.at
    exact ⟨_, g, _, h1, h4, h5, h3⟩
  · refine (refPutTab_bad W R O ra oa ab rc oc _ cb B g o w hW hR hrl hcl hO ha hol (by simpa using hm)).mono ?_
    rintro e w' ⟨h1, h2⟩
    have e1 : ptX Z (W, R, O) = [] := by simp [ptX, hm]
    have e2 : ptE (W, R, O) = 1 := by simp [ptE, hm]
    rw [e1, e2]
    exact ⟨none, 0, 0, h1, bytesNil _ _ _, fun h => absurd h (by simp), h2⟩

set_option maxRecDepth 100000 in
set_option maxHeartbeats 16000000 in
theorem rowsMay_low (W z0 z1 : Int) (R : List RowD) (O Z : List Int) (ra oa ba : Option Addr) (rc oc bc B g o gb ob : Nat) (w : World) (hW : I.Byte W) (hz0 : I.Byte z0) (hz1 : I.Byte z1) (hR : RowsIn cellE rowE w B (ra, R.length, rc) R) (hrl : R.length ≤ 100000000000000) (hcl : ∀ r ∈ R, r.2.length ≤ 100000000000000)
    (hO : I.BytesAt w g o O) (ha : 0 < O.length → oa = some ⟨g, o, none⟩) (hol : O.length ≤ 100000000000000) (hb : BytesAt w gb ob Z) (hba : 0 < Z.length → ba = some ⟨gb, ob, none⟩) (hyp : tsum R O ≤ 1000 ∧ Z.length ≤ 100 ∧ W ≤ 3000) :
    Calls Try.prog 5 #[.agg #[.int .i64 W, .slice ra R.length rc, .slice oa O.length oc], .slice ba Z.length bc, .agg #[.int .i64 z0, .int .i64 z1]] w fun e w' => e = .returned (.bool true) ∧ Chg (fun _ => False) w w' := by
  obtain ⟨wt, hwt⟩ : ∃ x, x = w.alloc (.cells #[.int .i64 W, .slice ra R.length rc, .slice oa O.length oc] 45) := ⟨_, rfl⟩
  obtain ⟨wz, hwz⟩ : ∃ x, x = wt.alloc (.cells #[.int .i64 z0, .int .i64 z1] 41) := ⟨_, rfl⟩
  have hst : wt.heap.size = w.heap.size + 1 := by rw [hwt]; simp
  have HCZ : Hid (Chg (fun _ => False) w wz) := Lib.hid (by rw [hwz, hwt]; exact ((Chg.refl _ _).alloc _).alloc _)
  have HBX : Hid (∀ wx, Chg (fun _ => False) wz wx → (wx.cell? ⟨w.heap.size, 0, none⟩ = some (.int .i64 W) ∧ wx.cell? ⟨w.heap.size, 1, none⟩ = some (.slice ra R.length rc) ∧ wx.cell? ⟨w.heap.size, 2, none⟩ = some (.slice oa O.length oc)) ∧ wx.cell? ⟨w.heap.size + 1, 0, none⟩ = some (.int .i64 z0) ∧ wx.cell? ⟨w.heap.size + 1, 1, none⟩ = some (.int .i64 z1)) := Lib.hid (fun wx hx => by
    have h1 : Chg (fun _ => False) wt wx := by rw [hwz] at hx; exact ((Chg.refl _ wt).alloc _).trans hx
    rw [← hst]
    refine ⟨?_, ?_, ?_⟩
    · subst hwt
      exact ⟨h1.cellS (by simp) (fun h => h), h1.cellS (by simp) (fun h => h), h1.cellS (by simp) (fun h => h)⟩
    · subst hwz
      exact hx.cellS (by simp) (fun h => h)
    · subst hwz
      exact hx.cellS (by simp) (fun h => h))
  have HWT := Lib.hid hwt
  have HWZ := Lib.hid hwz
  have HR := Lib.hid hR
  have HRL := Lib.hid hcl
  have HO := Lib.hid hO
  have HOA := Lib.hid ha
  have HZ := Lib.hid hb
  have HZA := Lib.hid hba
  have HW := Lib.hid hW
  have HZ0 := Lib.hid hz0
  have HZ1 := Lib.hid hz1
  have HS0 : Hid (R.length + O.length = tsumTo R O 0) := Lib.hid (by simp [tsumTo])
  have HHY := Lib.hid hyp
  obtain ⟨⟨q0, q1, q2⟩, q3, q4⟩ := HBX.out wz (Chg.refl _ _)
  clear hR hcl hwt hwz hst hO ha hb hba hW hz0 hz1 hyp
  go_enter Try.func5, Try.ntmps5
  go_upto_region 1 with (fail)
  rw [← HWT.out]
  rw [← HWZ.out]
  go_wp2
  clear q0 q1 q2 q3 q4
  go_loopw [7, 8] (fun n q wr => ∃ k s : Nat, k ≤ R.length ∧ q = .int .i64 k ∧ n = .int .i64 s ∧ s = tsumTo R O k ∧ s ≤ 400000000000000 ∧ Chg (fun _ => False) wz wr) (fun _ q _ => R.length - (intOf q).toNat)
  case atStart => exact ⟨0, R.length + O.length, by omega, rfl, by go_num, HS0.out, by omega, Chg.refl _ _⟩
  case round =>
    clear HS0
    obtain ⟨k, s, hk, rfl, rfl, hs, hb, hc⟩ := hrel
    have HS := Lib.hid hs
    have HC := Lib.hid hc
    have HCW := Lib.hid (HCZ.out.trans hc)
    obtain ⟨⟨q0, q1, q2⟩, q3, q4⟩ := HBX.out wr hc
    clear hs hc
    by_cases hkl : k < R.length
    · have b27 : decide ((k : Int) < (R.length : Int)) = true := by simp; omega
      by_cases h4 : s ≤ 1000
      · have b30 : decide ((s : Int) ≤ 1000) = true := by simp; omega
        obtain ⟨r, g, o, xa, xc, hr, rfl, k0, k1, hby, hin, hgw, -⟩ := (HR.out.same HCW.out).get rfl (fun _ => rfl) hkl
        have hl9 := HRL.out r (List.mem_of_getElem? hr)
        have HSN : Hid (s + r.2.length = tsumTo R O (k + 1)) := Lib.hid (by rw [tsumTo_succ hr, ← HS.out])
        obtain ⟨rl, hrl2⟩ : ∃ x, r.2.length = x := ⟨_, rfl⟩
        rw [hrl2] at k1 hl9 HSN
        clear hr hby hin hrl2
        go_wp2
        go_roundw
        case rel => first | exact ⟨k + 1, s + rl, by omega, by go_num, by go_num, HSN.out, by omega, HC.out⟩ | ((repeat apply Exists.intro); exact ⟨⟨k + 1, s + rl, by omega, rfl, by go_num, HSN.out, by omega, HC.out⟩, by (repeat' apply And.intro) <;> first | rfl | go_num⟩)
        case measure => simp [intOf]; omega
      · have b30 : decide ((s : Int) ≤ 1000) = false := by simp; omega
        have b44 : decide (1000 < (s : Int)) = true := by simp; omega
        have := HS.out; have := tsumTo_le R O k; have := HHY.out.1; omega
    · obtain rfl : k = R.length := by omega
      have b27 : decide ((R.length : Int) < (R.length : Int)) = false := by simp
      have HSF : Hid (s = tsum R O) := Lib.hid (by rw [← tsumTo_all, ← HS.out])
      have hs1 : s ≤ 1000 := by have := HSF.out; have := HHY.out.1; omega
      have b44 : decide (1000 < (s : Int)) = false := by simp; omega
      have hz1 : Z.length ≤ 100 := HHY.out.2.1
      have b48 : decide (100 < (Z.length : Int)) = false := by simp; omega
      have hw3 := HHY.out.2.2
      have b53 : decide (3000 < W) = false := by simp; omega
      have hR1 : R.length ≤ 1000 := by have := HSF.out; unfold tsum at this; omega
      have hO1 : O.length ≤ 1000 := by have := HSF.out; unfold tsum at this; omega
      have HRB : Hid (∀ r ∈ R, r.2.length ≤ 1000000000) := Lib.hid (fun r hr => by have := tsum_each (O := O) r hr; have := HSF.out; omega)
      have HNB : Hid ((tabNums (W, R, O)).length ≤ 10000000) := Lib.hid (by have := tsum_nums W R O; have := HSF.out; omega)
      have HRW := Lib.hid (HR.out.same HCW.out)
      have HOW := Lib.hid (HO.out.chg HCW.out (fun _ h => h))
      have HZW := Lib.hid (HZ.out.chg HCW.out (fun _ h => h))
      go_wp2_with fail
      refine (other_any W R ra rc B O.length oa oc wr HRW.out (by omega) HRB.out).mono ?_
      rintro e w2 ⟨rb, rbc, rfl, hrows, hc2⟩
      have HRR := Lib.hid hrows
      have HC2 := Lib.hid hc2
      obtain ⟨wm, hwm⟩ : ∃ x, x = w2.alloc (.cells #[.int .i64 W, .slice rb R.length rbc, .slice oa O.length oc] 50) := ⟨_, rfl⟩
      have HCM : Hid (Chg (fun _ => False) w2 wm) := Lib.hid (by rw [hwm]; exact (Chg.refl _ _).alloc _)
      have HBM : Hid (∀ wx, Chg (fun _ => False) wm wx → wx.cell? ⟨w2.heap.size, 0, none⟩ = some (.int .i64 W) ∧ wx.cell? ⟨w2.heap.size, 1, none⟩ = some (.slice rb R.length rbc) ∧ wx.cell? ⟨w2.heap.size, 2, none⟩ = some (.slice oa O.length oc)) := Lib.hid (fun wx hx => by subst hwm; exact ⟨hx.cellS (by simp) (fun h => h), hx.cellS (by simp) (fun h => h), hx.cellS (by simp) (fun h => h)⟩)
      have HWM := Lib.hid hwm
      have HWRM := Lib.hid (hc2.trans HCM.out)
      clear hrows hc2 hwm q0 q1 q2 q3 q4
      obtain ⟨⟨q0, q1, q2⟩, q3, q4⟩ := HBX.out wm (HC.out.trans HWRM.out)
      go_upto_region 9 with (fail)
      rw [← HWM.out]
      go_wp2_with fail
      refine (twinNums_any O oa g o oc wm (HOW.out.chg HWRM.out (fun _ h => h)) HOA.out (by omega)).mono ?_
      rintro e w3 ⟨h1, rfl, -, hr1, hc3⟩
      have HT1 := Lib.hid hr1
      have HC3 := Lib.hid hc3
      clear hr1 hc3 q0 q1 q2 q3 q4
      go_wp2_with fail
      refine (twinBytes_any Z ba gb ob bc w3 (HZW.out.chg (HWRM.out.trans HC3.out) (fun _ h => h)) HZA.out (by omega)).mono ?_
      rintro e w4 ⟨h2, rfl, -, hr2, hc4⟩
      have HT2 := Lib.hid hr2
      have HC4 := Lib.hid (HC3.out.trans hc4)
      have HC34 := Lib.hid hc4
      clear hr2 hc4
      obtain ⟨X, hX⟩ : ∃ x, ptX Z (W, R, O) = x := ⟨_, rfl⟩
      obtain ⟨E, hE⟩ : ∃ x, ptE (W, R, O) = x := ⟨_, rfl⟩
      obtain ⟨M, hM⟩ : ∃ x, mayL (W, R, O) = x := ⟨_, rfl⟩
      obtain ⟨V, hV⟩ : ∃ x, atTab (W, R, O) z0 z1 = x := ⟨_, rfl⟩
      have HXL : Hid (X.length ≤ 1000000000000) := Lib.hid (by
        rw [← hX]
        unfold ptX
        by_cases hm : mayL (W, R, O) = true
        · rw [if_pos hm]
          have := bytesOf_len (tabNums (W, R, O)) (tabNums_ok hm).1
          have := HNB.out
          unfold putTab
          rw [List.length_append]
          omega
        · rw [if_neg hm]; simp)
      have HPUT := Lib.hid (put_all Z W R O ra oa (some ⟨h2, 0, none⟩) rc oc (Z.length + 2) h2 0 B g o w4 HW.out (HRW.out.same (HWRM.out.trans HC4.out)) (by omega) HRB.out (HOW.out.chg (HWRM.out.trans HC4.out) (fun _ h => h)) HOA.out (by omega) (HT2.out.bytes (List.prefix_append _ _)) (fun _ => rfl) (by omega) HNB.out)
      have HDUT := Lib.hid (fun (wx : World) (hx : Chg (fun _ => False) w4 wx) => refPut_all Z W R O rb oa ba rbc oc bc gb ob _ g o wx HW.out (HRR.out.same (HCM.out.trans (HC4.out.trans hx))) (by omega) HRB.out (HOW.out.chg (HWRM.out.trans (HC4.out.trans hx)) (fun _ h => h)) HOA.out (by omega) (HZW.out.chg (HWRM.out.trans (HC4.out.trans hx)) (fun _ h => h)) HZA.out (by omega) HNB.out)
      simp only [hX, hE] at HPUT HDUT
      obtain ⟨⟨q0, q1, q2⟩, q3, q4⟩ := HBX.out w4 (HC.out.trans (HWRM.out.trans HC4.out))
      go_wp2_with fail
      refine HPUT.out.mono ?_
      rintro e w5 ⟨ax, gx, cx, rfl, hx1, hx2, hc5⟩
      have HX := Lib.hid hx1
      have HXA := Lib.hid hx2
      have HC5 := Lib.hid hc5
      clear hx1 hx2 hc5 HPUT q0 q1 q2 q3 q4
      obtain ⟨q0, q1, q2⟩ := HBM.out w5 (HC4.out.trans HC5.out)
      go_wp2_with fail
      refine (HDUT.out w5 HC5.out).mono ?_
      rintro e w6 ⟨ay, gy, cy, rfl, hx1, hx2, hc6⟩
      have HY := Lib.hid hx1
      have HYA := Lib.hid hx2
      have HC6 := Lib.hid hc6
      have HM := Lib.hid hM
      have HV := Lib.hid hV
      have e1 : (M == M) = true := by simp
      have e2 : (V == V) = true := by simp
      have e3 : (E == E) = true := by simp
      clear hx1 hx2 hc6 HDUT q0 q1 q2 hX hE hM hV
      have HWR6 := Lib.hid (HWRM.out.trans (HC4.out.trans (HC5.out.trans HC6.out)))
      have HM6 := Lib.hid (HC4.out.trans (HC5.out.trans HC6.out))
      have HFX : Hid (∀ wx, Chg (fun _ => False) w6 wx → (wx.cell? ⟨w.heap.size, 0, none⟩ = some (.int .i64 W) ∧ wx.cell? ⟨w.heap.size, 1, none⟩ = some (.slice ra R.length rc) ∧ wx.cell? ⟨w.heap.size, 2, none⟩ = some (.slice oa O.length oc)) ∧ (wx.cell? ⟨w.heap.size + 1, 0, none⟩ = some (.int .i64 z0) ∧ wx.cell? ⟨w.heap.size + 1, 1, none⟩ = some (.int .i64 z1)) ∧ (wx.cell? ⟨w2.heap.size, 0, none⟩ = some (.int .i64 W) ∧ wx.cell? ⟨w2.heap.size, 1, none⟩ = some (.slice rb R.length rbc) ∧ wx.cell? ⟨w2.heap.size, 2, none⟩ = some (.slice oa O.length oc))) := Lib.hid (fun wx hx =>
        ⟨(HBX.out wx (HC.out.trans (HWR6.out.trans hx))).1, (HBX.out wx (HC.out.trans (HWR6.out.trans hx))).2, HBM.out wx (HM6.out.trans hx)⟩)
      go_upto_region 13 with (fail)
      refine wp_region_same (fun w' => Chg (fun _ => False) w6 w') (by kernel_rfl) (by kernel_rfl) ?_ ?_
      · exact (Chg.refl _ _).drew
      (refine wpC_read rfl (fun _ _ _ h => h) (fun K hK => ?_); apply Exists.intro; refine ⟨fun _ w' _ hC => ?_, ?_⟩; ((obtain ⟨⟨q0, q1, q2⟩, ⟨q3, q4⟩, q5, q6, q7⟩ := HFX.out w' hC); go_simp; try with_reducible rfl); (try go_simp); refine hK _ ?_; clear hK K)
      refine wpC_call rfl (Value.bool M )  28  ( #[.agg #[.int .i64 W, .slice ra R.length rc, .slice oa O.length oc]]) (fun w' => by go_simp) (fun _ w' _ hC => ?_) (fun K hK => ?_)
      · refine (may_any W R O ra oa rc oc B g o w' HW.out (HRW.out.same (HWR6.out.trans hC)) (by omega) HRB.out (HOW.out.chg (HWR6.out.trans hC) (fun _ h => h)) HOA.out (by omega)).mono ?_
        rintro e w4 ⟨rfl, hc⟩
        exact ⟨by rw [HM.out], hC.trans hc⟩
      ((try go_simp); refine hK _ ?_; clear hK K)
      (refine wpC_read rfl (fun _ _ _ h => h) (fun K hK => ?_); apply Exists.intro; refine ⟨fun _ w' _ hC => ?_, ?_⟩; ((obtain ⟨⟨q0, q1, q2⟩, ⟨q3, q4⟩, q5, q6, q7⟩ := HFX.out w' hC); go_simp; try with_reducible rfl); (try go_simp); refine hK _ ?_; clear hK K)
      refine wpC_call rfl (Value.bool M )  32  ( #[.agg #[.int .i64 W, .slice rb R.length rbc, .slice oa O.length oc]]) (fun w' => by go_simp) (fun _ w' _ hC => ?_) (fun K hK => ?_)
      · refine (refMay_any W R O rb oa rbc oc _ g o w' HW.out (HRR.out.same (HCM.out.trans (HM6.out.trans hC))) (by omega) HRB.out (HOW.out.chg (HWR6.out.trans hC) (fun _ h => h)) HOA.out (by omega)).mono ?_
        rintro e w4 ⟨rfl, hc⟩
        exact ⟨by rw [HM.out], hC.trans hc⟩
      ((try go_simp); refine hK _ ?_; clear hK K)
      (refine wpC_read rfl (fun _ _ _ h => h) (fun K hK => ?_); apply Exists.intro; refine ⟨fun _ w' _ hC => ?_, ?_⟩; ((skip); go_simp; try with_reducible rfl); (try go_simp); refine hK _ ?_; clear hK K)
      (refine wpC_read rfl (fun _ _ _ h => h) (fun K hK => ?_); apply Exists.intro; refine ⟨fun _ w' _ hC => ?_, ?_⟩; ((skip); go_simp; try with_reducible rfl); (try go_simp); refine hK _ ?_; clear hK K)
      (refine wpC_read rfl (fun _ _ _ h => h) (fun K hK => ?_); apply Exists.intro; refine ⟨fun _ w' _ hC => ?_, ?_⟩; ((obtain ⟨⟨q0, q1, q2⟩, ⟨q3, q4⟩, q5, q6, q7⟩ := HFX.out w' hC); go_simp; try with_reducible rfl); (try go_simp); refine hK _ ?_; clear hK K)
      (refine wpC_read rfl (fun _ _ _ h => h) (fun K hK => ?_); apply Exists.intro; refine ⟨fun _ w' _ hC => ?_, ?_⟩; ((skip); go_simp; try with_reducible rfl); (try go_simp); refine hK _ ?_; clear hK K)
      (refine wpC_read rfl (fun _ _ _ h => h) (fun K hK => ?_); apply Exists.intro; refine ⟨fun _ w' _ hC => ?_, ?_⟩; ((obtain ⟨⟨q0, q1, q2⟩, ⟨q3, q4⟩, q5, q6, q7⟩ := HFX.out w' hC); go_simp; try with_reducible rfl); (try go_simp); refine hK _ ?_; clear hK K)
      (refine wpC_read rfl (fun _ _ _ h => h) (fun K hK => ?_); apply Exists.intro; refine ⟨fun _ w' _ hC => ?_, ?_⟩; ((skip); go_simp; try with_reducible rfl); (try go_simp); refine hK _ ?_; clear hK K)
      (refine wpC_read rfl (fun _ _ _ h => h) (fun K hK => ?_); apply Exists.intro; refine ⟨fun _ w' _ hC => ?_, ?_⟩; ((obtain ⟨⟨q0, q1, q2⟩, ⟨q3, q4⟩, q5, q6, q7⟩ := HFX.out w' hC); go_simp; try with_reducible rfl); (try go_simp); refine hK _ ?_; clear hK K)
      refine wpC_call rfl (Value.int .i64 V )  21  ( #[.agg #[.int .i64 W, .slice ra R.length rc, .slice oa O.length oc], .int .i64 z0, .int .i64 z1]) (fun w' => by go_simp) (fun _ w' _ hC => ?_) (fun K hK => ?_)
      · refine (atTab_any W z0 z1 R O ra oa rc oc B g o w' HW.out HZ0.out HZ1.out (HRW.out.same (HWR6.out.trans hC)) HRB.out (HOW.out.chg (HWR6.out.trans hC) (fun _ h => h)) HOA.out (by omega)).mono ?_
        rintro e w4 ⟨rfl, hc⟩
        exact ⟨by rw [HV.out], hC.trans hc⟩
      ((try go_simp); refine hK _ ?_; clear hK K)
      (refine wpC_read rfl (fun _ _ _ h => h) (fun K hK => ?_); apply Exists.intro; refine ⟨fun _ w' _ hC => ?_, ?_⟩; ((obtain ⟨⟨q0, q1, q2⟩, ⟨q3, q4⟩, q5, q6, q7⟩ := HFX.out w' hC); go_simp; try with_reducible rfl); (try go_simp); refine hK _ ?_; clear hK K)
      (refine wpC_read rfl (fun _ _ _ h => h) (fun K hK => ?_); apply Exists.intro; refine ⟨fun _ w' _ hC => ?_, ?_⟩; ((skip); go_simp; try with_reducible rfl); (try go_simp); refine hK _ ?_; clear hK K)
      (refine wpC_read rfl (fun _ _ _ h => h) (fun K hK => ?_); apply Exists.intro; refine ⟨fun _ w' _ hC => ?_, ?_⟩; ((obtain ⟨⟨q0, q1, q2⟩, ⟨q3, q4⟩, q5, q6, q7⟩ := HFX.out w' hC); go_simp; try with_reducible rfl); (try go_simp); refine hK _ ?_; clear hK K)
      (refine wpC_read rfl (fun _ _ _ h => h) (fun K hK => ?_); apply Exists.intro; refine ⟨fun _ w' _ hC => ?_, ?_⟩; ((skip); go_simp; try with_reducible rfl); (try go_simp); refine hK _ ?_; clear hK K)
      (refine wpC_read rfl (fun _ _ _ h => h) (fun K hK => ?_); apply Exists.intro; refine ⟨fun _ w' _ hC => ?_, ?_⟩; ((obtain ⟨⟨q0, q1, q2⟩, ⟨q3, q4⟩, q5, q6, q7⟩ := HFX.out w' hC); go_simp; try with_reducible rfl); (try go_simp); refine hK _ ?_; clear hK K)
      refine wpC_call rfl (Value.int .i64 V )  22  ( #[.agg #[.int .i64 W, .slice rb R.length rbc, .slice oa O.length oc], .int .i64 z0, .int .i64 z1]) (fun w' => by go_simp) (fun _ w' _ hC => ?_) (fun K hK => ?_)
      · refine (refAtTab_any W z0 z1 R O rb oa rbc oc _ g o w' HW.out HZ0.out HZ1.out (HRR.out.same (HCM.out.trans (HM6.out.trans hC))) HRB.out (HOW.out.chg (HWR6.out.trans hC) (fun _ h => h)) HOA.out (by omega)).mono ?_
        rintro e w4 ⟨rfl, hc⟩
        exact ⟨by rw [HV.out], hC.trans hc⟩
      ((try go_simp); refine hK _ ?_; clear hK K)
      (refine wpC_read rfl (fun _ _ _ h => h) (fun K hK => ?_); apply Exists.intro; refine ⟨fun _ w' _ hC => ?_, ?_⟩; ((skip); go_simp; try with_reducible rfl); (try go_simp); refine hK _ ?_; clear hK K)
      (refine wpC_read rfl (fun _ _ _ h => h) (fun K hK => ?_); apply Exists.intro; refine ⟨fun _ w' _ hC => ?_, ?_⟩; ((skip); go_simp; try with_reducible rfl); (try go_simp); refine hK _ ?_; clear hK K)
      (refine wpC_read rfl (fun _ _ _ h => h) (fun K hK => ?_); apply Exists.intro; refine ⟨fun _ w' _ hC => ?_, ?_⟩; ((skip); go_simp; try with_reducible rfl); (try go_simp); refine hK _ ?_; clear hK K)
      (refine wpC_read rfl (fun _ _ _ h => h) (fun K hK => ?_); apply Exists.intro; refine ⟨fun _ w' _ hC => ?_, ?_⟩; ((skip); go_simp; try with_reducible rfl); (try go_simp); refine hK _ ?_; clear hK K)
      (refine wpC_read rfl (fun _ _ _ h => h) (fun K hK => ?_); apply Exists.intro; refine ⟨fun _ w' _ hC => ?_, ?_⟩; ((skip); go_simp; try with_reducible rfl); (try go_simp); refine hK _ ?_; clear hK K)
      (refine wpC_read rfl (fun _ _ _ h => h) (fun K hK => ?_); apply Exists.intro; refine ⟨fun _ w' _ hC => ?_, ?_⟩; ((skip); go_simp; try with_reducible rfl); (try go_simp); refine hK _ ?_; clear hK K)
      (refine wpC_read rfl (fun _ _ _ h => h) (fun K hK => ?_); apply Exists.intro; refine ⟨fun _ w' _ hC => ?_, ?_⟩; ((skip); go_simp; try with_reducible rfl); (try go_simp); refine hK _ ?_; clear hK K)
      (refine wpC_read rfl (fun _ _ _ h => h) (fun K hK => ?_); apply Exists.intro; refine ⟨fun _ w' _ hC => ?_, ?_⟩; ((skip); go_simp; try with_reducible rfl); (try go_simp); refine hK _ ?_; clear hK K)
      (refine wpC_read rfl (fun _ _ _ h => h) (fun K hK => ?_); apply Exists.intro; refine ⟨fun _ w' _ hC => ?_, ?_⟩; ((skip); go_simp; try with_reducible rfl); (try go_simp); refine hK _ ?_; clear hK K)
      (refine wpC_read rfl (fun _ _ _ h => h) (fun K hK => ?_); apply Exists.intro; refine ⟨fun _ w' _ hC => ?_, ?_⟩; ((skip); go_simp; try with_reducible rfl); (try go_simp); refine hK _ ?_; clear hK K)
      refine wpC_call rfl (Value.bool true )  27  ( #[.slice ax X.length cx, .slice ay X.length cy]) (fun w' => by go_simp) (fun _ w' _ hC => ?_) (fun K hK => ?_)
      · refine (sameBytes_any X X ax ay gx 0 gy 0 cx cy w' (HX.out.chg (HC6.out.trans hC) (fun _ h => h)) HXA.out (HY.out.chg hC (fun _ h => h)) HYA.out HXL.out).mono ?_
        rintro e w4 ⟨rfl, hc⟩
        exact ⟨by simp, hC.trans hc⟩
      ((try go_simp); refine hK _ ?_; clear hK K)
      (refine wpC_read rfl (fun _ _ _ h => h) (fun K hK => ?_); apply Exists.intro; refine ⟨fun _ w' _ hC => ?_, ?_⟩; ((skip); go_simp; try with_reducible rfl); (try go_simp); refine hK _ ?_; clear hK K)
      (refine wpC_read rfl (fun _ _ _ h => h) (fun K hK => ?_); apply Exists.intro; refine ⟨fun _ w' _ hC => ?_, ?_⟩; ((skip); go_simp; try with_reducible rfl); (try go_simp); refine hK _ ?_; clear hK K)
      (refine wpC_read rfl (fun _ _ _ h => h) (fun K hK => ?_); apply Exists.intro; refine ⟨fun _ w' _ hC => ?_, ?_⟩; ((obtain ⟨⟨q0, q1, q2⟩, ⟨q3, q4⟩, q5, q6, q7⟩ := HFX.out w' hC); go_simp; try with_reducible rfl); (try go_simp); refine hK _ ?_; clear hK K)
      (refine wpC_read rfl (fun _ _ _ h => h) (fun K hK => ?_); apply Exists.intro; refine ⟨fun _ w' _ hC => ?_, ?_⟩; ((obtain ⟨⟨q0, q1, q2⟩, ⟨q3, q4⟩, q5, q6, q7⟩ := HFX.out w' hC); go_simp; try with_reducible rfl); (try go_simp); refine hK _ ?_; clear hK K)
      refine wpC_call rfl (Value.bool true )  20  ( #[.agg #[.int .i64 W, .slice ra R.length rc, .slice oa O.length oc], .agg #[.int .i64 W, .slice rb R.length rbc, .slice oa O.length oc]]) (fun w' => by go_simp) (fun _ w' _ hC => ?_) (fun K hK => ?_)
      · refine (same_ok W R O ra oa rb oa rc oc rbc oc _ _ g o g o w' (HRW.out.same (HWR6.out.trans hC)) (HRR.out.same (HCM.out.trans (HM6.out.trans hC))) HRB.out (HOW.out.chg (HWR6.out.trans hC) (fun _ h => h)) HOA.out (HOW.out.chg (HWR6.out.trans hC) (fun _ h => h)) HOA.out (by omega) (by omega)).mono ?_
        rintro e w4 ⟨rfl, hc⟩
        exact ⟨rfl, hC.trans hc⟩
      ((try go_simp); refine hK _ ?_; clear hK K)
      (refine wpC_read rfl (fun _ _ _ h => h) (fun K hK => ?_); apply Exists.intro; refine ⟨fun _ w' _ hC => ?_, ?_⟩; ((skip); go_simp; try with_reducible rfl); (try go_simp); refine hK _ ?_; clear hK K)
      (refine wpC_read rfl (fun _ _ _ h => h) (fun K hK => ?_); apply Exists.intro; refine ⟨fun _ w' _ hC => ?_, ?_⟩; ((skip); go_simp; try with_reducible rfl); (try go_simp); refine hK _ ?_; clear hK K)
      (refine wpC_read rfl (fun _ _ _ h => h) (fun K hK => ?_); apply Exists.intro; refine ⟨fun _ w' _ hC => ?_, ?_⟩; ((skip); go_simp; try with_reducible rfl); (try go_simp); refine hK _ ?_; clear hK K)
      (refine wpC_read rfl (fun _ _ _ h => h) (fun K hK => ?_); apply Exists.intro; refine ⟨fun _ w' _ hC => ?_, ?_⟩; ((skip); go_simp; try with_reducible rfl); (try go_simp); refine hK _ ?_; clear hK K)
      (refine wpC_read rfl (fun _ _ _ h => h) (fun K hK => ?_); apply Exists.intro; refine ⟨fun _ w' _ hC => ?_, ?_⟩; ((obtain ⟨⟨q0, q1, q2⟩, ⟨q3, q4⟩, q5, q6, q7⟩ := HFX.out w' hC); go_simp; try with_reducible rfl); (try go_simp); refine hK _ ?_; clear hK K)
      refine wpC_call rfl (Value.bool true )  33  ( #[.slice (some ⟨h1, 0, none⟩) O.length (O.length + 2), .slice oa O.length oc]) (fun w' => by go_simp) (fun _ w' _ hC => ?_) (fun K hK => ?_)
      · refine (sameNums_any O O (some ⟨h1, 0, none⟩) oa h1 0 g o (O.length + 2) oc w' ((HT1.out.bytes (List.prefix_append _ _)).chg (HC34.out.trans (HC5.out.trans (HC6.out.trans hC))) (fun _ h => h)) (fun _ => rfl) (HOW.out.chg (HWR6.out.trans hC) (fun _ h => h)) HOA.out (by omega)).mono ?_
        rintro e w4 ⟨rfl, hc⟩
        exact ⟨by simp, hC.trans hc⟩
      ((try go_simp); refine hK _ ?_; clear hK K)
      (refine wpC_read rfl (fun _ _ _ h => h) (fun K hK => ?_); apply Exists.intro; refine ⟨fun _ w' _ hC => ?_, ?_⟩; ((skip); go_simp; try with_reducible rfl); (try go_simp); refine hK _ ?_; clear hK K)
      (refine wpC_read rfl (fun _ _ _ h => h) (fun K hK => ?_); apply Exists.intro; refine ⟨fun _ w' _ hC => ?_, ?_⟩; ((skip); go_simp; try with_reducible rfl); (try go_simp); refine hK _ ?_; clear hK K)
      (refine wpC_read rfl (fun _ _ _ h => h) (fun K hK => ?_); apply Exists.intro; refine ⟨fun _ w' _ hC => ?_, ?_⟩; ((skip); go_simp; try with_reducible rfl); (try go_simp); refine hK _ ?_; clear hK K)
      (refine wpC_read rfl (fun _ _ _ h => h) (fun K hK => ?_); apply Exists.intro; refine ⟨fun _ w' _ hC => ?_, ?_⟩; ((skip); go_simp; try with_reducible rfl); (try go_simp); refine hK _ ?_; clear hK K)
      refine wpC_call rfl (Value.bool true )  34  ( #[.slice (some ⟨h2, 0, none⟩) Z.length (Z.length + 2), .slice ba Z.length bc]) (fun w' => by go_simp) (fun _ w' _ hC => ?_) (fun K hK => ?_)
      · refine (leftBytes_any Z Z ba h2 gb ob bc w' (HT2.out.chg (HC5.out.trans (HC6.out.trans hC)) (fun h => h)) (HZW.out.chg (HWR6.out.trans hC) (fun _ h => h)) HZA.out (by omega)).mono ?_
        rintro e w4 ⟨rfl, hc⟩
        exact ⟨by simp, hC.trans hc⟩
      ((try go_simp); refine hK _ ?_; clear hK K)
      (refine wpC_read rfl (fun _ _ _ h => h) (fun K hK => ?_); apply Exists.intro; refine ⟨fun _ w' _ hC => ?_, ?_⟩; ((skip); go_simp; try with_reducible rfl); (try go_simp); refine hK _ ?_; clear hK K)
      (refine wpC_read rfl (fun _ _ _ h => h) (fun K hK => ?_); apply Exists.intro; refine ⟨fun _ w' _ hC => ?_, ?_⟩; ((skip); go_simp; try with_reducible rfl); (try go_simp); refine hK _ ?_; clear hK K)
      refine wpC_call rfl (Value.bool true )  9  ( #[]) (fun w' => by go_simp) (fun _ w' _ hC => ?_) (fun K hK => ?_)
      · refine (lives_any w').mono ?_
        rintro e w4 ⟨rfl, hc⟩
        exact ⟨rfl, hC.trans hc⟩
      ((try go_simp); refine hK _ ?_; clear hK K)
      (refine wpC_read rfl (fun _ _ _ h => h) (fun K hK => ?_); apply Exists.intro; refine ⟨fun _ w' _ hC => ?_, ?_⟩; ((skip); go_simp; try with_reducible rfl); (try go_simp); refine hK _ ?_; clear hK K)
      (refine wpC_read rfl (fun _ _ _ h => h) (fun K hK => ?_); apply Exists.intro; refine ⟨fun _ w' _ hC => ?_, ?_⟩; ((skip); go_simp; try with_reducible rfl); (try go_simp); refine hK _ ?_; clear hK K)
      refine wpC_nil ?_
      intro w7 hC7
      have HCF := Lib.hid (HCW.out.trans (HWR6.out.trans hC7))
      clear hC7
      go_wp2
      go_ret
      exact ⟨rfl, HCF.out⟩

set_option maxRecDepth 100000 in
set_option maxHeartbeats 16000000 in
theorem rowsMay_high (W z0 z1 : Int) (R : List RowD) (O Z : List Int) (ra oa ba : Option Addr) (rc oc bc B g o gb ob : Nat) (w : World) (hW : I.Byte W) (hz0 : I.Byte z0) (hz1 : I.Byte z1) (hR : RowsIn cellE rowE w B (ra, R.length, rc) R) (hrl : R.length ≤ 100000000000000) (hcl : ∀ r ∈ R, r.2.length ≤ 100000000000000)
    (hO : I.BytesAt w g o O) (ha : 0 < O.length → oa = some ⟨g, o, none⟩) (hol : O.length ≤ 100000000000000) (hb : BytesAt w gb ob Z) (hba : 0 < Z.length → ba = some ⟨gb, ob, none⟩) (hyp : tsum R O ≤ 1000 ∧ Z.length ≤ 100 ∧ 3000 < W ∧ tsum R O ≤ 100) :
    Calls Try.prog 5 #[.agg #[.int .i64 W, .slice ra R.length rc, .slice oa O.length oc], .slice ba Z.length bc, .agg #[.int .i64 z0, .int .i64 z1]] w fun e w' => e = .returned (.bool true) ∧ Chg (fun _ => False) w w' := by
  obtain ⟨wt, hwt⟩ : ∃ x, x = w.alloc (.cells #[.int .i64 W, .slice ra R.length rc, .slice oa O.length oc] 45) := ⟨_, rfl⟩
  obtain ⟨wz, hwz⟩ : ∃ x, x = wt.alloc (.cells #[.int .i64 z0, .int .i64 z1] 41) := ⟨_, rfl⟩
  have hst : wt.heap.size = w.heap.size + 1 := by rw [hwt]; simp
  have HCZ : Hid (Chg (fun _ => False) w wz) := Lib.hid (by rw [hwz, hwt]; exact ((Chg.refl _ _).alloc _).alloc _)
  have HBX : Hid (∀ wx, Chg (fun _ => False) wz wx → (wx.cell? ⟨w.heap.size, 0, none⟩ = some (.int .i64 W) ∧ wx.cell? ⟨w.heap.size, 1, none⟩ = some (.slice ra R.length rc) ∧ wx.cell? ⟨w.heap.size, 2, none⟩ = some (.slice oa O.length oc)) ∧ wx.cell? ⟨w.heap.size + 1, 0, none⟩ = some (.int .i64 z0) ∧ wx.cell? ⟨w.heap.size + 1, 1, none⟩ = some (.int .i64 z1)) := Lib.hid (fun wx hx => by
    have h1 : Chg (fun _ => False) wt wx := by rw [hwz] at hx; exact ((Chg.refl _ wt).alloc _).trans hx
    rw [← hst]
    refine ⟨?_, ?_, ?_⟩
    · subst hwt
      exact ⟨h1.cellS (by simp) (fun h => h), h1.cellS (by simp) (fun h => h), h1.cellS (by simp) (fun h => h)⟩
    · subst hwz
      exact hx.cellS (by simp) (fun h => h)
    · subst hwz
      exact hx.cellS (by simp) (fun h => h))
  have HWT := Lib.hid hwt
  have HWZ := Lib.hid hwz
  have HR := Lib.hid hR
  have HRL := Lib.hid hcl
  have HO := Lib.hid hO
  have HOA := Lib.hid ha
  have HZ := Lib.hid hb
  have HZA := Lib.hid hba
  have HW := Lib.hid hW
  have HZ0 := Lib.hid hz0
  have HZ1 := Lib.hid hz1
  have HS0 : Hid (R.length + O.length = tsumTo R O 0) := Lib.hid (by simp [tsumTo])
  have HHY := Lib.hid hyp
  obtain ⟨⟨q0, q1, q2⟩, q3, q4⟩ := HBX.out wz (Chg.refl _ _)
  clear hR hcl hwt hwz hst hO ha hb hba hW hz0 hz1 hyp
  go_enter Try.func5, Try.ntmps5
  go_upto_region 1 with (fail)
  rw [← HWT.out]
  rw [← HWZ.out]
  go_wp2
  clear q0 q1 q2 q3 q4
  go_loopw [7, 8] (fun n q wr => ∃ k s : Nat, k ≤ R.length ∧ q = .int .i64 k ∧ n = .int .i64 s ∧ s = tsumTo R O k ∧ s ≤ 400000000000000 ∧ Chg (fun _ => False) wz wr) (fun _ q _ => R.length - (intOf q).toNat)
  case atStart => exact ⟨0, R.length + O.length, by omega, rfl, by go_num, HS0.out, by omega, Chg.refl _ _⟩
  case round =>
    clear HS0
    obtain ⟨k, s, hk, rfl, rfl, hs, hb, hc⟩ := hrel
    have HS := Lib.hid hs
    have HC := Lib.hid hc
    have HCW := Lib.hid (HCZ.out.trans hc)
    obtain ⟨⟨q0, q1, q2⟩, q3, q4⟩ := HBX.out wr hc
    clear hs hc
    by_cases hkl : k < R.length
    · have b27 : decide ((k : Int) < (R.length : Int)) = true := by simp; omega
      by_cases h4 : s ≤ 1000
      · have b30 : decide ((s : Int) ≤ 1000) = true := by simp; omega
        obtain ⟨r, g, o, xa, xc, hr, rfl, k0, k1, hby, hin, hgw, -⟩ := (HR.out.same HCW.out).get rfl (fun _ => rfl) hkl
        have hl9 := HRL.out r (List.mem_of_getElem? hr)
        have HSN : Hid (s + r.2.length = tsumTo R O (k + 1)) := Lib.hid (by rw [tsumTo_succ hr, ← HS.out])
        obtain ⟨rl, hrl2⟩ : ∃ x, r.2.length = x := ⟨_, rfl⟩
        rw [hrl2] at k1 hl9 HSN
        clear hr hby hin hrl2
        go_wp2
        go_roundw
        case rel => first | exact ⟨k + 1, s + rl, by omega, by go_num, by go_num, HSN.out, by omega, HC.out⟩ | ((repeat apply Exists.intro); exact ⟨⟨k + 1, s + rl, by omega, rfl, by go_num, HSN.out, by omega, HC.out⟩, by (repeat' apply And.intro) <;> first | rfl | go_num⟩)
        case measure => simp [intOf]; omega
      · have b30 : decide ((s : Int) ≤ 1000) = false := by simp; omega
        have b44 : decide (1000 < (s : Int)) = true := by simp; omega
        have := HS.out; have := tsumTo_le R O k; have := HHY.out.1; omega
    · obtain rfl : k = R.length := by omega
      have b27 : decide ((R.length : Int) < (R.length : Int)) = false := by simp
      have HSF : Hid (s = tsum R O) := Lib.hid (by rw [← tsumTo_all, ← HS.out])
      have hs1 : s ≤ 1000 := by have := HSF.out; have := HHY.out.1; omega
      have b44 : decide (1000 < (s : Int)) = false := by simp; omega
      have hz1 : Z.length ≤ 100 := HHY.out.2.1
      have b48 : decide (100 < (Z.length : Int)) = false := by simp; omega
      have hw3 := HHY.out.2.2.1
      have b53 : decide (3000 < W) = true := by simp; omega
      have b56 : decide (100 < (s : Int)) = false := by have := HSF.out; have := HHY.out.2.2.2; simp; omega
      have hR1 : R.length ≤ 1000 := by have := HSF.out; unfold tsum at this; omega
      have hO1 : O.length ≤ 1000 := by have := HSF.out; unfold tsum at this; omega
      have HRB : Hid (∀ r ∈ R, r.2.length ≤ 1000000000) := Lib.hid (fun r hr => by have := tsum_each (O := O) r hr; have := HSF.out; omega)
      have HNB : Hid ((tabNums (W, R, O)).length ≤ 10000000) := Lib.hid (by have := tsum_nums W R O; have := HSF.out; omega)
      have HRW := Lib.hid (HR.out.same HCW.out)
      have HOW := Lib.hid (HO.out.chg HCW.out (fun _ h => h))
      have HZW := Lib.hid (HZ.out.chg HCW.out (fun _ h => h))
      go_wp2_with fail
      refine (other_any W R ra rc B O.length oa oc wr HRW.out (by omega) HRB.out).mono ?_
      rintro e w2 ⟨rb, rbc, rfl, hrows, hc2⟩
      have HRR := Lib.hid hrows
      have HC2 := Lib.hid hc2
      obtain ⟨wm, hwm⟩ : ∃ x, x = w2.alloc (.cells #[.int .i64 W, .slice rb R.length rbc, .slice oa O.length oc] 50) := ⟨_, rfl⟩
      have HCM : Hid (Chg (fun _ => False) w2 wm) := Lib.hid (by rw [hwm]; exact (Chg.refl _ _).alloc _)
      have HBM : Hid (∀ wx, Chg (fun _ => False) wm wx → wx.cell? ⟨w2.heap.size, 0, none⟩ = some (.int .i64 W) ∧ wx.cell? ⟨w2.heap.size, 1, none⟩ = some (.slice rb R.length rbc) ∧ wx.cell? ⟨w2.heap.size, 2, none⟩ = some (.slice oa O.length oc)) := Lib.hid (fun wx hx => by subst hwm; exact ⟨hx.cellS (by simp) (fun h => h), hx.cellS (by simp) (fun h => h), hx.cellS (by simp) (fun h => h)⟩)
      have HWM := Lib.hid hwm
      have HWRM := Lib.hid (hc2.trans HCM.out)
      clear hrows hc2 hwm q0 q1 q2 q3 q4
      obtain ⟨⟨q0, q1, q2⟩, q3, q4⟩ := HBX.out wm (HC.out.trans HWRM.out)
      go_upto_region 9 with (fail)
      rw [← HWM.out]
      go_wp2_with fail
      refine (twinNums_any O oa g o oc wm (HOW.out.chg HWRM.out (fun _ h => h)) HOA.out (by omega)).mono ?_
      rintro e w3 ⟨h1, rfl, -, hr1, hc3⟩
      have HT1 := Lib.hid hr1
      have HC3 := Lib.hid hc3
      clear hr1 hc3 q0 q1 q2 q3 q4
      go_wp2_with fail
      refine (twinBytes_any Z ba gb ob bc w3 (HZW.out.chg (HWRM.out.trans HC3.out) (fun _ h => h)) HZA.out (by omega)).mono ?_
      rintro e w4 ⟨h2, rfl, -, hr2, hc4⟩
      have HT2 := Lib.hid hr2
      have HC4 := Lib.hid (HC3.out.trans hc4)
      have HC34 := Lib.hid hc4
      clear hr2 hc4
      obtain ⟨X, hX⟩ : ∃ x, ptX Z (W, R, O) = x := ⟨_, rfl⟩
      obtain ⟨E, hE⟩ : ∃ x, ptE (W, R, O) = x := ⟨_, rfl⟩
      obtain ⟨M, hM⟩ : ∃ x, mayL (W, R, O) = x := ⟨_, rfl⟩
      obtain ⟨V, hV⟩ : ∃ x, atTab (W, R, O) z0 z1 = x := ⟨_, rfl⟩
      have HXL : Hid (X.length ≤ 1000000000000) := Lib.hid (by
        rw [← hX]
        unfold ptX
        by_cases hm : mayL (W, R, O) = true
        · rw [if_pos hm]
          have := bytesOf_len (tabNums (W, R, O)) (tabNums_ok hm).1
          have := HNB.out
          unfold putTab
          rw [List.length_append]
          omega
        · rw [if_neg hm]; simp)
      have HPUT := Lib.hid (put_all Z W R O ra oa (some ⟨h2, 0, none⟩) rc oc (Z.length + 2) h2 0 B g o w4 HW.out (HRW.out.same (HWRM.out.trans HC4.out)) (by omega) HRB.out (HOW.out.chg (HWRM.out.trans HC4.out) (fun _ h => h)) HOA.out (by omega) (HT2.out.bytes (List.prefix_append _ _)) (fun _ => rfl) (by omega) HNB.out)
      have HDUT := Lib.hid (fun (wx : World) (hx : Chg (fun _ => False) w4 wx) => refPut_all Z W R O rb oa ba rbc oc bc gb ob _ g o wx HW.out (HRR.out.same (HCM.out.trans (HC4.out.trans hx))) (by omega) HRB.out (HOW.out.chg (HWRM.out.trans (HC4.out.trans hx)) (fun _ h => h)) HOA.out (by omega) (HZW.out.chg (HWRM.out.trans (HC4.out.trans hx)) (fun _ h => h)) HZA.out (by omega) HNB.out)
      simp only [hX, hE] at HPUT HDUT
      obtain ⟨⟨q0, q1, q2⟩, q3, q4⟩ := HBX.out w4 (HC.out.trans (HWRM.out.trans HC4.out))
      go_wp2_with fail
      refine HPUT.out.mono ?_
      rintro e w5 ⟨ax, gx, cx, rfl, hx1, hx2, hc5⟩
      have HX := Lib.hid hx1
      have HXA := Lib.hid hx2
      have HC5 := Lib.hid hc5
      clear hx1 hx2 hc5 HPUT q0 q1 q2 q3 q4
      obtain ⟨q0, q1, q2⟩ := HBM.out w5 (HC4.out.trans HC5.out)
      go_wp2_with fail
      refine (HDUT.out w5 HC5.out).mono ?_
      rintro e w6 ⟨ay, gy, cy, rfl, hx1, hx2, hc6⟩
      have HY := Lib.hid hx1
      have HYA := Lib.hid hx2
      have HC6 := Lib.hid hc6
      have HM := Lib.hid hM
      have HV := Lib.hid hV
      have e1 : (M == M) = true := by simp
      have e2 : (V == V) = true := by simp
      have e3 : (E == E) = true := by simp
      clear hx1 hx2 hc6 HDUT q0 q1 q2 hX hE hM hV
      have HWR6 := Lib.hid (HWRM.out.trans (HC4.out.trans (HC5.out.trans HC6.out)))
      have HM6 := Lib.hid (HC4.out.trans (HC5.out.trans HC6.out))
      have HFX : Hid (∀ wx, Chg (fun _ => False) w6 wx → (wx.cell? ⟨w.heap.size, 0, none⟩ = some (.int .i64 W) ∧ wx.cell? ⟨w.heap.size, 1, none⟩ = some (.slice ra R.length rc) ∧ wx.cell? ⟨w.heap.size, 2, none⟩ = some (.slice oa O.length oc)) ∧ (wx.cell? ⟨w.heap.size + 1, 0, none⟩ = some (.int .i64 z0) ∧ wx.cell? ⟨w.heap.size + 1, 1, none⟩ = some (.int .i64 z1)) ∧ (wx.cell? ⟨w2.heap.size, 0, none⟩ = some (.int .i64 W) ∧ wx.cell? ⟨w2.heap.size, 1, none⟩ = some (.slice rb R.length rbc) ∧ wx.cell? ⟨w2.heap.size, 2, none⟩ = some (.slice oa O.length oc))) := Lib.hid (fun wx hx =>
        ⟨(HBX.out wx (HC.out.trans (HWR6.out.trans hx))).1, (HBX.out wx (HC.out.trans (HWR6.out.trans hx))).2, HBM.out wx (HM6.out.trans hx)⟩)
      go_upto_region 13 with (fail)
      refine wp_region_same (fun w' => Chg (fun _ => False) w6 w') (by kernel_rfl) (by kernel_rfl) ?_ ?_
      · exact (Chg.refl _ _).drew
      (refine wpC_read rfl (fun _ _ _ h => h) (fun K hK => ?_); apply Exists.intro; refine ⟨fun _ w' _ hC => ?_, ?_⟩; ((obtain ⟨⟨q0, q1, q2⟩, ⟨q3, q4⟩, q5, q6, q7⟩ := HFX.out w' hC); go_simp; try with_reducible rfl); (try go_simp); refine hK _ ?_; clear hK K)
      refine wpC_call rfl (Value.bool M )  28  ( #[.agg #[.int .i64 W, .slice ra R.length rc, .slice oa O.length oc]]) (fun w' => by go_simp) (fun _ w' _ hC => ?_) (fun K hK => ?_)
      · refine (may_any W R O ra oa rc oc B g o w' HW.out (HRW.out.same (HWR6.out.trans hC)) (by omega) HRB.out (HOW.out.chg (HWR6.out.trans hC) (fun _ h => h)) HOA.out (by omega)).mono ?_
        rintro e w4 ⟨rfl, hc⟩
        exact ⟨by rw [HM.out], hC.trans hc⟩
      ((try go_simp); refine hK _ ?_; clear hK K)
      (refine wpC_read rfl (fun _ _ _ h => h) (fun K hK => ?_); apply Exists.intro; refine ⟨fun _ w' _ hC => ?_, ?_⟩; ((obtain ⟨⟨q0, q1, q2⟩, ⟨q3, q4⟩, q5, q6, q7⟩ := HFX.out w' hC); go_simp; try with_reducible rfl); (try go_simp); refine hK _ ?_; clear hK K)
      refine wpC_call rfl (Value.bool M )  32  ( #[.agg #[.int .i64 W, .slice rb R.length rbc, .slice oa O.length oc]]) (fun w' => by go_simp) (fun _ w' _ hC => ?_) (fun K hK => ?_)
      · refine (refMay_any W R O rb oa rbc oc _ g o w' HW.out (HRR.out.same (HCM.out.trans (HM6.out.trans hC))) (by omega) HRB.out (HOW.out.chg (HWR6.out.trans hC) (fun _ h => h)) HOA.out (by omega)).mono ?_
        rintro e w4 ⟨rfl, hc⟩
        exact ⟨by rw [HM.out], hC.trans hc⟩
      ((try go_simp); refine hK _ ?_; clear hK K)
      (refine wpC_read rfl (fun _ _ _ h => h) (fun K hK => ?_); apply Exists.intro; refine ⟨fun _ w' _ hC => ?_, ?_⟩; ((skip); go_simp; try with_reducible rfl); (try go_simp); refine hK _ ?_; clear hK K)
      (refine wpC_read rfl (fun _ _ _ h => h) (fun K hK => ?_); apply Exists.intro; refine ⟨fun _ w' _ hC => ?_, ?_⟩; ((skip); go_simp; try with_reducible rfl); (try go_simp); refine hK _ ?_; clear hK K)
      (refine wpC_read rfl (fun _ _ _ h => h) (fun K hK => ?_); apply Exists.intro; refine ⟨fun _ w' _ hC => ?_, ?_⟩; ((obtain ⟨⟨q0, q1, q2⟩, ⟨q3, q4⟩, q5, q6, q7⟩ := HFX.out w' hC); go_simp; try with_reducible rfl); (try go_simp); refine hK _ ?_; clear hK K)
      (refine wpC_read rfl (fun _ _ _ h => h) (fun K hK => ?_); apply Exists.intro; refine ⟨fun _ w' _ hC => ?_, ?_⟩; ((skip); go_simp; try with_reducible rfl); (try go_simp); refine hK _ ?_; clear hK K)
      (refine wpC_read rfl (fun _ _ _ h => h) (fun K hK => ?_); apply Exists.intro; refine ⟨fun _ w' _ hC => ?_, ?_⟩; ((obtain ⟨⟨q0, q1, q2⟩, ⟨q3, q4⟩, q5, q6, q7⟩ := HFX.out w' hC); go_simp; try with_reducible rfl); (try go_simp); refine hK _ ?_; clear hK K)
      (refine wpC_read rfl (fun _ _ _ h => h) (fun K hK => ?_); apply Exists.intro; refine ⟨fun _ w' _ hC => ?_, ?_⟩; ((skip); go_simp; try with_reducible rfl); (try go_simp); refine hK _ ?_; clear hK K)
      (refine wpC_read rfl (fun _ _ _ h => h) (fun K hK => ?_); apply Exists.intro; refine ⟨fun _ w' _ hC => ?_, ?_⟩; ((obtain ⟨⟨q0, q1, q2⟩, ⟨q3, q4⟩, q5, q6, q7⟩ := HFX.out w' hC); go_simp; try with_reducible rfl); (try go_simp); refine hK _ ?_; clear hK K)
      refine wpC_call rfl (Value.int .i64 V )  21  ( #[.agg #[.int .i64 W, .slice ra R.length rc, .slice oa O.length oc], .int .i64 z0, .int .i64 z1]) (fun w' => by go_simp) (fun _ w' _ hC => ?_) (fun K hK => ?_)
      · refine (atTab_any W z0 z1 R O ra oa rc oc B g o w' HW.out HZ0.out HZ1.out (HRW.out.same (HWR6.out.trans hC)) HRB.out (HOW.out.chg (HWR6.out.trans hC) (fun _ h => h)) HOA.out (by omega)).mono ?_
        rintro e w4 ⟨rfl, hc⟩
        exact ⟨by rw [HV.out], hC.trans hc⟩
      ((try go_simp); refine hK _ ?_; clear hK K)
      (refine wpC_read rfl (fun _ _ _ h => h) (fun K hK => ?_); apply Exists.intro; refine ⟨fun _ w' _ hC => ?_, ?_⟩; ((obtain ⟨⟨q0, q1, q2⟩, ⟨q3, q4⟩, q5, q6, q7⟩ := HFX.out w' hC); go_simp; try with_reducible rfl); (try go_simp); refine hK _ ?_; clear hK K)
      (refine wpC_read rfl (fun _ _ _ h => h) (fun K hK => ?_); apply Exists.intro; refine ⟨fun _ w' _ hC => ?_, ?_⟩; ((skip); go_simp; try with_reducible rfl); (try go_simp); refine hK _ ?_; clear hK K)
      (refine wpC_read rfl (fun _ _ _ h => h) (fun K hK => ?_); apply Exists.intro; refine ⟨fun _ w' _ hC => ?_, ?_⟩; ((obtain ⟨⟨q0, q1, q2⟩, ⟨q3, q4⟩, q5, q6, q7⟩ := HFX.out w' hC); go_simp; try with_reducible rfl); (try go_simp); refine hK _ ?_; clear hK K)
      (refine wpC_read rfl (fun _ _ _ h => h) (fun K hK => ?_); apply Exists.intro; refine ⟨fun _ w' _ hC => ?_, ?_⟩; ((skip); go_simp; try with_reducible rfl); (try go_simp); refine hK _ ?_; clear hK K)
      (refine wpC_read rfl (fun _ _ _ h => h) (fun K hK => ?_); apply Exists.intro; refine ⟨fun _ w' _ hC => ?_, ?_⟩; ((obtain ⟨⟨q0, q1, q2⟩, ⟨q3, q4⟩, q5, q6, q7⟩ := HFX.out w' hC); go_simp; try with_reducible rfl); (try go_simp); refine hK _ ?_; clear hK K)
      refine wpC_call rfl (Value.int .i64 V )  22  ( #[.agg #[.int .i64 W, .slice rb R.length rbc, .slice oa O.length oc], .int .i64 z0, .int .i64 z1]) (fun w' => by go_simp) (fun _ w' _ hC => ?_) (fun K hK => ?_)
      · refine (refAtTab_any W z0 z1 R O rb oa rbc oc _ g o w' HW.out HZ0.out HZ1.out (HRR.out.same (HCM.out.trans (HM6.out.trans hC))) HRB.out (HOW.out.chg (HWR6.out.trans hC) (fun _ h => h)) HOA.out (by omega)).mono ?_
        rintro e w4 ⟨rfl, hc⟩
        exact ⟨by rw [HV.out], hC.trans hc⟩
      ((try go_simp); refine hK _ ?_; clear hK K)
      (refine wpC_read rfl (fun _ _ _ h => h) (fun K hK => ?_); apply Exists.intro; refine ⟨fun _ w' _ hC => ?_, ?_⟩; ((skip); go_simp; try with_reducible rfl); (try go_simp); refine hK _ ?_; clear hK K)
      (refine wpC_read rfl (fun _ _ _ h => h) (fun K hK => ?_); apply Exists.intro; refine ⟨fun _ w' _ hC => ?_, ?_⟩; ((skip); go_simp; try with_reducible rfl); (try go_simp); refine hK _ ?_; clear hK K)
      (refine wpC_read rfl (fun _ _ _ h => h) (fun K hK => ?_); apply Exists.intro; refine ⟨fun _ w' _ hC => ?_, ?_⟩; ((skip); go_simp; try with_reducible rfl); (try go_simp); refine hK _ ?_; clear hK K)
      (refine wpC_read rfl (fun _ _ _ h => h) (fun K hK => ?_); apply Exists.intro; refine ⟨fun _ w' _ hC => ?_, ?_⟩; ((skip); go_simp; try with_reducible rfl); (try go_simp); refine hK _ ?_; clear hK K)
      (refine wpC_read rfl (fun _ _ _ h => h) (fun K hK => ?_); apply Exists.intro; refine ⟨fun _ w' _ hC => ?_, ?_⟩; ((skip); go_simp; try with_reducible rfl); (try go_simp); refine hK _ ?_; clear hK K)
      (refine wpC_read rfl (fun _ _ _ h => h) (fun K hK => ?_); apply Exists.intro; refine ⟨fun _ w' _ hC => ?_, ?_⟩; ((skip); go_simp; try with_reducible rfl); (try go_simp); refine hK _ ?_; clear hK K)
      (refine wpC_read rfl (fun _ _ _ h => h) (fun K hK => ?_); apply Exists.intro; refine ⟨fun _ w' _ hC => ?_, ?_⟩; ((skip); go_simp; try with_reducible rfl); (try go_simp); refine hK _ ?_; clear hK K)
      (refine wpC_read rfl (fun _ _ _ h => h) (fun K hK => ?_); apply Exists.intro; refine ⟨fun _ w' _ hC => ?_, ?_⟩; ((skip); go_simp; try with_reducible rfl); (try go_simp); refine hK _ ?_; clear hK K)
      (refine wpC_read rfl (fun _ _ _ h => h) (fun K hK => ?_); apply Exists.intro; refine ⟨fun _ w' _ hC => ?_, ?_⟩; ((skip); go_simp; try with_reducible rfl); (try go_simp); refine hK _ ?_; clear hK K)
      (refine wpC_read rfl (fun _ _ _ h => h) (fun K hK => ?_); apply Exists.intro; refine ⟨fun _ w' _ hC => ?_, ?_⟩; ((skip); go_simp; try with_reducible rfl); (try go_simp); refine hK _ ?_; clear hK K)
      refine wpC_call rfl (Value.bool true )  27  ( #[.slice ax X.length cx, .slice ay X.length cy]) (fun w' => by go_simp) (fun _ w' _ hC => ?_) (fun K hK => ?_)
      · refine (sameBytes_any X X ax ay gx 0 gy 0 cx cy w' (HX.out.chg (HC6.out.trans hC) (fun _ h => h)) HXA.out (HY.out.chg hC (fun _ h => h)) HYA.out HXL.out).mono ?_
        rintro e w4 ⟨rfl, hc⟩
        exact ⟨by simp, hC.trans hc⟩
      ((try go_simp); refine hK _ ?_; clear hK K)
      (refine wpC_read rfl (fun _ _ _ h => h) (fun K hK => ?_); apply Exists.intro; refine ⟨fun _ w' _ hC => ?_, ?_⟩; ((skip); go_simp; try with_reducible rfl); (try go_simp); refine hK _ ?_; clear hK K)
      (refine wpC_read rfl (fun _ _ _ h => h) (fun K hK => ?_); apply Exists.intro; refine ⟨fun _ w' _ hC => ?_, ?_⟩; ((skip); go_simp; try with_reducible rfl); (try go_simp); refine hK _ ?_; clear hK K)
      (refine wpC_read rfl (fun _ _ _ h => h) (fun K hK => ?_); apply Exists.intro; refine ⟨fun _ w' _ hC => ?_, ?_⟩; ((obtain ⟨⟨q0, q1, q2⟩, ⟨q3, q4⟩, q5, q6, q7⟩ := HFX.out w' hC); go_simp; try with_reducible rfl); (try go_simp); refine hK _ ?_; clear hK K)
      (refine wpC_read rfl (fun _ _ _ h => h) (fun K hK => ?_); apply Exists.intro; refine ⟨fun _ w' _ hC => ?_, ?_⟩; ((obtain ⟨⟨q0, q1, q2⟩, ⟨q3, q4⟩, q5, q6, q7⟩ := HFX.out w' hC); go_simp; try with_reducible rfl); (try go_simp); refine hK _ ?_; clear hK K)
      refine wpC_call rfl (Value.bool true )  20  ( #[.agg #[.int .i64 W, .slice ra R.length rc, .slice oa O.length oc], .agg #[.int .i64 W, .slice rb R.length rbc, .slice oa O.length oc]]) (fun w' => by go_simp) (fun _ w' _ hC => ?_) (fun K hK => ?_)
      · refine (same_ok W R O ra oa rb oa rc oc rbc oc _ _ g o g o w' (HRW.out.same (HWR6.out.trans hC)) (HRR.out.same (HCM.out.trans (HM6.out.trans hC))) HRB.out (HOW.out.chg (HWR6.out.trans hC) (fun _ h => h)) HOA.out (HOW.out.chg (HWR6.out.trans hC) (fun _ h => h)) HOA.out (by omega) (by omega)).mono ?_
        rintro e w4 ⟨rfl, hc⟩
        exact ⟨rfl, hC.trans hc⟩
      ((try go_simp); refine hK _ ?_; clear hK K)
      (refine wpC_read rfl (fun _ _ _ h => h) (fun K hK => ?_); apply Exists.intro; refine ⟨fun _ w' _ hC => ?_, ?_⟩; ((skip); go_simp; try with_reducible rfl); (try go_simp); refine hK _ ?_; clear hK K)
      (refine wpC_read rfl (fun _ _ _ h => h) (fun K hK => ?_); apply Exists.intro; refine ⟨fun _ w' _ hC => ?_, ?_⟩; ((skip); go_simp; try with_reducible rfl); (try go_simp); refine hK _ ?_; clear hK K)
      (refine wpC_read rfl (fun _ _ _ h => h) (fun K hK => ?_); apply Exists.intro; refine ⟨fun _ w' _ hC => ?_, ?_⟩; ((skip); go_simp; try with_reducible rfl); (try go_simp); refine hK _ ?_; clear hK K)
      (refine wpC_read rfl (fun _ _ _ h => h) (fun K hK => ?_); apply Exists.intro; refine ⟨fun _ w' _ hC => ?_, ?_⟩; ((skip); go_simp; try with_reducible rfl); (try go_simp); refine hK _ ?_; clear hK K)
      (refine wpC_read rfl (fun _ _ _ h => h) (fun K hK => ?_); apply Exists.intro; refine ⟨fun _ w' _ hC => ?_, ?_⟩; ((obtain ⟨⟨q0, q1, q2⟩, ⟨q3, q4⟩, q5, q6, q7⟩ := HFX.out w' hC); go_simp; try with_reducible rfl); (try go_simp); refine hK _ ?_; clear hK K)
      refine wpC_call rfl (Value.bool true )  33  ( #[.slice (some ⟨h1, 0, none⟩) O.length (O.length + 2), .slice oa O.length oc]) (fun w' => by go_simp) (fun _ w' _ hC => ?_) (fun K hK => ?_)
      · refine (sameNums_any O O (some ⟨h1, 0, none⟩) oa h1 0 g o (O.length + 2) oc w' ((HT1.out.bytes (List.prefix_append _ _)).chg (HC34.out.trans (HC5.out.trans (HC6.out.trans hC))) (fun _ h => h)) (fun _ => rfl) (HOW.out.chg (HWR6.out.trans hC) (fun _ h => h)) HOA.out (by omega)).mono ?_
        rintro e w4 ⟨rfl, hc⟩
        exact ⟨by simp, hC.trans hc⟩
      ((try go_simp); refine hK _ ?_; clear hK K)
      (refine wpC_read rfl (fun _ _ _ h => h) (fun K hK => ?_); apply Exists.intro; refine ⟨fun _ w' _ hC => ?_, ?_⟩; ((skip); go_simp; try with_reducible rfl); (try go_simp); refine hK _ ?_; clear hK K)
      (refine wpC_read rfl (fun _ _ _ h => h) (fun K hK => ?_); apply Exists.intro; refine ⟨fun _ w' _ hC => ?_, ?_⟩; ((skip); go_simp; try with_reducible rfl); (try go_simp); refine hK _ ?_; clear hK K)
      (refine wpC_read rfl (fun _ _ _ h => h) (fun K hK => ?_); apply Exists.intro; refine ⟨fun _ w' _ hC => ?_, ?_⟩; ((skip); go_simp; try with_reducible rfl); (try go_simp); refine hK _ ?_; clear hK K)
      (refine wpC_read rfl (fun _ _ _ h => h) (fun K hK => ?_); apply Exists.intro; refine ⟨fun _ w' _ hC => ?_, ?_⟩; ((skip); go_simp; try with_reducible rfl); (try go_simp); refine hK _ ?_; clear hK K)
      refine wpC_call rfl (Value.bool true )  34  ( #[.slice (some ⟨h2, 0, none⟩) Z.length (Z.length + 2), .slice ba Z.length bc]) (fun w' => by go_simp) (fun _ w' _ hC => ?_) (fun K hK => ?_)
      · refine (leftBytes_any Z Z ba h2 gb ob bc w' (HT2.out.chg (HC5.out.trans (HC6.out.trans hC)) (fun h => h)) (HZW.out.chg (HWR6.out.trans hC) (fun _ h => h)) HZA.out (by omega)).mono ?_
        rintro e w4 ⟨rfl, hc⟩
        exact ⟨by simp, hC.trans hc⟩
      ((try go_simp); refine hK _ ?_; clear hK K)
      (refine wpC_read rfl (fun _ _ _ h => h) (fun K hK => ?_); apply Exists.intro; refine ⟨fun _ w' _ hC => ?_, ?_⟩; ((skip); go_simp; try with_reducible rfl); (try go_simp); refine hK _ ?_; clear hK K)
      (refine wpC_read rfl (fun _ _ _ h => h) (fun K hK => ?_); apply Exists.intro; refine ⟨fun _ w' _ hC => ?_, ?_⟩; ((skip); go_simp; try with_reducible rfl); (try go_simp); refine hK _ ?_; clear hK K)
      refine wpC_call rfl (Value.bool true )  9  ( #[]) (fun w' => by go_simp) (fun _ w' _ hC => ?_) (fun K hK => ?_)
      · refine (lives_any w').mono ?_
        rintro e w4 ⟨rfl, hc⟩
        exact ⟨rfl, hC.trans hc⟩
      ((try go_simp); refine hK _ ?_; clear hK K)
      (refine wpC_read rfl (fun _ _ _ h => h) (fun K hK => ?_); apply Exists.intro; refine ⟨fun _ w' _ hC => ?_, ?_⟩; ((skip); go_simp; try with_reducible rfl); (try go_simp); refine hK _ ?_; clear hK K)
      (refine wpC_read rfl (fun _ _ _ h => h) (fun K hK => ?_); apply Exists.intro; refine ⟨fun _ w' _ hC => ?_, ?_⟩; ((skip); go_simp; try with_reducible rfl); (try go_simp); refine hK _ ?_; clear hK K)
      refine wpC_nil ?_
      intro w7 hC7
      have HCF := Lib.hid (HCW.out.trans (HWR6.out.trans hC7))
      clear hC7
      go_wp2
      go_ret
      exact ⟨rfl, HCF.out⟩

set_option maxRecDepth 100000 in
set_option maxHeartbeats 16000000 in
theorem rowsMay_great (W z0 z1 : Int) (R : List RowD) (O Z : List Int) (ra oa ba : Option Addr) (rc oc bc B g o gb ob : Nat) (w : World) (hW : I.Byte W) (hz0 : I.Byte z0) (hz1 : I.Byte z1) (hR : RowsIn cellE rowE w B (ra, R.length, rc) R) (hrl : R.length ≤ 100000000000000) (hcl : ∀ r ∈ R, r.2.length ≤ 100000000000000)
    (hO : I.BytesAt w g o O) (ha : 0 < O.length → oa = some ⟨g, o, none⟩) (hol : O.length ≤ 100000000000000) (hb : BytesAt w gb ob Z) (hba : 0 < Z.length → ba = some ⟨gb, ob, none⟩) (hyp : 1000 < tsum R O ∨ 100 < Z.length ∨ (3000 < W ∧ 100 < tsum R O)) :
    Calls Try.prog 5 #[.agg #[.int .i64 W, .slice ra R.length rc, .slice oa O.length oc], .slice ba Z.length bc, .agg #[.int .i64 z0, .int .i64 z1]] w fun e w' => e = .returned (.bool true) ∧ Chg (fun _ => False) w w' := by
  obtain ⟨wt, hwt⟩ : ∃ x, x = w.alloc (.cells #[.int .i64 W, .slice ra R.length rc, .slice oa O.length oc] 45) := ⟨_, rfl⟩
  obtain ⟨wz, hwz⟩ : ∃ x, x = wt.alloc (.cells #[.int .i64 z0, .int .i64 z1] 41) := ⟨_, rfl⟩
  have hst : wt.heap.size = w.heap.size + 1 := by rw [hwt]; simp
  have HCZ : Hid (Chg (fun _ => False) w wz) := Lib.hid (by rw [hwz, hwt]; exact ((Chg.refl _ _).alloc _).alloc _)
  have HBX : Hid (∀ wx, Chg (fun _ => False) wz wx → (wx.cell? ⟨w.heap.size, 0, none⟩ = some (.int .i64 W) ∧ wx.cell? ⟨w.heap.size, 1, none⟩ = some (.slice ra R.length rc) ∧ wx.cell? ⟨w.heap.size, 2, none⟩ = some (.slice oa O.length oc)) ∧ wx.cell? ⟨w.heap.size + 1, 0, none⟩ = some (.int .i64 z0) ∧ wx.cell? ⟨w.heap.size + 1, 1, none⟩ = some (.int .i64 z1)) := Lib.hid (fun wx hx => by
    have h1 : Chg (fun _ => False) wt wx := by rw [hwz] at hx; exact ((Chg.refl _ wt).alloc _).trans hx
    rw [← hst]
    refine ⟨?_, ?_, ?_⟩
    · subst hwt
      exact ⟨h1.cellS (by simp) (fun h => h), h1.cellS (by simp) (fun h => h), h1.cellS (by simp) (fun h => h)⟩
    · subst hwz
      exact hx.cellS (by simp) (fun h => h)
    · subst hwz
      exact hx.cellS (by simp) (fun h => h))
  have HWT := Lib.hid hwt
  have HWZ := Lib.hid hwz
  have HR := Lib.hid hR
  have HRL := Lib.hid hcl
  have HO := Lib.hid hO
  have HOA := Lib.hid ha
  have HZ := Lib.hid hb
  have HZA := Lib.hid hba
  have HW := Lib.hid hW
  have HZ0 := Lib.hid hz0
  have HZ1 := Lib.hid hz1
  have HS0 : Hid (R.length + O.length = tsumTo R O 0) := Lib.hid (by simp [tsumTo])
  have HHY := Lib.hid hyp
  obtain ⟨⟨q0, q1, q2⟩, q3, q4⟩ := HBX.out wz (Chg.refl _ _)
  clear hR hcl hwt hwz hst hO ha hb hba hW hz0 hz1 hyp
  go_enter Try.func5, Try.ntmps5
  go_upto_region 1 with (fail)
  rw [← HWT.out]
  rw [← HWZ.out]
  go_wp2
  clear q0 q1 q2 q3 q4
  go_loopw [7, 8] (fun n q wr => ∃ k s : Nat, k ≤ R.length ∧ q = .int .i64 k ∧ n = .int .i64 s ∧ s = tsumTo R O k ∧ s ≤ 400000000000000 ∧ Chg (fun _ => False) wz wr) (fun _ q _ => R.length - (intOf q).toNat)
  case atStart => exact ⟨0, R.length + O.length, by omega, rfl, by go_num, HS0.out, by omega, Chg.refl _ _⟩
  case round =>
    clear HS0
    obtain ⟨k, s, hk, rfl, rfl, hs, hb, hc⟩ := hrel
    have HS := Lib.hid hs
    have HC := Lib.hid hc
    have HCW := Lib.hid (HCZ.out.trans hc)
    obtain ⟨⟨q0, q1, q2⟩, q3, q4⟩ := HBX.out wr hc
    clear hs hc
    by_cases hkl : k < R.length
    · have b27 : decide ((k : Int) < (R.length : Int)) = true := by simp; omega
      by_cases h4 : s ≤ 1000
      · have b30 : decide ((s : Int) ≤ 1000) = true := by simp; omega
        obtain ⟨r, g, o, xa, xc, hr, rfl, k0, k1, hby, hin, hgw, -⟩ := (HR.out.same HCW.out).get rfl (fun _ => rfl) hkl
        have hl9 := HRL.out r (List.mem_of_getElem? hr)
        have HSN : Hid (s + r.2.length = tsumTo R O (k + 1)) := Lib.hid (by rw [tsumTo_succ hr, ← HS.out])
        obtain ⟨rl, hrl2⟩ : ∃ x, r.2.length = x := ⟨_, rfl⟩
        rw [hrl2] at k1 hl9 HSN
        clear hr hby hin hrl2
        go_wp2
        go_roundw
        case rel => first | exact ⟨k + 1, s + rl, by omega, by go_num, by go_num, HSN.out, by omega, HC.out⟩ | ((repeat apply Exists.intro); exact ⟨⟨k + 1, s + rl, by omega, rfl, by go_num, HSN.out, by omega, HC.out⟩, by (repeat' apply And.intro) <;> first | rfl | go_num⟩)
        case measure => simp [intOf]; omega
      · have b30 : decide ((s : Int) ≤ 1000) = false := by simp; omega
        have b44 : decide (1000 < (s : Int)) = true := by simp; omega
        go_wp2_with fail
        refine (lives_any wr).mono ?_
        rintro e w7 ⟨rfl, hc7⟩
        have HC7 := Lib.hid (HCW.out.trans hc7)
        clear hc7
        go_wp2
        go_ret
        exact ⟨rfl, HC7.out⟩
    · obtain rfl : k = R.length := by omega
      have b27 : decide ((R.length : Int) < (R.length : Int)) = false := by simp
      have HSF : Hid (s = tsum R O) := Lib.hid (by rw [← tsumTo_all, ← HS.out])
      by_cases h4 : 1000 < s
      · have b44 : decide (1000 < (s : Int)) = true := by simp; omega
        go_wp2_with fail
        refine (lives_any wr).mono ?_
        rintro e w7 ⟨rfl, hc7⟩
        have HC7 := Lib.hid (HCW.out.trans hc7)
        clear hc7
        go_wp2
        go_ret
        exact ⟨rfl, HC7.out⟩
      · have b44 : decide (1000 < (s : Int)) = false := by simp; omega
        by_cases h5 : 100 < Z.length
        · have b48 : decide (100 < (Z.length : Int)) = true := by simp; omega
          go_wp2_with fail
          refine (lives_any wr).mono ?_
          rintro e w7 ⟨rfl, hc7⟩
          have HC7 := Lib.hid (HCW.out.trans hc7)
          clear hc7
          go_wp2
          go_ret
          exact ⟨rfl, HC7.out⟩
        · have b48 : decide (100 < (Z.length : Int)) = false := by simp; omega
          have hw := HHY.out
          rw [← HSF.out] at hw
          have hw3 : 3000 < W := by omega
          have b53 : decide (3000 < W) = true := by simp; omega
          have b56 : decide (100 < (s : Int)) = true := by simp; omega
          go_wp2_with fail
          refine (lives_any wr).mono ?_
          rintro e w7 ⟨rfl, hc7⟩
          have HC7 := Lib.hid (HCW.out.trans hc7)
          clear hc7
          go_wp2
          go_ret
          exact ⟨rfl, HC7.out⟩
end Go.Proofs.Ytkfakkonlnjckaa
