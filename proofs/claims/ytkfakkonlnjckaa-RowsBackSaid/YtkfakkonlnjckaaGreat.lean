/- More than is gone through: harbingerlaw18.Great. -/
import Derived.Test.YtkfakkonlnjckaaRowsT
namespace Go.Proofs.Ytkfakkonlnjckaa
open Go.RowKit

def sumL (LL : List (List Int)) : Nat := LL.length + (LL.map (·.length)).sum
def sumTo (LL : List (List Int)) (k : Nat) : Nat := LL.length + ((LL.take k).map (·.length)).sum
theorem sumTo_all (LL : List (List Int)) : sumTo LL LL.length = sumL LL := by unfold sumTo sumL; rw [List.take_length]
theorem sumTo_succ {LL : List (List Int)} {k : Nat} {l : List Int} (h : LL[k]? = some l) : sumTo LL (k + 1) = sumTo LL k + l.length := by
  unfold sumTo
  rw [List.take_add_one, h]
  simp
  omega
theorem sumTo_le (LL : List (List Int)) (k : Nat) : sumTo LL k ≤ sumL LL := by
  unfold sumTo sumL
  have h : LL = LL.take k ++ LL.drop k := (List.take_append_drop k LL).symm
  have h2 : (LL.map (·.length)).sum = ((LL.take k).map (·.length)).sum + ((LL.drop k).map (·.length)).sum := by
    rw [← List.sum_append, ← List.map_append, ← h]
  omega

set_option maxRecDepth 100000 in
set_option maxHeartbeats 4000000 in
theorem great_any (LL : List (List Int)) (a : Option Addr) (c B : Nat) (w : World) (h : ListsIn w B (a, LL.length, c) LL) (hn : LL.length ≤ 100000000000000) (hl : ∀ l ∈ LL, l.length ≤ 100000000000000) :
    Calls Try.prog 17 #[.slice a LL.length c] w fun e w' => e = .returned (.bool (decide (4000 < sumL LL))) ∧ Chg (fun _ => False) w w' := by
  have HL := Lib.hid h
  have HLL := Lib.hid hl
  have HS0 : Hid (LL.length = sumTo LL 0) := Lib.hid (by simp [sumTo])
  clear h hl
  go_enter Try.func17, Try.ntmps17
  go_wp2
  go_loopw [3, 4] (fun n q wr => ∃ k s : Nat, k ≤ LL.length ∧ q = .int .i64 k ∧ n = .int .i64 s ∧ s = sumTo LL k ∧ s ≤ 200000000000000 ∧ Chg (fun _ => False) w wr) (fun _ q _ => LL.length - (intOf q).toNat)
  case atStart => exact ⟨0, LL.length, by omega, rfl, rfl, HS0.out, by omega, Chg.refl _ _⟩
  case round =>
    clear HS0
    obtain ⟨k, s, hk, rfl, rfl, hs, hb, hc⟩ := hrel
    have HS := Lib.hid hs
    have HC := Lib.hid hc
    clear hs hc
    by_cases hkl : k < LL.length
    · have b10 : decide ((k : Int) < (LL.length : Int)) = true := by simp; omega
      by_cases h4 : s ≤ 4000
      · have b13 : decide ((s : Int) ≤ 4000) = true := by simp; omega
        obtain ⟨l, g, o, la, lc, gl, ol, hlk, rfl, c0, hlc, hla, hlp, hgw, -⟩ := (HL.out.same HC.out).get hkl
        have hl9 := HLL.out l (List.mem_of_getElem? hlk)
        have HSN : Hid (s + l.length = sumTo LL (k + 1)) := Lib.hid (by rw [sumTo_succ hlk, ← HS.out])
        clear hlk hla hlp
        go_wp2
        go_roundw
        case rel => first | exact ⟨k + 1, s + l.length, by omega, by go_num, by go_num, HSN.out, by omega, HC.out⟩ | ((repeat apply Exists.intro); exact ⟨⟨k + 1, s + l.length, by omega, rfl, by go_num, HSN.out, by omega, HC.out⟩, by (repeat' apply And.intro) <;> first | rfl | go_num⟩)
        case measure => simp [intOf]; omega
      · have b13 : decide ((s : Int) ≤ 4000) = false := by simp; omega
        have b25 : decide (4000 < (s : Int)) = true := by simp; omega
        have HF : Hid (decide (4000 < sumL LL) = true) := Lib.hid (by have := sumTo_le LL k; have := HS.out; simp; omega)
        go_wp2
        go_ret
        exact ⟨by rw [HF.out]; rfl, HC.out⟩
    · obtain rfl : k = LL.length := by omega
      have b10 : decide ((LL.length : Int) < (LL.length : Int)) = false := by simp
      have HF : Hid (decide (4000 < sumL LL) = decide (4000 < (s : Int))) := Lib.hid (by rw [← sumTo_all, ← HS.out]; apply decide_eq_decide.2; omega)
      go_wp2
      go_ret
      exact ⟨by rw [HF.out]; rfl, HC.out⟩
end Go.Proofs.Ytkfakkonlnjckaa
