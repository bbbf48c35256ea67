/- The chapter's own answers ('lives'), of the memo. -/
import Derived.Test.YtoicneeecokglaaMemoE
namespace Go.Proofs.Ytoicneeecokglaa
open Go.RowKit Go.Maps

def L0 : MS := MS.new 2 1 3
def L1 : MS := L0.sayR 1 0 3
def L2 : MS := L1.sayR 1 0 (-1)
def L3 : MS := L2.askR 1 0
def L4 : MS := L3.askR 0 0
def L5 : MS := L4.askR 2 0
def L6 : MS := L5.sayP 0 3 (-1)
def L7 : MS := L6.askP 0 3
theorem l0 : L0.okR 1 0 3 = true := by decide
theorem l1 : L1.okR 1 0 (-1) = true := by decide
theorem l2 : ansOf (hasB L2.nr L2.nt 1 0) (L2.R 1 0) = .tuple #[.int .i64 3, .bool true] := by kernel_rfl
theorem l3 : ansOf (hasB L3.nr L3.nt 0 0) (L3.R 0 0) = .tuple #[.int .i64 0, .bool false] := by kernel_rfl
theorem l4 : ansOf (hasB L4.nr L4.nt 2 0) (L4.R 2 0) = .tuple #[.int .i64 0, .bool false] := by kernel_rfl
theorem l5 : L5.okP 0 3 (-1) = true := by decide
theorem l6 : ansOf (hasB L6.np L6.nt 0 3) (L6.P 0 3) = .tuple #[.int .i64 (-1), .bool true] := by kernel_rfl
theorem l7a : L7.asked = 3 := by decide
theorem l7k : L7.known = 2 := by decide
theorem l7r : L7.okR 0 2 1 = false := by decide
theorem l7p : L7.okP 0 4 0 = false := by decide
theorem l7s : L7.sayR 0 2 1 = L7 := by unfold MS.sayR; rw [l7r]; rfl
theorem l7t : L7.sayP 0 4 0 = L7 := by unfold MS.sayP; rw [l7p]; rfl
theorem fine0 : L0.Fine := ⟨by decide, by decide, by decide, by decide, by decide⟩
theorem fine1 : L1.Fine := ⟨by decide, by decide, by decide, by decide, by decide⟩
theorem fine2 : L2.Fine := ⟨by decide, by decide, by decide, by decide, by decide⟩
theorem fine3 : L3.Fine := ⟨by decide, by decide, by decide, by decide, by decide⟩
theorem fine4 : L4.Fine := ⟨by decide, by decide, by decide, by decide, by decide⟩
theorem fine5 : L5.Fine := ⟨by decide, by decide, by decide, by decide, by decide⟩
theorem fine6 : L6.Fine := ⟨by decide, by decide, by decide, by decide, by decide⟩
theorem fine7 : L7.Fine := ⟨by decide, by decide, by decide, by decide, by decide⟩
theorem w64 {x : Int} (h : -9223372036854775808 ≤ x ∧ x ≤ 9223372036854775807) : W64 x := h
theorem newB_lives : newB 2 1 3 = true := by decide

set_option maxRecDepth 100000 in
set_option maxHeartbeats 4000000 in
theorem lives_any (w : World) : Calls Try.prog 6 #[] w fun e w' => e = .returned (.bool true) ∧ Chg (fun _ => False) w w' := by
  go_enter Try.func6, Try.ntmps6
  go_wp2_with fail
  refine (new_yes 2 1 3 w newB_lives).mono ?_
  rintro e w0 ⟨b, br, bp, rfl, hm, hc, hb, hbr, hbp⟩
  have HB : Hid (w.heap.size ≤ b ∧ w.heap.size ≤ br ∧ w.heap.size ≤ bp) := Lib.hid ⟨hb, hbr, hbp⟩
  have HS : Hid (∀ (S : Nat → Prop) (W W' : World), (∀ k, S k → k = b ∨ k = br ∨ k = bp) → Chg (fun _ => False) w W → Chg S W W' → Chg (fun _ => False) w W') := by
    intro S W W' hS h1 h2
    refine ⟨h2.os.trans h1.os, h2.tape.trans h1.tape, h2.output.trans h1.output, Nat.le_trans h1.size h2.size, fun k hk _ => ?_⟩
    rw [h2.block k (Nat.lt_of_lt_of_le hk h1.size) (fun hs => by have := hS k hs; have := HB.out; omega)]
    exact h1.block k hk (fun h => h)
  have H0 : Hid (MemoAt w0 b br bp L0) := Lib.hid hm
  have C0 := Lib.hid hc
  clear hm hc hb hbr hbp
  go_wp2_with fail
  refine (sayR_at b br bp L0 1 0 3 w0 (by decide) (by decide) (by decide) H0.out fine0).mono ?_
  rintro e w1 ⟨rfl, hm, hc⟩
  rw [l0, show errOf true = .int .i64 0 from rfl]
  have H1 : Hid (MemoAt w1 b br bp L1) := Lib.hid hm
  have C1 := Lib.hid (HS.out _ _ _ (fun k h => .inr (.inl h)) C0.out hc)
  clear hm hc H0 C0
  go_wp2_with fail
  refine (sayR_at b br bp L1 1 0 (-1) w1 (by decide) (by decide) (by decide) H1.out fine1).mono ?_
  rintro e w2 ⟨rfl, hm, hc⟩
  rw [l1, show errOf true = .int .i64 0 from rfl]
  have H2 : Hid (MemoAt w2 b br bp L2) := Lib.hid hm
  have C2 := Lib.hid (HS.out _ _ _ (fun k h => .inr (.inl h)) C1.out hc)
  clear hm hc H1 C1
  go_wp2_with fail
  refine (ruleR_at b br bp L2 1 0 w2 (by decide) (by decide) H2.out fine2).mono ?_
  rintro e w3 ⟨rfl, hm, hc⟩
  rw [l2]
  have H3 : Hid (MemoAt w3 b br bp L3) := Lib.hid hm
  have C3 := Lib.hid (HS.out _ _ _ (fun k h => .inl h) C2.out hc)
  clear hm hc H2 C2
  go_wp2_with fail
  refine (ruleR_at b br bp L3 0 0 w3 (by decide) (by decide) H3.out fine3).mono ?_
  rintro e w4 ⟨rfl, hm, hc⟩
  rw [l3]
  have H4 : Hid (MemoAt w4 b br bp L4) := Lib.hid hm
  have C4 := Lib.hid (HS.out _ _ _ (fun k h => .inl h) C3.out hc)
  clear hm hc H3 C3
  go_wp2_with fail
  refine (ruleR_at b br bp L4 2 0 w4 (by decide) (by decide) H4.out fine4).mono ?_
  rintro e w5 ⟨rfl, hm, hc⟩
  rw [l4]
  have H5 : Hid (MemoAt w5 b br bp L5) := Lib.hid hm
  have C5 := Lib.hid (HS.out _ _ _ (fun k h => .inl h) C4.out hc)
  clear hm hc H4 C4
  go_wp2_with fail
  refine (sayP_at b br bp L5 0 3 (-1) w5 (by decide) (by decide) (by decide) H5.out fine5).mono ?_
  rintro e w6 ⟨rfl, hm, hc⟩
  rw [l5, show errOf true = .int .i64 0 from rfl]
  have H6 : Hid (MemoAt w6 b br bp L6) := Lib.hid hm
  have C6 := Lib.hid (HS.out _ _ _ (fun k h => .inr (.inr h)) C5.out hc)
  clear hm hc H5 C5
  go_wp2_with fail
  refine (ruleP_at b br bp L6 0 3 w6 (by decide) (by decide) H6.out fine6).mono ?_
  rintro e w7 ⟨rfl, hm, hc⟩
  rw [l6]
  have H7 : Hid (MemoAt w7 b br bp L7) := Lib.hid hm
  have C7 := Lib.hid (HS.out _ _ _ (fun k h => .inl h) C6.out hc)
  clear hm hc H6 C6
  go_wp2_with fail
  refine (counts_at b br bp L7 w7 H7.out).mono ?_
  rintro e w8 ⟨rfl, hm, hc⟩
  rw [l7a, l7k]
  have H8 := Lib.hid hm
  have C8 := Lib.hid (HS.out _ _ _ (fun k h => h.elim) C7.out hc)
  clear hm hc H7 C7
  go_wp2_with fail
  refine (sayR_at b br bp L7 0 2 1 w8 (by decide) (by decide) (by decide) H8.out fine7).mono ?_
  rintro e w9 ⟨rfl, hm, hc⟩
  rw [l7r, show errOf false = .int .i64 1 from rfl]
  rw [l7s] at hm
  have H9 := Lib.hid hm
  have C9 := Lib.hid (HS.out _ _ _ (fun k h => .inr (.inl h)) C8.out hc)
  clear hm hc H8 C8
  go_wp2_with fail
  refine (sayP_at b br bp L7 0 4 0 w9 (by decide) (by decide) (by decide) H9.out fine7).mono ?_
  rintro e w10 ⟨rfl, hm, hc⟩
  rw [l7p, show errOf false = .int .i64 1 from rfl]
  have C10 := Lib.hid (HS.out _ _ _ (fun k h => .inr (.inr h)) C9.out hc)
  clear hm hc H9 C9
  go_wp2
  go_ret
  exact ⟨rfl, C10.out⟩
end Go.Proofs.Ytoicneeecokglaa
