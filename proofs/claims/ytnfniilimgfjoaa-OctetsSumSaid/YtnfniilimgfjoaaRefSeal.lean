/- The document's Seal; Seal by sums that are not there. -/
import Derived.Test.YtnfniilimgfjoaaRefOf
import Derived.Test.YtnfniilimgfjoaaOpenS
namespace Go.Proofs.Ytnfniilimgfjoaa
open Go.RowKit

def dN (N : Int) : Nat → Int
  | 0 => N
  | j + 1 => dN N j / 256
def digs (N : Int) : Nat → List Int
  | 0 => []
  | j + 1 => digs N j ++ [dN N j % 256]
theorem dN_range {N : Int} (h0 : 0 ≤ N) (h1 : N ≤ 4294967295) (j : Nat) : 0 ≤ dN N j ∧ dN N j ≤ 4294967295 := by
  induction j with
  | zero => exact ⟨h0, h1⟩
  | succ j ih => show 0 ≤ dN N j / 256 ∧ dN N j / 256 ≤ 4294967295; omega
theorem digs_four {N : Int} (h0 : 0 ≤ N) (h1 : N ≤ 4294967295) : digs N 4 = fourL N := by
  simp only [digs, dN, fourL, List.nil_append, List.cons_append, List.cons.injEq, and_true, true_and]
  omega
theorem digs_len (N : Int) (j : Nat) : (digs N j).length = j := by
  induction j with
  | zero => rfl
  | succ j ih => simp [digs, ih]

set_option maxRecDepth 100000 in
set_option maxHeartbeats 2000000 in
theorem refSeal_any (Z : List Int) (a : Option Addr) (g o c : Nat) (w : World) (hz : BytesAt w g o Z) (ha : 0 < Z.length → a = some ⟨g, o, none⟩) (hl : Z.length ≤ 1000000) :
    Calls Try.prog 23 #[.slice a Z.length c] w fun e w' => ∃ v, e = .returned v ∧ Own w' w.heap.size v (sealL Z) ∧ Chg (fun _ => False) w w' := by
  have HOF := Lib.hid (refOf_any Z a g o c w hz ha hl)
  have HZ := Lib.hid hz
  have HA := Lib.hid ha
  have HBZ := Lib.hid hz.byte
  obtain ⟨r0, r1⟩ := ofI_range Z
  obtain ⟨N, hN⟩ : ∃ N, ofI Z = N := ⟨_, rfl⟩
  have HS : Hid (sealL Z = Z ++ fourL N) := Lib.hid (by rw [sealL, hN])
  rw [hN] at HOF r0 r1
  clear hz ha hN
  go_enter Try.func23, Try.ntmps23
  go_wp2_with fail
  refine HOF.out.mono ?_
  rintro e w1 ⟨rfl, hc1⟩
  have HC1 := Lib.hid hc1
  clear hc1 HOF
  go_wp2_with (at_builtin; refine wpList_append8 rfl _ _ 22 rfl w1.heap.size (.slice none 0 0) [] Z (.slice a Z.length c) rfl rfl (.inl ⟨rfl, rfl⟩) (Nat.le_refl _) (srcBytes (HZ.out.chg HC1.out (fun _ h => h)) HA.out) HBZ.out (by simp; omega) ?_; intro v2 w2 H1 H2 H3)
  go_loopw [3, 4, 5] (fun n v i wr => ∃ j : Nat, j ≤ 4 ∧ i = .int .i64 j ∧ n = .int .u32 (dN N j) ∧ Own wr w1.heap.size v (([] ++ Z) ++ digs N j) ∧ Chg (fun k => w1.heap.size ≤ k) w1 wr) (fun _ _ i _ => 4 - (intOf i).toNat)
  case atStart => exact ⟨0, by omega, rfl, rfl, by simpa [digs] using H1.out, H2.out⟩
  case round =>
    clear H1 H2 H3
    obtain ⟨j, hj, rfl, rfl, ho, hc⟩ := hrel
    have HO := Lib.hid ho
    have HC := Lib.hid hc
    clear ho hc
    obtain ⟨d0, d1⟩ := dN_range r0 r1 j
    by_cases hj4 : j < 4
    · obtain ⟨D, hD⟩ : ∃ D, dN N j = D := ⟨_, rfl⟩
      have HDD := Lib.hid hD
      rw [hD] at d0 d1 ⊢
      clear hD
      have hm : D % 256 % 256 = D % 256 := by omega
      have HY : Hid (∀ a ∈ [D % 256], Byte a) := Lib.hid (by simp; omega)
      have hdl := digs_len N j
      have b11 : decide ((j : Int) < 4) = true := by simp; omega
      go_wp2_with (at_builtin; refine wpList_append8 rfl _ _ 22 rfl w1.heap.size _ (([] ++ Z) ++ digs N j) [D % 256] (.slice (some ⟨wr.heap.size, 0, none⟩) 1 1) rfl rfl (HO.out.chg ((Chg.refl (fun _ => False) wr).alloc _) (fun _ _ _ h => h)) (Nat.le_trans HC.out.size ((Chg.refl (fun _ => False) wr).alloc _).size) (srcLit 1 HY.out) HY.out (by simp; omega) ?_; intro v3 w3 K1 K2 K3)
      have HX : Hid (Own w3 w1.heap.size v3 (([] ++ Z) ++ digs N (j + 1)) ∧ Chg (fun k => w1.heap.size ≤ k) w1 w3 ∧ dN N (j + 1) = D / 256) := Lib.hid ⟨by rw [digs, ← List.append_assoc, HDD.out]; exact K1.out, HC.out.trans (((Chg.refl _ _).alloc _).trans K2.out), by rw [dN, HDD.out]⟩
      go_roundw
      case rel => first | exact ⟨j + 1, by omega, by go_num, by rw [HX.out.2.2], HX.out.1, HX.out.2.1⟩ | ((repeat apply Exists.intro); exact ⟨⟨j + 1, by omega, rfl, by rw [HX.out.2.2], HX.out.1, HX.out.2.1⟩, rfl⟩)
      case measure => simp [intOf]; omega
    · obtain rfl : j = 4 := by omega
      have HX : Hid (∀ v, Own wr w1.heap.size v (([] ++ Z) ++ digs N 4) → Own wr w.heap.size v (sealL Z)) := Lib.hid (fun v h => by
        rw [HS.out, ← digs_four r0 r1]
        exact h.lower HC1.out.size)
      have HO2 := Lib.hid (HX.out _ HO.out)
      clear HX HO
      go_wp2
      go_ret
      exact ⟨_, rfl, HO2.out, HC1.out.trans HC.out.fresh⟩
end Go.Proofs.Ytnfniilimgfjoaa
