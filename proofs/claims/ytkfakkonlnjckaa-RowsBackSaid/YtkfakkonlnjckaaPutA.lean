/- slices.Clone, Grow, Clip at bytes. -/
import Derived.Test.YtkfakkonlnjckaaTwins
import Derived.Lib.SliceRun
namespace Go.Proofs.Ytkfakkonlnjckaa
open Go.RowKit

set_option maxRecDepth 100000 in
set_option maxHeartbeats 2000000 in
theorem clone_any (Z : List Int) (a : Option Addr) (g o c : Nat) (w : World) (hz : BytesAt w g o Z) (ha : 0 < Z.length → a = some ⟨g, o, none⟩) (hl : Z.length ≤ 1000000000) :
    Calls Try.prog 69 #[.slice a Z.length c] w fun e w' => ∃ v, e = .returned v ∧ Own w' w.heap.size v Z ∧ Chg (fun _ => False) w w' := by
  have HZ := Lib.hid hz
  have HA := Lib.hid ha
  have HB := Lib.hid hz.byte
  clear hz ha
  have heq : ∀ (w : World) (a : Option Addr) (n c n' c' : Nat), (binOp .eql 55 (.slice a n c) (.slice none n' c')).run Try.prog w = .ok (.bool a.isNone) w := fun w a n c n' c' => Lib.run_eql_slice_nil w _ _ a n c n' c' Try.underlying55
  cases a with
  | none =>
    obtain rfl : Z = [] := List.length_eq_zero_iff.1 (by rcases Nat.eq_zero_or_pos Z.length with h | h; · exact h
                                                         · cases HA.out h)
    go_enter Try.func69, Try.ntmps69
    go_wp2
    go_ret
    exact ⟨_, rfl, .inl ⟨rfl, rfl⟩, Chg.refl _ _⟩
  | some ad =>
    have HO : Hid (Own (w.alloc (.cells #[] 5)) w.heap.size (.slice (some ⟨w.heap.size, 0, none⟩) 0 0) []) := Lib.hid (.inr ⟨_, [], rfl, Nat.le_refl _, Row.alloc w [] _ (fun _ h => by cases h), List.prefix_refl _, by simp [maxLen]⟩)
    have HC0 : Hid (Chg (fun _ => False) w (w.alloc (.cells #[] 5))) := Lib.hid ((Chg.refl _ _).alloc _)
    have HS : Hid (w.heap.size ≤ (w.alloc (.cells #[] 5)).heap.size) := Lib.hid HC0.out.size
    go_enter Try.func69, Try.ntmps69
    go_wp2_with (at_builtin; refine wpList_append8 rfl _ _ 55 rfl w.heap.size (.slice (some ⟨w.heap.size, 0, none⟩) 0 0) [] Z (.slice (some ad) Z.length c) rfl rfl HO.out HS.out (srcBytes (HZ.out.chg HC0.out (fun _ h => h)) HA.out) HB.out (by simp; omega) ?_; intro v w1 H1 H2 H3)
    go_ret
    exact ⟨_, rfl, H1.out, (HC0.out.any.trans H2.out).fresh⟩

theorem Own.some {w : World} {B : Nat} {v : Value} {X : List Int} (h : Own w B v X) (hne : X ≠ []) : ∃ (g : Nat) (C : List Int), v = .slice (some ⟨g, 0, none⟩) X.length C.length ∧ B ≤ g ∧ Row w g C ∧ X <+: C ∧ C.length ≤ maxLen := by
  rcases h with ⟨_, rfl⟩ | h
  · exact (hne rfl).elim
  · exact h

/-- append(s, make([]byte, k)...) where there is no room. -/
theorem zeros8 {w : World} (base : Option Addr) (C0 : List Int) (hold : ∀ w' : World, Chg (fun _ => False) w w' → (Builtin.firstCells 1 C0.length (.slice base C0.length C0.length)).run Try.prog w' = .ok (bytesV C0).toArray w')
    (hX : ∀ a ∈ C0, Byte a) (k : Nat) (h0 : 0 < k) (hlen : C0.length + k ≤ 1000000000000) (ty : TypeId) :
    ∃ (w' : World) (C : List Int), (Builtin.append_ #[55, 3] ty #[.slice base C0.length C0.length, .int .i64 k]).run Try.prog w = .ok (.slice (some ⟨w.heap.size, 0, none⟩) (C0.length + k) C.length) w' ∧ Row w' w.heap.size C ∧ C0 <+: C ∧ C0.length + k ≤ C.length ∧ C.length ≤ maxLen ∧ Chg (fun _ => False) w w' := by
  obtain ⟨i, hi, hz, h1, h2⟩ := info_parts info8
  have hG := grownCap_ge w (C0.length + k) C0.length 5
  have hG2 := grownCap_le_maxLen w (C0.length + k) C0.length 5 (by unfold maxLen; omega)
  have hrun := Lib.run_append_grow_zeros (P := Try.prog) w 55 3 ty 5 i (.int .u8 0) .i64 .i64 Try.underlying55 Try.underlying3 hi hz base C0.length C0.length (bytesV C0) (by rw [h1]; exact hold _ (Chg.refl _ _).drew) k h0 (by omega) (by omega) (by omega) (by rw [h2]; omega)
    (by rw [h2]; exact growslice_fits (by omega) (by omega))
  have e3 : ∀ a b c : List Int, (bytesV a).toArray ++ (bytesV b).toArray ++ (bytesV c).toArray = (bytesV (a ++ b ++ c)).toArray := fun a b c => by simp [bytesV]
  rw [zeroCells8, zeroCells8, e3] at hrun
  obtain ⟨C, hC⟩ : ∃ C, C = C0 ++ List.replicate k 0 ++ List.replicate (grownCap w (C0.length + k) C0.length 5 - (C0.length + k)) 0 := ⟨_, rfl⟩
  rw [← hC] at hrun
  have hl : C.length = grownCap w (C0.length + k) C0.length 5 := by rw [hC]; simp only [List.length_append, List.length_replicate]; omega
  rw [← hl] at hrun
  refine ⟨w.drew.alloc (.cells (bytesV C).toArray 5), C, hrun, Row.alloc w.drew _ _ (fun a ha => ?_), by rw [hC, List.append_assoc]; exact List.prefix_append _ _, by omega, by omega, (Chg.refl _ _).drew.alloc _⟩
  rw [hC] at ha
  simp only [List.mem_append, List.mem_replicate] at ha
  rcases ha with (ha | ⟨_, rfl⟩) | ⟨_, rfl⟩
  · exact hX a ha
  · exact ⟨by omega, by omega⟩
  · exact ⟨by omega, by omega⟩

set_option maxRecDepth 100000 in
set_option maxHeartbeats 2000000 in
theorem grow_any (w : World) (B : Nat) (v : Value) (X : List Int) (h : Own w B v X) (hB : B ≤ w.heap.size) (hl : X.length ≤ 1000000000) :
    Calls Try.prog 68 #[v, .int .i64 5] w fun e w' => ∃ (v' : Value), e = .returned v' ∧ Own w' B v' X ∧ Chg (fun k => B ≤ k) w w' := by
  rcases h with ⟨rfl, rfl⟩ | ⟨g, C, rfl, hBg, hR, hp, hC⟩
  · obtain ⟨w1, C1, hrun, hR1, hp1, hl1, hm1, hc1⟩ := zeros8 (w := w) none [] (fun w' _ => run_firstCells_none w' 1 0 0 0) (fun _ h => by cases h) 5 (by omega) (by simp) 0
    have HRUN : Hid ((Builtin.append_ #[55, 3] 0 #[.slice none 0 0, .int .i64 5]).run Try.prog w = .ok (.slice (some ⟨w.heap.size, 0, none⟩) 5 C1.length) w1) := Lib.hid hrun
    have HO : Hid (Own w1 B (.slice (some ⟨w.heap.size, 0, none⟩) 0 C1.length) []) := Lib.hid (.inr ⟨_, C1, rfl, hB, hR1, hp1, hm1⟩)
    have HC := Lib.hid hc1
    unfold maxLen at hm1
    clear hrun hR1 hp1 hc1
    simp only [List.length_nil, Nat.zero_add] at hl1
    go_enter Try.func68, Try.ntmps68
    go_wp2_with (at_builtin; refine Lib.wpList_append_run _ rfl _ _ _ _ rfl _ _ rfl rfl _ _ HRUN.out ?_)
    go_ret
    exact ⟨_, rfl, HO.out, HC.out.any⟩
  · have hpl := hp.length_le
    unfold maxLen at hC
    have h2 : wrap64 ((C.length : Int) - (X.length : Int)) = (C.length : Int) - (X.length : Int) := by unfold wrap64; omega
    have h3 : wrap64 (5 - ((C.length : Int) - (X.length : Int))) = 5 - ((C.length : Int) - (X.length : Int)) := by unfold wrap64; omega
    by_cases hroom : X.length + 5 ≤ C.length
    · have HO : Hid (Own w B (.slice (some ⟨g, 0, none⟩) X.length C.length) X) := Lib.hid (.inr ⟨g, C, rfl, hBg, hR, hp, by unfold maxLen; omega⟩)
      have h4 : ¬ (5 - ((C.length : Int) - (X.length : Int)) > 0) := by omega
      clear hR hp
      go_enter Try.func68, Try.ntmps68
      go_wp2
      go_ret
      exact ⟨_, rfl, HO.out, Chg.refl _ _⟩
    · obtain ⟨w1, C1, hrun, hR1, hp1, hl1, hm1, hc1⟩ := zeros8 (w := w) (some ⟨g, 0, none⟩) C (fun w' hc => hR.first (List.prefix_refl _) _ w' hc) hR.byte (X.length + 5 - C.length) (by omega) (by omega) 0
      have h4 : 5 - ((C.length : Int) - (X.length : Int)) > 0 := by omega
      rw [show ((X.length + 5 - C.length : Nat) : Int) = 5 - ((C.length : Int) - (X.length : Int)) by omega, show C.length + (X.length + 5 - C.length) = X.length + 5 by omega] at hrun
      have HRUN := Lib.hid hrun
      have HO : Hid (Own w1 B (.slice (some ⟨w.heap.size, 0, none⟩) X.length C1.length) X) := Lib.hid (.inr ⟨_, C1, rfl, hB, hR1, hp.trans hp1, hm1⟩)
      have HC := Lib.hid hc1
      unfold maxLen at hm1
      have hl2 : X.length + 5 ≤ C1.length := by omega
      clear hrun hR1 hp1 hc1 hR hp hl1
      go_enter Try.func68, Try.ntmps68
      go_wp2_with (at_builtin; refine Lib.wpList_append_run _ rfl _ _ _ _ rfl _ _ rfl rfl _ _ HRUN.out ?_)
      go_ret
      exact ⟨_, rfl, HO.out, HC.out.any⟩

set_option maxRecDepth 100000 in
theorem clip_any (w : World) (g n c : Nat) (hn : n ≤ c) :
    Calls Try.prog 52 #[.slice (some ⟨g, 0, none⟩) n c] w fun e w' => e = .returned (.slice (some ⟨g, 0, none⟩) n n) ∧ w' = w := by
  go_enter Try.func52, Try.ntmps52
  go_wp2
  go_ret
  exact ⟨rfl, rfl⟩
end Go.Proofs.Ytkfakkonlnjckaa
