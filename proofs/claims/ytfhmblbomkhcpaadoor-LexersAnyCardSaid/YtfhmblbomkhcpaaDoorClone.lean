/- Lists cloned. -/
import Derived.Test.YtfhmblbomkhcpaaDoorLongP
namespace Go.Proofs.YtfhmblbomkhcpaaDoor
open Go.RowKit

theorem Elt.In.src {α : Type} {E : Elt α} {w : World} {B : Nat} {a : Option Addr} {c : Nat} {L : List α} (h : E.In w B (a, L.length, c) L) : Src Tryd.prog E.sz E.sl (.slice a L.length c) L.length (E.encs L) w := by
  obtain ⟨h1, h2, g, o, h3, h4⟩ := h
  exact h3.src (fun hp => (h4 hp).1)
theorem Elt.In.ok {α : Type} {E : Elt α} {w : World} {B : Nat} {s : Sl} {L : List α} (h : E.In w B s L) : ∀ x ∈ L, E.ok x := by
  obtain ⟨h1, h2, g, o, h3, h4⟩ := h
  exact h3.ok
/-- Nothing, in a block of its own. -/
theorem Elt.Own.empty {α : Type} (E : Elt α) (w : World) (e : TypeId) : E.Own (w.alloc (.cells #[] e)) w.heap.size (.slice (some ⟨w.heap.size, 0, none⟩) 0 0) [] :=
  .inr ⟨w.heap.size, [], rfl, Nat.le_refl _, Elt.Row.alloc w [] e (fun _ h => by cases h), List.nil_prefix, by unfold maxLen; simp⟩

set_option maxRecDepth 100000 in
set_option maxHeartbeats 1000000 in
theorem cloneInt (L : List Int) (a : Option Addr) (c B : Nat) (w : World) (h : intE.In w B (a, L.length, c) L) (hl : L.length ≤ 1000000000) :
    Calls Tryd.prog 29 #[.slice a L.length c] w fun e w' => ∃ v, e = .returned v ∧ intE.Own w' w.heap.size v L ∧ Chg (fun _ => False) w w' := by
  cases a with
  | none =>
    obtain rfl : L = [] := by
      obtain ⟨h1, h2, g, o, h3, h4⟩ := h
      rcases Nat.eq_zero_or_pos L.length with h0 | h0
      · exact List.length_eq_zero_iff.1 h0
      · cases (h4 h0).1
    have hq := fun (w : World) => Lib.run_eql_slice_nil (P := Tryd.prog) w 23 intE.e none 0 c 0 0 intE.und
    go_enter Tryd.func29, Tryd.ntmps29
    go_wp2
    go_ret
    exact ⟨_, rfl, .nil _ _, Chg.refl _ _⟩
  | some ad =>
    have HL := Lib.hid h
    clear h
    have HC0 := Lib.hid ((Chg.refl (fun _ => False) w).alloc (.cells #[] intE.e))
    have hq := fun (w : World) => Lib.run_eql_slice_nil (P := Tryd.prog) w 23 intE.e (some ad) L.length c 0 0 intE.und
    go_enter Tryd.func29, Tryd.ntmps29
    go_wp2_with (at_builtin; refine Elt.wpList_append2 intE rfl _ _ 23 23 rfl rfl w.heap.size _ [] L (.slice (some ad) L.length c) rfl rfl (Elt.Own.empty intE w _) (by simp) (HL.out.same HC0.out).src (HL.out.ok) (by simp; omega) ?_; intro v' w2 HO HC HC2)
    have HF : Hid (intE.Own w2 w.heap.size v' L ∧ Chg (fun _ => False) w w2) := Lib.hid ⟨HO.out, (HC0.out.any.trans HC.out).fresh⟩
    go_ret
    exact ⟨_, rfl, HF.out.1, HF.out.2⟩
set_option maxRecDepth 100000 in
set_option maxHeartbeats 1000000 in
theorem cloneRng (L : List (Int × Int)) (a : Option Addr) (c B : Nat) (w : World) (h : rngE.In w B (a, L.length, c) L) (hl : L.length ≤ 1000000000) :
    Calls Tryd.prog 28 #[.slice a L.length c] w fun e w' => ∃ v, e = .returned v ∧ rngE.Own w' w.heap.size v L ∧ Chg (fun _ => False) w w' := by
  cases a with
  | none =>
    obtain rfl : L = [] := by
      obtain ⟨h1, h2, g, o, h3, h4⟩ := h
      rcases Nat.eq_zero_or_pos L.length with h0 | h0
      · exact List.length_eq_zero_iff.1 h0
      · cases (h4 h0).1
    have hq := fun (w : World) => Lib.run_eql_slice_nil (P := Tryd.prog) w 22 rngE.e none 0 c 0 0 rngE.und
    go_enter Tryd.func28, Tryd.ntmps28
    go_wp2
    go_ret
    exact ⟨_, rfl, .nil _ _, Chg.refl _ _⟩
  | some ad =>
    have HL := Lib.hid h
    clear h
    have HC0 := Lib.hid ((Chg.refl (fun _ => False) w).alloc (.cells #[] rngE.e))
    have hq := fun (w : World) => Lib.run_eql_slice_nil (P := Tryd.prog) w 22 rngE.e (some ad) L.length c 0 0 rngE.und
    go_enter Tryd.func28, Tryd.ntmps28
    go_wp2_with (at_builtin; refine Elt.wpList_append2 rngE rfl _ _ 22 22 rfl rfl w.heap.size _ [] L (.slice (some ad) L.length c) rfl rfl (Elt.Own.empty rngE w _) (by simp) (HL.out.same HC0.out).src (HL.out.ok) (by simp; omega) ?_; intro v' w2 HO HC HC2)
    have HF : Hid (rngE.Own w2 w.heap.size v' L ∧ Chg (fun _ => False) w w2) := Lib.hid ⟨HO.out, (HC0.out.any.trans HC.out).fresh⟩
    go_ret
    exact ⟨_, rfl, HF.out.1, HF.out.2⟩
set_option maxRecDepth 100000 in
set_option maxHeartbeats 1000000 in
theorem cloneBool (L : List Bool) (a : Option Addr) (c B : Nat) (w : World) (h : boolE.In w B (a, L.length, c) L) (hl : L.length ≤ 1000000000) :
    Calls Tryd.prog 30 #[.slice a L.length c] w fun e w' => ∃ v, e = .returned v ∧ boolE.Own w' w.heap.size v L ∧ Chg (fun _ => False) w w' := by
  cases a with
  | none =>
    obtain rfl : L = [] := by
      obtain ⟨h1, h2, g, o, h3, h4⟩ := h
      rcases Nat.eq_zero_or_pos L.length with h0 | h0
      · exact List.length_eq_zero_iff.1 h0
      · cases (h4 h0).1
    have hq := fun (w : World) => Lib.run_eql_slice_nil (P := Tryd.prog) w 27 boolE.e none 0 c 0 0 boolE.und
    go_enter Tryd.func30, Tryd.ntmps30
    go_wp2
    go_ret
    exact ⟨_, rfl, .nil _ _, Chg.refl _ _⟩
  | some ad =>
    have HL := Lib.hid h
    clear h
    have HC0 := Lib.hid ((Chg.refl (fun _ => False) w).alloc (.cells #[] boolE.e))
    have hq := fun (w : World) => Lib.run_eql_slice_nil (P := Tryd.prog) w 27 boolE.e (some ad) L.length c 0 0 boolE.und
    go_enter Tryd.func30, Tryd.ntmps30
    go_wp2_with (at_builtin; refine Elt.wpList_append2 boolE rfl _ _ 27 27 rfl rfl w.heap.size _ [] L (.slice (some ad) L.length c) rfl rfl (Elt.Own.empty boolE w _) (by simp) (HL.out.same HC0.out).src (HL.out.ok) (by simp; omega) ?_; intro v' w2 HO HC HC2)
    have HF : Hid (boolE.Own w2 w.heap.size v' L ∧ Chg (fun _ => False) w w2) := Lib.hid ⟨HO.out, (HC0.out.any.trans HC.out).fresh⟩
    go_ret
    exact ⟨_, rfl, HF.out.1, HF.out.2⟩
end Go.Proofs.YtfhmblbomkhcpaaDoor
