/- The reference's memo: nothing said; let go; made. -/
import Derived.Test.YtoicneeecokglaaRefD
namespace Go.Proofs.Ytoicneeecokglaa
open Go.RowKit Go.Maps

set_option maxHeartbeats 2000000 in
theorem refSayR_no (N : Nat → Prop) (b : Nat) (s : RS) (x y z : Int) (w : World) (H : RefAt w N b s) (hok : s.okR x y z = false) :
    Calls Try.prog 10 #[.pointer (some ⟨b, 0, none⟩), .int .i64 x, .int .i64 y, .int .i64 z] w fun e w' => e = .returned (.int .i64 1) ∧ w = w' := by
  obtain ⟨vR, vP, H⟩ := H
  have c0 := H.c0
  have c2 := H.c2
  clear H
  by_cases h1 : x < 0
  · clear hok
    go_enter Try.func10, Try.ntmps10
    go_wp2
    go_ret
    exact ⟨rfl, rfl⟩
  by_cases h2 : s.nr ≤ x
  · clear hok
    go_enter Try.func10, Try.ntmps10
    go_wp2
    go_ret
    exact ⟨rfl, rfl⟩
  by_cases h3 : y < 0
  · clear hok
    go_enter Try.func10, Try.ntmps10
    go_wp2
    go_ret
    exact ⟨rfl, rfl⟩
  by_cases h4 : s.nt < y
  · clear hok
    go_enter Try.func10, Try.ntmps10
    go_wp2
    go_ret
    exact ⟨rfl, rfl⟩
  have h5 : (z != -1) = true ∧ (z < y ∨ s.nt < z) := by
    have hB : hasB s.nr s.nt x y = true := by simp [hasB]; omega
    simp only [RS.okR, hB, Bool.true_and, Bool.not_eq_false', Bool.and_eq_true, Bool.or_eq_true, decide_eq_true_eq] at hok
    exact hok
  obtain ⟨q1, h6⟩ := h5
  clear hok
  by_cases h7 : z < y
  · clear h6
    go_enter Try.func10, Try.ntmps10
    go_wp2
    go_ret
    exact ⟨rfl, rfl⟩
  · have h8 : s.nt < z := h6.resolve_left h7
    clear h6
    go_enter Try.func10, Try.ntmps10
    go_wp2
    go_ret
    exact ⟨rfl, rfl⟩

set_option maxHeartbeats 2000000 in
theorem refSayP_no (N : Nat → Prop) (b : Nat) (s : RS) (x y z : Int) (w : World) (H : RefAt w N b s) (hok : s.okP x y z = false) :
    Calls Try.prog 12 #[.pointer (some ⟨b, 0, none⟩), .int .i64 x, .int .i64 y, .int .i64 z] w fun e w' => e = .returned (.int .i64 1) ∧ w = w' := by
  obtain ⟨vR, vP, H⟩ := H
  have c0 := H.c1
  have c2 := H.c2
  clear H
  by_cases h1 : x < 0
  · clear hok
    go_enter Try.func12, Try.ntmps12
    go_wp2
    go_ret
    exact ⟨rfl, rfl⟩
  by_cases h2 : s.np ≤ x
  · clear hok
    go_enter Try.func12, Try.ntmps12
    go_wp2
    go_ret
    exact ⟨rfl, rfl⟩
  by_cases h3 : y < 0
  · clear hok
    go_enter Try.func12, Try.ntmps12
    go_wp2
    go_ret
    exact ⟨rfl, rfl⟩
  by_cases h4 : s.nt < y
  · clear hok
    go_enter Try.func12, Try.ntmps12
    go_wp2
    go_ret
    exact ⟨rfl, rfl⟩
  by_cases h5 : z < -1
  · clear hok
    go_enter Try.func12, Try.ntmps12
    go_wp2
    go_ret
    exact ⟨rfl, rfl⟩
  have h6 : 32 ≤ z := by
    have hB : hasB s.np s.nt x y = true := by simp [hasB]; omega
    simp only [RS.okP, hB, Bool.true_and, Bool.and_eq_false_iff, Bool.not_eq_false', decide_eq_true_eq] at hok
    omega
  clear hok
  go_enter Try.func12, Try.ntmps12
  go_wp2
  go_ret
  exact ⟨rfl, rfl⟩

/-- Said, or not. -/
theorem refSayR_at (N : Nat → Prop) (b : Nat) (s : RS) (x y z : Int) (w : World) (H : RefAt w N b s) (hF : s.Fine) :
    Calls Try.prog 10 #[.pointer (some ⟨b, 0, none⟩), .int .i64 x, .int .i64 y, .int .i64 z] w fun e w' => e = .returned (.int .i64 (if s.okR x y z then 0 else 1)) ∧ RefAt w' N b (s.sayR x y z) ∧ Chg (fun k => ¬ N k) w w' := by
  cases hok : s.okR x y z
  · refine (refSayR_no N b s x y z w H hok).mono ?_
    rintro e w' ⟨rfl, rfl⟩
    exact ⟨rfl, by simpa [RS.sayR, hok] using H, Chg.refl _ _⟩
  · exact refSayR_yes N b s x y z w H hF hok
/-- Said, or not. -/
theorem refSayP_at (N : Nat → Prop) (b : Nat) (s : RS) (x y z : Int) (w : World) (H : RefAt w N b s) (hF : s.Fine) :
    Calls Try.prog 12 #[.pointer (some ⟨b, 0, none⟩), .int .i64 x, .int .i64 y, .int .i64 z] w fun e w' => e = .returned (.int .i64 (if s.okP x y z then 0 else 1)) ∧ RefAt w' N b (s.sayP x y z) ∧ Chg (fun k => ¬ N k) w w' := by
  cases hok : s.okP x y z
  · refine (refSayP_no N b s x y z w H hok).mono ?_
    rintro e w' ⟨rfl, rfl⟩
    exact ⟨rfl, by simpa [RS.sayP, hok] using H, Chg.refl _ _⟩
  · exact refSayP_yes N b s x y z w H hF hok

set_option maxHeartbeats 2000000 in
theorem refClear_at (N : Nat → Prop) (b : Nat) (s : RS) (w : World) (H : RefAt w N b s) :
    Calls Try.prog 14 #[.pointer (some ⟨b, 0, none⟩)] w fun e w' => e = .returned (.tuple #[]) ∧ RefAt w' N b s.cleared ∧ Chg (fun k => ¬ N k) w w' := by
  obtain ⟨vR, vP, H⟩ := H
  have c3 := H.c3
  have c4 := H.c4
  have c5 := H.c5
  have c6 := H.c6
  have f3 := H.fz 3
  have f4 := H.fz 4
  have f5 := H.fz 5
  have f6 := H.fz 6
  have nil : ∀ w : World, w.ownsRow 0 67 3 (.slice none 0 0) ([] : List Sd).length (saidCells []) := fun w => World.ownsRow_nil w 0 _ 3
  obtain ⟨r1, g1⟩ := H.said3 (l := []) (nil w) (World.grownBy.refl w _) (fun k hk => by simp [Value.ownBlock] at hk)
  obtain ⟨r2, g2⟩ := r1.said4 (l := []) (nil _) (World.grownBy.refl _ _) (fun k hk => by simp [Value.ownBlock] at hk)
  have r3 := (r2.setAsked 0).setKnown 0
  have g3 := Chg.setCell (S := fun k => ¬ N k) (p := ⟨b, 6, none⟩) (Chg.setCell (S := fun k => ¬ N k) (p := ⟨b, 5, none⟩) (g1.trans g2) (.inr H.nb) (.int .i64 0)) (.inr H.nb) (.int .i64 0)
  have R3 := Lib.hid r3
  have G3 := Lib.hid g3
  have d4 := r1.c4
  have d5 := r2.c5
  have d6 := (r2.setAsked 0).c6
  clear H nil r1 r2 r3 g1 g2 g3
  go_enter Try.func14, Try.ntmps14
  go_wp2
  go_end0
  exact ⟨rfl, ⟨_, _, R3.out⟩, G3.out⟩

set_option maxHeartbeats 2000000 in
theorem refNew_no (r p t : Int) (w : World) (h : newB r p t = false) :
    Calls Try.prog 8 #[.int .i64 r, .int .i64 p, .int .i64 t] w fun e w' => e = .returned (.tuple #[.pointer none, .int .i64 1]) ∧ w = w' := by
  have h' : ¬ (0 ≤ r ∧ r ≤ 64 ∧ 0 ≤ p ∧ p ≤ 65536 ∧ 0 ≤ t ∧ t ≤ 16384) := by simpa [newB] using h
  clear h
  by_cases h1 : r < 0
  · clear h'
    go_enter Try.func8, Try.ntmps8
    go_wp2
    go_ret2
    exact ⟨rfl, rfl⟩
  by_cases h2 : 64 < r
  · clear h'
    go_enter Try.func8, Try.ntmps8
    go_wp2
    go_ret2
    exact ⟨rfl, rfl⟩
  by_cases h3 : p < 0
  · clear h'
    go_enter Try.func8, Try.ntmps8
    go_wp2
    go_ret2
    exact ⟨rfl, rfl⟩
  by_cases h4 : 65536 < p
  · clear h'
    go_enter Try.func8, Try.ntmps8
    go_wp2
    go_ret2
    exact ⟨rfl, rfl⟩
  by_cases h5 : t < 0
  · clear h'
    go_enter Try.func8, Try.ntmps8
    go_wp2
    go_ret2
    exact ⟨rfl, rfl⟩
  have h6 : 16384 < t := by omega
  clear h'
  go_enter Try.func8, Try.ntmps8
  go_wp2
  go_ret2
  exact ⟨rfl, rfl⟩

set_option maxHeartbeats 1000000 in
theorem refNew_yes (r p t : Int) (w : World) (h : newB r p t = true) :
    Calls Try.prog 8 #[.int .i64 r, .int .i64 p, .int .i64 t] w fun e w' => e = .returned (.tuple #[.pointer (some ⟨w.heap.size, 0, none⟩), .int .i64 0]) ∧ RefAt w' (fun k => k < w.heap.size) w.heap.size (RS.new r p t) ∧ Chg (fun _ => False) w w' := by
  obtain ⟨h1, h2, h3, h4, h5, h6⟩ : (0 ≤ r ∧ r ≤ 64 ∧ 0 ≤ p ∧ p ≤ 65536 ∧ 0 ≤ t ∧ t ≤ 16384) := by simpa [newB] using h
  clear h
  go_enter Try.func8, Try.ntmps8
  go_wp2
  go_ret2
  refine ⟨rfl, ⟨.slice none 0 0, .slice none 0 0, ?_⟩, (Chg.refl _ _).alloc _⟩
  have hc : ∀ i, (w.alloc (.cells #[.int .i64 r, .int .i64 p, .int .i64 t, .slice none 0 0, .slice none 0 0, .int .i64 0, .int .i64 0] 41)).cell? ⟨w.heap.size, i, none⟩ = #[.int .i64 r, .int .i64 p, .int .i64 t, .slice none 0 0, .slice none 0 0, .int .i64 0, .int .i64 0][i]? := fun i => World.cell?_alloc_new _ _ _ _
  exact ⟨hc 0, hc 1, hc 2, hc 3, hc 4, hc 5, hc 6, fun i => World.frozen?_alloc_new _ _ _ _, World.ownsRow_nil _ _ _ _, World.ownsRow_nil _ _ _ _, fun k hk => by simp [Value.ownBlock] at hk, fun k hk => by simp [Value.ownBlock] at hk, by simp, fun k hk => by simp; omega⟩
end Go.Proofs.Ytoicneeecokglaa
