/- 'MemosPlay': its other ways; the whole. -/
import Derived.Test.YtoicneeecokglaaPlayB
namespace Go.Proofs.Ytoicneeecokglaa
open Go.RowKit Go.Maps

set_option maxRecDepth 100000 in
set_option maxHeartbeats 2000000 in
theorem play_long (x y z : Int) (a : Option Addr) (n cap : Nat) (w : World) (hn : 300 < n) :
    Calls Try.prog 3 #[.agg #[.int .i64 x, .int .i64 y, .int .i64 z], .slice a n cap] w fun e w' => e = .returned (.bool true) ∧ Chg (fun _ => False) w w' := by
  go_enter Try.func3, Try.ntmps3
  go_wp2_with fail
  refine (lives_any _).mono ?_
  rintro e w1 ⟨rfl, hc⟩
  have HC := Lib.hid (((Chg.refl (fun _ => False) w).alloc _).trans hc)
  clear hc
  go_wp2
  go_ret
  exact ⟨rfl, HC.out⟩

set_option maxRecDepth 100000 in
set_option maxHeartbeats 2000000 in
theorem play_no (x y z : Int) (a : Option Addr) (n cap : Nat) (w : World) (hl : n ≤ 300) (hn : newB x y z = false) :
    Calls Try.prog 3 #[.agg #[.int .i64 x, .int .i64 y, .int .i64 z], .slice a n cap] w fun e w' => e = .returned (.bool true) ∧ Chg (fun _ => False) w w' := by
  have HN := Lib.hid hn
  clear hn
  go_enter Try.func3, Try.ntmps3
  go_wp2_with fail
  refine (new_no x y z _ HN.out).mono ?_
  rintro e w0 ⟨rfl, rfl⟩
  go_wp2_with fail
  refine (refNew_no x y z _ HN.out).mono ?_
  rintro e w0 ⟨rfl, rfl⟩
  go_wp2_with fail
  refine (lives_any _).mono ?_
  rintro e w1 ⟨rfl, hc⟩
  have HC := Lib.hid (((Chg.refl (fun _ => False) w).alloc _).trans hc)
  clear hc
  go_wp2
  go_ret
  exact ⟨rfl, HC.out⟩

set_option maxRecDepth 100000 in
set_option maxHeartbeats 2000000 in
theorem play_none (x y z : Int) (a : Option Addr) (cap : Nat) (w : World) (hn : newB x y z = true) :
    Calls Try.prog 3 #[.agg #[.int .i64 x, .int .i64 y, .int .i64 z], .slice a 0 cap] w fun e w' => e = .returned (.bool true) ∧ Chg (fun _ => False) w w' := by
  have HN := Lib.hid hn
  clear hn
  go_enter Try.func3, Try.ntmps3
  go_wp2_with fail
  refine (new_yes x y z _ HN.out).mono ?_
  rintro e w0 ⟨b, br, bp, rfl, _, hc, _, _, _⟩
  have s0 := hc.cellS (p := ⟨w.heap.size, 0, none⟩) (World.cell?_alloc_new _ _ _ _) (fun h => h)
  have s1 := hc.cellS (p := ⟨w.heap.size, 1, none⟩) (World.cell?_alloc_new _ _ _ _) (fun h => h)
  have s2 := hc.cellS (p := ⟨w.heap.size, 2, none⟩) (World.cell?_alloc_new _ _ _ _) (fun h => h)
  simp at s0 s1 s2
  have HC0 := Lib.hid (((Chg.refl (fun _ => False) w).alloc _).trans hc)
  clear hc
  go_wp2_with fail
  refine (refNew_yes x y z w0 HN.out).mono ?_
  rintro e w1 ⟨rfl, _, hc⟩
  have HC1 := Lib.hid (HC0.out.trans hc)
  clear hc s0 s1 s2 HC0
  go_wp2_with fail
  go_loopw [9] (fun i wr => i = .int .i64 0 ∧ Chg (fun _ => False) w wr) (fun _ _ => 0)
  case atStart => exact ⟨rfl, HC1.out⟩
  case round =>
    obtain ⟨rfl, hc⟩ := hrel
    have HC := Lib.hid hc
    clear hc HC1
    go_wp2_with fail
    refine (lives_any wr).mono ?_
    rintro e w2 ⟨rfl, hc2⟩
    have HC2 := Lib.hid (HC.out.trans hc2)
    clear hc2
    go_wp2
    go_ret
    exact ⟨rfl, HC2.out⟩
end Go.Proofs.Ytoicneeecokglaa
