/- 'MemosApart': more than 400 bytes. -/
import Derived.Test.YtoicneeecokglaaApartB
namespace Go.Proofs.Ytoicneeecokglaa
open Go.RowKit Go.Maps

set_option maxRecDepth 100000 in
set_option maxHeartbeats 2000000 in
theorem apart_long (x y : Int) (a : Option Addr) (n cap : Nat) (w : World) (hx : 0 ≤ x ∧ x ≤ 255) (hy : 0 ≤ y ∧ y ≤ 255) (hn : 400 < n) :
    Calls Try.prog 5 #[.int .u8 x, .int .u8 y, .slice a n cap] w fun e w' => e = .returned (.bool true) ∧ Chg (fun _ => False) w w' := by
  obtain ⟨hx0, hx1⟩ := hx
  obtain ⟨hy0, hy1⟩ := hy
  have HN : Hid (newB (x % 9) (y % 9) 12 = true) := Lib.hid (by simp [newB]; omega)
  go_enter Try.func5, Try.ntmps5
  go_wp2_with fail
  refine (new_yes (x % 9) (y % 9) 12 w HN.out).mono ?_
  rintro e w0 ⟨b, br, bp, rfl, _, hc, _, _, _⟩
  have HC := Lib.hid hc
  clear hc
  go_wp2_with fail
  refine (lives_any _).mono ?_
  rintro e w1 ⟨rfl, hc⟩
  have HC1 := Lib.hid (HC.out.trans hc)
  clear hc HC
  go_wp2
  go_ret
  exact ⟨rfl, HC1.out⟩
end Go.Proofs.Ytoicneeecokglaa
