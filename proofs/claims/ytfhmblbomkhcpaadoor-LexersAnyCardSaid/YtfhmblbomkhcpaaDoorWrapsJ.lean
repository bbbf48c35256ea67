/- The statements' twins by name: lists of ints (WrapsI's own but for SameNums, which this seat lacks). -/
import Derived.Test.YtfhmblbomkhcpaaDoorTwinsI
namespace Go.Proofs.YtfhmblbomkhcpaaDoor
open Go.RowKit

theorem twinNums_any (Z : List Int) (a : Option Addr) (g o c : Nat) (w : World) (hz : I.BytesAt w g o Z) (ha : 0 < Z.length → a = some ⟨g, o, none⟩) (hl : Z.length ≤ 1000000000) :
    Calls Tryd.prog 25 #[.slice a Z.length c] w fun e w' => ∃ h, e = .returned (.slice (some ⟨h, 0, none⟩) Z.length (Z.length + 2)) ∧ w.heap.size ≤ h ∧ I.Row w' h (Z ++ [-77, -77]) ∧ Chg (fun _ => False) w w' := by
  have HT := Lib.hid (I.twin_any Z (-77) a g o c w hz ha (by constructor <;> omega) hl)
  clear hz ha
  go_enter Tryd.func25, Tryd.ntmps25
  go_wp2_with fail
  refine HT.out.mono ?_
  rintro e w1 ⟨h, rfl, h1, h2, h3⟩
  go_wp2
  go_ret
  exact ⟨h, rfl, h1, h2, h3⟩
theorem leftNums_any (Z X : List Int) (a : Option Addr) (h g o c : Nat) (w : World) (hr : I.Row w h (X ++ [-77, -77])) (hz : I.BytesAt w g o Z) (ha : 0 < Z.length → a = some ⟨g, o, none⟩) (hl : X.length ≤ 1000000000) :
    Calls Tryd.prog 33 #[.slice (some ⟨h, 0, none⟩) X.length (X.length + 2), .slice a Z.length c] w fun e w' => e = .returned (.bool (decide (X = Z))) ∧ Chg (fun _ => False) w w' := by
  have HT := Lib.hid (I.left_any Z X (-77) a h g o c w hr hz ha hl)
  clear hr hz ha
  go_enter Tryd.func33, Tryd.ntmps33
  go_wp2_with fail
  refine HT.out.mono ?_
  rintro e w1 ⟨rfl, h3⟩
  go_wp2
  go_ret
  exact ⟨rfl, h3⟩
end Go.Proofs.YtfhmblbomkhcpaaDoor
