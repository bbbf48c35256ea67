/- The statements' twins by name: lists of ints. -/
import Derived.Test.YtkfakkonlnjckaaTwinsI
namespace Go.Proofs.Ytkfakkonlnjckaa
open Go.RowKit

theorem twinNums_any (Z : List Int) (a : Option Addr) (g o c : Nat) (w : World) (hz : I.BytesAt w g o Z) (ha : 0 < Z.length → a = some ⟨g, o, none⟩) (hl : Z.length ≤ 1000000000) :
    Calls Try.prog 10 #[.slice a Z.length c] w fun e w' => ∃ h, e = .returned (.slice (some ⟨h, 0, none⟩) Z.length (Z.length + 2)) ∧ w.heap.size ≤ h ∧ I.Row w' h (Z ++ [-77, -77]) ∧ Chg (fun _ => False) w w' := by
  have HT := Lib.hid (I.twin_any Z (-77) a g o c w hz ha (by constructor <;> omega) hl)
  clear hz ha
  go_enter Try.func10, Try.ntmps10
  go_wp2_with fail
  refine HT.out.mono ?_
  rintro e w1 ⟨h, rfl, h1, h2, h3⟩
  go_wp2
  go_ret
  exact ⟨h, rfl, h1, h2, h3⟩
theorem leftNums_any (Z X : List Int) (a : Option Addr) (h g o c : Nat) (w : World) (hr : I.Row w h (X ++ [-77, -77])) (hz : I.BytesAt w g o Z) (ha : 0 < Z.length → a = some ⟨g, o, none⟩) (hl : X.length ≤ 1000000000) :
    Calls Try.prog 16 #[.slice (some ⟨h, 0, none⟩) X.length (X.length + 2), .slice a Z.length c] w fun e w' => e = .returned (.bool (decide (X = Z))) ∧ Chg (fun _ => False) w w' := by
  have HT := Lib.hid (I.left_any Z X (-77) a h g o c w hr hz ha hl)
  clear hr hz ha
  go_enter Try.func16, Try.ntmps16
  go_wp2_with fail
  refine HT.out.mono ?_
  rintro e w1 ⟨rfl, h3⟩
  go_wp2
  go_ret
  exact ⟨rfl, h3⟩
theorem sameNums_any (X Y : List Int) (ax ay : Option Addr) (gx ox gy oy cx cy : Nat) (w : World) (hx : I.BytesAt w gx ox X) (hax : 0 < X.length → ax = some ⟨gx, ox, none⟩) (hy : I.BytesAt w gy oy Y) (hay : 0 < Y.length → ay = some ⟨gy, oy, none⟩) (hl : X.length ≤ 1000000000000) :
    Calls Try.prog 33 #[.slice ax X.length cx, .slice ay Y.length cy] w fun e w' => e = .returned (.bool (decide (X = Y))) ∧ Chg (fun _ => False) w w' := by
  have HT := Lib.hid (I.same_any X Y ax ay gx ox gy oy cx cy w hx hax hy hay hl)
  clear hx hy hax hay
  go_enter Try.func33, Try.ntmps33
  go_wp2_with fail
  refine HT.out.mono ?_
  rintro e w1 ⟨rfl, h3⟩
  go_wp2
  go_ret
  exact ⟨rfl, h3⟩
end Go.Proofs.Ytkfakkonlnjckaa
