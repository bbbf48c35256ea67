/- The statements' twins by name: lists of bytes. -/
import Derived.Test.YtkfakkonlnjckaaTwins
namespace Go.Proofs.Ytkfakkonlnjckaa
open Go.RowKit

theorem twinBytes_any (Z : List Int) (a : Option Addr) (g o c : Nat) (w : World) (hz : BytesAt w g o Z) (ha : 0 < Z.length → a = some ⟨g, o, none⟩) (hl : Z.length ≤ 1000000000) :
    Calls Try.prog 31 #[.slice a Z.length c] w fun e w' => ∃ h, e = .returned (.slice (some ⟨h, 0, none⟩) Z.length (Z.length + 2)) ∧ w.heap.size ≤ h ∧ Row w' h (Z ++ [195, 195]) ∧ Chg (fun _ => False) w w' := by
  have HT := Lib.hid (twin_any Z (195) a g o c w hz ha (by constructor <;> omega) hl)
  clear hz ha
  go_enter Try.func31, Try.ntmps31
  go_wp2_with fail
  refine HT.out.mono ?_
  rintro e w1 ⟨h, rfl, h1, h2, h3⟩
  go_wp2
  go_ret
  exact ⟨h, rfl, h1, h2, h3⟩
theorem leftBytes_any (Z X : List Int) (a : Option Addr) (h g o c : Nat) (w : World) (hr : Row w h (X ++ [195, 195])) (hz : BytesAt w g o Z) (ha : 0 < Z.length → a = some ⟨g, o, none⟩) (hl : X.length ≤ 1000000000) :
    Calls Try.prog 34 #[.slice (some ⟨h, 0, none⟩) X.length (X.length + 2), .slice a Z.length c] w fun e w' => e = .returned (.bool (decide (X = Z))) ∧ Chg (fun _ => False) w w' := by
  have HT := Lib.hid (left_any Z X (195) a h g o c w hr hz ha hl)
  clear hr hz ha
  go_enter Try.func34, Try.ntmps34
  go_wp2_with fail
  refine HT.out.mono ?_
  rintro e w1 ⟨rfl, h3⟩
  go_wp2
  go_ret
  exact ⟨rfl, h3⟩
theorem sameBytes_any (X Y : List Int) (ax ay : Option Addr) (gx ox gy oy cx cy : Nat) (w : World) (hx : BytesAt w gx ox X) (hax : 0 < X.length → ax = some ⟨gx, ox, none⟩) (hy : BytesAt w gy oy Y) (hay : 0 < Y.length → ay = some ⟨gy, oy, none⟩) (hl : X.length ≤ 1000000000000) :
    Calls Try.prog 27 #[.slice ax X.length cx, .slice ay Y.length cy] w fun e w' => e = .returned (.bool (decide (X = Y))) ∧ Chg (fun _ => False) w w' := by
  have HT := Lib.hid (same_any X Y ax ay gx ox gy oy cx cy w hx hax hy hay hl)
  clear hx hy hax hay
  go_enter Try.func27, Try.ntmps27
  go_wp2_with fail
  refine HT.out.mono ?_
  rintro e w1 ⟨rfl, h3⟩
  go_wp2
  go_ret
  exact ⟨rfl, h3⟩
end Go.Proofs.Ytkfakkonlnjckaa
