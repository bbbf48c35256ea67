/- 'OctetsTake': its walk. -/
import Derived.Test.YtnfniilimgfjoaaTakeB
import Derived.Test.YtnfniilimgfjoaaNumA
namespace Go.Proofs.Ytnfniilimgfjoaa
open Go.RowKit

theorem takeV_form (x : Option (Nat × Nat)) : ∃ n s e : Int, takeV x = .tuple #[.int .u32 n, .int .i64 s, .int .i64 e] := by
  cases x with
  | none => exact ⟨0, 0, 4, rfl⟩
  | some p => exact ⟨p.1, p.2, 0, rfl⟩

set_option maxRecDepth 100000 in
set_option maxHeartbeats 4000000 in
theorem octTake_any (Z : List Int) (a : Option Addr) (g o cap : Nat) (w : World) (hz : BytesAt w g o Z) (ha : 0 < Z.length → a = some ⟨g, o, none⟩) (hc : Z.length ≤ cap) (hl : Z.length ≤ 3000) :
    Calls Try.prog 4 #[.slice a Z.length cap] w fun e w' => e = .returned (.bool true) ∧ Chg (fun _ => False) w w' := by
  have HZ := Lib.hid hz
  have HA := Lib.hid ha
  obtain ⟨tn, ts, te, hT⟩ := takeV_form (takeL 0 0 Z)
  have HT := Lib.hid hT
  clear hz ha hT
  go_enter Try.func4, Try.ntmps4
  go_wp2_with fail
  refine (twinBytes_any Z a g o cap w HZ.out HA.out (by omega)).mono ?_
  rintro e w1 ⟨h, rfl, hh, hr1, hc1⟩
  have HR1 := Lib.hid hr1
  have HC1 := Lib.hid hc1
  clear hr1 hc1
  go_wp2_with fail
  refine (take_any Z (some ⟨h, 0, none⟩) h 0 (Z.length + 2) w1 (HR1.out.bytes (List.prefix_append _ _)) (fun _ => rfl) (by omega) (by omega)).mono ?_
  rintro e w2 ⟨rfl, hc2⟩
  rw [HT.out]
  have HC2 := Lib.hid hc2
  clear hc2
  go_wp2_with fail
  refine (refTake_any Z a g o cap w2 (HZ.out.chg (HC1.out.trans HC2.out) (fun _ h => h)) HA.out hc (by omega)).mono ?_
  rintro e w3 ⟨rfl, hc3⟩
  rw [HT.out]
  have HC3 := Lib.hid (HC2.out.trans hc3)
  clear hc3 HC2
  go_wp2_with fail
  refine (leftBytes_any Z Z a h g o cap w3 (HR1.out.chg HC3.out (fun h => h)) (HZ.out.chg (HC1.out.trans HC3.out) (fun _ h => h)) HA.out (by omega)).mono ?_
  rintro e w4 ⟨rfl, hc4⟩
  rw [show decide (Z = Z) = true by simp]
  have HC4 := Lib.hid (HC1.out.trans (HC3.out.trans hc4))
  clear hc4 HC1 HC3 HR1
  go_wp2_with fail
  refine (lives_any _).mono ?_
  rintro e w5 ⟨rfl, hc5⟩
  have HC5 := Lib.hid (HC4.out.trans hc5)
  clear hc5
  go_wp2
  go_ret
  exact ⟨rfl, HC5.out⟩

set_option maxRecDepth 100000 in
set_option maxHeartbeats 2000000 in
theorem octTake_long (a : Option Addr) (k cap : Nat) (w : World) (hl : 3000 < k) :
    Calls Try.prog 4 #[.slice a k cap] w fun e w' => e = .returned (.bool true) ∧ Chg (fun _ => False) w w' := by
  go_enter Try.func4, Try.ntmps4
  go_wp2_with fail
  refine (lives_any _).mono ?_
  rintro e w7 ⟨rfl, hc7⟩
  have HC7 := Lib.hid hc7
  clear hc7
  go_wp2
  go_ret
  exact ⟨rfl, HC7.out⟩
end Go.Proofs.Ytnfniilimgfjoaa
