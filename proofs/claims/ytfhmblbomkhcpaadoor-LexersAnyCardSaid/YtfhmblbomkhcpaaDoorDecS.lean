/- The library's decoder of a string's first rune, by the shelf's contract; the program's Decode; how long a rune is (the layings printed by wip/gen/decs.py for one seat). -/
import Derived.Test.YtfhmblbomkhcpaaDoorDecR
import Derived.Shelf.Unicode.DecodeAny
namespace Go.Proofs.YtfhmblbomkhcpaaDoor
open Go.RowKit

def lays197_ren : Go.Shelf.Ren := ⟨fun | 197 => 36 | 260 => 55 | n => n, fun | 9 => 9 | 21 => 21 | 3 => 3 | 4 => 4 | 5 => 5 | 105 => 75 | 119 => 101 | 0 => 0 | 46 => 102 | 139 => 105 | 138 => 104 | n => n, fun | 3 => 0 | 4 => 1 | n => n⟩
theorem lays197 : Go.Proofs.Lays.n197 Tryd.prog lays197_ren := {
  mixed := by kernel_rfl
  f197 := Tryd.func36.trans (congrArg some (by kernel_rfl))
  f260 := Tryd.func55.trans (congrArg some (by kernel_rfl))
  t0 := Tryd.underlying0
  a0 := Tryd.isAgg0
  z0 := Tryd.sizeOf0
  v0 := Tryd.zeroValue0
  t3 := Tryd.underlying3
  a3 := Tryd.isAgg3
  z3 := Tryd.sizeOf3
  v3 := Tryd.zeroValue3
  t4 := Tryd.underlying4
  a4 := Tryd.isAgg4
  z4 := Tryd.sizeOf4
  v4 := Tryd.zeroValue4
  t5 := Tryd.underlying5
  a5 := Tryd.isAgg5
  z5 := Tryd.sizeOf5
  v5 := Tryd.zeroValue5
  t9 := Tryd.underlying9
  a9 := Tryd.isAgg9
  z9 := Tryd.sizeOf9
  v9 := Tryd.zeroValue9
  t21 := Tryd.underlying21
  a21 := Tryd.isAgg21
  z21 := Tryd.sizeOf21
  v21 := Tryd.zeroValue21
  t46 := Tryd.underlying102
  a46 := Tryd.isAgg102
  z46 := Tryd.sizeOf102
  v46 := Tryd.zeroValue102
  t105 := Tryd.underlying75
  a105 := Tryd.isAgg75
  z105 := Tryd.sizeOf75
  v105 := Tryd.zeroValue75
  t119 := Tryd.underlying101
  a119 := Tryd.isAgg101
  z119 := Tryd.sizeOf101
  t138 := Tryd.underlying104
  a138 := Tryd.isAgg104
  z138 := Tryd.sizeOf104
  v138 := Tryd.zeroValue104
  t139 := Tryd.underlying105
  a139 := Tryd.isAgg105
  z139 := Tryd.sizeOf105
  v139 := Tryd.zeroValue105
  g3 := by kernel_rfl
  g4 := by kernel_rfl }


/-- The library's two tables, as they are laid. -/
def Tabs (w : World) : Prop := Lib.Utf8Tabs (lays197_ren.g 3) (lays197_ren.g 4) w
theorem Tabs.chg {S : Nat → Prop} {w w' : World} (h : Tabs w) (hc : Chg S w w') (hs : ∀ g, g = lays197_ren.g 3 ∨ g = lays197_ren.g 4 → ¬ S g) : Tabs w' :=
  ⟨fun c hcl => hc.cellS (h.1 c hcl) (hs _ (.inl rfl)), fun i hi => ⟨hc.cellS (h.2 i hi).1 (hs _ (.inr rfl)), hc.cellS (h.2 i hi).2 (hs _ (.inr rfl))⟩⟩
theorem Tabs.same {w w' : World} (h : Tabs w) (hc : Chg (fun _ => False) w w') : Tabs w' := h.chg hc (fun _ _ h => h)
theorem decode_any (s : ByteArray) (w : World) (hT : Tabs w) : Calls Tryd.prog 36 #[.string s] w fun e w' => e = .returned (.tuple #[.int .i32 (Lib.decodeGo s).1, .int .i64 (Lib.decodeGo s).2]) ∧ Chg (fun _ => False) w w' :=
  (Any.utf8_DecodeRuneInString lays197 s w hT).mono fun _ _ ⟨h1, h2⟩ => ⟨h1, Chg.of_below h2 _⟩
theorem decodeGo_at {s : ByteArray} {i : Nat} (hi : i < s.size) : Lib.decodeGo (s.extract i s.size) = Utf8.decode s i := by
  unfold Lib.decodeGo
  rw [if_neg (by rw [Lib.tail_size]; omega), Lib.tail_decode, Nat.add_zero]
theorem runeLen_any (r : Int) (w : World) : Calls Tryd.prog 35 #[.int .i32 r] w fun e w' => e = .returned (.int .i64 (Lib.runeLen r)) ∧ w = w' := by
  go_enter Tryd.func35, Tryd.ntmps35
  go_wp2
  all_goals (go_ret; refine ⟨?_, rfl⟩; unfold Lib.runeLen; (repeat' split) <;> first | rfl | (exfalso; omega))

set_option maxRecDepth 100000 in
set_option maxHeartbeats 2000000 in
theorem runeDecode_in (s : ByteArray) (i : Nat) (w : World) (hT : Tabs w) (hi : i < s.size) : Calls Tryd.prog 49 #[.string s, .int .i64 i] w fun e w' => e = .returned (decV s i) ∧ Chg (fun _ => False) w w' := by
  have d0 : decide ((i : Int) < 0) = false := by simp <;> omega
  have d1 : decide ((s.size : Int) ≤ (i : Int)) = false := by simp; omega
  have d1' : decide (s.size ≤ i) = false := by simp; omega
  have HT := Lib.hid hT
  have HD := Lib.hid (decodeGo_at hi)
  clear hT
  cases hd : decU s i with
  | none =>
    have HF : Hid (decV s i = .tuple #[.int .i32 0, .int .i64 1, .bool false]) := Lib.hid (by unfold decV; rw [hd])
    have hu := decU_no hd
    rw [hu] at HD
    clear hd hu
    go_enter Tryd.func49, Tryd.ntmps49
    go_wp2_with fail
    refine (decode_any (s.extract i s.size) w HT.out).mono ?_
    rintro e w1 ⟨rfl, hc⟩
    rw [HD.out]
    have HC := Lib.hid hc
    clear hc
    go_wp2
    exact bodyPost_ret (v := .tuple #[.int .i32 0, .int .i64 1, .bool false]) (by simp [results, Tryd.results49, go_sem]) rfl ⟨by rw [HF.out], HC.out⟩
  | some p =>
    obtain ⟨c, n⟩ := p
    obtain ⟨hu, h1, h2, h3, h4, h5, h6⟩ := decU_some hi hd
    have HF : Hid (decV s i = .tuple #[.int .i32 c, .int .i64 n, .bool true]) := Lib.hid (by unfold decV; rw [hd])
    rw [hu] at HD
    clear hd hu
    by_cases hc : c = 65533
    · have d2 : ((c : Int) == 65533) = true := by simp; omega
      have d3 : ((n : Int) == 1) = false := by simp; omega
      clear hc h5 h6
      go_enter Tryd.func49, Tryd.ntmps49
      go_wp2_with fail
      refine (decode_any (s.extract i s.size) w HT.out).mono ?_
      rintro e w1 ⟨rfl, hc⟩
      rw [HD.out]
      have HC := Lib.hid hc
      clear hc
      go_wp2
      exact bodyPost_ret (v := .tuple #[.int .i32 c, .int .i64 n, .bool true]) (by simp [results, Tryd.results49, go_sem]) rfl ⟨by rw [HF.out], HC.out⟩
    · have d2 : ((c : Int) == 65533) = false := by simp; omega
      clear hc h5 h6
      go_enter Tryd.func49, Tryd.ntmps49
      go_wp2_with fail
      refine (decode_any (s.extract i s.size) w HT.out).mono ?_
      rintro e w1 ⟨rfl, hc⟩
      rw [HD.out]
      have HC := Lib.hid hc
      clear hc
      go_wp2
      exact bodyPost_ret (v := .tuple #[.int .i32 c, .int .i64 n, .bool true]) (by simp [results, Tryd.results49, go_sem]) rfl ⟨by rw [HF.out], HC.out⟩
end Go.Proofs.YtfhmblbomkhcpaaDoor
