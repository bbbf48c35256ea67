/- A lexer that is not there, or that no call made: harbingerlaw11.LexersVoid. -/
import Derived.Test.YtfhmblbomkhcpaaDoorLexL
namespace Go.Proofs.YtfhmblbomkhcpaaDoor
open Go.RowKit

theorem there_nil (w : World) : Calls Tryd.prog 34 #[.pointer none] w fun e w' => e = .returned (.bool false) ∧ w = w' := by
  go_enter Tryd.func34, Tryd.ntmps34
  go_wp2
  go_ret
  exact ⟨rfl, rfl⟩
theorem there_void (b : Nat) (w : World) (h : w.cell? ⟨b, 2, none⟩ = some (.slice none 0 0)) : Calls Tryd.prog 34 #[.pointer (some ⟨b, 0, none⟩)] w fun e w' => e = .returned (.bool false) ∧ w = w' := by
  go_enter Tryd.func34, Tryd.ntmps34
  go_wp2
  go_ret
  exact ⟨rfl, rfl⟩
/-- No lexer there. -/
def NoLex (p : Option Addr) (w : World) : Prop := p = none ∨ ∃ b, p = some ⟨b, 0, none⟩ ∧ w.cell? ⟨b, 2, none⟩ = some (.slice none 0 0)
theorem there_no (p : Option Addr) (w : World) (h : NoLex p w) : Calls Tryd.prog 34 #[.pointer p] w fun e w' => e = .returned (.bool false) ∧ w = w' := by
  rcases h with rfl | ⟨b, rfl, h⟩
  · exact there_nil w
  · exact there_void b w h
theorem long_no (p : Option Addr) (s : ByteArray) (x : Int) (w : World) (h : NoLex p w) : Calls Tryd.prog 14 #[.pointer p, .string s, .int .i64 x] w fun e w' => e = .returned (.tuple #[.int .i64 (-1), .int .i64 0]) ∧ w = w' := by
  have H := Lib.hid h
  clear h
  go_enter Tryd.func14, Tryd.ntmps14
  go_wp2_with fail
  refine (there_no p w H.out).mono ?_
  rintro e w1 ⟨rfl, rfl⟩
  go_wp2
  go_ret2
  exact ⟨rfl, rfl⟩
theorem toks_no (p : Option Addr) (s : ByteArray) (w : World) (h : NoLex p w) : Calls Tryd.prog 16 #[.pointer p, .string s] w fun e w' => e = .returned (.tuple #[.slice none 0 0, .int .i64 0, .int .i64 2]) ∧ w = w' := by
  have H := Lib.hid h
  clear h
  go_enter Tryd.func16, Tryd.ntmps16
  go_wp2_with fail
  go_step3
  go_wp2_with fail
  refine (there_no p w H.out).mono ?_
  rintro e w1 ⟨rfl, rfl⟩
  go_wp2
  rw [Exit.noGoto_ret]
  exact bodyPost_ret (v := .tuple #[.slice none 0 0, .int .i64 0, .int .i64 2]) (by simp [results, Tryd.results16, go_sem]) rfl ⟨rfl, rfl⟩

set_option maxRecDepth 100000 in
set_option maxHeartbeats 4000000 in
theorem void_any (s : ByteArray) (x : Int) (w : World) (hT : Tabs w) : Calls Tryd.prog 4 #[.string s, .int .i64 x] w fun e w' => e = .returned (.bool true) ∧ Chg (fun _ => False) w w' := by
  have HT := Lib.hid hT
  clear hT
  go_enter Tryd.func4, Tryd.ntmps4
  go_upto_region 3 with (fail)
  obtain ⟨wv, hwv⟩ : ∃ x, x = (w.alloc (.cells #[.slice none 0 0, .slice none 0 0, .slice none 0 0, .slice none 0 0, .slice none 0 0] 53)).alloc (.cells #[.pointer none, .pointer (some ⟨w.heap.size, 0, none⟩)] 31) := ⟨_, rfl⟩
  have HCV : Hid (Chg (fun _ => False) w wv) := Lib.hid (by rw [hwv]; exact ((Chg.refl _ _).alloc _).alloc _)
  have hN : NoLex (some ⟨w.heap.size, 0, none⟩) wv := .inr ⟨w.heap.size, rfl, by
    rw [hwv]
    refine ((Chg.refl (fun _ => False) _).alloc _).cellS ?_ (fun h => h)
    rw [World.cell?_alloc_new]; rfl⟩
  have k0 : wv.cell? ⟨w.heap.size + 1, 0, none⟩ = some (.pointer none) := by rw [hwv]; simp
  have k1 : wv.cell? ⟨w.heap.size + 1, 1, none⟩ = some (.pointer (some ⟨w.heap.size, 0, none⟩)) := by rw [hwv]; simp
  have HN := Lib.hid hN
  rw [← hwv]
  clear hwv hN
  go_wp2
  go_loopw [7] (fun q wr => ∃ k : Nat, k ≤ 2 ∧ q = .int .i64 k ∧ wr = wv) (fun q _ => 2 - (intOf q).toNat)
  case atStart => exact ⟨0, by omega, rfl, rfl⟩
  case round =>
    obtain ⟨k, hk, rfl, rfl⟩ := hrel
    by_cases hk2 : k < 2
    · have b1 : decide ((k : Int) < 2) = true := by simp; omega
      obtain ⟨p, kc, hnl⟩ : ∃ p, wr.cell? ⟨w.heap.size + 1, k, none⟩ = some (.pointer p) ∧ NoLex p wr := by
        obtain rfl | rfl : k = 0 ∨ k = 1 := by omega
        · exact ⟨_, k0, .inl rfl⟩
        · exact ⟨_, k1, HN.out⟩
      have HNL := Lib.hid hnl
      clear hnl k0 k1
      go_wp2_with fail
      refine (long_no p s x wr HNL.out).mono ?_
      rintro e w1 ⟨rfl, rfl⟩
      go_wp2_with fail
      refine (toks_no p s wr HNL.out).mono ?_
      rintro e w1 ⟨rfl, rfl⟩
      go_wp2
      go_roundw
      case rel => exact ⟨k + 1, by omega, by go_num, by first | rfl | trivial⟩
      case measure => simp [intOf]; omega
    · obtain rfl : k = 2 := by omega
      have b1 : decide (((2 : Nat) : Int) < 2) = false := by simp
      clear k0 k1
      go_wp2_with fail
      refine (lives_any wr (HT.out.same HCV.out)).mono ?_
      rintro e w1 ⟨rfl, hc⟩
      have HC1 := Lib.hid (HCV.out.trans hc)
      clear hc
      go_wp2
      go_ret
      exact ⟨rfl, HC1.out⟩
end Go.Proofs.YtfhmblbomkhcpaaDoor
