/- 'MemosVoid': its walk. -/
import Derived.Test.YtoicneeecokglaaMemoL
import Derived.LoopTactic
namespace Go.Proofs.Ytoicneeecokglaa
open Go.RowKit Go.Maps

structure VoidAt (w : World) (ab mb lb : Nat) (c : Value) (x y z : Int) : Prop where
  a0 : w.cell? ⟨ab, 0, none⟩ = some c
  a1 : w.cell? ⟨ab, 1, none⟩ = some (.int .i64 x)
  a2 : w.cell? ⟨ab, 2, none⟩ = some (.int .i64 y)
  a3 : w.cell? ⟨ab, 3, none⟩ = some (.int .i64 z)
  m1 : w.cell? ⟨mb, 1, none⟩ = some (.map none)
  l0 : w.cell? ⟨lb, 0, none⟩ = some (.pointer none)
  l1 : w.cell? ⟨lb, 1, none⟩ = some (.pointer (some ⟨mb, 0, none⟩))
theorem VoidAt.chg {w w' : World} {ab mb lb : Nat} {c : Value} {x y z : Int} (h : VoidAt w ab mb lb c x y z) (hc : Chg (fun _ => False) w w') : VoidAt w' ab mb lb c x y z :=
  ⟨hc.cellS h.a0 (fun h => h), hc.cellS h.a1 (fun h => h), hc.cellS h.a2 (fun h => h), hc.cellS h.a3 (fun h => h), hc.cellS h.m1 (fun h => h), hc.cellS h.l0 (fun h => h), hc.cellS h.l1 (fun h => h)⟩

set_option maxRecDepth 100000 in
set_option maxHeartbeats 4000000 in
theorem void_any (c : Value) (x y z : Int) (w : World) :
    Calls Try.prog 4 #[.agg #[c, .int .i64 x, .int .i64 y, .int .i64 z]] w fun e w' => e = .returned (.bool true) ∧ Chg (fun _ => False) w w' := by
  go_enter Try.func4, Try.ntmps4
  go_wp2
  have F0 : VoidAt (((w.alloc (Obj.cells #[c, .int .i64 x, .int .i64 y, .int .i64 z] 33)).alloc (Obj.cells #[.int .i64 0, .map none, .int .i64 0, .map none, .int .i64 0, .int .i64 0, .int .i64 0] 54)).alloc
      (Obj.cells #[.pointer none, .pointer (some ⟨w.heap.size + 1, 0, none⟩)] 25)) w.heap.size (w.heap.size + 1) (w.heap.size + 1 + 1) c x y z := by
    constructor <;> simp [go_sem]
  have C0 : Chg (fun _ => False) w (((w.alloc (Obj.cells #[c, .int .i64 x, .int .i64 y, .int .i64 z] 33)).alloc (Obj.cells #[.int .i64 0, .map none, .int .i64 0, .map none, .int .i64 0, .int .i64 0, .int .i64 0] 54)).alloc
      (Obj.cells #[.pointer none, .pointer (some ⟨w.heap.size + 1, 0, none⟩)] 25)) := (((Chg.refl _ _).alloc _).alloc _).alloc _
  have HF0 := Lib.hid F0
  have HC0 := Lib.hid C0
  clear F0 C0
  go_loopw [5] (fun i wr => ∃ k : Nat, k ≤ 2 ∧ i = .int .i64 k ∧ VoidAt wr w.heap.size (w.heap.size + 1) (w.heap.size + 1 + 1) c x y z ∧ Chg (fun _ => False) w wr) (fun i _ => 2 - (intOf i).toNat)
  case atStart => exact ⟨0, by omega, rfl, HF0.out, HC0.out⟩
  case round =>
    obtain ⟨k, hk, rfl, f, hc⟩ := hrel
    have HC := Lib.hid hc
    have hf0 := f.a0
    have hf1 := f.a1
    have hf2 := f.a2
    have hf3 := f.a3
    have hf4 := f.l0
    have hf5 := f.l1
    clear hc HF0 HC0
    obtain rfl | rfl | rfl : k = 0 ∨ k = 1 ∨ k = 2 := by omega
    · go_wp2_with fail
      refine (ruleR_nil x y wr).mono ?_
      rintro e _ ⟨rfl, rfl⟩
      go_wp2_with fail
      refine (ruleP_nil x y wr).mono ?_
      rintro e _ ⟨rfl, rfl⟩
      go_wp2_with fail
      refine (clear_nil wr).mono ?_
      rintro e _ ⟨rfl, rfl⟩
      go_wp2_with fail
      refine (counts_nil wr).mono ?_
      rintro e _ ⟨rfl, rfl⟩
      go_wp2_with fail
      refine (sayR_nil x y z wr).mono ?_
      rintro e w1 ⟨rfl, hc1⟩
      have f1 := Lib.hid (f.chg hc1)
      have HC1 := Lib.hid (HC.out.trans hc1)
      have a1' := f1.out.a1
      have a2' := f1.out.a2
      have a3' := f1.out.a3
      clear hc1
      go_wp2_with fail
      refine (sayP_nil x y z w1).mono ?_
      rintro e w2 ⟨rfl, hc2⟩
      have f2 := Lib.hid (f1.out.chg hc2)
      have HC2 := Lib.hid (HC1.out.trans hc2)
      clear hc2
      go_wp2
      go_roundw
      case rel => exact ⟨1, by omega, rfl, f2.out, HC2.out⟩
      case measure => simp [intOf]
    · go_wp2_with fail
      refine (ruleR_void _ x y wr f.m1).mono ?_
      rintro e _ ⟨rfl, rfl⟩
      go_wp2_with fail
      refine (ruleP_void _ x y wr f.m1).mono ?_
      rintro e _ ⟨rfl, rfl⟩
      go_wp2_with fail
      refine (clear_void _ wr f.m1).mono ?_
      rintro e _ ⟨rfl, rfl⟩
      go_wp2_with fail
      refine (counts_void _ wr f.m1).mono ?_
      rintro e _ ⟨rfl, rfl⟩
      go_wp2_with fail
      refine (sayR_void _ x y z wr f.m1).mono ?_
      rintro e w1 ⟨rfl, hc1⟩
      have f1 := Lib.hid (f.chg hc1)
      have HC1 := Lib.hid (HC.out.trans hc1)
      have a1' := f1.out.a1
      have a2' := f1.out.a2
      have a3' := f1.out.a3
      clear hc1
      go_wp2_with fail
      refine (sayP_void _ x y z w1 f1.out.m1).mono ?_
      rintro e w2 ⟨rfl, hc2⟩
      have f2 := Lib.hid (f1.out.chg hc2)
      have HC2 := Lib.hid (HC1.out.trans hc2)
      clear hc2
      go_wp2
      go_roundw
      case rel => exact ⟨2, by omega, rfl, f2.out, HC2.out⟩
      case measure => simp [intOf]
    · go_wp2_with fail
      refine (lives_any wr).mono ?_
      rintro e w2 ⟨rfl, hc2⟩
      have HC2 := Lib.hid (HC.out.trans hc2)
      clear hc2
      go_wp2
      go_ret
      exact ⟨rfl, HC2.out⟩
end Go.Proofs.Ytoicneeecokglaa
