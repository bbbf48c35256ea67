/- sync.Once: the table is filled once. -/
import Derived.Test.YtnfniilimgfjoaaSumsA
namespace Go.Proofs.Ytnfniilimgfjoaa
open Go.RowKit

theorem SumsAt.lock {w : World} {b : Nat} {d l : Int} {T : Nat → Int} (h : SumsAt w b d l T) (l' : Int) : SumsAt (w.setCell ⟨b, 1, none⟩ (.int .i32 l')) b d l' T :=
  ⟨(World.cell?_setCell_other _ _ _ _ (by simp)).trans h.c0, World.cell?_setCell_same _ _ _ h.c1, fun i hi => (World.cell?_setCell_other _ _ _ _ (by intro e; injection e with _ e; omega)).trans (h.tab i hi), fun j => (World.frozen?_setCell _ _ _ _).trans (h.z j)⟩
theorem SumsAt.mark {w : World} {b : Nat} {d l : Int} {T : Nat → Int} (h : SumsAt w b d l T) (d' : Int) : SumsAt (w.drew.setCell ⟨b, 0, none⟩ (.int .u32 d')) b d' l T :=
  ⟨World.cell?_setCell_same _ _ _ ((World.cell?_drew _ _).trans h.c0), (World.cell?_setCell_other _ _ _ _ (by simp)).trans ((World.cell?_drew _ _).trans h.c1), fun i hi => (World.cell?_setCell_other _ _ _ _ (by intro e; injection e with _ e; omega)).trans ((World.cell?_drew _ _).trans (h.tab i hi)), fun j => (World.frozen?_setCell _ _ _ _).trans (h.z j)⟩

set_option maxRecDepth 100000 in
set_option maxHeartbeats 1600000 in
/-- The slow road, not yet done, the lock free. -/
theorem slow_any (b : Nat) (T : Nat → Int) (w : World) (h : SumsAt w b 0 0 T) :
    Calls Try.prog 37 #[.pointer (some ⟨b, 0, none⟩), .func (.func 35) #[.pointer (some ⟨b, 0, none⟩)] #[]] w fun e w' => e = .returned (.tuple #[]) ∧ SumsAt w' b 1 0 tabI ∧ Chg (· = b) w w' := by
  have H := Lib.hid h
  have H1 := Lib.hid (h.lock 1)
  have HC1 := Lib.hid (setCellChg w b 1 (.int .i32 1))
  have hl := run_call_load (P := Try.prog) Try.func38 (by kernel_rfl) (by kernel_rfl) (by kernel_rfl) .u32 (by kernel_rfl) (w := w.setCell ⟨b, 1, none⟩ (.int .i32 1)) (a := ⟨b, 0, none⟩) (x := 0) H1.out.c0
  have hnot : ∀ (x : Bool) (w : World), (Op.unary .not (.bool x)).run Try.prog w = .ok (.bool (!x)) w := fun _ _ => rfl
  clear h
  go_enter_defers Try.func37, Try.ntmps37
  go_wp2_with (first | (go_at_call 39; refine (lock_free ⟨b, 1, none⟩ _ H.out.c1 (H.out.z 1)).mono ?_; rintro e w' ⟨rfl, rfl⟩) | (go_at_call 36; go_in))
  refine (fill_any b 0 1 T _ H1.out).mono ?_
  rintro e w2 ⟨rfl, h2, hc2⟩
  have H2 := Lib.hid h2
  have HC2 := Lib.hid (HC1.out.trans hc2)
  clear h2 hc2 H H1 HC1 hl
  go_wp2
  refine leaves_cons (f := 41) (args := #[.pointer (some ⟨b, 0, none⟩), .bool true]) (by simp) (by simp [go_sem]) ?_
  refine (store_deferred ⟨b, 0, none⟩ (.int .u32 0) .returning _ H2.out.c0 (H2.out.z 0)).mono ?_
  rintro e u' w'' ⟨rfl, rfl, rfl⟩
  refine leaves_cons (f := 40) (args := #[.pointer (some ⟨b, 1, none⟩)]) (by simp [settle]) (by simp [go_sem]) ?_
  refine (unlock_deferred ⟨b, 1, none⟩ _ _ (H2.out.mark 1).c1 ((H2.out.mark 1).z 1)).mono ?_
  rintro e u' w'' ⟨rfl, rfl, rfl⟩
  have HF : Hid (SumsAt ((w2.drew.setCell ⟨b, 0, none⟩ (.int .u32 1)).setCell ⟨b, 1, none⟩ (.int .i32 0)) b 1 0 tabI ∧ Chg (· = b) w ((w2.drew.setCell ⟨b, 0, none⟩ (.int .u32 1)).setCell ⟨b, 1, none⟩ (.int .i32 0))) :=
    Lib.hid ⟨(H2.out.mark 1).lock 0, (HC2.out.drew.trans (setCellChg _ b 0 _)).trans (setCellChg _ b 1 _)⟩
  simp [Leaves, settle, results, Try.results37]
  exact HF.out

set_option maxRecDepth 100000 in
set_option maxHeartbeats 1600000 in
theorem do_first (b : Nat) (T : Nat → Int) (w : World) (h : SumsAt w b 0 0 T) :
    Calls Try.prog 34 #[.pointer (some ⟨b, 0, none⟩), .func (.func 35) #[.pointer (some ⟨b, 0, none⟩)] #[]] w fun e w' => e = .returned (.tuple #[]) ∧ SumsAt w' b 1 0 tabI ∧ Chg (· = b) w w' := by
  have H := Lib.hid h
  have hl := run_call_load (P := Try.prog) Try.func38 (by kernel_rfl) (by kernel_rfl) (by kernel_rfl) .u32 (by kernel_rfl) h.c0
  have hnot : ∀ (x : Bool) (w : World), (Op.unary .not (.bool x)).run Try.prog w = .ok (.bool (!x)) w := fun _ _ => rfl
  clear h
  go_enter Try.func34, Try.ntmps34
  go_wp2_with (first | (go_at_call 37; refine (slow_any b T _ H.out).mono ?_; rintro e w' ⟨rfl, h2, hc2⟩) | (go_at_call 36; go_in))
  go_end0
  exact ⟨rfl, h2, hc2⟩

/-- Done already: nothing is done. -/
theorem do_done (b : Nat) (l : Int) (T : Nat → Int) (fv : Value) (w : World) (h : SumsAt w b 1 l T) :
    Calls Try.prog 34 #[.pointer (some ⟨b, 0, none⟩), fv] w fun e w' => e = .returned (.tuple #[]) ∧ w' = w := by
  have hl := run_call_load (P := Try.prog) Try.func38 (by kernel_rfl) (by kernel_rfl) (by kernel_rfl) .u32 (by kernel_rfl) h.c0
  have hnot : ∀ (x : Bool) (w : World), (Op.unary .not (.bool x)).run Try.prog w = .ok (.bool (!x)) w := fun _ _ => rfl
  clear h
  go_enter Try.func34, Try.ntmps34
  go_wp2
  go_end0
  exact ⟨rfl, rfl⟩
end Go.Proofs.Ytnfniilimgfjoaa
