/- sync.Once, one goroutine: the parts of its slow road. The table of sums. -/
import Derived.Test.YtnfniilimgfjoaaTakeA
import Derived.Tactics
import Derived.Tactics2
import Derived.Defers
import Derived.Laws.Pointers
import Derived.Laws.LoneSync
import Derived.RegionTactic
import Derived.RegionCalls
import Derived.ChangeAlike
namespace Go.Proofs.Ytnfniilimgfjoaa
open Go.RowKit

theorem disable (w : World) : (callFunc 46 #[]).run Try.prog w = .ok (.value (.tuple #[])) w := run_call_mark0 Try.func46 (by kernel_rfl) (by kernel_rfl) (by kernel_rfl) .disable (by kernel_rfl) w
theorem enable (w : World) : (callFunc 48 #[]).run Try.prog w = .ok (.value (.tuple #[])) w := run_call_mark0 Try.func48 (by kernel_rfl) (by kernel_rfl) (by kernel_rfl) .enable (by kernel_rfl) w
theorem acquire (a : Addr) (w : World) : (callFunc 49 #[.pointer (some a)]).run Try.prog w = .ok (.value (.tuple #[])) w := run_call_marked Try.func49 (by kernel_rfl) (by kernel_rfl) (by kernel_rfl) .acquire (by kernel_rfl) a w
theorem releaseMerge (a : Addr) (w : World) : (callFunc 51 #[.pointer (some a)]).run Try.prog w = .ok (.value (.tuple #[])) w := run_call_marked Try.func51 (by kernel_rfl) (by kernel_rfl) (by kernel_rfl) .releaseMerge (by kernel_rfl) a w

/-- '(*sync/atomic.Bool).Store(true)', entered as a deferred call: the cell holds 1. -/
theorem store_deferred (a : Addr) (x : Value) (u : FrameMode) (w : World) (hc : w.cell? a = some x) (hz : w.frozen? a = false) :
    CallsD Try.prog 41 #[.pointer (some a), .bool true] u w fun e u' w' => u' = u ∧ (e = .returned (.tuple #[]) ∧ w' = w.drew.setCell a (.int .u32 1)) := by
  have hc' : w.drew.cell? a = some x := by go_simp
  have hz' : w.drew.frozen? a = false := by go_simp
  have hst := run_call_store (P := Try.prog) Try.func44 (by kernel_rfl) (by kernel_rfl) (by kernel_rfl) (by kernel_rfl) (k := .u32) (y := 1) hc' hz'
  go_enter_d Try.func41, Try.ntmps41
  go_wp2
  go_region_calls
  all_goals (go_end0; exact ⟨rfl, rfl⟩)

/-- '(*sync.Mutex).Unlock', entered as a deferred call, the lock held and nobody waiting (state 1): state 0. -/
theorem unlock_deferred (a : Addr) (u : FrameMode) (w : World) (hc : w.cell? a = some (.int .i32 1)) (hz : w.frozen? a = false) :
    CallsD Try.prog 40 #[.pointer (some a)] u w fun e u' w' => u' = u ∧ (e = .returned (.tuple #[]) ∧ w' = w.setCell a (.int .i32 0)) := by
  have hd := disable
  have he := enable
  have hr := releaseMerge
  have hadd := run_call_add (P := Try.prog) Try.func52 (by kernel_rfl) (by kernel_rfl) (by kernel_rfl) .i32 (by kernel_rfl) (y := -1) (s := 0) hc hz (by simp [go_sem]; rfl)
  have hcv := run_convert_to_unsafe (P := Try.prog) (src := 83) (dst := 87) Try.underlying83 Try.underlying87 (by kernel_rfl) hc
  go_enter_d Try.func40, Try.ntmps40
  go_wp2
  go_end0
  go_wp2
  go_end0
  exact ⟨rfl, rfl⟩

/-- '(*sync.Mutex).Lock', the lock free (state 0): state 1. -/
theorem lock_free (a : Addr) (w : World) (hc : w.cell? a = some (.int .i32 0)) (hz : w.frozen? a = false) :
    Calls Try.prog 39 #[.pointer (some a)] w fun e w' => e = .returned (.tuple #[]) ∧ w' = w.setCell a (.int .i32 1) := by
  have hd := disable
  have he := enable
  have ha := acquire
  have hcas := run_call_cas_hit (P := Try.prog) Try.func47 (by kernel_rfl) (by kernel_rfl) (by kernel_rfl) .i32 (by kernel_rfl) (y := 1) hc hz
  have hc' : (w.setCell a (.int .i32 1)).cell? a = some (.int .i32 1) := World.cell?_setCell_same w a _ hc
  have hcv := run_convert_to_unsafe (P := Try.prog) (src := 83) (dst := 87) Try.underlying83 Try.underlying87 (by kernel_rfl) hc'
  go_enter Try.func39, Try.ntmps39
  go_wp2
  first | go_end0 | (simp only [Exit.inBlock, Exit.then]; refine bodyPost_ret (results_none rfl _ _ _) rfl ?_) | refine bodyPost_ret (results_none rfl _ _ _) rfl ?_
  go_wp2
  go_end0
  exact ⟨rfl, rfl⟩

/-- A block of sums: done, the lock, the table. -/
structure SumsAt (w : World) (b : Nat) (d l : Int) (T : Nat → Int) : Prop where
  c0 : w.cell? ⟨b, 0, none⟩ = some (.int .u32 d)
  c1 : w.cell? ⟨b, 1, none⟩ = some (.int .i32 l)
  tab : ∀ i, i < 256 → w.cell? ⟨b, 3 + i, none⟩ = some (.int .u32 (T i))
  z : ∀ j, w.frozen? ⟨b, j, none⟩ = false

theorem SumsAt.chg {S : Nat → Prop} {w w' : World} {b : Nat} {d l : Int} {T : Nat → Int} (h : SumsAt w b d l T) (hc : Chg S w w') (hs : ¬ S b) : SumsAt w' b d l T :=
  ⟨hc.cellS h.c0 hs, hc.cellS h.c1 hs, fun i hi => hc.cellS (h.tab i hi) hs, fun j => (hc.frozen (p := ⟨b, j, none⟩) (by have := World.block_lt_of_cell? _ _ h.c0; exact this) hs).trans (h.z j)⟩
theorem SumsAt.tabs {w : World} {b : Nat} {d l : Int} {T T' : Nat → Int} (h : SumsAt w b d l T) (ht : ∀ i, i < 256 → T' i = T i) : SumsAt w b d l T' :=
  ⟨h.c0, h.c1, fun i hi => by rw [ht i hi]; exact h.tab i hi, h.z⟩
theorem SumsAt.put {w : World} {b : Nat} {d l : Int} {T : Nat → Int} (h : SumsAt w b d l T) {k : Nat} (hk : k < 256) (v : Int) : SumsAt (w.setCell ⟨b, 3 + k, none⟩ (.int .u32 v)) b d l (fun i => if i = k then v else T i) := by
  refine ⟨(World.cell?_setCell_other _ _ _ _ (by simp)).trans h.c0, (World.cell?_setCell_other _ _ _ _ (by intro e; injection e with _ e; omega)).trans h.c1, fun i hi => ?_, fun j => (World.frozen?_setCell _ _ _ _).trans (h.z j)⟩
  by_cases he : i = k
  · subst he
    rw [if_pos rfl]
    exact World.cell?_setCell_same _ _ _ (h.tab _ hi)
  · rw [if_neg he, World.cell?_setCell_other _ _ _ _ (by intro e; injection e with _ e; omega)]
    exact h.tab i hi

/-- What a bit that goes out does; eight of them; each byte's. -/
def stepI (y : Int) : Int := bits BinOp.xor IntKind.u32 (y / 2) (3988292384 * bits BinOp.and IntKind.u32 y 1 % 4294967296)
def iterI : Nat → Int → Int
  | 0, y => y
  | j + 1, y => stepI (iterI j y)
def tabI (i : Nat) : Int := iterI 8 i

set_option maxRecDepth 100000 in
set_option maxHeartbeats 2000000 in
/-- The table is filled. -/
theorem fill_any (b : Nat) (d l : Int) (T : Nat → Int) (w : World) (h : SumsAt w b d l T) :
    Calls Try.prog 35 #[.pointer (some ⟨b, 0, none⟩)] w fun e w' => e = .returned (.tuple #[]) ∧ SumsAt w' b d l tabI ∧ Chg (· = b) w w' := by
  have H := Lib.hid (h.tabs (T' := fun i => if i < 0 then tabI i else T i) (fun i _ => by rw [if_neg (by omega)]))
  clear h
  go_enter Try.func35, Try.ntmps35
  go_wp2
  go_loopw [2, 4] (fun x i wr => ∃ (k : Nat), k ≤ 256 ∧ i = .int .i64 k ∧ SumsAt wr b d l (fun i => if i < k then tabI i else T i) ∧ Chg (· = b) w wr) (fun _ i _ => 256 - (intOf i).toNat)
  case atStart => exact ⟨0, by omega, rfl, H.out, Chg.refl _ _⟩
  case round =>
    clear H
    obtain ⟨k, hk, rfl, h, hc⟩ := hrel
    have H := Lib.hid h
    have HC := Lib.hid hc
    clear h hc
    by_cases hk2 : k < 256
    · have b5 : decide ((k : Int) < 256) = true := by simp; omega
      go_wp2
      obtain ⟨wo, rfl⟩ : ∃ wo : World, wo = wr := ⟨_, rfl⟩
      go_loopw [3, 9] (fun n i wr => ∃ (j : Nat) (y : Int), j ≤ 8 ∧ i = .int .i64 j ∧ n = .int .u32 y ∧ y = iterI j k ∧ wr = wo) (fun _ i _ => 8 - (intOf i).toNat)
      case atStart => exact ⟨0, k, by omega, rfl, rfl, rfl, rfl⟩
      case round =>
        obtain ⟨j, y, hj, rfl, rfl, hy, rfl⟩ := hrel
        have HY := Lib.hid hy
        clear hy
        by_cases hj8 : j < 8
        · have b10 : decide ((j : Int) < 8) = true := by simp; omega
          go_wp2
          go_roundw
          case rel => exact ⟨j + 1, _, by omega, by go_num, rfl, by rw [HY.out]; rfl, trivial⟩
          case measure => simp [intOf]; omega
        · obtain rfl : j = 8 := by omega
          have c1 := H.out.tab k hk2
          have z1 := H.out.z (3 + k)
          have HX : Hid (SumsAt (wr.setCell ⟨b, 3 + k, none⟩ (.int .u32 y)) b d l (fun i => if i < k + 1 then tabI i else T i)) := Lib.hid ((H.out.put hk2 y).tabs (fun i _ => by
            by_cases he : i = k
            · subst he
              rw [if_pos (by omega), if_pos rfl, HY.out]
              rfl
            · rw [if_neg he]
              by_cases hi : i < k
              · rw [if_pos (by omega), if_pos hi]
              · rw [if_neg (by omega), if_neg hi]))
          have HC2 := Lib.hid (HC.out.trans (setCellChg wr b (3 + k) (.int .u32 y)))
          clear H HC HY
          go_wp2
          go_roundw
          case rel => first | exact ⟨k + 1, by omega, by go_num, HX.out, HC2.out⟩ | ((repeat apply Exists.intro); exact ⟨⟨k + 1, by omega, rfl, HX.out, HC2.out⟩, rfl⟩)
          case measure => simp [intOf]; omega
    · obtain rfl : k = 256 := by omega
      have HX := Lib.hid (H.out.tabs (T' := tabI) (fun i hi => by rw [if_pos hi]))
      go_wp2
      go_end0
      exact ⟨rfl, HX.out, HC.out⟩
end Go.Proofs.Ytnfniilimgfjoaa
