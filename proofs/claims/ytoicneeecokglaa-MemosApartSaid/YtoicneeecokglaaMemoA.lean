/- The memo's own functions, each with what it answers and what it turns. -/
import Derived.Test.YtoicneeecokglaaMap
import Derived.Deep.QuietTactic
import Derived.BigQuiet
import Derived.StillTailTactics
namespace Go.Proofs.Ytoicneeecokglaa
open Go.RowKit Go.Maps

structure MS where
  nr : Int
  np : Int
  nt : Int
  R : Int → Int → Option Int
  P : Int → Int → Option Int
  asked : Int
  known : Int
  sz : Nat

/-- A memo at block b, its maps at br and bp. -/
structure MemoAt (w : World) (b br bp : Nat) (s : MS) : Prop where
  c0 : w.cell? ⟨b, 0, none⟩ = some (.int .i64 s.nr)
  c1 : w.cell? ⟨b, 1, none⟩ = some (.map (some br))
  c2 : w.cell? ⟨b, 2, none⟩ = some (.int .i64 s.np)
  c3 : w.cell? ⟨b, 3, none⟩ = some (.map (some bp))
  c4 : w.cell? ⟨b, 4, none⟩ = some (.int .i64 s.nt)
  c5 : w.cell? ⟨b, 5, none⟩ = some (.int .i64 s.asked)
  c6 : w.cell? ⟨b, 6, none⟩ = some (.int .i64 s.known)
  f5 : w.frozen? ⟨b, 5, none⟩ = false
  f6 : w.frozen? ⟨b, 6, none⟩ = false
  mr : MapIs w br s.R s.sz
  mp : MapIs w bp s.P s.sz
  d1 : br ≠ b
  d2 : bp ≠ b
  d3 : br ≠ bp

theorem MemoAt.chg {S : Nat → Prop} {w w' : World} {b br bp : Nat} {s : MS} (h : MemoAt w b br bp s) (hg : Chg S w w') (h1 : ¬ S b) (h2 : ¬ S br) (h3 : ¬ S bp) : MemoAt w' b br bp s := by
  have hb : b < w.heap.size := World.block_lt_of_cell? _ _ h.c0
  exact ⟨hg.cellS h.c0 h1, hg.cellS h.c1 h1, hg.cellS h.c2 h1, hg.cellS h.c3 h1, hg.cellS h.c4 h1, hg.cellS h.c5 h1, hg.cellS h.c6 h1,
    (hg.frozen hb h1).trans h.f5, (hg.frozen hb h1).trans h.f6, h.mr.chg hg h2, h.mp.chg hg h3, h.d1, h.d2, h.d3⟩

set_option maxHeartbeats 400000 in
theorem there_nil (w : World) : Calls Try.prog 20 #[.pointer none] w fun e w' => e = .returned (.bool false) ∧ w = w' := by
  go_enter Try.func20, Try.ntmps20
  go_wp2
  go_ret
  exact ⟨rfl, rfl⟩

set_option maxHeartbeats 400000 in
theorem there_at (b : Nat) (r : Option Nat) (w : World) (c1 : w.cell? ⟨b, 1, none⟩ = some (.map r)) :
    Calls Try.prog 20 #[.pointer (some ⟨b, 0, none⟩)] w fun e w' => e = .returned (.bool r.isSome) ∧ w = w' := by
  have hn := fun w r => run_neq_map_nil (P := Try.prog) w 43 62 3 r Try.underlying43
  go_enter Try.func20, Try.ntmps20
  go_wp2
  go_ret
  exact ⟨rfl, rfl⟩

/-- Is there such a spot? -/
def hasB (n t x y : Int) : Bool := decide (0 ≤ x ∧ x < n ∧ 0 ≤ y ∧ y ≤ t)

set_option maxHeartbeats 1000000 in
theorem has_any (b pb po : Nat) (x y n t : Int) (w : World) (h1 : w.cell? ⟨pb, po, none⟩ = some (.int .i64 n)) (h2 : w.cell? ⟨b, 4, none⟩ = some (.int .i64 t)) :
    Calls Try.prog 21 #[.pointer (some ⟨b, 0, none⟩), .pointer (some ⟨pb, po, none⟩), .agg #[.int .i64 x, .int .i64 y]] w fun e w' => e = .returned (.bool (hasB n t x y)) ∧ Chg (fun _ => False) w w' := by
  have hlt1 := World.block_lt_of_cell? _ _ h1
  have hlt2 := World.block_lt_of_cell? _ _ h2
  simp only at hlt1 hlt2
  have fin : ∀ nq, Chg (fun _ => False) w ((w.alloc (.cells #[.int .i64 x, .int .i64 y] 62)).drewN nq) := fun nq => ((Chg.refl _ _).alloc _).drewN nq
  by_cases a1 : 0 ≤ x
  · by_cases a2 : x < n
    · by_cases a3 : 0 ≤ y
      · by_cases a4 : y ≤ t
        · rw [show hasB n t x y = true by simp [hasB, a1, a2, a3, a4]]
          go_enter Try.func21, Try.ntmps21
          go_wp2
          go_quiet (fail)
          go_wp2
          go_ret
          exact ⟨rfl, fin _⟩
        · have a4' : decide (y ≤ t) = false := by simpa using a4
          rw [show hasB n t x y = false by simp [hasB, a4]]
          go_enter Try.func21, Try.ntmps21
          go_wp2
          go_quiet (fail)
          go_wp2
          go_ret
          exact ⟨rfl, fin _⟩
      · have a3' : decide (0 ≤ y) = false := by simpa using a3
        rw [show hasB n t x y = false by simp [hasB, a3]]
        go_enter Try.func21, Try.ntmps21
        go_wp2
        go_quiet (fail)
        go_wp2
        go_ret
        exact ⟨rfl, fin _⟩
    · have a2' : decide (x < n) = false := by simpa using a2
      rw [show hasB n t x y = false by simp [hasB, a2]]
      go_enter Try.func21, Try.ntmps21
      go_wp2
      go_quiet (fail)
      go_wp2
      go_ret
      exact ⟨rfl, fin _⟩
  · have a1' : decide (0 ≤ x) = false := by simpa using a1
    rw [show hasB n t x y = false by simp [hasB, a1]]
    go_enter Try.func21, Try.ntmps21
    go_wp2
    go_quiet (fail)
    go_wp2
    go_ret
    exact ⟨rfl, fin _⟩

set_option maxHeartbeats 400000 in
theorem store_any (b o : Nat) (x u : Int) (w : World) (h : w.cell? ⟨b, o, none⟩ = some (.int .i64 u)) (hf : w.frozen? ⟨b, o, none⟩ = false) :
    Calls Try.prog 23 #[.pointer (some ⟨b, o, none⟩), .int .i64 x] w fun e w' => e = .returned (.tuple #[]) ∧ w.setCell ⟨b, o, none⟩ (.int .i64 x) = w' := by
  have hx := fun y => run_call_store (P := Try.prog) Try.func28 (by kernel_rfl) (by kernel_rfl) (by kernel_rfl) (by kernel_rfl) (k := .i64) (y := y) h hf
  go_enter Try.func23, Try.ntmps23
  go_wp2
  go_end0
  exact ⟨rfl, rfl⟩

set_option maxHeartbeats 400000 in
theorem load_any (b o : Nat) (u : Int) (w : World) (h : w.cell? ⟨b, o, none⟩ = some (.int .i64 u)) :
    Calls Try.prog 27 #[.pointer (some ⟨b, o, none⟩)] w fun e w' => e = .returned (.int .i64 u) ∧ w = w' := by
  have hx := run_call_load (P := Try.prog) Try.func30 (by kernel_rfl) (by kernel_rfl) (by kernel_rfl) .i64 (by kernel_rfl) h
  go_enter Try.func27, Try.ntmps27
  go_wp2
  go_ret
  exact ⟨rfl, rfl⟩

theorem load_q (b o : Nat) (u : Int) (w : World) (h : w.cell? ⟨b, o, none⟩ = some (.int .i64 u)) :
    Calls Try.prog 27 #[.pointer (some ⟨b, o, none⟩)] w fun e w' => e = .returned (.int .i64 u) ∧ w' = w :=
  (load_any b o u w h).mono fun _ _ ⟨h1, h2⟩ => ⟨h1, h2.symm⟩

set_option maxHeartbeats 400000 in
theorem add_any (b o : Nat) (u : Int) (w : World) (h : w.cell? ⟨b, o, none⟩ = some (.int .i64 u)) (hf : w.frozen? ⟨b, o, none⟩ = false) (hu : 0 ≤ u ∧ u < 1000000000) :
    Calls Try.prog 29 #[.pointer (some ⟨b, o, none⟩), .int .i64 1] w fun e w' => e = .returned (.int .i64 (u + 1)) ∧ w.setCell ⟨b, o, none⟩ (.int .i64 (u + 1)) = w' := by
  have hs : (Op.intArith .add .i64 u 1).run Try.prog w = .ok (.int .i64 (u + 1)) w := by
    have : IntKind.i64.wrap (u + 1) = u + 1 := IntWalk.i64_in _ (by omega)
    simp [go_sem, this]
  have hx := run_call_add (P := Try.prog) Try.func31 (by kernel_rfl) (by kernel_rfl) (by kernel_rfl) .i64 (by kernel_rfl) h hf hs
  clear hs
  go_enter Try.func29, Try.ntmps29
  go_wp2
  go_ret
  exact ⟨rfl, rfl⟩
end Go.Proofs.Ytoicneeecokglaa
