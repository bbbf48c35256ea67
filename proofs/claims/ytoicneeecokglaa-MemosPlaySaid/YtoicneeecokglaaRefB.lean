/- The reference's memo: its functions, each with what it answers and what it turns. -/
import Derived.Test.YtoicneeecokglaaRefA
namespace Go.Proofs.Ytoicneeecokglaa
open Go.RowKit Go.Maps

structure RS where
  nr : Int
  np : Int
  nt : Int
  R : List Sd
  P : List Sd
  asked : Int
  known : Int

/-- The reference's memo at block b, its lists in vR and vP; the blocks of N are none of its own. -/
structure RefIs (w : World) (N : Nat → Prop) (b : Nat) (vR vP : Value) (s : RS) : Prop where
  c0 : w.cell? ⟨b, 0, none⟩ = some (.int .i64 s.nr)
  c1 : w.cell? ⟨b, 1, none⟩ = some (.int .i64 s.np)
  c2 : w.cell? ⟨b, 2, none⟩ = some (.int .i64 s.nt)
  c3 : w.cell? ⟨b, 3, none⟩ = some vR
  c4 : w.cell? ⟨b, 4, none⟩ = some vP
  c5 : w.cell? ⟨b, 5, none⟩ = some (.int .i64 s.asked)
  c6 : w.cell? ⟨b, 6, none⟩ = some (.int .i64 s.known)
  fz : ∀ i, w.frozen? ⟨b, i, none⟩ = false
  oR : w.ownsRow 0 67 3 vR s.R.length (saidCells s.R)
  oP : w.ownsRow 0 67 3 vP s.P.length (saidCells s.P)
  dR : ∀ k, vR.ownBlock = some k → k ≠ b ∧ vP.ownBlock ≠ some k ∧ ¬ N k
  dP : ∀ k, vP.ownBlock = some k → k ≠ b ∧ ¬ N k
  nb : ¬ N b
  lt : ∀ k, N k → k < w.heap.size

def RefAt (w : World) (N : Nat → Prop) (b : Nat) (s : RS) : Prop := ∃ vR vP, RefIs w N b vR vP s

theorem ownsRow_chg {S : Nat → Prop} {w w' : World} {B e size n : Nat} {v : Value} {xs : List Value} (h : w.ownsRow B e size v n xs) (hc : Chg S w w') (hs : ∀ k, v.ownBlock = some k → ¬ S k) : w'.ownsRow B e size v n xs := by
  refine ⟨h.1, ?_⟩
  rcases h.2 with hn | ⟨g, cap, cur, rfl, hb, hgg, rest⟩
  · exact .inl hn
  · refine .inr ⟨g, cap, cur, rfl, hb, ?_, rest⟩
    rw [hc.block g (Array.getElem?_eq_some_iff.1 hgg).1 (hs g rfl)]
    exact hgg

theorem RefIs.chg {S N : Nat → Prop} {w w' : World} {b : Nat} {vR vP : Value} {s : RS} (h : RefIs w N b vR vP s) (hc : Chg S w w') (hs : ∀ k, S k → N k) : RefIs w' N b vR vP s := by
  have hb : b < w.heap.size := World.block_lt_of_cell? _ _ h.c0
  have n1 : ¬ S b := fun e => h.nb (hs b e)
  exact ⟨hc.cellS h.c0 n1, hc.cellS h.c1 n1, hc.cellS h.c2 n1, hc.cellS h.c3 n1, hc.cellS h.c4 n1, hc.cellS h.c5 n1, hc.cellS h.c6 n1, fun i => (hc.frozen (p := ⟨b, i, none⟩) hb n1).trans (h.fz i),
    ownsRow_chg h.oR hc (fun k hk e => (h.dR k hk).2.2 (hs k e)), ownsRow_chg h.oP hc (fun k hk e => (h.dP k hk).2 (hs k e)), h.dR, h.dP, h.nb, fun k hk => Nat.lt_of_lt_of_le (h.lt k hk) hc.size⟩
theorem RefAt.chg {S N : Nat → Prop} {w w' : World} {b : Nat} {s : RS} (h : RefAt w N b s) (hc : Chg S w w') (hs : ∀ k, S k → N k) : RefAt w' N b s := by
  obtain ⟨vR, vP, h⟩ := h
  exact ⟨vR, vP, h.chg hc hs⟩
theorem ownsRow_lt {w : World} {B e size n k : Nat} {v : Value} {xs : List Value} (h : w.ownsRow B e size v n xs) (hk : v.ownBlock = some k) : k < w.heap.size := (h.lt k hk).2
/-- A new block is none of its own. -/
theorem RefAt.alloc {N : Nat → Prop} {w : World} {b : Nat} {s : RS} (h : RefAt w N b s) (o : Obj) : RefAt (w.alloc o) (fun k => N k ∨ k = w.heap.size) b s := by
  obtain ⟨vR, vP, h⟩ := h
  have h' := h.chg ((Chg.refl (fun _ => False) w).alloc o) (fun _ h => h.elim)
  have hb : b < w.heap.size := World.block_lt_of_cell? _ _ h.c0
  refine ⟨vR, vP, ⟨h'.c0, h'.c1, h'.c2, h'.c3, h'.c4, h'.c5, h'.c6, h'.fz, h'.oR, h'.oP, fun k hk => ⟨(h.dR k hk).1, (h.dR k hk).2.1, ?_⟩, fun k hk => ⟨(h.dP k hk).1, ?_⟩, ?_, ?_⟩⟩
  · rintro (e | e)
    · exact (h.dR k hk).2.2 e
    · have := ownsRow_lt h.oR hk; omega
  · rintro (e | e)
    · exact (h.dP k hk).2 e
    · have := ownsRow_lt h.oP hk; omega
  · rintro (e | e)
    · exact h.nb e
    · omega
  · rintro k (e | e)
    · have := h.lt k e; simp; omega
    · simp; omega
theorem RefAt.less {N M : Nat → Prop} {w : World} {b : Nat} {s : RS} (h : RefAt w N b s) (hs : ∀ k, M k → N k) : RefAt w M b s := by
  obtain ⟨vR, vP, h⟩ := h
  exact ⟨vR, vP, ⟨h.c0, h.c1, h.c2, h.c3, h.c4, h.c5, h.c6, h.fz, h.oR, h.oP, fun k hk => ⟨(h.dR k hk).1, (h.dR k hk).2.1, fun e => (h.dR k hk).2.2 (hs k e)⟩, fun k hk => ⟨(h.dP k hk).1, fun e => (h.dP k hk).2 (hs k e)⟩, fun e => h.nb (hs b e), fun k hk => h.lt k (hs k hk)⟩⟩

theorem RefIs.setAsked {N : Nat → Prop} {w : World} {b : Nat} {vR vP : Value} {s : RS} (h : RefIs w N b vR vP s) (k : Int) : RefIs (w.setCell ⟨b, 5, none⟩ (.int .i64 k)) N b vR vP { s with asked := k } := by
  have o : ∀ i, i ≠ 5 → (w.setCell ⟨b, 5, none⟩ (.int .i64 k)).cell? ⟨b, i, none⟩ = w.cell? ⟨b, i, none⟩ := fun i hi => World.cell?_setCell_other _ _ _ _ (by intro e; injection e with _ e; exact hi e.symm)
  have hc := Chg.setCell (S := (· = b)) (p := ⟨b, 5, none⟩) (Chg.refl _ w) (.inr rfl) (.int .i64 k)
  exact ⟨(o 0 (by omega)).trans h.c0, (o 1 (by omega)).trans h.c1, (o 2 (by omega)).trans h.c2, (o 3 (by omega)).trans h.c3, (o 4 (by omega)).trans h.c4, World.cell?_setCell_same _ _ _ h.c5, (o 6 (by omega)).trans h.c6,
    fun i => (World.frozen?_setCell _ _ _ _).trans (h.fz i), ownsRow_chg h.oR hc (fun k hk e => (h.dR k hk).1 e), ownsRow_chg h.oP hc (fun k hk e => (h.dP k hk).1 e), h.dR, h.dP, h.nb, fun k hk => by simpa using h.lt k hk⟩
theorem RefIs.setKnown {N : Nat → Prop} {w : World} {b : Nat} {vR vP : Value} {s : RS} (h : RefIs w N b vR vP s) (k : Int) : RefIs (w.setCell ⟨b, 6, none⟩ (.int .i64 k)) N b vR vP { s with known := k } := by
  have o : ∀ i, i ≠ 6 → (w.setCell ⟨b, 6, none⟩ (.int .i64 k)).cell? ⟨b, i, none⟩ = w.cell? ⟨b, i, none⟩ := fun i hi => World.cell?_setCell_other _ _ _ _ (by intro e; injection e with _ e; exact hi e.symm)
  have hc := Chg.setCell (S := (· = b)) (p := ⟨b, 6, none⟩) (Chg.refl _ w) (.inr rfl) (.int .i64 k)
  exact ⟨(o 0 (by omega)).trans h.c0, (o 1 (by omega)).trans h.c1, (o 2 (by omega)).trans h.c2, (o 3 (by omega)).trans h.c3, (o 4 (by omega)).trans h.c4, (o 5 (by omega)).trans h.c5, World.cell?_setCell_same _ _ _ h.c6,
    fun i => (World.frozen?_setCell _ _ _ _).trans (h.fz i), ownsRow_chg h.oR hc (fun k hk e => (h.dR k hk).1 e), ownsRow_chg h.oP hc (fun k hk e => (h.dP k hk).1 e), h.dR, h.dP, h.nb, fun k hk => by simpa using h.lt k hk⟩

structure RS.Fine (s : RS) : Prop where
  a0 : 0 ≤ s.asked
  a1 : s.asked < 1000000000
  k0 : 0 ≤ s.known
  k1 : s.known < 1000000000
  lr : s.R.length < 1000000
  lp : s.P.length < 1000000

set_option maxHeartbeats 1000000 in
theorem count_any (N : Nat → Prop) (b : Nat) (vR vP : Value) (s : RS) (n : Int) (is : Bool) (w : World) (H : RefIs w N b vR vP s) (hF : s.Fine) :
    Calls Try.prog 26 #[.pointer (some ⟨b, 0, none⟩), .int .i64 n, .bool is] w fun e w' => e = .returned (.tuple #[.int .i64 n, .bool is]) ∧ RefIs w' N b vR vP { s with asked := s.asked + 1, known := s.known + (if is then 1 else 0) } ∧ Chg (· = b) w w' := by
  obtain ⟨ha0, ha1, hk0, hk1, _, _⟩ := hF
  have c5 := H.c5
  have c6 := H.c6
  have f5 := H.fz 5
  have f6 := H.fz 6
  have HH := Lib.hid H
  have HC : Hid (Chg (· = b) w (w.setCell ⟨b, 5, none⟩ (.int .i64 (s.asked + 1)))) := Chg.setCell (S := (· = b)) (p := ⟨b, 5, none⟩) (Chg.refl _ w) (.inr rfl) _
  have c6' : (w.setCell ⟨b, 5, none⟩ (.int .i64 (s.asked + 1))).cell? ⟨b, 6, none⟩ = some (.int .i64 s.known) := (H.setAsked (s.asked + 1)).c6
  clear H
  cases is
  · have e1 : s.known + (if false = true then (1 : Int) else 0) = s.known := by simp
    rw [e1]
    clear e1
    go_enter Try.func26, Try.ntmps26
    go_wp2
    go_ret2
    exact ⟨rfl, HH.out.setAsked _, HC.out⟩
  · have e1 : s.known + (if true = true then (1 : Int) else 0) = s.known + 1 := by simp
    rw [e1]
    clear e1
    go_enter Try.func26, Try.ntmps26
    go_wp2
    go_ret2
    exact ⟨rfl, (HH.out.setAsked _).setKnown _, Chg.setCell (S := (· = b)) (p := ⟨b, 6, none⟩) HC.out (.inr rfl) _⟩
end Go.Proofs.Ytoicneeecokglaa
