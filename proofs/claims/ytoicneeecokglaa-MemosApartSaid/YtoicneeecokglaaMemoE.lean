/- The memo's own functions: asked of a rule, of a decision, of the counts; all let go; made; and of a memo that is none. -/
import Derived.Test.YtoicneeecokglaaMemoD
namespace Go.Proofs.Ytoicneeecokglaa
open Go.RowKit Go.Maps

set_option maxHeartbeats 400000 in
theorem ruleR_at (b br bp : Nat) (s : MS) (x y : Int) (w : World) (hx : W64 x) (hy : W64 y) (H : MemoAt w b br bp s) (hF : s.Fine) :
    Calls Try.prog 15 #[.pointer (some ⟨b, 0, none⟩), .int .i64 x, .int .i64 y] w fun e w' => e = .returned (ansOf (hasB s.nr s.nt x y) (s.R x y)) ∧ MemoAt w' b br bp (s.askR x y) ∧ Chg (· = b) w w' := by
  have HT := Lib.hid (there_at b (some br) _ H.c1)
  have HA := Lib.hid (askR_any b br bp s x y w hx hy H hF)
  have HH := Lib.hid H
  clear H
  unfold ansOf at HA ⊢
  go_enter Try.func15, Try.ntmps15
  go_wp2_with fail
  refine HT.out.mono ?_
  rintro e w1 ⟨rfl, rfl⟩
  go_wp2_with fail
  refine HA.out.mono ?_
  rintro e w2 ⟨rfl, hm2, hc2⟩
  have HM2 := Lib.hid hm2
  have HC2 := Lib.hid hc2
  clear hm2 hc2
  go_wp2
  go_ret2
  exact ⟨rfl, HM2.out, HC2.out⟩

set_option maxHeartbeats 400000 in
theorem ruleR_nil (x y : Int) (w : World) : Calls Try.prog 15 #[.pointer none, .int .i64 x, .int .i64 y] w fun e w' => e = .returned (.tuple #[.int .i64 0, .bool false]) ∧ w = w' := by
  have HT := Lib.hid (there_nil w)
  go_enter Try.func15, Try.ntmps15
  go_wp2_with fail
  refine HT.out.mono ?_
  rintro e w1 ⟨rfl, rfl⟩
  go_wp2
  go_ret2
  exact ⟨rfl, rfl⟩
set_option maxHeartbeats 400000 in
theorem ruleR_void (b : Nat) (x y : Int) (w : World) (h : w.cell? ⟨b, 1, none⟩ = some (.map none)) : Calls Try.prog 15 #[.pointer (some ⟨b, 0, none⟩), .int .i64 x, .int .i64 y] w fun e w' => e = .returned (.tuple #[.int .i64 0, .bool false]) ∧ w = w' := by
  have HT := Lib.hid (there_at b none w h)
  go_enter Try.func15, Try.ntmps15
  go_wp2_with fail
  refine HT.out.mono ?_
  rintro e w1 ⟨rfl, rfl⟩
  go_wp2
  go_ret2
  exact ⟨rfl, rfl⟩
set_option maxHeartbeats 400000 in
theorem sayR_nil (x y z : Int) (w : World) : Calls Try.prog 9 #[.pointer none, .int .i64 x, .int .i64 y, .int .i64 z] w fun e w' => e = .returned (.int .i64 2) ∧ Chg (fun _ => False) w w' := by
  have HT := fun w => Lib.hid (there_nil w)
  go_enter Try.func9, Try.ntmps9
  go_wp2_with fail
  refine (HT _).out.mono ?_
  rintro e w1 ⟨rfl, rfl⟩
  go_wp2
  go_ret
  exact ⟨rfl, (Chg.refl _ _).alloc _⟩
set_option maxHeartbeats 400000 in
theorem sayR_void (b : Nat) (x y z : Int) (w : World) (h : w.cell? ⟨b, 1, none⟩ = some (.map none)) : Calls Try.prog 9 #[.pointer (some ⟨b, 0, none⟩), .int .i64 x, .int .i64 y, .int .i64 z] w fun e w' => e = .returned (.int .i64 2) ∧ Chg (fun _ => False) w w' := by
  have hlt := World.block_lt_of_cell? _ _ h
  simp only at hlt
  have HT := fun o => Lib.hid (there_at b none (w.alloc o) (by rw [World.cell?_alloc_lt _ _ _ (by exact hlt)]; exact h))
  go_enter Try.func9, Try.ntmps9
  go_wp2_with fail
  refine (HT _).out.mono ?_
  rintro e w1 ⟨rfl, rfl⟩
  go_wp2
  go_ret
  exact ⟨rfl, (Chg.refl _ _).alloc _⟩
set_option maxHeartbeats 400000 in
theorem ruleP_at (b br bp : Nat) (s : MS) (x y : Int) (w : World) (hx : W64 x) (hy : W64 y) (H : MemoAt w b br bp s) (hF : s.Fine) :
    Calls Try.prog 17 #[.pointer (some ⟨b, 0, none⟩), .int .i64 x, .int .i64 y] w fun e w' => e = .returned (ansOf (hasB s.np s.nt x y) (s.P x y)) ∧ MemoAt w' b br bp (s.askP x y) ∧ Chg (· = b) w w' := by
  have HT := Lib.hid (there_at b (some br) _ H.c1)
  have HA := Lib.hid (askP_any b br bp s x y w hx hy H hF)
  have HH := Lib.hid H
  clear H
  unfold ansOf at HA ⊢
  go_enter Try.func17, Try.ntmps17
  go_wp2_with fail
  refine HT.out.mono ?_
  rintro e w1 ⟨rfl, rfl⟩
  go_wp2_with fail
  refine HA.out.mono ?_
  rintro e w2 ⟨rfl, hm2, hc2⟩
  have HM2 := Lib.hid hm2
  have HC2 := Lib.hid hc2
  clear hm2 hc2
  go_wp2
  go_ret2
  exact ⟨rfl, HM2.out, HC2.out⟩

set_option maxHeartbeats 400000 in
theorem ruleP_nil (x y : Int) (w : World) : Calls Try.prog 17 #[.pointer none, .int .i64 x, .int .i64 y] w fun e w' => e = .returned (.tuple #[.int .i64 0, .bool false]) ∧ w = w' := by
  have HT := Lib.hid (there_nil w)
  go_enter Try.func17, Try.ntmps17
  go_wp2_with fail
  refine HT.out.mono ?_
  rintro e w1 ⟨rfl, rfl⟩
  go_wp2
  go_ret2
  exact ⟨rfl, rfl⟩
set_option maxHeartbeats 400000 in
theorem ruleP_void (b : Nat) (x y : Int) (w : World) (h : w.cell? ⟨b, 1, none⟩ = some (.map none)) : Calls Try.prog 17 #[.pointer (some ⟨b, 0, none⟩), .int .i64 x, .int .i64 y] w fun e w' => e = .returned (.tuple #[.int .i64 0, .bool false]) ∧ w = w' := by
  have HT := Lib.hid (there_at b none w h)
  go_enter Try.func17, Try.ntmps17
  go_wp2_with fail
  refine HT.out.mono ?_
  rintro e w1 ⟨rfl, rfl⟩
  go_wp2
  go_ret2
  exact ⟨rfl, rfl⟩
set_option maxHeartbeats 400000 in
theorem sayP_nil (x y z : Int) (w : World) : Calls Try.prog 11 #[.pointer none, .int .i64 x, .int .i64 y, .int .i64 z] w fun e w' => e = .returned (.int .i64 2) ∧ Chg (fun _ => False) w w' := by
  have HT := fun w => Lib.hid (there_nil w)
  go_enter Try.func11, Try.ntmps11
  go_wp2_with fail
  refine (HT _).out.mono ?_
  rintro e w1 ⟨rfl, rfl⟩
  go_wp2
  go_ret
  exact ⟨rfl, (Chg.refl _ _).alloc _⟩
set_option maxHeartbeats 400000 in
theorem sayP_void (b : Nat) (x y z : Int) (w : World) (h : w.cell? ⟨b, 1, none⟩ = some (.map none)) : Calls Try.prog 11 #[.pointer (some ⟨b, 0, none⟩), .int .i64 x, .int .i64 y, .int .i64 z] w fun e w' => e = .returned (.int .i64 2) ∧ Chg (fun _ => False) w w' := by
  have hlt := World.block_lt_of_cell? _ _ h
  simp only at hlt
  have HT := fun o => Lib.hid (there_at b none (w.alloc o) (by rw [World.cell?_alloc_lt _ _ _ (by exact hlt)]; exact h))
  go_enter Try.func11, Try.ntmps11
  go_wp2_with fail
  refine (HT _).out.mono ?_
  rintro e w1 ⟨rfl, rfl⟩
  go_wp2
  go_ret
  exact ⟨rfl, (Chg.refl _ _).alloc _⟩

set_option maxHeartbeats 400000 in
theorem counts_nil (w : World) : Calls Try.prog 19 #[.pointer none] w fun e w' => e = .returned (.tuple #[.int .i64 0, .int .i64 0]) ∧ w = w' := by
  have HT := Lib.hid (there_nil w)
  go_enter Try.func19, Try.ntmps19
  go_wp2_with fail
  refine HT.out.mono ?_
  rintro e w1 ⟨rfl, rfl⟩
  go_wp2
  go_ret2
  exact ⟨rfl, rfl⟩
set_option maxHeartbeats 400000 in
theorem counts_void (b : Nat) (w : World) (h : w.cell? ⟨b, 1, none⟩ = some (.map none)) : Calls Try.prog 19 #[.pointer (some ⟨b, 0, none⟩)] w fun e w' => e = .returned (.tuple #[.int .i64 0, .int .i64 0]) ∧ w = w' := by
  have HT := Lib.hid (there_at b none w h)
  go_enter Try.func19, Try.ntmps19
  go_wp2_with fail
  refine HT.out.mono ?_
  rintro e w1 ⟨rfl, rfl⟩
  go_wp2
  go_ret2
  exact ⟨rfl, rfl⟩
set_option maxHeartbeats 400000 in
theorem clear_nil (w : World) : Calls Try.prog 13 #[.pointer none] w fun e w' => e = .returned (.tuple #[]) ∧ w = w' := by
  have HT := Lib.hid (there_nil w)
  go_enter Try.func13, Try.ntmps13
  go_wp2_with fail
  refine HT.out.mono ?_
  rintro e w1 ⟨rfl, rfl⟩
  go_wp2
  go_end0
  exact ⟨rfl, rfl⟩
set_option maxHeartbeats 400000 in
theorem clear_void (b : Nat) (w : World) (h : w.cell? ⟨b, 1, none⟩ = some (.map none)) : Calls Try.prog 13 #[.pointer (some ⟨b, 0, none⟩)] w fun e w' => e = .returned (.tuple #[]) ∧ w = w' := by
  have HT := Lib.hid (there_at b none w h)
  go_enter Try.func13, Try.ntmps13
  go_wp2_with fail
  refine HT.out.mono ?_
  rintro e w1 ⟨rfl, rfl⟩
  go_wp2
  go_end0
  exact ⟨rfl, rfl⟩

set_option maxHeartbeats 400000 in
theorem counts_at (b br bp : Nat) (s : MS) (w : World) (H : MemoAt w b br bp s) :
    Calls Try.prog 19 #[.pointer (some ⟨b, 0, none⟩)] w fun e w' => e = .returned (.tuple #[.int .i64 s.asked, .int .i64 s.known]) ∧ MemoAt w' b br bp s ∧ Chg (fun _ => False) w w' := by
  have HT := Lib.hid (there_at b (some br) _ H.c1)
  have HH := Lib.hid H
  have c5' : ∀ n, (w.drewN n).cell? ⟨b, 5, none⟩ = some (.int .i64 s.asked) := fun _ => H.c5
  have c6' : ∀ n, (w.drewN n).cell? ⟨b, 6, none⟩ = some (.int .i64 s.known) := fun _ => H.c6
  clear H
  go_enter Try.func19, Try.ntmps19
  go_wp2_with fail
  refine HT.out.mono ?_
  rintro e w1 ⟨rfl, rfl⟩
  go_wp2_with fail
  go_quiet ((first | (go_at_call 27; with_reducible exact Calls.quiet_of_same (load_q b 5 s.asked _ (c5' _))) | (go_at_call 27; with_reducible exact Calls.quiet_of_same (load_q b 6 s.known _ (c6' _)))))
  go_wp2
  go_ret2
  exact ⟨rfl, HH.out.drewN nq, (Chg.refl _ _).drewN nq⟩

/-- All let go. -/
def MS.cleared (s : MS) : MS := { s with R := fun _ _ => none, P := fun _ _ => none, asked := 0, known := 0, sz := 0 }

theorem MemoAt.clearedAt {w w1 w2 : World} {b br bp : Nat} {s : MS} (h : MemoAt w b br bp s) (hm1 : MapIs w1 br (fun _ _ => none) 0) (hc1 : Chg (· = br) w w1) (hm2 : MapIs w2 bp (fun _ _ => none) 0) (hc2 : Chg (· = bp) w1 w2) :
    MemoAt w2 b br bp { s with R := fun _ _ => none, P := fun _ _ => none, sz := 0 } := by
  have hb : b < w.heap.size := World.block_lt_of_cell? _ _ h.c0
  have h1 : ¬ b = bp := fun e => h.d2 e.symm
  have h2 : ¬ b = br := fun e => h.d1 e.symm
  have k : ∀ {i v}, w.cell? ⟨b, i, none⟩ = some v → w2.cell? ⟨b, i, none⟩ = some v := fun hc => hc2.cellS (hc1.cellS hc h2) h1
  have f : ∀ i, w2.frozen? ⟨b, i, none⟩ = w.frozen? ⟨b, i, none⟩ := fun i => (hc2.frozen (p := ⟨b, i, none⟩) (Nat.lt_of_lt_of_le hb hc1.size) h1).trans (hc1.frozen (p := ⟨b, i, none⟩) hb h2)
  exact ⟨k h.c0, k h.c1, k h.c2, k h.c3, k h.c4, k h.c5, k h.c6, (f 5).trans h.f5, (f 6).trans h.f6, hm1.chg hc2 (fun e => h.d3 e), hm2, h.d1, h.d2, h.d3⟩

set_option maxHeartbeats 1000000 in
theorem clear_at (b br bp : Nat) (s : MS) (w : World) (H : MemoAt w b br bp s) :
    Calls Try.prog 13 #[.pointer (some ⟨b, 0, none⟩)] w fun e w' => e = .returned (.tuple #[]) ∧ MemoAt w' b br bp s.cleared ∧ Chg (fun k => k = b ∨ k = br ∨ k = bp) w w' := by
  have HT := Lib.hid (there_at b (some br) _ H.c1)
  obtain ⟨w1, hrun1, hm1, hc1⟩ := H.mr.clear 0
  have hb2 : ¬ b = br := fun e => H.d1 e.symm
  obtain ⟨w2, hrun2, hm2, hc2⟩ := (H.mp.chg hc1 (fun e => H.d3 e.symm)).clear 0
  have HM2 := Lib.hid (H.clearedAt hm1 hc1 hm2 hc2)
  have HC2 : Hid (Chg (fun k => k = b ∨ k = br ∨ k = bp) w w2) := Lib.hid ((hc1.mono (fun _ _ h => .inr (.inl h))).trans (hc2.mono (fun _ _ h => .inr (.inr h))))
  have HM3 := Lib.hid ((HM2.out.setAsked 0).setKnown 0)
  have HA := Lib.hid (store_any b 5 0 s.asked w2 HM2.out.c5 HM2.out.f5)
  have HA2 := Lib.hid (store_any b 6 0 s.known _ (HM2.out.setAsked 0).c6 (HM2.out.setAsked 0).f6)
  have HF : Hid (Chg (fun k => k = b ∨ k = br ∨ k = bp) w ((w2.setCell ⟨b, 5, none⟩ (.int .i64 0)).setCell ⟨b, 6, none⟩ (.int .i64 0))) :=
    Lib.hid (Chg.setCell (S := fun k => k = b ∨ k = br ∨ k = bp) (p := ⟨b, 6, none⟩) (Chg.setCell (S := fun k => k = b ∨ k = br ∨ k = bp) (p := ⟨b, 5, none⟩) HC2.out (.inr (.inl rfl)) _) (.inr (.inl rfl)) _)
  have c1 := H.c1
  have c3 := hc1.cellS H.c3 hb2
  clear H hm1 hc1 hm2 hc2 hb2
  go_enter Try.func13, Try.ntmps13
  go_wp2_with fail
  refine HT.out.mono ?_
  rintro e w0 ⟨rfl, rfl⟩
  go_wp2_with fail
  refine HA.out.mono ?_
  rintro e w3 ⟨rfl, rfl⟩
  go_wp2_with fail
  refine HA2.out.mono ?_
  rintro e w4 ⟨rfl, rfl⟩
  go_wp2
  go_end0
  exact ⟨rfl, HM3.out, HF.out⟩

/-- May there be such a memo? -/
def newB (r p t : Int) : Bool := decide (0 ≤ r ∧ r ≤ 64 ∧ 0 ≤ p ∧ p ≤ 65536 ∧ 0 ≤ t ∧ t ≤ 16384)
def MS.new (r p t : Int) : MS := ⟨r, p, t, fun _ _ => none, fun _ _ => none, 0, 0, 0⟩

set_option maxHeartbeats 1000000 in
theorem new_no (r p t : Int) (w : World) (h : newB r p t = false) :
    Calls Try.prog 7 #[.int .i64 r, .int .i64 p, .int .i64 t] w fun e w' => e = .returned (.tuple #[.pointer none, .int .i64 1]) ∧ w = w' := by
  have h' : ¬ (0 ≤ r ∧ r ≤ 64 ∧ 0 ≤ p ∧ p ≤ 65536 ∧ 0 ≤ t ∧ t ≤ 16384) := by simpa [newB] using h
  clear h
  go_enter Try.func7, Try.ntmps7
  go_wp2
  all_goals first | (exfalso; omega) | skip
  all_goals go_ret2
  all_goals exact ⟨rfl, rfl⟩

set_option maxHeartbeats 1000000 in
theorem new_yes (r p t : Int) (w : World) (h : newB r p t = true) :
    Calls Try.prog 7 #[.int .i64 r, .int .i64 p, .int .i64 t] w fun e w' => ∃ b br bp, e = .returned (.tuple #[.pointer (some ⟨b, 0, none⟩), .int .i64 0]) ∧ MemoAt w' b br bp (MS.new r p t) ∧ Chg (fun _ => False) w w' ∧ w.heap.size ≤ b ∧ w.heap.size ≤ br ∧ w.heap.size ≤ bp := by
  obtain ⟨h1, h2, h3, h4, h5, h6⟩ : (0 ≤ r ∧ r ≤ 64 ∧ 0 ≤ p ∧ p ≤ 65536 ∧ 0 ≤ t ∧ t ≤ 16384) := by simpa [newB] using h
  have hmm := @run_makeMap Try.prog
  clear h
  go_enter Try.func7, Try.ntmps7
  go_wp2
  go_ret2
  refine ⟨w.heap.size + 2, w.heap.size, w.heap.size + 1, rfl, ?_, ((Chg.refl _ _).alloc _).alloc _ |>.alloc _, by omega, by omega, by omega⟩
  have e2 : ((w.alloc (.map #[] 0)).alloc (.map #[] 0)).heap.size = w.heap.size + 2 := by simp
  have mr := (MapIs.made w).chg (((Chg.refl (fun _ => False) _).alloc (.map #[] 0)).alloc (.cells #[.int .i64 r, .map (some w.heap.size), .int .i64 p, .map (some (w.heap.size + 1)), .int .i64 t, .int .i64 0, .int .i64 0] 54)) (fun h => h)
  have mp := (MapIs.made (w.alloc (.map #[] 0))).chg ((Chg.refl (fun _ => False) _).alloc (.cells #[.int .i64 r, .map (some w.heap.size), .int .i64 p, .map (some (w.heap.size + 1)), .int .i64 t, .int .i64 0, .int .i64 0] 54)) (fun h => h)
  rw [World.size_alloc] at mp
  have hc : ∀ i, (((w.alloc (.map #[] 0)).alloc (.map #[] 0)).alloc (.cells #[.int .i64 r, .map (some w.heap.size), .int .i64 p, .map (some (w.heap.size + 1)), .int .i64 t, .int .i64 0, .int .i64 0] 54)).cell? ⟨w.heap.size + 2, i, none⟩ = #[.int .i64 r, .map (some w.heap.size), .int .i64 p, .map (some (w.heap.size + 1)), .int .i64 t, .int .i64 0, .int .i64 0][i]? := fun i => by
    rw [← e2]; exact World.cell?_alloc_new _ _ _ _
  have hf : ∀ i, (((w.alloc (.map #[] 0)).alloc (.map #[] 0)).alloc (.cells #[.int .i64 r, .map (some w.heap.size), .int .i64 p, .map (some (w.heap.size + 1)), .int .i64 t, .int .i64 0, .int .i64 0] 54)).frozen? ⟨w.heap.size + 2, i, none⟩ = false := fun i => by
    rw [← e2]; exact World.frozen?_alloc_new _ _ _ _
  exact ⟨hc 0, hc 1, hc 2, hc 3, hc 4, hc 5, hc 6, hf 5, hf 6, mr, mp, by omega, by omega, by omega⟩
end Go.Proofs.Ytoicneeecokglaa
