/- The memo's own functions: what is asked of a spot, and of the counts; all let go. -/
import Derived.Test.YtoicneeecokglaaMemoB
namespace Go.Proofs.Ytoicneeecokglaa
open Go.RowKit Go.Maps

theorem MemoAt.drewN {w : World} {b br bp : Nat} {s : MS} (h : MemoAt w b br bp s) (n : Nat) : MemoAt (w.drewN n) b br bp s := h.chg ((Chg.refl (fun _ => False) w).drewN n) (fun h => h) (fun h => h) (fun h => h)
theorem MapIs.setCell {w : World} {b n : Nat} {f : Int → Int → Option Int} (h : MapIs w b f n) {a : Addr} (ha : b ≠ a.block) (u : Value) : MapIs (w.setCell a u) b f n := by
  obtain ⟨D, h1, h2⟩ := h
  exact ⟨D, h1.setCell ha u, h2⟩
theorem MemoAt.setAsked {w : World} {b br bp : Nat} {s : MS} (h : MemoAt w b br bp s) (k : Int) : MemoAt (w.setCell ⟨b, 5, none⟩ (.int .i64 k)) b br bp { s with asked := k } := by
  have o : ∀ i, i ≠ 5 → (w.setCell ⟨b, 5, none⟩ (.int .i64 k)).cell? ⟨b, i, none⟩ = w.cell? ⟨b, i, none⟩ := fun i hi => World.cell?_setCell_other _ _ _ _ (by intro e; injection e with _ e; exact hi e.symm)
  exact ⟨(o 0 (by omega)).trans h.c0, (o 1 (by omega)).trans h.c1, (o 2 (by omega)).trans h.c2, (o 3 (by omega)).trans h.c3, (o 4 (by omega)).trans h.c4, World.cell?_setCell_same _ _ _ h.c5, (o 6 (by omega)).trans h.c6,
    (World.frozen?_setCell _ _ _ _).trans h.f5, (World.frozen?_setCell _ _ _ _).trans h.f6, h.mr.setCell h.d1 _, h.mp.setCell h.d2 _, h.d1, h.d2, h.d3⟩
theorem MemoAt.setKnown {w : World} {b br bp : Nat} {s : MS} (h : MemoAt w b br bp s) (k : Int) : MemoAt (w.setCell ⟨b, 6, none⟩ (.int .i64 k)) b br bp { s with known := k } := by
  have o : ∀ i, i ≠ 6 → (w.setCell ⟨b, 6, none⟩ (.int .i64 k)).cell? ⟨b, i, none⟩ = w.cell? ⟨b, i, none⟩ := fun i hi => World.cell?_setCell_other _ _ _ _ (by intro e; injection e with _ e; exact hi e.symm)
  exact ⟨(o 0 (by omega)).trans h.c0, (o 1 (by omega)).trans h.c1, (o 2 (by omega)).trans h.c2, (o 3 (by omega)).trans h.c3, (o 4 (by omega)).trans h.c4, (o 5 (by omega)).trans h.c5, World.cell?_setCell_same _ _ _ h.c6,
    (World.frozen?_setCell _ _ _ _).trans h.f5, (World.frozen?_setCell _ _ _ _).trans h.f6, h.mr.setCell h.d1 _, h.mp.setCell h.d2 _, h.d1, h.d2, h.d3⟩

/-- The numbers of a memo that is used with care. -/
structure MS.Fine (s : MS) : Prop where
  a0 : 0 ≤ s.asked
  a1 : s.asked < 1000000000
  k0 : 0 ≤ s.known
  k1 : s.known < 1000000000
  sz : s.sz < 1000000000

set_option maxHeartbeats 1000000 in
theorem askR_any (b br bp : Nat) (s : MS) (x y : Int) (w : World) (hx : W64 x) (hy : W64 y) (H : MemoAt w b br bp s) (hF : s.Fine) :
    Calls Try.prog 24 #[.pointer (some ⟨b, 0, none⟩), .pointer (some ⟨b, 0, none⟩), .agg #[.int .i64 x, .int .i64 y]] w fun e w' => e = .returned (ansOf (hasB s.nr s.nt x y) (s.R x y)) ∧ MemoAt w' b br bp (s.askR x y) ∧ Chg (· = b) w w' := by
  have c0 := H.c0
  have c4 := H.c4
  have HH := Lib.hid H
  have hlt := World.block_lt_of_cell? _ _ c4
  simp only at hlt
  obtain ⟨ha0, ha1, hk0, hk1, _⟩ := hF
  obtain ⟨o, ho⟩ : ∃ o, o = Obj.cells #[.int .i64 x, .int .i64 y] 62 := ⟨_, rfl⟩
  have HC0 := Lib.hid ((Chg.refl (fun _ => False) w).alloc o)
  have c0' : (w.alloc o).cell? ⟨b, 0, none⟩ = some (.int .i64 s.nr) := by rw [World.cell?_alloc_lt _ _ _ (by exact hlt)]; exact c0
  have c4' : (w.alloc o).cell? ⟨b, 4, none⟩ = some (.int .i64 s.nt) := by rw [World.cell?_alloc_lt _ _ _ (by exact hlt)]; exact c4
  have hh := has_any b b 0 x y s.nr s.nt (w.alloc o) c0' c4'
  have HH' := Lib.hid hh
  clear hh c0' c4' c0 c4 H
  subst ho
  by_cases hB : hasB s.nr s.nt x y = true
  · by_cases hk : (s.R x y).isSome = true
    · have hk' : (s.R x y).isSome = true := hk
      rw [hB] at HH'
      have e1 : s.askR x y = { s with asked := s.asked + 1, known := s.known + 1 } := by simp [MS.askR, hB, hk']
      have E1 := Lib.hid e1
      rw [hB, show ansOf true (s.R x y) = .tuple #[.int .i64 ((s.R x y).getD 0), .bool true] by simp [ansOf, valOf, flagOf, hk']]
      have HK := Lib.hid hk'
      clear e1 hB hk hk'
      go_enter Try.func24, Try.ntmps24
      go_wp2_with fail
      refine HH'.out.mono ?_
      rintro e w1 ⟨rfl, hc1⟩
      have HC1 := Lib.hid (HC0.out.trans hc1)
      have HM1 := Lib.hid (HH.out.chg HC1.out (fun h => h) (fun h => h) (fun h => h))
      have c5 : w1.cell? ⟨w.heap.size, 0, none⟩ = some (.int .i64 x) := hc1.cellS (World.cell?_alloc_new _ _ _ _) (fun h => h)
      have c6 : w1.cell? ⟨w.heap.size, 1, none⟩ = some (.int .i64 y) := hc1.cellS (World.cell?_alloc_new _ _ _ _) (fun h => h)
      clear hc1
      go_wp2_with fail
      refine (add_any b 5 s.asked w1 HM1.out.c5 HM1.out.f5 ⟨ha0, ha1⟩).mono ?_
      rintro e w2 ⟨rfl, hw2⟩
      have HM2 := Lib.hid (HM1.out.setAsked (s.asked + 1))
      have hne : w.heap.size ≠ b := by omega
      have d5 : w2.cell? ⟨w.heap.size, 0, none⟩ = some (.int .i64 x) := by rw [← hw2, World.cell?_setCell_other _ _ _ _ (by intro e; injection e with e; exact hne e.symm)]; exact c5
      have d6 : w2.cell? ⟨w.heap.size, 1, none⟩ = some (.int .i64 y) := by rw [← hw2, World.cell?_setCell_other _ _ _ _ (by intro e; injection e with e; exact hne e.symm)]; exact c6
      rw [hw2] at HM2
      have HC2 : Hid (Chg (· = b) w w2) := Lib.hid (by rw [← hw2]; exact Chg.setCell (S := (· = b)) (p := ⟨b, 5, none⟩) (HC1.out.mono (fun _ _ h => h.elim)) (.inr rfl) _)
      have cm := HM2.out.c1
      have hl := fun n => (HM2.out.mr.chg ((Chg.refl (fun _ => False) w2).drewN n) (fun h => h)).look hx hy
      simp only [HK.out] at hl
      clear hw2 c5 c6 hne
      go_wp2_with fail
      go_quiet (fail)
      go_wp2_with fail
      refine (add_any b 6 s.known _ (HM2.out.drewN nq).c6 (HM2.out.drewN nq).f6 ⟨hk0, hk1⟩).mono ?_
      rintro e w3 ⟨rfl, hw3⟩
      have HM3 := Lib.hid ((HM2.out.drewN nq).setKnown (s.known + 1))
      rw [hw3] at HM3
      have HC3 : Hid (Chg (· = b) w w3) := Lib.hid (by rw [← hw3]; exact Chg.setCell (S := (· = b)) (p := ⟨b, 6, none⟩) (HC2.out.drewN nq) (.inr rfl) _)
      clear hw3
      go_wp2
      go_ret2
      exact ⟨rfl, by rw [E1.out]; exact HM3.out, HC3.out⟩
    · have hk' : (s.R x y).isSome = false := by simpa using hk
      rw [hB] at HH'
      have e1 : s.askR x y = { s with asked := s.asked + 1, known := s.known + 0 } := by simp [MS.askR, hB, hk']
      have E1 := Lib.hid e1
      rw [hB, show ansOf true (s.R x y) = .tuple #[.int .i64 ((s.R x y).getD 0), .bool false] by simp [ansOf, valOf, flagOf, hk']]
      have HK := Lib.hid hk'
      clear e1 hB hk hk'
      go_enter Try.func24, Try.ntmps24
      go_wp2_with fail
      refine HH'.out.mono ?_
      rintro e w1 ⟨rfl, hc1⟩
      have HC1 := Lib.hid (HC0.out.trans hc1)
      have HM1 := Lib.hid (HH.out.chg HC1.out (fun h => h) (fun h => h) (fun h => h))
      have c5 : w1.cell? ⟨w.heap.size, 0, none⟩ = some (.int .i64 x) := hc1.cellS (World.cell?_alloc_new _ _ _ _) (fun h => h)
      have c6 : w1.cell? ⟨w.heap.size, 1, none⟩ = some (.int .i64 y) := hc1.cellS (World.cell?_alloc_new _ _ _ _) (fun h => h)
      clear hc1
      go_wp2_with fail
      refine (add_any b 5 s.asked w1 HM1.out.c5 HM1.out.f5 ⟨ha0, ha1⟩).mono ?_
      rintro e w2 ⟨rfl, hw2⟩
      have HM2 := Lib.hid (HM1.out.setAsked (s.asked + 1))
      have hne : w.heap.size ≠ b := by omega
      have d5 : w2.cell? ⟨w.heap.size, 0, none⟩ = some (.int .i64 x) := by rw [← hw2, World.cell?_setCell_other _ _ _ _ (by intro e; injection e with e; exact hne e.symm)]; exact c5
      have d6 : w2.cell? ⟨w.heap.size, 1, none⟩ = some (.int .i64 y) := by rw [← hw2, World.cell?_setCell_other _ _ _ _ (by intro e; injection e with e; exact hne e.symm)]; exact c6
      rw [hw2] at HM2
      have HC2 : Hid (Chg (· = b) w w2) := Lib.hid (by rw [← hw2]; exact Chg.setCell (S := (· = b)) (p := ⟨b, 5, none⟩) (HC1.out.mono (fun _ _ h => h.elim)) (.inr rfl) _)
      have cm := HM2.out.c1
      have hl := fun n => (HM2.out.mr.chg ((Chg.refl (fun _ => False) w2).drewN n) (fun h => h)).look hx hy
      simp only [HK.out] at hl
      clear hw2 c5 c6 hne
      go_wp2_with fail
      go_quiet (fail)
      go_wp2
      go_ret2
      exact ⟨rfl, by rw [E1.out]; simpa using HM2.out.drewN nq, HC2.out.drewN nq⟩
  · have hB' : hasB s.nr s.nt x y = false := by simpa using hB
    rw [hB'] at HH'
    have e1 : s.askR x y = s := by simp [MS.askR, hB']
    have e2 : ansOf false (s.R x y) = .tuple #[.int .i64 0, .bool false] := by simp [ansOf, valOf, flagOf]
    have E1 := Lib.hid e1
    rw [hB', e2]
    clear e1 e2 hB hB'
    go_enter Try.func24, Try.ntmps24
    go_wp2_with fail
    refine HH'.out.mono ?_
    rintro e w1 ⟨rfl, hc1⟩
    have HC1 := Lib.hid (HC0.out.trans hc1)
    clear hc1
    go_wp2
    go_ret2
    exact ⟨rfl, by rw [E1.out]; exact HH.out.chg HC1.out (fun h => h) (fun h => h) (fun h => h), HC1.out.mono (fun _ _ h => h.elim)⟩

set_option maxHeartbeats 1000000 in
theorem askP_any (b br bp : Nat) (s : MS) (x y : Int) (w : World) (hx : W64 x) (hy : W64 y) (H : MemoAt w b br bp s) (hF : s.Fine) :
    Calls Try.prog 24 #[.pointer (some ⟨b, 0, none⟩), .pointer (some ⟨b, 2, none⟩), .agg #[.int .i64 x, .int .i64 y]] w fun e w' => e = .returned (ansOf (hasB s.np s.nt x y) (s.P x y)) ∧ MemoAt w' b br bp (s.askP x y) ∧ Chg (· = b) w w' := by
  have c0 := H.c2
  have c4 := H.c4
  have HH := Lib.hid H
  have hlt := World.block_lt_of_cell? _ _ c4
  simp only at hlt
  obtain ⟨ha0, ha1, hk0, hk1, _⟩ := hF
  obtain ⟨o, ho⟩ : ∃ o, o = Obj.cells #[.int .i64 x, .int .i64 y] 62 := ⟨_, rfl⟩
  have HC0 := Lib.hid ((Chg.refl (fun _ => False) w).alloc o)
  have c0' : (w.alloc o).cell? ⟨b, 2, none⟩ = some (.int .i64 s.np) := by rw [World.cell?_alloc_lt _ _ _ (by exact hlt)]; exact c0
  have c4' : (w.alloc o).cell? ⟨b, 4, none⟩ = some (.int .i64 s.nt) := by rw [World.cell?_alloc_lt _ _ _ (by exact hlt)]; exact c4
  have hh := has_any b b 2 x y s.np s.nt (w.alloc o) c0' c4'
  have HH' := Lib.hid hh
  clear hh c0' c4' c0 c4 H
  subst ho
  by_cases hB : hasB s.np s.nt x y = true
  · by_cases hk : (s.P x y).isSome = true
    · have hk' : (s.P x y).isSome = true := hk
      rw [hB] at HH'
      have e1 : s.askP x y = { s with asked := s.asked + 1, known := s.known + 1 } := by simp [MS.askP, hB, hk']
      have E1 := Lib.hid e1
      rw [hB, show ansOf true (s.P x y) = .tuple #[.int .i64 ((s.P x y).getD 0), .bool true] by simp [ansOf, valOf, flagOf, hk']]
      have HK := Lib.hid hk'
      clear e1 hB hk hk'
      go_enter Try.func24, Try.ntmps24
      go_wp2_with fail
      refine HH'.out.mono ?_
      rintro e w1 ⟨rfl, hc1⟩
      have HC1 := Lib.hid (HC0.out.trans hc1)
      have HM1 := Lib.hid (HH.out.chg HC1.out (fun h => h) (fun h => h) (fun h => h))
      have c5 : w1.cell? ⟨w.heap.size, 0, none⟩ = some (.int .i64 x) := hc1.cellS (World.cell?_alloc_new _ _ _ _) (fun h => h)
      have c6 : w1.cell? ⟨w.heap.size, 1, none⟩ = some (.int .i64 y) := hc1.cellS (World.cell?_alloc_new _ _ _ _) (fun h => h)
      clear hc1
      go_wp2_with fail
      refine (add_any b 5 s.asked w1 HM1.out.c5 HM1.out.f5 ⟨ha0, ha1⟩).mono ?_
      rintro e w2 ⟨rfl, hw2⟩
      have HM2 := Lib.hid (HM1.out.setAsked (s.asked + 1))
      have hne : w.heap.size ≠ b := by omega
      have d5 : w2.cell? ⟨w.heap.size, 0, none⟩ = some (.int .i64 x) := by rw [← hw2, World.cell?_setCell_other _ _ _ _ (by intro e; injection e with e; exact hne e.symm)]; exact c5
      have d6 : w2.cell? ⟨w.heap.size, 1, none⟩ = some (.int .i64 y) := by rw [← hw2, World.cell?_setCell_other _ _ _ _ (by intro e; injection e with e; exact hne e.symm)]; exact c6
      rw [hw2] at HM2
      have HC2 : Hid (Chg (· = b) w w2) := Lib.hid (by rw [← hw2]; exact Chg.setCell (S := (· = b)) (p := ⟨b, 5, none⟩) (HC1.out.mono (fun _ _ h => h.elim)) (.inr rfl) _)
      have cm := HM2.out.c3
      have hl := fun n => (HM2.out.mp.chg ((Chg.refl (fun _ => False) w2).drewN n) (fun h => h)).look hx hy
      simp only [HK.out] at hl
      clear hw2 c5 c6 hne
      go_wp2_with fail
      go_quiet (fail)
      go_wp2_with fail
      refine (add_any b 6 s.known _ (HM2.out.drewN nq).c6 (HM2.out.drewN nq).f6 ⟨hk0, hk1⟩).mono ?_
      rintro e w3 ⟨rfl, hw3⟩
      have HM3 := Lib.hid ((HM2.out.drewN nq).setKnown (s.known + 1))
      rw [hw3] at HM3
      have HC3 : Hid (Chg (· = b) w w3) := Lib.hid (by rw [← hw3]; exact Chg.setCell (S := (· = b)) (p := ⟨b, 6, none⟩) (HC2.out.drewN nq) (.inr rfl) _)
      clear hw3
      go_wp2
      go_ret2
      exact ⟨rfl, by rw [E1.out]; exact HM3.out, HC3.out⟩
    · have hk' : (s.P x y).isSome = false := by simpa using hk
      rw [hB] at HH'
      have e1 : s.askP x y = { s with asked := s.asked + 1, known := s.known + 0 } := by simp [MS.askP, hB, hk']
      have E1 := Lib.hid e1
      rw [hB, show ansOf true (s.P x y) = .tuple #[.int .i64 ((s.P x y).getD 0), .bool false] by simp [ansOf, valOf, flagOf, hk']]
      have HK := Lib.hid hk'
      clear e1 hB hk hk'
      go_enter Try.func24, Try.ntmps24
      go_wp2_with fail
      refine HH'.out.mono ?_
      rintro e w1 ⟨rfl, hc1⟩
      have HC1 := Lib.hid (HC0.out.trans hc1)
      have HM1 := Lib.hid (HH.out.chg HC1.out (fun h => h) (fun h => h) (fun h => h))
      have c5 : w1.cell? ⟨w.heap.size, 0, none⟩ = some (.int .i64 x) := hc1.cellS (World.cell?_alloc_new _ _ _ _) (fun h => h)
      have c6 : w1.cell? ⟨w.heap.size, 1, none⟩ = some (.int .i64 y) := hc1.cellS (World.cell?_alloc_new _ _ _ _) (fun h => h)
      clear hc1
      go_wp2_with fail
      refine (add_any b 5 s.asked w1 HM1.out.c5 HM1.out.f5 ⟨ha0, ha1⟩).mono ?_
      rintro e w2 ⟨rfl, hw2⟩
      have HM2 := Lib.hid (HM1.out.setAsked (s.asked + 1))
      have hne : w.heap.size ≠ b := by omega
      have d5 : w2.cell? ⟨w.heap.size, 0, none⟩ = some (.int .i64 x) := by rw [← hw2, World.cell?_setCell_other _ _ _ _ (by intro e; injection e with e; exact hne e.symm)]; exact c5
      have d6 : w2.cell? ⟨w.heap.size, 1, none⟩ = some (.int .i64 y) := by rw [← hw2, World.cell?_setCell_other _ _ _ _ (by intro e; injection e with e; exact hne e.symm)]; exact c6
      rw [hw2] at HM2
      have HC2 : Hid (Chg (· = b) w w2) := Lib.hid (by rw [← hw2]; exact Chg.setCell (S := (· = b)) (p := ⟨b, 5, none⟩) (HC1.out.mono (fun _ _ h => h.elim)) (.inr rfl) _)
      have cm := HM2.out.c3
      have hl := fun n => (HM2.out.mp.chg ((Chg.refl (fun _ => False) w2).drewN n) (fun h => h)).look hx hy
      simp only [HK.out] at hl
      clear hw2 c5 c6 hne
      go_wp2_with fail
      go_quiet (fail)
      go_wp2
      go_ret2
      exact ⟨rfl, by rw [E1.out]; simpa using HM2.out.drewN nq, HC2.out.drewN nq⟩
  · have hB' : hasB s.np s.nt x y = false := by simpa using hB
    rw [hB'] at HH'
    have e1 : s.askP x y = s := by simp [MS.askP, hB']
    have e2 : ansOf false (s.P x y) = .tuple #[.int .i64 0, .bool false] := by simp [ansOf, valOf, flagOf]
    have E1 := Lib.hid e1
    rw [hB', e2]
    clear e1 e2 hB hB'
    go_enter Try.func24, Try.ntmps24
    go_wp2_with fail
    refine HH'.out.mono ?_
    rintro e w1 ⟨rfl, hc1⟩
    have HC1 := Lib.hid (HC0.out.trans hc1)
    clear hc1
    go_wp2
    go_ret2
    exact ⟨rfl, by rw [E1.out]; exact HH.out.chg HC1.out (fun h => h) (fun h => h) (fun h => h), HC1.out.mono (fun _ _ h => h.elim)⟩

end Go.Proofs.Ytoicneeecokglaa
