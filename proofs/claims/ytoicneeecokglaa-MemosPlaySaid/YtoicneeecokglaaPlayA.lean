/- 'MemosPlay', the plain part: the memo and the reference's memo know the same, whatever is said. -/
import Derived.Test.YtoicneeecokglaaRefE
namespace Go.Proofs.Ytoicneeecokglaa
open Go.RowKit Go.Maps

/-- They know the same. -/
structure Sim (s : MS) (r : RS) : Prop where
  nr : s.nr = r.nr
  np : s.np = r.np
  nt : s.nt = r.nt
  t0 : 0 ≤ s.nt
  R : ∀ x y, s.R x y = findL r.R x y
  P : ∀ x y, s.P x y = findL r.P x y
  asked : s.asked = r.asked
  known : s.known = r.known
/-- Numbers behind k rounds. -/
structure Bd (k : Nat) (s : MS) (r : RS) : Prop where
  a0 : 0 ≤ s.asked
  a1 : s.asked ≤ 2 * k
  k0 : 0 ≤ s.known
  k1 : s.known ≤ 2 * k
  sz : s.sz ≤ k
  lr : r.R.length ≤ k
  lp : r.P.length ≤ k

theorem findL_append (l : List Sd) (a b c x y : Int) : findL (l ++ [(a, b, c)]) x y = sayF (findL l) a b c x y := by
  unfold findL sayF
  rw [List.find?_append]
  cases h : l.find? (fun e => e.1 == x && e.2.1 == y) with
  | some v =>
    rw [if_neg (by rintro ⟨rfl, rfl, h'⟩; simp only at h'; rw [h] at h'; cases h')]
    simp only
    rw [h]
    rfl
  | none =>
    simp only [Option.none_or]
    by_cases hab : x = a ∧ y = b
    · obtain ⟨rfl, rfl⟩ := hab
      rw [if_pos ⟨rfl, rfl, by rw [h]; rfl⟩]
      simp
    · rw [if_neg (fun h' => hab ⟨h'.1, h'.2.1⟩)]
      rw [List.find?_cons_of_neg (by simp; intro e1 e2; exact hab ⟨e1.symm, e2.symm⟩)]
      rw [h]
      rfl

theorem Sim.new (r p t : Int) (ht : 0 ≤ t) : Sim (MS.new r p t) (RS.new r p t) := ⟨rfl, rfl, rfl, ht, fun _ _ => rfl, fun _ _ => rfl, rfl, rfl⟩
theorem Bd.new (r p t : Int) : Bd 0 (MS.new r p t) (RS.new r p t) := ⟨Int.le_refl _, Int.le_refl _, Int.le_refl _, Int.le_refl _, Nat.le_refl _, Nat.le_refl _, Nat.le_refl _⟩

theorem Sim.okR {s : MS} {r : RS} (h : Sim s r) (x y z : Int) : s.okR x y z = r.okR x y z := by
  unfold MS.okR RS.okR
  rw [h.nr, h.nt]
  have h0 := h.t0
  rw [h.nt] at h0
  by_cases hz : z = -1
  · subst hz
    have : decide (r.nt < -1) = false := by simp; omega
    simp [this]
  · have q : (z != -1) = true := by simpa using hz
    rw [q]
    cases hasB r.nr r.nt x y <;> cases decide (z < y) <;> cases decide (r.nt < z) <;> rfl
theorem Sim.okP {s : MS} {r : RS} (h : Sim s r) (x y z : Int) : s.okP x y z = r.okP x y z := by
  unfold MS.okP RS.okP
  rw [h.np, h.nt]
theorem Sim.sayR {s : MS} {r : RS} (h : Sim s r) (x y z : Int) : Sim (s.sayR x y z) (r.sayR x y z) := by
  unfold MS.sayR RS.sayR
  rw [h.okR]
  cases r.okR x y z
  · simpa using h
  · simp only [if_true]
    refine { h with R := fun i j => ?_ }
    show sayF s.R x y z i j = findL (r.R ++ [(x, y, z)]) i j
    rw [findL_append, show s.R = findL r.R from funext fun i => funext fun j => h.R i j]
theorem Sim.askR {s : MS} {r : RS} (h : Sim s r) (x y : Int) : Sim (s.askR x y) (r.askR x y) := by
  unfold MS.askR RS.askR
  have e1 : hasB s.nr s.nt x y = hasB r.nr r.nt x y := by rw [h.nr, h.nt]
  have e2 := h.R x y
  rw [e1, e2]
  cases hasB r.nr r.nt x y
  · simpa using h
  · simp only [if_true]
    exact { h with asked := by rw [h.asked], known := by rw [h.known] }
theorem Bd.sayR {k : Nat} {s : MS} {r : RS} (h : Bd k s r) (x y z : Int) : Bd (k + 1) (s.sayR x y z) (r.sayR x y z) ∧ (s.sayR x y z).asked = s.asked ∧ (s.sayR x y z).known = s.known := by
  obtain ⟨a0, a1, k0, k1, sz, lr, lp⟩ := h
  unfold MS.sayR RS.sayR
  refine ⟨?_, ?_, ?_⟩
  · split <;> split <;> constructor <;> (try simp) <;> omega
  · split <;> rfl
  · split <;> rfl
theorem MS.askR_num (s : MS) (x y : Int) : s.asked ≤ (s.askR x y).asked ∧ (s.askR x y).asked ≤ s.asked + 1 ∧ s.known ≤ (s.askR x y).known ∧ (s.askR x y).known ≤ s.known + 1 ∧ (s.askR x y).sz = s.sz := by
  unfold MS.askR
  split
  · refine ⟨by simp; omega, by simp, ?_, ?_, rfl⟩ <;> dsimp only <;> split <;> omega
  · exact ⟨by omega, by omega, by omega, by omega, rfl⟩
theorem RS.askR_len (r : RS) (x y : Int) : (r.askR x y).R = r.R ∧ (r.askR x y).P = r.P := by
  unfold RS.askR
  split <;> exact ⟨rfl, rfl⟩
theorem Sim.sayP {s : MS} {r : RS} (h : Sim s r) (x y z : Int) : Sim (s.sayP x y z) (r.sayP x y z) := by
  unfold MS.sayP RS.sayP
  rw [h.okP]
  cases r.okP x y z
  · simpa using h
  · simp only [if_true]
    refine { h with P := fun i j => ?_ }
    show sayF s.P x y z i j = findL (r.P ++ [(x, y, z)]) i j
    rw [findL_append, show s.P = findL r.P from funext fun i => funext fun j => h.P i j]
theorem Sim.askP {s : MS} {r : RS} (h : Sim s r) (x y : Int) : Sim (s.askP x y) (r.askP x y) := by
  unfold MS.askP RS.askP
  have e1 : hasB s.np s.nt x y = hasB r.np r.nt x y := by rw [h.np, h.nt]
  have e2 := h.P x y
  rw [e1, e2]
  cases hasB r.np r.nt x y
  · simpa using h
  · simp only [if_true]
    exact { h with asked := by rw [h.asked], known := by rw [h.known] }
theorem Bd.sayP {k : Nat} {s : MS} {r : RS} (h : Bd k s r) (x y z : Int) : Bd (k + 1) (s.sayP x y z) (r.sayP x y z) ∧ (s.sayP x y z).asked = s.asked ∧ (s.sayP x y z).known = s.known := by
  obtain ⟨a0, a1, k0, k1, sz, lr, lp⟩ := h
  unfold MS.sayP RS.sayP
  refine ⟨?_, ?_, ?_⟩
  · split <;> split <;> constructor <;> (try simp) <;> omega
  · split <;> rfl
  · split <;> rfl
theorem MS.askP_num (s : MS) (x y : Int) : s.asked ≤ (s.askP x y).asked ∧ (s.askP x y).asked ≤ s.asked + 1 ∧ s.known ≤ (s.askP x y).known ∧ (s.askP x y).known ≤ s.known + 1 ∧ (s.askP x y).sz = s.sz := by
  unfold MS.askP
  split
  · refine ⟨by simp; omega, by simp, ?_, ?_, rfl⟩ <;> dsimp only <;> split <;> omega
  · exact ⟨by omega, by omega, by omega, by omega, rfl⟩
theorem RS.askP_len (r : RS) (x y : Int) : (r.askP x y).R = r.R ∧ (r.askP x y).P = r.P := by
  unfold RS.askP
  split <;> exact ⟨rfl, rfl⟩
theorem Sim.cleared {s : MS} {r : RS} (h : Sim s r) : Sim s.cleared r.cleared := ⟨h.nr, h.np, h.nt, h.t0, fun _ _ => rfl, fun _ _ => rfl, rfl, rfl⟩
theorem Bd.cleared {k : Nat} (s : MS) (r : RS) : Bd k s.cleared r.cleared := ⟨Int.le_refl _, by simp [MS.cleared]; omega, Int.le_refl _, by simp [MS.cleared]; omega, Nat.zero_le _, Nat.zero_le _, Nat.zero_le _⟩
theorem Sim.ans {s : MS} {r : RS} (h : Sim s r) (x y : Int) : valOf (hasB s.nr s.nt x y) (s.R x y) = valOf (hasB r.nr r.nt x y) (findL r.R x y) ∧ flagOf (hasB s.nr s.nt x y) (s.R x y) = flagOf (hasB r.nr r.nt x y) (findL r.R x y) ∧
    valOf (hasB s.np s.nt x y) (s.P x y) = valOf (hasB r.np r.nt x y) (findL r.P x y) ∧ flagOf (hasB s.np s.nt x y) (s.P x y) = flagOf (hasB r.np r.nt x y) (findL r.P x y) := by
  rw [h.nr, h.np, h.nt, h.R, h.P]
  exact ⟨rfl, rfl, rfl, rfl⟩
/-- Between a say and the questions: numbers as behind k rounds, but one more is said. -/
structure Mid (k : Nat) (s : MS) (r : RS) : Prop where
  a0 : 0 ≤ s.asked
  a1 : s.asked ≤ 2 * k
  k0 : 0 ≤ s.known
  k1 : s.known ≤ 2 * k
  sz : s.sz ≤ k + 1
  lr : r.R.length ≤ k + 1
  lp : r.P.length ≤ k + 1
theorem Bd.mid {k : Nat} {s : MS} {r : RS} (h : Bd k s r) : Mid k s r := ⟨h.a0, h.a1, h.k0, h.k1, by have := h.sz; omega, by have := h.lr; omega, by have := h.lp; omega⟩
theorem Bd.midR {k : Nat} {s : MS} {r : RS} (h : Bd k s r) (x y z : Int) : Mid k (s.sayR x y z) (r.sayR x y z) := by
  obtain ⟨h1, e1, e2⟩ := h.sayR x y z
  exact ⟨by rw [e1]; exact h.a0, by rw [e1]; exact h.a1, by rw [e2]; exact h.k0, by rw [e2]; exact h.k1, h1.sz, h1.lr, h1.lp⟩
theorem Bd.midP {k : Nat} {s : MS} {r : RS} (h : Bd k s r) (x y z : Int) : Mid k (s.sayP x y z) (r.sayP x y z) := by
  obtain ⟨h1, e1, e2⟩ := h.sayP x y z
  exact ⟨by rw [e1]; exact h.a0, by rw [e1]; exact h.a1, by rw [e2]; exact h.k0, by rw [e2]; exact h.k1, h1.sz, h1.lr, h1.lp⟩
theorem Mid.fine {k : Nat} {s : MS} {r : RS} (h : Mid k s r) (hk : k ≤ 300) : s.Fine ∧ (∀ x y, (s.askR x y).Fine) := by
  obtain ⟨a0, a1, k0, k1, sz, lr, lp⟩ := h
  refine ⟨⟨a0, by omega, k0, by omega, by omega⟩, fun x y => ?_⟩
  obtain ⟨b1, b2, b3, b4, b5⟩ := s.askR_num x y
  exact ⟨by omega, by omega, by omega, by omega, by omega⟩
theorem Mid.fineR {k : Nat} {s : MS} {r : RS} (h : Mid k s r) (hs : Sim s r) (hk : k ≤ 300) : r.Fine ∧ (∀ x y, (r.askR x y).Fine) := by
  have hs2 := fun x y => hs.askR x y
  obtain ⟨f1, f2⟩ := h.fine hk
  have e1 := hs.asked
  have e2 := hs.known
  have := f1.a0; have := f1.a1; have := f1.k0; have := f1.k1; have := h.lr; have := h.lp
  refine ⟨⟨by omega, by omega, by omega, by omega, by omega, by omega⟩, fun x y => ?_⟩
  have e3 := (hs2 x y).asked
  have e4 := (hs2 x y).known
  obtain ⟨l1, l2⟩ := r.askR_len x y
  have := (f2 x y).a0; have := (f2 x y).a1; have := (f2 x y).k0; have := (f2 x y).k1
  exact ⟨by omega, by omega, by omega, by omega, by rw [l1]; omega, by rw [l2]; omega⟩
theorem Mid.next {k : Nat} {s : MS} {r : RS} (h : Mid k s r) (x y : Int) : Bd (k + 1) ((s.askR x y).askP x y) ((r.askR x y).askP x y) := by
  obtain ⟨a0, a1, k0, k1, sz, lr, lp⟩ := h
  obtain ⟨b1, b2, b3, b4, b5⟩ := s.askR_num x y
  obtain ⟨c1, c2, c3, c4, c5⟩ := (s.askR x y).askP_num x y
  obtain ⟨l1, l2⟩ := r.askR_len x y
  obtain ⟨m1, m2⟩ := (r.askR x y).askP_len x y
  exact ⟨by omega, by omega, by omega, by omega, by omega, by rw [m1, l1]; omega, by rw [m2, l2]; omega⟩
theorem Bd.fine {k : Nat} {s : MS} {r : RS} (h : Bd k s r) (hs : Sim s r) (hk : k ≤ 300) : s.Fine ∧ r.Fine := ⟨(h.mid.fine hk).1, (h.mid.fineR hs hk).1⟩
end Go.Proofs.Ytoicneeecokglaa
