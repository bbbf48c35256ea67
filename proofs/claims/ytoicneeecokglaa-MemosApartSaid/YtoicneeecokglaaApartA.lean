/- 'MemosApart', the plain part: what is wanted of each spot, and what the memo knows. -/
import Derived.Test.YtoicneeecokglaaMemoL
namespace Go.Proofs.Ytoicneeecokglaa
open Go.RowKit Go.Maps

def optW (v : Int) : Option Int := if v = -9 then none else some v
/-- What the memo knows of spot i at place k: the first eight are rules. -/
def MS.at' (s : MS) (i k : Nat) : Option Int := if i < 8 then s.R i k else s.P ((i - 8 : Nat) : Int) k
def badW (r p : Int) (i : Nat) : Prop := (i < 8 ∧ r ≤ i) ∨ (8 ≤ i ∧ p ≤ ((i - 8 : Nat) : Int))
structure RelW (f : Nat → Nat → Int) (s : MS) (r p : Int) : Prop where
  nr : s.nr = r
  np : s.np = p
  nt : s.nt = 12
  r0 : 0 ≤ r ∧ r ≤ 8
  p0 : 0 ≤ p ∧ p ≤ 8
  at' : ∀ i k, i < 16 → k < 13 → s.at' i k = optW (f i k)
  bad : ∀ i k, i < 16 → k < 13 → badW r p i → f i k = -9
def maskW (f : Nat → Nat → Int) (a b : Nat) (i k : Nat) : Int := if i < a ∨ (i = a ∧ k < b) then f i k else -9
def updW (f : Nat → Nat → Int) (a b : Nat) (v : Int) (i k : Nat) : Int := if i = a ∧ k = b then v else f i k

theorem RelW.congr {f g : Nat → Nat → Int} {s : MS} {r p : Int} (h : RelW f s r p) (hg : ∀ i k, i < 16 → k < 13 → g i k = f i k) : RelW g s r p :=
  ⟨h.nr, h.np, h.nt, h.r0, h.p0, fun i k hi hk => by rw [h.at' i k hi hk, hg i k hi hk], fun i k hi hk hb => by rw [hg i k hi hk]; exact h.bad i k hi hk hb⟩
theorem RelW.start {r p : Int} (hr : 0 ≤ r ∧ r ≤ 8) (hp : 0 ≤ p ∧ p ≤ 8) (f : Nat → Nat → Int) : RelW (maskW f 0 0) (MS.new r p 12) r p :=
  ⟨rfl, rfl, rfl, hr, hp, fun i k _ _ => by unfold MS.at' maskW optW MS.new; simp, fun i k _ _ _ => by unfold maskW; simp⟩
/-- A spot of which nothing is said. -/
theorem RelW.skip {f : Nat → Nat → Int} {s : MS} {r p : Int} {a b : Nat} (h : RelW (maskW f a b) s r p) : RelW (maskW (updW f a b (-9)) a (b + 1)) s r p :=
  h.congr fun i k _ _ => by
    unfold maskW updW
    by_cases h1 : i = a ∧ k = b
    · obtain ⟨rfl, rfl⟩ := h1
      simp
    · simp only [h1, if_false]
      by_cases h2 : i < a ∨ (i = a ∧ k < b)
      · rw [if_pos h2, if_pos (by omega)]
      · rw [if_neg h2, if_neg (by omega)]
theorem RelW.line {f : Nat → Nat → Int} {s : MS} {r p : Int} {a : Nat} (h : RelW (maskW f a 13) s r p) : RelW (maskW f (a + 1) 0) s r p :=
  h.congr fun i k _ hk => by
    unfold maskW
    by_cases h2 : i < a ∨ (i = a ∧ k < 13)
    · rw [if_pos h2, if_pos (by omega)]
    · rw [if_neg h2, if_neg (by omega)]
theorem RelW.whole {f : Nat → Nat → Int} {s : MS} {r p : Int} (h : RelW (maskW f 16 0) s r p) : RelW f s r p :=
  h.congr fun i k hi _ => by unfold maskW; rw [if_pos (by omega)]

/-- A rule of which something is said, twice. -/
theorem RelW.rule {f : Nat → Nat → Int} {s : MS} {r p : Int} {a b : Nat} {v u : Int} (h : RelW (maskW f a b) s r p) (ha : a < 8) (hb : b < 13) (har : (a : Int) < r) (hv : v = -1 ∨ ((b : Int) ≤ v ∧ v ≤ 12)) (hu : (b : Int) ≤ u ∧ u ≤ 12) :
    s.okR a b v = true ∧ (s.sayR a b v).okR a b u = true ∧ RelW (maskW (updW f a b v) a (b + 1)) ((s.sayR a b v).sayR a b u) r p ∧ ((s.sayR a b v).sayR a b u).asked = s.asked ∧ ((s.sayR a b v).sayR a b u).known = s.known ∧ ((s.sayR a b v).sayR a b u).sz = s.sz + 2 ∧ (s.sayR a b v).sz = s.sz + 1 ∧ (s.sayR a b v).asked = s.asked ∧ (s.sayR a b v).known = s.known := by
  have hB : hasB s.nr s.nt a b = true := by rw [h.nr, h.nt]; simp [hasB]; omega
  have ok1 : s.okR a b v = true := by
    unfold MS.okR
    rw [hB, h.nt]
    rcases hv with rfl | ⟨h1, h2⟩
    · rfl
    · have e1 : decide (v < (b : Int)) = false := by simp; omega
      have e2 : decide ((12 : Int) < v) = false := by simp; omega
      rw [e1, e2]
      simp
  have ok2 : (s.sayR a b v).okR a b u = true := by
    have : (s.sayR a b v).okR a b u = s.okR a b u := by unfold MS.sayR; rw [ok1]; rfl
    rw [this]
    unfold MS.okR
    rw [hB, h.nt]
    have e1 : decide (u < (b : Int)) = false := by simp; omega
    have e2 : decide ((12 : Int) < u) = false := by simp; omega
    rw [e1, e2]
    simp
  have hn : s.R a b = none := by
    have := h.at' a b (by omega) hb
    unfold MS.at' at this
    rw [if_pos ha] at this
    rw [this]
    unfold maskW optW
    simp
  have e1 : s.sayR a b v = { s with R := sayF s.R a b v, sz := s.sz + 1 } := by unfold MS.sayR; rw [ok1]; rfl
  have e2 : (s.sayR a b v).sayR a b u = { s with R := sayF s.R a b v, sz := s.sz + 2 } := by
    have key : ∀ t : MS, t.okR a b u = true → t.sayR a b u = { t with R := sayF t.R a b u, sz := t.sz + 1 } := fun t ht => by unfold MS.sayR; rw [ht]; rfl
    rw [key _ ok2, e1]
    have : sayF (sayF s.R a b v) a b u = sayF s.R a b v := sayF_known u (by simp [sayF, hn])
    simp only [this]
  refine ⟨ok1, ok2, ?_, by rw [e2], by rw [e2], by rw [e2], by rw [e1], by rw [e1], by rw [e1]⟩
  rw [e2]
  refine ⟨h.nr, h.np, h.nt, h.r0, h.p0, fun i k hi hk => ?_, fun i k hi hk hb => ?_⟩
  · have hik := h.at' i k hi hk
    unfold MS.at' at hik ⊢
    by_cases h8 : i < 8
    · rw [if_pos h8] at hik ⊢
      show sayF s.R a b v i k = _
      unfold sayF
      by_cases he : i = a ∧ k = b
      · obtain ⟨rfl, rfl⟩ := he
        rw [if_pos ⟨rfl, rfl, hn⟩]
        unfold maskW updW optW
        simp
        omega
      · rw [if_neg (by intro h'; exact he ⟨by omega, by omega⟩), hik]
        unfold maskW updW
        simp only [he, if_false]
        congr 1
        by_cases h2 : i < a ∨ (i = a ∧ k < b)
        · rw [if_pos h2, if_pos (by omega)]
        · rw [if_neg h2, if_neg (by omega)]
    · rw [if_neg h8] at hik ⊢
      show s.P ((i - 8 : Nat) : Int) k = _
      rw [hik]
      unfold maskW updW
      rw [if_neg (by omega), if_neg (by omega)]
  · have := h.bad i k hi hk hb
    unfold badW at hb
    unfold maskW updW at *
    split
    · rw [if_neg (by omega)]
      by_cases h2 : i < a ∨ (i = a ∧ k < b)
      · rw [if_pos h2] at this; exact this
      · omega
    · rfl

/-- A decision of which something is said, twice. -/
theorem RelW.pick {f : Nat → Nat → Int} {s : MS} {r p : Int} {a b : Nat} {v u : Int} (h : RelW (maskW f a b) s r p) (ha : 8 ≤ a) (ha' : a < 16) (hb : b < 13) (har : ((a - 8 : Nat) : Int) < p) (hv : -1 ≤ v ∧ v < 32) (hu : -1 ≤ u ∧ u < 32) :
    s.okP ((a - 8 : Nat) : Int) b v = true ∧ (s.sayP ((a - 8 : Nat) : Int) b v).okP ((a - 8 : Nat) : Int) b u = true ∧ RelW (maskW (updW f a b v) a (b + 1)) ((s.sayP ((a - 8 : Nat) : Int) b v).sayP ((a - 8 : Nat) : Int) b u) r p ∧ ((s.sayP ((a - 8 : Nat) : Int) b v).sayP ((a - 8 : Nat) : Int) b u).asked = s.asked ∧ ((s.sayP ((a - 8 : Nat) : Int) b v).sayP ((a - 8 : Nat) : Int) b u).known = s.known ∧ ((s.sayP ((a - 8 : Nat) : Int) b v).sayP ((a - 8 : Nat) : Int) b u).sz = s.sz + 2 ∧ (s.sayP ((a - 8 : Nat) : Int) b v).sz = s.sz + 1 ∧ (s.sayP ((a - 8 : Nat) : Int) b v).asked = s.asked ∧ (s.sayP ((a - 8 : Nat) : Int) b v).known = s.known := by
  obtain ⟨c, rfl⟩ : ∃ c, a = c + 8 := ⟨a - 8, by omega⟩
  simp only [Nat.add_sub_cancel] at *
  have hB : hasB s.np s.nt c b = true := by rw [h.np, h.nt]; simp [hasB]; omega
  have ok1 : s.okP c b v = true := by
    unfold MS.okP
    rw [hB]
    have e1 : decide (v < (-1 : Int)) = false := by simp; omega
    have e2 : decide ((32 : Int) ≤ v) = false := by simp; omega
    rw [e1, e2]
    rfl
  have ok2 : (s.sayP c b v).okP c b u = true := by
    have : (s.sayP c b v).okP c b u = s.okP c b u := by unfold MS.sayP; rw [ok1]; rfl
    rw [this]
    unfold MS.okP
    rw [hB]
    have e1 : decide (u < (-1 : Int)) = false := by simp; omega
    have e2 : decide ((32 : Int) ≤ u) = false := by simp; omega
    rw [e1, e2]
    rfl
  have hn : s.P c b = none := by
    have := h.at' (c + 8) b (by omega) hb
    unfold MS.at' at this
    rw [if_neg (by omega)] at this
    simp only [Nat.add_sub_cancel] at this
    rw [this]
    unfold maskW optW
    simp
  have e1 : s.sayP c b v = { s with P := sayF s.P c b v, sz := s.sz + 1 } := by unfold MS.sayP; rw [ok1]; rfl
  have e2 : (s.sayP c b v).sayP c b u = { s with P := sayF s.P c b v, sz := s.sz + 2 } := by
    have key : ∀ t : MS, t.okP c b u = true → t.sayP c b u = { t with P := sayF t.P c b u, sz := t.sz + 1 } := fun t ht => by unfold MS.sayP; rw [ht]; rfl
    rw [key _ ok2, e1]
    have : sayF (sayF s.P c b v) c b u = sayF s.P c b v := sayF_known u (by simp [sayF, hn])
    simp only [this]
  refine ⟨ok1, ok2, ?_, by rw [e2], by rw [e2], by rw [e2], by rw [e1], by rw [e1], by rw [e1]⟩
  rw [e2]
  refine ⟨h.nr, h.np, h.nt, h.r0, h.p0, fun i k hi hk => ?_, fun i k hi hk hb => ?_⟩
  · have hik := h.at' i k hi hk
    unfold MS.at' at hik ⊢
    by_cases h8 : i < 8
    · rw [if_pos h8] at hik ⊢
      show s.R i k = _
      rw [hik]
      unfold maskW updW
      rw [if_pos (by omega), if_pos (by omega), if_neg (by omega)]
    · rw [if_neg h8] at hik ⊢
      show sayF s.P c b v ((i - 8 : Nat) : Int) k = _
      unfold sayF
      by_cases he : i = c + 8 ∧ k = b
      · obtain ⟨rfl, rfl⟩ := he
        rw [if_pos ⟨by simp, rfl, hn⟩]
        unfold maskW updW optW
        simp
        omega
      · rw [if_neg (by intro h'; exact he ⟨by omega, by omega⟩), hik]
        unfold maskW updW
        simp only [he, if_false]
        congr 1
        by_cases h2 : i < c + 8 ∨ (i = c + 8 ∧ k < b)
        · rw [if_pos h2, if_pos (by omega)]
        · rw [if_neg h2, if_neg (by omega)]
  · have := h.bad i k hi hk hb
    unfold badW at hb
    unfold maskW updW at *
    split
    · rw [if_neg (by omega)]
      by_cases h2 : i < c + 8 ∨ (i = c + 8 ∧ k < b)
      · rw [if_pos h2] at this; exact this
      · omega
    · rfl

/-- What is asked of a rule. -/
theorem RelW.askRule {f : Nat → Nat → Int} {s : MS} {r p : Int} (h : RelW f s r p) {i k : Nat} (hi : i < 8) (hk : k < 13) :
    valOf (hasB s.nr s.nt i k) (s.R i k) = (if f i k = -9 then 0 else f i k) ∧ flagOf (hasB s.nr s.nt i k) (s.R i k) = (f i k != -9) ∧ RelW f (s.askR i k) r p ∧ (s.askR i k).asked = s.asked + (if (i : Int) < r then 1 else 0) ∧ (s.askR i k).known = s.known + (if f i k = -9 then 0 else 1) ∧ (s.askR i k).sz = s.sz := by
  have hat := h.at' i k (by omega) hk
  unfold MS.at' at hat
  rw [if_pos hi] at hat
  have hB : hasB s.nr s.nt i k = decide ((i : Int) < r) := by rw [h.nr, h.nt]; simp [hasB]; omega
  rw [hB, hat]
  by_cases hir : (i : Int) < r
  · have e1 : s.askR i k = { s with asked := s.asked + 1, known := s.known + (if f i k = -9 then 0 else 1) } := by
      unfold MS.askR
      rw [hB, hat]
      unfold optW
      simp only [hir, decide_true, if_true]
      by_cases hf : f i k = -9 <;> simp [hf]
    rw [e1]
    refine ⟨?_, ?_, ⟨h.nr, h.np, h.nt, h.r0, h.p0, h.at', h.bad⟩, by simp [hir], rfl, rfl⟩
    · by_cases hf : f i k = -9 <;> simp [valOf, optW, hir, hf]
    · by_cases hf : f i k = -9 <;> simp [flagOf, optW, hir, hf]
  · have hf : f i k = -9 := h.bad i k (by omega) hk (.inl ⟨hi, by omega⟩)
    have e1 : s.askR i k = s := by unfold MS.askR; rw [hB]; simp [hir]
    rw [e1, hf]
    exact ⟨by simp [valOf, optW], by simp [flagOf, optW], h, by simp [hir], by simp, rfl⟩
/-- .. of a rule that there is not. -/
theorem RelW.askNone {f : Nat → Nat → Int} {s : MS} {r p : Int} (h : RelW f s r p) {i k : Nat} (hi : 8 ≤ i) :
    valOf (hasB s.nr s.nt i k) (s.R i k) = 0 ∧ flagOf (hasB s.nr s.nt i k) (s.R i k) = false ∧ s.askR i k = s := by
  have hB : hasB s.nr s.nt i k = false := by have := h.r0; rw [h.nr]; simp [hasB]; omega
  rw [hB]
  exact ⟨rfl, rfl, by unfold MS.askR; rw [hB]; rfl⟩
theorem RelW.askPick {f : Nat → Nat → Int} {s : MS} {r p : Int} (h : RelW f s r p) {i k : Nat} (hi : 8 ≤ i) (hi' : i < 16) (hk : k < 13) :
    valOf (hasB s.np s.nt ((i - 8 : Nat) : Int) k) (s.P ((i - 8 : Nat) : Int) k) = (if f i k = -9 then 0 else f i k) ∧ flagOf (hasB s.np s.nt ((i - 8 : Nat) : Int) k) (s.P ((i - 8 : Nat) : Int) k) = (f i k != -9) ∧ RelW f (s.askP ((i - 8 : Nat) : Int) k) r p ∧ (s.askP ((i - 8 : Nat) : Int) k).asked = s.asked + (if ((i - 8 : Nat) : Int) < p then 1 else 0) ∧ (s.askP ((i - 8 : Nat) : Int) k).known = s.known + (if f i k = -9 then 0 else 1) ∧ (s.askP ((i - 8 : Nat) : Int) k).sz = s.sz := by
  have hat := h.at' i k (by omega) hk
  unfold MS.at' at hat
  rw [if_neg (by omega)] at hat
  have hc0 : (0 : Int) ≤ ((i - 8 : Nat) : Int) := by omega
  have hbad : ¬ (((i - 8 : Nat) : Int) < p) → f i k = -9 := fun h' => h.bad i k (by omega) hk (.inr ⟨hi, by omega⟩)
  generalize ((i - 8 : Nat) : Int) = c at *
  have hB : hasB s.np s.nt c k = decide (c < p) := by
    rw [h.np, h.nt]
    unfold hasB
    rw [decide_eq_decide]
    exact ⟨fun h' => h'.2.1, fun h' => ⟨hc0, h', by omega, by omega⟩⟩
  rw [hB, hat]
  by_cases hir : c < p
  · have e1 : s.askP c k = { s with asked := s.asked + 1, known := s.known + (if f i k = -9 then 0 else 1) } := by
      unfold MS.askP
      rw [hB, hat]
      unfold optW
      simp only [hir, decide_true, if_true]
      by_cases hf : f i k = -9 <;> simp [hf]
    rw [e1]
    refine ⟨?_, ?_, ⟨h.nr, h.np, h.nt, h.r0, h.p0, h.at', h.bad⟩, by simp [hir], rfl, rfl⟩
    · by_cases hf : f i k = -9 <;> simp [valOf, optW, hir, hf]
    · by_cases hf : f i k = -9 <;> simp [flagOf, optW, hir, hf]
  · have hf : f i k = -9 := hbad hir
    have e1 : s.askP c k = s := by unfold MS.askP; rw [hB]; simp [hir]
    rw [e1, hf]
    exact ⟨by simp [valOf, optW], by simp [flagOf, optW], h, by simp [hir], by simp, rfl⟩
theorem RelW.clear {f : Nat → Nat → Int} {s : MS} {r p : Int} (h : RelW f s r p) : RelW (fun _ _ => -9) s.cleared r p :=
  ⟨h.nr, h.np, h.nt, h.r0, h.p0, fun i k _ _ => by unfold MS.at' MS.cleared optW; simp, fun _ _ _ _ _ => rfl⟩
end Go.Proofs.Ytoicneeecokglaa
