/- A lexer by a table: a table of one's own that is being made; a region that holds calls in a chain, and a new block anywhere among them. -/
import Derived.Test.YtfhmblbomkhcpaaDoorNewR
import Derived.Test.YtfhmblbomkhcpaaDoorHeld
import Derived.Test.YtfhmblbomkhcpaaDoorLate
namespace Go.Proofs.YtfhmblbomkhcpaaDoor
open Go.RowKit

section
variable {P : Program} {ops : Array Oper} {Q : Exit → Act → World → Prop} {md : Region.Mode} {S : World → Prop}
/-- What may come up now: a call, or an operation that turns the world. -/
theorem held_call_or {i j : Nat} {oi oj : Oper} {fuel : Nat} {listed : Array Bool} {a : Act} {w : World} (hr : Region.ready md ops listed = [i, j]) (hi : ops[i]? = some oi) (hj : ops[j]? = some oj)
    (hwi : Region.wanted oi (yielded ops a.tmps) = true) (hwj : Region.wanted oj (yielded ops a.tmps) = true) (f : FuncId) (args : Array Value) (R : Value → World → Prop) (hrun : (execOp a.eval oi).run P w = .ok (.enter f args) w)
    (hcall : Calls P f args w (fun e w'' => ∃ v, e = .returned v ∧ S w'' ∧ R v w''))
    (h : ∀ v w'', S w'' → R v w'' → ∀ K : Act → Prop, (∀ a, wpAnyH P md ops Q S fuel (listed.setIfInBounds i true) a w'' → K a) → K (a.put oi.dst v))
    (hturn : ∀ K : Act → World → Prop, (∀ a w, wpAnyH P md ops Q S fuel (listed.setIfInBounds j true) a w → K a w) → ∃ v w'', (execOp a.eval oj).run P w = .ok (.value v) w'' ∧ S w'' ∧ K (a.put oj.dst v) w'') :
    wpAnyH P md ops Q S (fuel + 1) listed a w :=
  wpAnyH_all hr (by simp) (fun k hk => by
    rw [List.mem_cons, List.mem_singleton] at hk
    rcases hk with rfl | rfl
    · unfold Go.wpOp
      simp only [hi, hwi, if_true, Oper.wp, hrun, Oper.upon]
      refine .inl (hcall.mono fun e w'' ⟨v, he, hS, hR⟩ => ?_)
      subst he
      exact ⟨hS, h v w'' hS hR _ (fun _ h => h)⟩
    · obtain ⟨v, w'', hx, hS, hK⟩ := hturn _ (fun _ _ h => h)
      unfold Go.wpOp
      simp only [hj, hwj, if_true, Oper.wp, hx, Oper.upon]
      exact .inl ⟨hS, hK⟩)
/-- The one operation that may come up now turns the world. -/
theorem held_turn {i : Nat} {oi : Oper} {fuel : Nat} {listed : Array Bool} {a : Act} {w : World} (hr : Region.ready md ops listed = [i]) (hi : ops[i]? = some oi)
    (hw : Region.wanted oi (yielded ops a.tmps) = true)
    (h : ∀ K : Act → World → Prop, (∀ a w, wpAnyH P md ops Q S fuel (listed.setIfInBounds i true) a w → K a w) → ∃ v w'', (execOp a.eval oi).run P w = .ok (.value v) w'' ∧ S w'' ∧ K (a.put oi.dst v) w'') :
    wpAnyH P md ops Q S (fuel + 1) listed a w := by
  obtain ⟨v, w'', hx, hS, hK⟩ := h _ (fun _ _ h => h)
  exact wpAnyH_all hr (by simp) (fun j hj => by
    obtain rfl : j = i := by simpa using hj
    unfold Go.wpOp
    simp only [hi, hw, if_true, Oper.wp, hx, Oper.upon]
    exact .inl ⟨hS, hK⟩)
/-- It is a store. -/
theorem held_store {i : Nat} {oi : Oper} {fuel : Nat} {listed : Array Bool} {a : Act} {w : World} (hr : Region.ready md ops listed = [i]) (hi : ops[i]? = some oi)
    (hw : Region.wanted oi (yielded ops a.tmps) = true)
    (h : ∀ K : Act → World → Prop, (∀ a w, wpAnyH P md ops Q S fuel (listed.setIfInBounds i true) a w → K a w) → ∃ w'', (execOp a.eval oi).run P w = .ok .skip w'' ∧ S w'' ∧ K (a.put oi.dst undef) w'') :
    wpAnyH P md ops Q S (fuel + 1) listed a w := by
  obtain ⟨w'', hx, hS, hK⟩ := h _ (fun _ _ h => h)
  exact wpAnyH_all hr (by simp) (fun j hj => by
    obtain rfl : j = i := by simpa using hj
    unfold Go.wpOp
    simp only [hi, hw, if_true, Oper.wp, hx, Oper.upon]
    exact .inl ⟨hS, hK⟩)
end

/-- A table that is being made: its block, its lists. -/
structure OwnT (bo B : Nat) (w : World) (R : List (Int × Int)) (C : List Int) (N : List (List Int)) (E : List Int) (v0 v1 v2 v3 : Value) : Prop where
  c0 : w.cell? ⟨bo, 0, none⟩ = some v0
  c1 : w.cell? ⟨bo, 1, none⟩ = some v1
  c2 : w.cell? ⟨bo, 2, none⟩ = some v2
  c3 : w.cell? ⟨bo, 3, none⟩ = some v3
  z2 : w.frozen? ⟨bo, 2, none⟩ = false
  r : rngE.Own w B v0 R
  c : intE.Own w B v1 C
  n : ∃ X : List Sl, listE.Own w B v2 X ∧ X.length = N.length ∧ ∀ (j : Nat) x l, X[j]? = some x → N[j]? = some l → intE.Own w B (slV x) l ∧ (∀ g, v2.ownBlock = some g → (slV x).ownBlock ≠ some g) ∧ ∀ g, (slV x).ownBlock = some g → g ≠ bo
  e : intE.Own w B v3 E
  hB : B ≤ bo
  ap : ∀ g, v2.ownBlock = some g → g ≠ bo ∧ v0.ownBlock ≠ some g ∧ v1.ownBlock ≠ some g ∧ v3.ownBlock ≠ some g
  hb : (∀ g, v0.ownBlock = some g → g ≠ bo) ∧ (∀ g, v1.ownBlock = some g → g ≠ bo) ∧ (∀ g, v3.ownBlock = some g → g ≠ bo)
theorem OwnT.lt {bo B : Nat} {w : World} {R : List (Int × Int)} {C : List Int} {N : List (List Int)} {E : List Int} {v0 v1 v2 v3 : Value} (h : OwnT bo B w R C N E v0 v1 v2 v3) : bo < w.heap.size := World.block_lt_of_cell? _ _ h.c0
theorem OwnT.same {bo B : Nat} {w w' : World} {R : List (Int × Int)} {C : List Int} {N : List (List Int)} {E : List Int} {v0 v1 v2 v3 : Value} (h : OwnT bo B w R C N E v0 v1 v2 v3) (hc : Chg (fun _ => False) w w') : OwnT bo B w' R C N E v0 v1 v2 v3 :=
  ⟨hc.cellS h.c0 (fun h => h), hc.cellS h.c1 (fun h => h), hc.cellS h.c2 (fun h => h), hc.cellS h.c3 (fun h => h), (hc.frozen (p := ⟨bo, 2, none⟩) h.lt (fun h => h)).trans h.z2, h.r.chgB hc (fun _ _ h => h), h.c.chgB hc (fun _ _ h => h), by
    obtain ⟨X, h1, h2, h3⟩ := h.n
    exact ⟨X, h1.chgB hc (fun _ _ h => h), h2, fun j x l hx hl => ⟨(h3 j x l hx hl).1.chgB hc (fun _ _ h => h), (h3 j x l hx hl).2⟩⟩, h.e.chgB hc (fun _ _ h => h), h.hB, h.ap, h.hb⟩
/-- It lies as a table. -/
theorem OwnT.tab {bo B : Nat} {w : World} {t : TabD} {v0 v1 v2 v3 : Value} (h : OwnT bo B w t.r t.c t.n t.e v0 v1 v2 v3) : ∃ rs cs ns es : Sl, v0 = slV rs ∧ v1 = slV cs ∧ v2 = slV ns ∧ v3 = slV es ∧ TabIn w B rs cs ns es t := by
  obtain ⟨a0, k0, rfl, hk0, o0⟩ := h.r.clip
  obtain ⟨a1, k1, rfl, hk1, o1⟩ := h.c.clip
  obtain ⟨a3, k3, rfl, hk3, o3⟩ := h.e.clip
  obtain ⟨X, h1, h2, h3⟩ := h.n
  obtain ⟨a2, k2, rfl, hk2, o2⟩ := h1.clip
  refine ⟨(a0, t.r.length, k0), (a1, t.c.length, k1), (a2, X.length, k2), (a3, t.e.length, k3), rfl, rfl, rfl, rfl, h.r.in' hk0, h.c.in' hk1, ⟨X, h1.in' hk2, h2, fun j x l hx hl => ?_⟩, h.e.in' hk3⟩
  obtain ⟨a, c, hv, hc, _⟩ := (h3 j x l hx hl).1.clip
  have := (h3 j x l hx hl).1
  rw [hv] at this
  unfold slV at hv
  injection hv with e1 e2 e3
  obtain ⟨x1, x2, x3⟩ := x
  simp only at e1 e2 e3
  subst e1 e2 e3
  exact this.in' hc
/-- A row more. -/
theorem OwnT.push {bo B : Nat} {w w1 : World} {R : List (Int × Int)} {C : List Int} {N : List (List Int)} {E : List Int} {v0 v1 v2 v3 v2' : Value} {x : Sl} {l : List Int} (h : OwnT bo B w R C N E v0 v1 v2 v3)
    (hx : intE.Own w B (slV x) l) (hxa : ∀ g, v2.ownBlock = some g → (slV x).ownBlock ≠ some g) (hxb : ∀ g, (slV x).ownBlock = some g → g < w.heap.size ∧ g ≠ bo)
    (hap : ∃ X, listE.Own w B v2 X ∧ X.length = N.length ∧ (∀ (j : Nat) y m, X[j]? = some y → N[j]? = some m → intE.Own w B (slV y) m ∧ (∀ g, v2.ownBlock = some g → (slV y).ownBlock ≠ some g) ∧ ∀ g, (slV y).ownBlock = some g → g ≠ bo) ∧ listE.Own w1 B v2' (X ++ [x])) (hc : Chg (fun k => v2.ownBlock = some k) w w1) (hv : v2'.ownBlock = v2.ownBlock ∨ v2'.ownBlock = some w.heap.size) :
    (w1.cell? ⟨bo, 2, none⟩ = some v2 ∧ w1.frozen? ⟨bo, 2, none⟩ = false) ∧ OwnT bo B (w1.setCell ⟨bo, 2, none⟩ v2') R C (N ++ [l]) E v0 v1 v2' v3 := by
  have hlt := h.lt
  have hbo : ¬ v2.ownBlock = some bo := fun e => (h.ap _ e).1 rfl
  have c2 := hc.cellS h.c2 hbo
  have z2 := (hc.frozen (p := ⟨bo, 2, none⟩) hlt hbo).trans h.z2
  have hs := setCellChg w1 bo 2 v2'
  have oth : ∀ (k : Nat) (u : Value), k ≠ 2 → w.cell? ⟨bo, k, none⟩ = some u → (w1.setCell ⟨bo, 2, none⟩ v2').cell? ⟨bo, k, none⟩ = some u := fun k u hk hu => by
    rw [World.cell?_setCell_other _ _ _ _ (by intro e; injection e with _ e; exact hk e.symm)]
    exact hc.cellS hu hbo
  have keep : ∀ {α : Type} {E : Elt α} {v : Value} {L : List α}, E.Own w B v L → (∀ g, v2.ownBlock = some g → v.ownBlock ≠ some g) → (∀ g, v.ownBlock = some g → g ≠ bo) → E.Own (w1.setCell ⟨bo, 2, none⟩ v2') B v L := fun ho h1 h2 =>
    (ho.chgB hc (fun g hg e => h1 g e hg)).chgB hs (fun g hg e => h2 g hg e)
  obtain ⟨X, hX, hXl, hXn, hX1⟩ := hap
  have hv2 : ∀ g, v2'.ownBlock = some g → g ≠ bo := fun g hg e => by
    rcases hv with hv | hv
    · rw [hv] at hg; exact (h.ap g hg).1 e
    · rw [hv] at hg
      have := Option.some.inj hg
      omega
  have far : ∀ {g' : Nat} {v : Value}, (∀ g, v2.ownBlock = some g → v.ownBlock ≠ some g) → (∀ g, v.ownBlock = some g → g < w.heap.size) → v2'.ownBlock = some g' → v.ownBlock ≠ some g' := fun {g'} {v} h1 h2 h3 e => by
    rcases hv with hv | hv
    · rw [hv] at h3; exact h1 _ h3 e
    · rw [hv] at h3
      have := h2 _ e
      have := Option.some.inj h3
      omega
  refine ⟨⟨c2, z2⟩, oth 0 _ (by decide) h.c0, oth 1 _ (by decide) h.c1, World.cell?_setCell_same _ _ _ c2, oth 3 _ (by decide) h.c3, (World.frozen?_setCell _ _ _ _).trans z2,
    keep h.r (fun g hg => (h.ap g hg).2.1) h.hb.1, keep h.c (fun g hg => (h.ap g hg).2.2.1) h.hb.2.1, ⟨X ++ [x], hX1.chgB hs hv2, by simp [hXl], fun j y m hy hm => ?_⟩, keep h.e (fun g hg => (h.ap g hg).2.2.2) h.hb.2.2, h.hB,
    fun g hg => ⟨hv2 g hg, far (fun g hg => (h.ap g hg).2.1) (fun g hg => (h.r.blk hg).2) hg, far (fun g hg => (h.ap g hg).2.2.1) (fun g hg => (h.c.blk hg).2) hg, far (fun g hg => (h.ap g hg).2.2.2) (fun g hg => (h.e.blk hg).2) hg⟩, h.hb⟩
  by_cases hj : j < X.length
  · rw [List.getElem?_append_left hj] at hy
    rw [List.getElem?_append_left (by omega)] at hm
    obtain ⟨k1, k2, k3⟩ := hXn j y m hy hm
    exact ⟨keep k1 k2 k3, fun g hg => far k2 (fun g hg => (k1.blk hg).2) hg, k3⟩
  · have hj' : j = X.length := by
      have := (List.getElem?_eq_some_iff.1 hy).1
      simp only [List.length_append, List.length_singleton] at this
      omega
    subst hj'
    rw [List.getElem?_append_right (Nat.le_refl _), Nat.sub_self] at hy
    rw [hXl, List.getElem?_append_right (Nat.le_refl _), Nat.sub_self] at hm
    simp only [List.getElem?_cons_zero, Option.some.injEq] at hy hm
    subst hy hm
    exact ⟨keep hx hxa (fun g hg => (hxb g hg).2), fun g hg => far hxa (fun g hg => (hxb g hg).1) hg, fun g hg => (hxb g hg).2⟩
end Go.Proofs.YtfhmblbomkhcpaaDoor
