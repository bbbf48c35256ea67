/- A region that draws and holds two operations that turn the world, in whatever order: the class hangs on which of the two has come up. -/
import Derived.Test.YtkfakkonlnjckaaBase
namespace Go.Proofs.Ytkfakkonlnjckaa
open Go.RowKit

section
variable {P : Program} {ops : Array Oper} {md : Region.Mode} {Q : Exit → Act → World → Prop}
/-- The class that hangs on two operations. -/
abbrev cls2 (n : Nat) (PC : World → Bool → Bool → Prop) (p q : Nat) : Cls := fun listed w => listed.size = n ∧ PC w (listed.getD p false) (listed.getD q false)

theorem keep2 {n : Nat} {PC : World → Bool → Bool → Prop} {p q i : Nat} (hp : i ≠ p) (hq : i ≠ q) : ∀ listed w, i ∈ Region.ready md ops listed → cls2 n PC p q listed w → cls2 n PC p q (listed.setIfInBounds i true) w := by
  intro listed w _ h
  exact ⟨by simpa using h.1, by rw [getD_set_ne false hp, getD_set_ne false hq]; exact h.2⟩

theorem wpC_callp {n : Nat} {PC : World → Bool → Bool → Prop} {p q : Nat} {L : Act → Prop} {o : Oper} {rest : List Oper} {a : Act} (hw : Region.wanted o (yielded ops a.tmps) = true) (hpq : p ≠ q) (hn : p < n) (v : Value) (f : FuncId) (args : Array Value)
    (hrun : ∀ w, (execOp a.eval o).run P w = .ok (.enter f args) w)
    (hcall : ∀ w b, PC w false b → Calls P f args w (fun e w'' => e = .returned v ∧ PC w'' true b))
    (h : ∀ K : Act → Prop, (∀ a, wpC P ops md (cls2 n PC p q) L rest (p + 1) a → K a) → K (a.put o.dst v)) : wpC P ops md (cls2 n PC p q) L (o :: rest) p a := by
  refine wpC_call hw v f args hrun (fun listed w hr hc => ?_) h
  have h0 := (mem_ready.1 hr).1
  have h1 : listed.getD p false = false := getD_both h0
  obtain ⟨hs, hc⟩ := hc
  rw [h1] at hc
  refine (hcall w _ hc).mono fun e w'' ⟨he, h2⟩ => ⟨he, by simpa using hs, ?_⟩
  rw [getD_set_ne false hpq]
  have : (listed.setIfInBounds p true).getD p false = true := by simp [hs, hn]
  rw [this]
  exact h2
theorem wpC_callq {n : Nat} {PC : World → Bool → Bool → Prop} {p q : Nat} {L : Act → Prop} {o : Oper} {rest : List Oper} {a : Act} (hw : Region.wanted o (yielded ops a.tmps) = true) (hpq : q ≠ p) (hn : q < n) (v : Value) (f : FuncId) (args : Array Value)
    (hrun : ∀ w, (execOp a.eval o).run P w = .ok (.enter f args) w)
    (hcall : ∀ w b, PC w b false → Calls P f args w (fun e w'' => e = .returned v ∧ PC w'' b true))
    (h : ∀ K : Act → Prop, (∀ a, wpC P ops md (cls2 n PC p q) L rest (q + 1) a → K a) → K (a.put o.dst v)) : wpC P ops md (cls2 n PC p q) L (o :: rest) q a := by
  refine wpC_call hw v f args hrun (fun listed w hr hc => ?_) h
  have h0 := (mem_ready.1 hr).1
  have h1 : listed.getD q false = false := getD_both h0
  obtain ⟨hs, hc⟩ := hc
  rw [h1] at hc
  refine (hcall w _ hc).mono fun e w'' ⟨he, h2⟩ => ⟨he, by simpa using hs, ?_⟩
  rw [getD_set_ne false hpq]
  have : (listed.setIfInBounds q true).getD q false = true := by simp [hs, hn]
  rw [this]
  exact h2

theorem wp_region_two {id : Nat} {l : List Oper} {a : Act} {w : World} (PC : World → Bool → Bool → Prop) (p q : Nat) (hm : P.follows .mixedOrders = true) (hB : Region.lexB .any l.toArray = true) (hb : (backB l && decide (p < l.length) && decide (q < l.length)) = true)
    (hC : PC w.drew false false)
    (h : wpC P l.toArray .any (cls2 l.length PC p q) (fun a' => ∀ w', PC w' true true → Q .normal a' w') l 0 a) : (Code.region id l.toArray true).wp P Q a w := by
  simp only [Bool.and_eq_true, decide_eq_true_eq] at hb
  obtain ⟨⟨hb, hp⟩, hq⟩ := hb
  refine wp_region_done (fun listed w => PC w (listed.getD p false) (listed.getD q false)) hm hB hb (by rw [getD_replicate_false, getD_replicate_false]; exact hC) ?_
  have mono : ∀ (r : List Oper) (i : Nat) (a : Act) (L L' : Act → Prop), (∀ a, L a → L' a) → wpC P l.toArray .any (cls2 l.length PC p q) L r i a → wpC P l.toArray .any (cls2 l.length PC p q) L' r i a := by
    intro r
    induction r with
    | nil => intro i a L L' hL h; exact hL a h
    | cons o r ih =>
      intro i a L L' hL h
      obtain ⟨v, hy, hK⟩ := h
      exact ⟨v, hy, ih _ _ _ _ hL hK⟩
  exact mono l 0 a _ _ (fun a' ha' listed w' hr hc => by
    rw [hr p hp, hr q hq] at hc
    exact ha' w' hc) h
end
end Go.Proofs.Ytkfakkonlnjckaa
