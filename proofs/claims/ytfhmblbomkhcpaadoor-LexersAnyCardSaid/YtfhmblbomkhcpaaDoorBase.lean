/- What a call may have changed: blocks of a list, and nothing else that was there. A region that draws its order, walked once in the text's order, under a class of worlds that hangs on what has come up. -/
import Derived.WalkKit
import Derived.WalkSpells
import Derived.WalkLawsBesides
import Derived.Deep.Quiet
import Derived.Maps.OwnSet
import Derived.Lib.Hide
import Derived.StillTailTactics
namespace Go.Proofs.YtfhmblbomkhcpaaDoor
open Go.RowKit

/-- w' is w but for new blocks and for the blocks that meet S. -/
structure Chg (S : Nat → Prop) (w w' : World) : Prop where
  os : w'.os = w.os
  tape : w'.tape = w.tape
  output : w'.output = w.output
  size : w.heap.size ≤ w'.heap.size
  block : ∀ k, k < w.heap.size → ¬ S k → w'.heap[k]? = w.heap[k]?

theorem Chg.refl (S : Nat → Prop) (w : World) : Chg S w w := ⟨rfl, rfl, rfl, Nat.le_refl _, fun _ _ _ => rfl⟩
theorem Chg.trans {S : Nat → Prop} {a b c : World} (h : Chg S a b) (k : Chg S b c) : Chg S a c :=
  ⟨k.os.trans h.os, k.tape.trans h.tape, k.output.trans h.output, Nat.le_trans h.size k.size, fun i hi hs => (k.block i (Nat.lt_of_lt_of_le hi h.size) hs).trans (h.block i hi hs)⟩
theorem Chg.mono {S T : Nat → Prop} {w w' : World} (h : Chg S w w') (hST : ∀ k, k < w.heap.size → S k → T k) : Chg T w w' :=
  ⟨h.os, h.tape, h.output, h.size, fun k hk ht => h.block k hk (fun hs => ht (hST k hk hs))⟩
theorem Chg.drew {S : Nat → Prop} {a w : World} (h : Chg S a w) : Chg S a w.drew := ⟨h.os, h.tape, h.output, h.size, h.block⟩
theorem Chg.drewN {S : Nat → Prop} {a w : World} (h : Chg S a w) (n : Nat) : Chg S a (w.drewN n) := ⟨h.os, h.tape, h.output, h.size, h.block⟩
theorem Chg.alloc {S : Nat → Prop} {a w : World} (h : Chg S a w) (o : Obj) : Chg S a (w.alloc o) :=
  h.trans ⟨rfl, rfl, rfl, by simp, fun k hk _ => Below.heap_alloc _ _ _ hk⟩
theorem Chg.setCell {S : Nat → Prop} {a w : World} (h : Chg S a w) {p : Addr} (hp : a.heap.size ≤ p.block ∨ S p.block) (u : Value) : Chg S a (w.setCell p u) :=
  ⟨h.os, h.tape, h.output, by simpa [World.setCell] using h.size, fun k hk hs => by
    rw [Below.heap_setCell _ _ _ _ (by rcases hp with h1 | h1; · omega
                                       · intro e; subst e; exact hs h1)]
    exact h.block k hk hs⟩
theorem Chg.grown {S : Nat → Prop} {a w w' : World} {row : Option Nat} (h : Chg S a w) (hg : w.grownBy w' row) (hr : ∀ k, row = some k → a.heap.size ≤ k ∨ S k) : Chg S a w' :=
  ⟨hg.os.trans h.os, hg.tape.trans h.tape, hg.output.trans h.output, Nat.le_trans h.size hg.size, fun k hk hs => by
    rw [hg.block k (Nat.lt_of_lt_of_le hk h.size) (fun e => by rcases hr k e.symm with h1 | h1; · omega
                                                               · exact hs h1)]
    exact h.block k hk hs⟩
theorem Chg.below {S : Nat → Prop} {B : Nat} {w w' : World} (h : Chg S w w') (hB : B ≤ w.heap.size) (hS : ∀ k, S k → B ≤ k) : Below B w w' :=
  ⟨h.os, h.tape, h.output, h.size, fun k hk => h.block k (by omega) (fun hs => by have := hS k hs; omega)⟩
theorem Chg.of_below {w w' : World} (h : Below w.heap.size w w') (S : Nat → Prop) : Chg S w w' :=
  ⟨h.os, h.tape, h.output, h.size, fun k hk _ => h.block k hk⟩
theorem Chg.to_below {w w' : World} (h : Chg (fun _ => False) w w') : Below w.heap.size w w' :=
  ⟨h.os, h.tape, h.output, h.size, fun k hk => h.block k hk (fun h => h)⟩
theorem Chg.cell {S : Nat → Prop} {w w' : World} (h : Chg S w w') {p : Addr} (hp : p.block < w.heap.size) (hs : ¬ S p.block) : w'.cell? p = w.cell? p := World.cell?_of_block (h.block p.block hp hs)
theorem Chg.frozen {S : Nat → Prop} {w w' : World} (h : Chg S w w') {p : Addr} (hp : p.block < w.heap.size) (hs : ¬ S p.block) : w'.frozen? p = w.frozen? p := World.frozen?_of_block (h.block p.block hp hs)
theorem Chg.cellS {S : Nat → Prop} {w w' : World} (h : Chg S w w') {p : Addr} {v : Value} (hc : w.cell? p = some v) (hs : ¬ S p.block) : w'.cell? p = some v := by
  rw [h.cell (World.block_lt_of_cell? _ _ hc) hs]; exact hc

/-- A map stays what it is. -/
theorem ownsMap_chg {H : Type} {P : Program} {k : TypeId} {R : Value → Option (DataW H × List MemPlace)} {b n : Nat} {D : DataW H} {S : Nat → Prop} {w w' : World} (h : w.ownsMap P k R b n D) (hg : Chg S w w') (hs : ¬ S b) : w'.ownsMap P k R b n D := by
  have hlt := h.lt
  obtain ⟨es, clock, hb, F, hs', hD⟩ := h
  exact ⟨es, clock, (hg.block b hlt hs).trans hb, F, hs', hD⟩

/-! ### a region that draws, under a class that hangs on what has come up -/
section
variable {P : Program} {ops : Array Oper} {md : Region.Mode} {Q : Exit → Act → World → Prop}
/-- The class: a predicate on worlds for each set of operations that have come up. -/
abbrev Cls := Array Bool → World → Prop

/-- Operation i, in a world of the class at 'listed', yields v and leaves a world of the class at 'listed' with i. -/
def stepAt (P : Program) (C : Cls) (i : Nat) (listed : Array Bool) (w : World) (v : Value) : Result Next → Prop
  | .ok (.value u) w' => u = v ∧ C (listed.setIfInBounds i true) w'
  | .ok .skip w' => v = undef ∧ C (listed.setIfInBounds i true) w'
  | .ok (.enter f args) w' => w' = w ∧ Calls P f args w (fun e w'' => e = .returned v ∧ C (listed.setIfInBounds i true) w'')
  | _ => False

def yieldsC (P : Program) (ops : Array Oper) (md : Region.Mode) (C : Cls) (i : Nat) (o : Oper) (v : Value) (a : Act) : Prop :=
  (Region.wanted o (yielded ops a.tmps) = true ∧ ∀ listed w, i ∈ Region.ready md ops listed → C listed w → stepAt P C i listed w v ((execOp a.eval o).run P w)) ∨
  (Region.wanted o (yielded ops a.tmps) = false ∧ v = undef ∧ ∀ listed w, i ∈ Region.ready md ops listed → C listed w → C (listed.setIfInBounds i true) w)

/-- The walk in the text's order. -/
def wpC (P : Program) (ops : Array Oper) (md : Region.Mode) (C : Cls) (L : Act → Prop) : List Oper → Nat → Act → Prop
  | [], _, a => L a
  | o :: rest, i, a => ∃ v, yieldsC P ops md C i o v a ∧ wpC P ops md C L rest (i + 1) (a.put o.dst v)

/-- Whatever order, the frame alone. -/
def anyC (P : Program) (ops : Array Oper) (md : Region.Mode) (C : Cls) (L : Act → Prop) : Nat → Array Bool → Act → Prop
  | 0, listed, a => Region.ready md ops listed = [] ∧ L a
  | fuel + 1, listed, a => (Region.ready md ops listed = [] → L a) ∧
    ∀ i ∈ Region.ready md ops listed, ∃ o v, ops[i]? = some o ∧ yieldsC P ops md C i o v a ∧ anyC P ops md C L fuel (listed.setIfInBounds i true) (a.put o.dst v)

theorem yieldsC.of_same {C : Cls} {i : Nat} {o : Oper} {v : Value} {a a' : Act} (hy : yieldsC P ops md C i o v a) (he : execOp a'.eval o = execOp a.eval o)
    (hw : Region.wanted o (yielded ops a'.tmps) = Region.wanted o (yielded ops a.tmps)) : yieldsC P ops md C i o v a' := by
  unfold yieldsC at *
  rw [he, hw]
  exact hy

theorem anyC_first {C : Cls} {L : Act → Prop} {i : Nat} {oi : Oper} {v : Value} (hi : ops[i]? = some oi) (hsel : ∀ (j : Nat) (o : Oper) cs b, ops[j]? = some o → o.op ≠ .select cs b) :
    ∀ (fuel : Nat) (listed : Array Bool) (a : Act),
      (∀ j oj, ops[j]? = some oj → j ≠ i → listed.getD j true = false → (∀ e ∈ oj.after, Region.binds md e = true → e.on ≠ i) → oi.apart ops oj = true) →
      i ∈ Region.ready md ops listed → yieldsC P ops md C i oi v a →
      anyC P ops md C L fuel (listed.setIfInBounds i true) (a.put oi.dst v) → anyC P ops md C L (fuel + 1) listed a := by
  intro fuel
  induction fuel with
  | zero =>
    intro listed a _ hr hy H
    refine ⟨fun h => (by rw [h] at hr; cases hr), fun j hj => ?_⟩
    by_cases hji : j = i
    · subst hji; exact ⟨oi, v, hi, hy, H⟩
    · have := ready_mono hj hji
      rw [H.1] at this
      cases this
  | succ fuel ih =>
    intro listed a hfree hr hy H
    refine ⟨fun h => (by rw [h] at hr; cases hr), fun j hj => ?_⟩
    by_cases hji : j = i
    · subst hji; exact ⟨oi, v, hi, hy, H⟩
    · obtain ⟨oj, u, hoj, hyj, hK⟩ := H.2 j (ready_mono hj hji)
      obtain ⟨hjun, oj', hoj', hall⟩ := mem_ready.1 hj
      obtain rfl : oj' = oj := by rw [hoj] at hoj'; exact (Option.some.inj hoj').symm
      have hnot : ∀ e ∈ oj'.after, Region.binds md e = true → e.on ≠ i := fun e he hb heq => by
        have h1 := hall e he hb
        have h0 := (mem_ready.1 hr).1
        rw [heq] at h1
        rcases Nat.lt_or_ge i listed.size with h' | h'
        · simp [h'] at h0 h1; rw [h0] at h1; cases h1
        · simp [Array.getElem?_eq_none h'] at h1
      have hap := hfree j oj' hoj hji hjun hnot
      obtain ⟨h1, h2, h3⟩ := Oper.apart_spec hap
      refine ⟨oj', u, hoj, hyj.of_same (execOp_put oj' (fun cs b => hsel j oj' cs b hoj) a oi.dst v h1).symm (wanted_put oj' a oi.dst v h1).symm, ?_⟩
      have hfree' : ∀ k ok, ops[k]? = some ok → k ≠ i → (listed.setIfInBounds j true).getD k true = false →
          (∀ e ∈ ok.after, Region.binds md e = true → e.on ≠ i) → oi.apart ops ok = true := fun k ok hk hki hun hno => by
        refine hfree k ok hk hki ?_ hno
        by_cases hjk : j = k
        · subst hjk; exact hjun
        · rw [getD_set_ne true hjk] at hun; exact hun
      refine ih (listed.setIfInBounds j true) _ hfree' (ready_mono hr (Ne.symm hji)) (hy.of_same (execOp_put oi (fun cs b => hsel i oi cs b hi) a oj'.dst u h3) (wanted_put oi a oj'.dst u h3)) ?_
      rw [Array.setIfInBounds_comm _ _ hji, ← Act.put_comm a v u h2]
      exact hK

theorem anyC_lex {C : Cls} {L : Act → Prop} (hs : Region.noSelect ops = true) : ∀ (l : List Oper) (k : Nat) (listed : Array Bool) (a : Act), (∀ j, l[j]? = ops[k + j]?) →
    Region.lexFrom md ops l.length k listed = true → wpC P ops md C L l k a → anyC P ops md C L l.length listed a
  | [], _, _, _, _, hB, h => ⟨by simpa [Region.lexFrom] using hB, h⟩
  | o :: l, k, listed, a, hl, hB, h => by
    have h0 : ops[k]? = some o := by simpa using (hl 0).symm
    simp only [List.length_cons, Region.lexFrom, Bool.and_eq_true] at hB
    obtain ⟨⟨hr, hf⟩, hB'⟩ := hB
    obtain ⟨v, hy, hK⟩ := h
    exact anyC_first h0 (Region.noSelect_spec hs) l.length listed a (Region.free_spec h0 hf) (by simpa using hr) hy
      (anyC_lex hs l (k + 1) _ _ (fun j => by have := hl (j + 1); simpa [Nat.add_assoc, Nat.add_comm 1 j] using this) hB' hK)

theorem wpAny_of_anyC {C : Cls} {L : Act → Prop} (hQ : ∀ listed a w, Region.ready md ops listed = [] → C listed w → L a → Q .normal a w) : ∀ (fuel : Nat) (listed : Array Bool) (a : Act) (w : World), C listed w →
    anyC P ops md C L fuel listed a → wpAny P md ops Q fuel listed a w
  | 0, listed, _, _, hw, h => ⟨h.1, hQ _ _ _ h.1 hw h.2⟩
  | fuel + 1, listed, a, w, hw, h => ⟨fun h0 => hQ _ _ _ h0 hw (h.1 h0), fun i hi => by
      obtain ⟨o, v, ho, hy, hK⟩ := h.2 i hi
      unfold wpOp
      rw [ho]
      show if Region.wanted o (yielded ops a.tmps) = true then _ else _
      rcases hy with ⟨hwa, hy⟩ | ⟨hwa, rfl, hC⟩
      · rw [if_pos hwa]
        refine .inl ?_
        have h3 := hy listed w hi hw
        unfold Oper.wp
        generalize (execOp a.eval o).run P w = r at *
        cases r with
        | ok n w' =>
          cases n <;> simp only [stepAt] at h3 <;> simp only [Oper.upon]
          case value u =>
            obtain ⟨rfl, e2⟩ := h3
            exact wpAny_of_anyC hQ fuel _ _ _ e2 hK
          case skip =>
            obtain ⟨rfl, e2⟩ := h3
            exact wpAny_of_anyC hQ fuel _ _ _ e2 hK
          case enter f args =>
            obtain ⟨rfl, hc⟩ := h3
            exact hc.mono fun e w'' ⟨he, hw''⟩ => by subst he; exact wpAny_of_anyC hQ fuel _ _ _ hw'' hK
        | halt x w' => simp only [stepAt] at h3
      · rw [if_neg (by rw [hwa]; exact Bool.false_ne_true)]
        exact wpAny_of_anyC hQ fuel _ _ _ (hC listed w hi hw) hK⟩

/-- ONE WALK IN THE TEXT's ORDER SERVES EVERY ORDER, under a class of worlds that hangs on what has come up. -/
theorem wp_region_cls {id : Nat} {l : List Oper} {a : Act} {w : World} (C : Cls) (hm : P.follows .mixedOrders = true) (hB : Region.lexB .any l.toArray = true)
    (hC : C (Array.replicate l.length false) w.drew)
    (h : wpC P l.toArray .any C (fun a' => ∀ listed w', Region.ready .any l.toArray listed = [] → C listed w' → Q .normal a' w') l 0 a) : (Code.region id l.toArray true).wp P Q a w := by
  simp only [Region.lexB, Bool.and_eq_true] at hB
  refine wp_region_any hm (wpAny_of_anyC (L := fun a' => ∀ listed w', Region.ready .any l.toArray listed = [] → C listed w' → Q .normal a' w') (fun listed _ w' hr hw' h => h listed w' hr hw') _ _ _ _ (by simpa using hC) ?_)
  have := anyC_lex (C := C) (md := .any) hB.1 l 0 (Array.replicate l.toArray.size false) a (by simp) (by simpa using hB.2) h
  simpa using this

/-- Operations that only read, behind them some in one order. -/
theorem stillTail {id : Nat} {a : Act} {w : World} {l : List Oper} (n : Nat) (hm : P.follows .mixedOrders = true) (hB : Region.lexTailB .any l.toArray n = true)
    (h : wpStill P l.toArray w.drew (fun a' => wpList P l.toArray Q (l.drop n) a' w.drew) (l.take n) a) : (Code.region id l.toArray true).wp P Q a w :=
  wp_region_still_tail n hm hB h

theorem wpC_nil {C : Cls} {L : Act → Prop} {i : Nat} {a : Act} (h : L a) : wpC P ops md C L [] i a := h
/-- An operation that is not wanted. -/
theorem wpC_skip {C : Cls} {L : Act → Prop} {o : Oper} {rest : List Oper} {i : Nat} {a : Act} (hw : Region.wanted o (yielded ops a.tmps) = false)
    (hC : ∀ listed w, i ∈ Region.ready md ops listed → C listed w → C (listed.setIfInBounds i true) w)
    (h : ∀ K : Act → Prop, (∀ a, wpC P ops md C L rest (i + 1) a → K a) → K (a.put o.dst undef)) : wpC P ops md C L (o :: rest) i a :=
  ⟨undef, .inr ⟨hw, rfl, hC⟩, h _ (fun _ h => h)⟩
/-- An operation that only reads. -/
theorem wpC_read {C : Cls} {L : Act → Prop} {o : Oper} {rest : List Oper} {i : Nat} {a : Act} (hw : Region.wanted o (yielded ops a.tmps) = true)
    (hC : ∀ listed w, i ∈ Region.ready md ops listed → C listed w → C (listed.setIfInBounds i true) w)
    (h : ∀ K : Act → Prop, (∀ a, wpC P ops md C L rest (i + 1) a → K a) → ∃ v, (∀ listed w, i ∈ Region.ready md ops listed → C listed w → (execOp a.eval o).run P w = .ok (.value v) w) ∧ K (a.put o.dst v)) :
    wpC P ops md C L (o :: rest) i a := by
  obtain ⟨v, hrun, hK⟩ := h _ (fun _ h => h)
  exact ⟨v, .inl ⟨hw, fun listed w hi hc => by rw [hrun listed w hi hc]; exact ⟨rfl, hC listed w hi hc⟩⟩, hK⟩
/-- An operation that turns the world. -/
theorem wpC_turn {C : Cls} {L : Act → Prop} {o : Oper} {rest : List Oper} {i : Nat} {a : Act} (hw : Region.wanted o (yielded ops a.tmps) = true) (v : Value)
    (hrun : ∀ listed w, i ∈ Region.ready md ops listed → C listed w → ∃ w', (execOp a.eval o).run P w = .ok (.value v) w' ∧ C (listed.setIfInBounds i true) w')
    (h : ∀ K : Act → Prop, (∀ a, wpC P ops md C L rest (i + 1) a → K a) → K (a.put o.dst v)) : wpC P ops md C L (o :: rest) i a :=
  ⟨v, .inl ⟨hw, fun listed w hi hc => by obtain ⟨w', h1, h2⟩ := hrun listed w hi hc; rw [h1]; exact ⟨rfl, h2⟩⟩, h _ (fun _ h => h)⟩
/-- A call. -/
theorem wpC_call {C : Cls} {L : Act → Prop} {o : Oper} {rest : List Oper} {i : Nat} {a : Act} (hw : Region.wanted o (yielded ops a.tmps) = true) (v : Value) (f : FuncId) (args : Array Value)
    (hrun : ∀ w, (execOp a.eval o).run P w = .ok (.enter f args) w)
    (hcall : ∀ listed w, i ∈ Region.ready md ops listed → C listed w → Calls P f args w (fun e w'' => e = .returned v ∧ C (listed.setIfInBounds i true) w''))
    (h : ∀ K : Act → Prop, (∀ a, wpC P ops md C L rest (i + 1) a → K a) → K (a.put o.dst v)) : wpC P ops md C L (o :: rest) i a :=
  ⟨v, .inl ⟨hw, fun listed w hi hc => by rw [hrun w]; exact ⟨rfl, hcall listed w hi hc⟩⟩, h _ (fun _ h => h)⟩

/-- Each operation waits for earlier ones alone. -/
def backB (l : List Oper) : Bool := l.zipIdx.all fun x => x.1.after.all fun e => !Region.binds .any e || decide (e.on < x.2)

theorem all_listed {l : List Oper} (hb : backB l = true) {listed : Array Bool} (hs : listed.size = l.length) (hr : Region.ready .any l.toArray listed = []) : ∀ i, i < l.length → listed.getD i false = true := by
  intro i
  induction i using Nat.strongRecOn with
  | _ i ih =>
    intro hi
    cases hg : listed.getD i false
    · exfalso
      have hg' : listed.getD i true = false := by
        simp only [Array.getD_eq_getD_getElem?] at hg ⊢
        rw [Array.getElem?_eq_getElem (by omega)] at hg ⊢
        simpa using hg
      have : i ∈ Region.ready .any l.toArray listed := by
        rw [mem_ready]
        refine ⟨hg', l[i], by simp [hi], fun e he hbd => ?_⟩
        have h1 := List.all_eq_true.1 hb (l[i], i) (List.mem_iff_getElem.2 ⟨i, by simpa using hi, by simp⟩)
        have h2 := Array.all_eq_true_iff_forall_mem.1 h1 e he
        simp only [hbd, Bool.not_true, Bool.false_or, decide_eq_true_eq] at h2
        exact ih e.on h2 (by omega)
      rw [hr] at this
      cases this
    · rfl

/-- The same, and at the end all have come up. -/
theorem wp_region_done {id : Nat} {l : List Oper} {a : Act} {w : World} (C : Cls) (hm : P.follows .mixedOrders = true) (hB : Region.lexB .any l.toArray = true) (hb : backB l = true)
    (hC : C (Array.replicate l.length false) w.drew)
    (h : wpC P l.toArray .any (fun listed w => listed.size = l.length ∧ C listed w) (fun a' => ∀ listed w', (∀ i, i < l.length → listed.getD i false = true) → C listed w' → Q .normal a' w') l 0 a) : (Code.region id l.toArray true).wp P Q a w := by
  refine wp_region_cls (fun listed w => listed.size = l.length ∧ C listed w) hm hB ⟨by simp, hC⟩ ?_
  have mono : ∀ (r : List Oper) (i : Nat) (a : Act) (L L' : Act → Prop), (∀ a, L a → L' a) → wpC P l.toArray .any (fun listed w => listed.size = l.length ∧ C listed w) L r i a → wpC P l.toArray .any (fun listed w => listed.size = l.length ∧ C listed w) L' r i a := by
    intro r
    induction r with
    | nil => intro i a L L' hL h; exact hL a h
    | cons o r ih =>
      intro i a L L' hL h
      obtain ⟨v, hy, hK⟩ := h
      exact ⟨v, hy, ih _ _ _ _ hL hK⟩
  exact mono l 0 a _ _ (fun a' ha' listed w' hr hc => ha' listed w' (all_listed hb hc.1 hr) hc.2) h

/-- Under a class that hangs on nothing. -/
theorem wp_region_same {id : Nat} {l : List Oper} {a : Act} {w : World} (C : World → Prop) (hm : P.follows .mixedOrders = true) (hB : Region.lexB .any l.toArray = true)
    (hC : C w.drew) (h : wpC P l.toArray .any (fun _ w => C w) (fun a' => ∀ w', C w' → Q .normal a' w') l 0 a) : (Code.region id l.toArray true).wp P Q a w := by
  refine wp_region_cls (fun _ w => C w) hm hB hC ?_
  have mono : ∀ (r : List Oper) (i : Nat) (a : Act) (L L' : Act → Prop), (∀ a, L a → L' a) → wpC P l.toArray .any (fun _ w => C w) L r i a → wpC P l.toArray .any (fun _ w => C w) L' r i a := by
    intro r
    induction r with
    | nil => intro i a L L' hL h; exact hL a h
    | cons o r ih =>
      intro i a L L' hL h
      obtain ⟨v, hy, hK⟩ := h
      exact ⟨v, hy, ih _ _ _ _ hL hK⟩
  exact mono l 0 a _ _ (fun a' ha' _ w' _ hc => ha' w' hc) h
end
end Go.Proofs.YtfhmblbomkhcpaaDoor
