/- What a call may have changed: blocks of a list, and nothing else that was there. A region that draws its order, walked once in the text's order, under a class of worlds that hangs on what has come up. A list of bytes in memory: what came in (BytesAt), a block of one's own, known to its last cell (Row), a slice of one's own (Own), appended to. Lists of elements of some cells each: what came in (At), a block of one's own, known to its last cell (Row), a slice of one's own (Own), appended to. A list of bytes in memory: what came in (BytesAt), a block of one's own, known to its last cell (Row), a slice of one's own (Own), appended to. The statements' twins of lists of bytes: a copy with two marked places behind it; two lists compared; was a twin left as it was? Lists of ints as lists of elements of one cell; one of them written over. Lists that lie somewhere, lists of lists of ints, fields that hold a list. A table that is gone through rune by rune, plainly: may it be, its steps. Ranges, bools, tokens as elements of some cells; a table in memory. -/
import Derived.Test.YtodohgckncnipaaRows
import Derived.WalkKit
import Derived.WalkSpells
import Derived.WalkLawsBesides
import Derived.Deep.Quiet
import Derived.Maps.OwnSet
import Derived.Lib.Hide
import Derived.StillTailTactics
import Derived.ProofKit
import Derived.Deep.AppendSrc
import Derived.Deep.Upon
import Derived.Lib.AppendZerosOnto
import Derived.LoopTactic
import Derived.Deep.DeepCutAuto
import Derived.Deep.CutBlock
import Derived.OwnWalk
/- What a call may have changed: blocks of a list, and nothing else that was there. A region that draws its order, walked once in the text's order, under a class of worlds that hangs on what has come up. -/
namespace Go.Proofs.Ytodohgckncnipaa
open Go.RowKit

/-- w' is w but for new blocks and for the blocks that meet S. -/
structure Chg (S : Nat → Prop) (w w' : World) : Prop where
  os : w'.os = w.os
  tape : w'.tape = w.tape
  output : w'.output = w.output
  size : w.heap.size ≤ w'.heap.size
  block : ∀ k, k < w.heap.size → ¬ S k → w'.heap[k]? = w.heap[k]?

theorem Chg.refl (S : Nat → Prop) (w : World) : Chg S w w := ⟨rfl, rfl, rfl, Nat.le_refl _, fun _ _ _ => rfl⟩
theorem Chg.trans {S : Nat → Prop} {a b c : World} (h : Chg S a b) (k : Chg S b c) : Chg S a c :=
  ⟨k.os.trans h.os, k.tape.trans h.tape, k.output.trans h.output, Nat.le_trans h.size k.size, fun i hi hs => (k.block i (Nat.lt_of_lt_of_le hi h.size) hs).trans (h.block i hi hs)⟩
theorem Chg.mono {S T : Nat → Prop} {w w' : World} (h : Chg S w w') (hST : ∀ k, k < w.heap.size → S k → T k) : Chg T w w' :=
  ⟨h.os, h.tape, h.output, h.size, fun k hk ht => h.block k hk (fun hs => ht (hST k hk hs))⟩
theorem Chg.drew {S : Nat → Prop} {a w : World} (h : Chg S a w) : Chg S a w.drew := ⟨h.os, h.tape, h.output, h.size, h.block⟩
theorem Chg.drewN {S : Nat → Prop} {a w : World} (h : Chg S a w) (n : Nat) : Chg S a (w.drewN n) := ⟨h.os, h.tape, h.output, h.size, h.block⟩
theorem Chg.alloc {S : Nat → Prop} {a w : World} (h : Chg S a w) (o : Obj) : Chg S a (w.alloc o) :=
  h.trans ⟨rfl, rfl, rfl, by simp, fun k hk _ => Below.heap_alloc _ _ _ hk⟩
theorem Chg.setCell {S : Nat → Prop} {a w : World} (h : Chg S a w) {p : Addr} (hp : a.heap.size ≤ p.block ∨ S p.block) (u : Value) : Chg S a (w.setCell p u) :=
  ⟨h.os, h.tape, h.output, by simpa [World.setCell] using h.size, fun k hk hs => by
    rw [Below.heap_setCell _ _ _ _ (by rcases hp with h1 | h1; · omega
                                       · intro e; subst e; exact hs h1)]
    exact h.block k hk hs⟩
theorem Chg.grown {S : Nat → Prop} {a w w' : World} {row : Option Nat} (h : Chg S a w) (hg : w.grownBy w' row) (hr : ∀ k, row = some k → a.heap.size ≤ k ∨ S k) : Chg S a w' :=
  ⟨hg.os.trans h.os, hg.tape.trans h.tape, hg.output.trans h.output, Nat.le_trans h.size hg.size, fun k hk hs => by
    rw [hg.block k (Nat.lt_of_lt_of_le hk h.size) (fun e => by rcases hr k e.symm with h1 | h1; · omega
                                                               · exact hs h1)]
    exact h.block k hk hs⟩
theorem Chg.below {S : Nat → Prop} {B : Nat} {w w' : World} (h : Chg S w w') (hB : B ≤ w.heap.size) (hS : ∀ k, S k → B ≤ k) : Below B w w' :=
  ⟨h.os, h.tape, h.output, h.size, fun k hk => h.block k (by omega) (fun hs => by have := hS k hs; omega)⟩
theorem Chg.of_below {w w' : World} (h : Below w.heap.size w w') (S : Nat → Prop) : Chg S w w' :=
  ⟨h.os, h.tape, h.output, h.size, fun k hk _ => h.block k hk⟩
theorem Chg.to_below {w w' : World} (h : Chg (fun _ => False) w w') : Below w.heap.size w w' :=
  ⟨h.os, h.tape, h.output, h.size, fun k hk => h.block k hk (fun h => h)⟩
theorem Chg.cell {S : Nat → Prop} {w w' : World} (h : Chg S w w') {p : Addr} (hp : p.block < w.heap.size) (hs : ¬ S p.block) : w'.cell? p = w.cell? p := World.cell?_of_block (h.block p.block hp hs)
theorem Chg.frozen {S : Nat → Prop} {w w' : World} (h : Chg S w w') {p : Addr} (hp : p.block < w.heap.size) (hs : ¬ S p.block) : w'.frozen? p = w.frozen? p := World.frozen?_of_block (h.block p.block hp hs)
theorem Chg.cellS {S : Nat → Prop} {w w' : World} (h : Chg S w w') {p : Addr} {v : Value} (hc : w.cell? p = some v) (hs : ¬ S p.block) : w'.cell? p = some v := by
  rw [h.cell (World.block_lt_of_cell? _ _ hc) hs]; exact hc

/-- A map stays what it is. -/
theorem ownsMap_chg {H : Type} {P : Program} {k : TypeId} {R : Value → Option (DataW H × List MemPlace)} {b n : Nat} {D : DataW H} {S : Nat → Prop} {w w' : World} (h : w.ownsMap P k R b n D) (hg : Chg S w w') (hs : ¬ S b) : w'.ownsMap P k R b n D := by
  have hlt := h.lt
  obtain ⟨es, clock, hb, F, hs', hD⟩ := h
  exact ⟨es, clock, (hg.block b hlt hs).trans hb, F, hs', hD⟩

/-! ### a region that draws, under a class that hangs on what has come up -/
section
variable {P : Program} {ops : Array Oper} {md : Region.Mode} {Q : Exit → Act → World → Prop}
/-- The class: a predicate on worlds for each set of operations that have come up. -/
abbrev Cls := Array Bool → World → Prop

/-- Operation i, in a world of the class at 'listed', yields v and leaves a world of the class at 'listed' with i. -/
def stepAt (P : Program) (C : Cls) (i : Nat) (listed : Array Bool) (w : World) (v : Value) : Result Next → Prop
  | .ok (.value u) w' => u = v ∧ C (listed.setIfInBounds i true) w'
  | .ok .skip w' => v = undef ∧ C (listed.setIfInBounds i true) w'
  | .ok (.enter f args) w' => w' = w ∧ Calls P f args w (fun e w'' => e = .returned v ∧ C (listed.setIfInBounds i true) w'')
  | _ => False

def yieldsC (P : Program) (ops : Array Oper) (md : Region.Mode) (C : Cls) (i : Nat) (o : Oper) (v : Value) (a : Act) : Prop :=
  (Region.wanted o (yielded ops a.tmps) = true ∧ ∀ listed w, i ∈ Region.ready md ops listed → C listed w → stepAt P C i listed w v ((execOp a.eval o).run P w)) ∨
  (Region.wanted o (yielded ops a.tmps) = false ∧ v = undef ∧ ∀ listed w, i ∈ Region.ready md ops listed → C listed w → C (listed.setIfInBounds i true) w)

/-- The walk in the text's order. -/
def wpC (P : Program) (ops : Array Oper) (md : Region.Mode) (C : Cls) (L : Act → Prop) : List Oper → Nat → Act → Prop
  | [], _, a => L a
  | o :: rest, i, a => ∃ v, yieldsC P ops md C i o v a ∧ wpC P ops md C L rest (i + 1) (a.put o.dst v)

/-- Whatever order, the frame alone. -/
def anyC (P : Program) (ops : Array Oper) (md : Region.Mode) (C : Cls) (L : Act → Prop) : Nat → Array Bool → Act → Prop
  | 0, listed, a => Region.ready md ops listed = [] ∧ L a
  | fuel + 1, listed, a => (Region.ready md ops listed = [] → L a) ∧
    ∀ i ∈ Region.ready md ops listed, ∃ o v, ops[i]? = some o ∧ yieldsC P ops md C i o v a ∧ anyC P ops md C L fuel (listed.setIfInBounds i true) (a.put o.dst v)

theorem yieldsC.of_same {C : Cls} {i : Nat} {o : Oper} {v : Value} {a a' : Act} (hy : yieldsC P ops md C i o v a) (he : execOp a'.eval o = execOp a.eval o)
    (hw : Region.wanted o (yielded ops a'.tmps) = Region.wanted o (yielded ops a.tmps)) : yieldsC P ops md C i o v a' := by
  unfold yieldsC at *
  rw [he, hw]
  exact hy

theorem anyC_first {C : Cls} {L : Act → Prop} {i : Nat} {oi : Oper} {v : Value} (hi : ops[i]? = some oi) (hsel : ∀ (j : Nat) (o : Oper) cs b, ops[j]? = some o → o.op ≠ .select cs b) :
    ∀ (fuel : Nat) (listed : Array Bool) (a : Act),
      (∀ j oj, ops[j]? = some oj → j ≠ i → listed.getD j true = false → (∀ e ∈ oj.after, Region.binds md e = true → e.on ≠ i) → oi.apart ops oj = true) →
      i ∈ Region.ready md ops listed → yieldsC P ops md C i oi v a →
      anyC P ops md C L fuel (listed.setIfInBounds i true) (a.put oi.dst v) → anyC P ops md C L (fuel + 1) listed a := by
  intro fuel
  induction fuel with
  | zero =>
    intro listed a _ hr hy H
    refine ⟨fun h => (by rw [h] at hr; cases hr), fun j hj => ?_⟩
    by_cases hji : j = i
    · subst hji; exact ⟨oi, v, hi, hy, H⟩
    · have := ready_mono hj hji
      rw [H.1] at this
      cases this
  | succ fuel ih =>
    intro listed a hfree hr hy H
    refine ⟨fun h => (by rw [h] at hr; cases hr), fun j hj => ?_⟩
    by_cases hji : j = i
    · subst hji; exact ⟨oi, v, hi, hy, H⟩
    · obtain ⟨oj, u, hoj, hyj, hK⟩ := H.2 j (ready_mono hj hji)
      obtain ⟨hjun, oj', hoj', hall⟩ := mem_ready.1 hj
      obtain rfl : oj' = oj := by rw [hoj] at hoj'; exact (Option.some.inj hoj').symm
      have hnot : ∀ e ∈ oj'.after, Region.binds md e = true → e.on ≠ i := fun e he hb heq => by
        have h1 := hall e he hb
        have h0 := (mem_ready.1 hr).1
        rw [heq] at h1
        rcases Nat.lt_or_ge i listed.size with h' | h'
        · simp [h'] at h0 h1; rw [h0] at h1; cases h1
        · simp [Array.getElem?_eq_none h'] at h1
      have hap := hfree j oj' hoj hji hjun hnot
      obtain ⟨h1, h2, h3⟩ := Oper.apart_spec hap
      refine ⟨oj', u, hoj, hyj.of_same (execOp_put oj' (fun cs b => hsel j oj' cs b hoj) a oi.dst v h1).symm (wanted_put oj' a oi.dst v h1).symm, ?_⟩
      have hfree' : ∀ k ok, ops[k]? = some ok → k ≠ i → (listed.setIfInBounds j true).getD k true = false →
          (∀ e ∈ ok.after, Region.binds md e = true → e.on ≠ i) → oi.apart ops ok = true := fun k ok hk hki hun hno => by
        refine hfree k ok hk hki ?_ hno
        by_cases hjk : j = k
        · subst hjk; exact hjun
        · rw [getD_set_ne true hjk] at hun; exact hun
      refine ih (listed.setIfInBounds j true) _ hfree' (ready_mono hr (Ne.symm hji)) (hy.of_same (execOp_put oi (fun cs b => hsel i oi cs b hi) a oj'.dst u h3) (wanted_put oi a oj'.dst u h3)) ?_
      rw [Array.setIfInBounds_comm _ _ hji, ← Act.put_comm a v u h2]
      exact hK

theorem anyC_lex {C : Cls} {L : Act → Prop} (hs : Region.noSelect ops = true) : ∀ (l : List Oper) (k : Nat) (listed : Array Bool) (a : Act), (∀ j, l[j]? = ops[k + j]?) →
    Region.lexFrom md ops l.length k listed = true → wpC P ops md C L l k a → anyC P ops md C L l.length listed a
  | [], _, _, _, _, hB, h => ⟨by simpa [Region.lexFrom] using hB, h⟩
  | o :: l, k, listed, a, hl, hB, h => by
    have h0 : ops[k]? = some o := by simpa using (hl 0).symm
    simp only [List.length_cons, Region.lexFrom, Bool.and_eq_true] at hB
    obtain ⟨⟨hr, hf⟩, hB'⟩ := hB
    obtain ⟨v, hy, hK⟩ := h
    exact anyC_first h0 (Region.noSelect_spec hs) l.length listed a (Region.free_spec h0 hf) (by simpa using hr) hy
      (anyC_lex hs l (k + 1) _ _ (fun j => by have := hl (j + 1); simpa [Nat.add_assoc, Nat.add_comm 1 j] using this) hB' hK)

theorem wpAny_of_anyC {C : Cls} {L : Act → Prop} (hQ : ∀ listed a w, Region.ready md ops listed = [] → C listed w → L a → Q .normal a w) : ∀ (fuel : Nat) (listed : Array Bool) (a : Act) (w : World), C listed w →
    anyC P ops md C L fuel listed a → wpAny P md ops Q fuel listed a w
  | 0, listed, _, _, hw, h => ⟨h.1, hQ _ _ _ h.1 hw h.2⟩
  | fuel + 1, listed, a, w, hw, h => ⟨fun h0 => hQ _ _ _ h0 hw (h.1 h0), fun i hi => by
      obtain ⟨o, v, ho, hy, hK⟩ := h.2 i hi
      unfold wpOp
      rw [ho]
      show if Region.wanted o (yielded ops a.tmps) = true then _ else _
      rcases hy with ⟨hwa, hy⟩ | ⟨hwa, rfl, hC⟩
      · rw [if_pos hwa]
        refine .inl ?_
        have h3 := hy listed w hi hw
        unfold Oper.wp
        generalize (execOp a.eval o).run P w = r at *
        cases r with
        | ok n w' =>
          cases n <;> simp only [stepAt] at h3 <;> simp only [Oper.upon]
          case value u =>
            obtain ⟨rfl, e2⟩ := h3
            exact wpAny_of_anyC hQ fuel _ _ _ e2 hK
          case skip =>
            obtain ⟨rfl, e2⟩ := h3
            exact wpAny_of_anyC hQ fuel _ _ _ e2 hK
          case enter f args =>
            obtain ⟨rfl, hc⟩ := h3
            exact hc.mono fun e w'' ⟨he, hw''⟩ => by subst he; exact wpAny_of_anyC hQ fuel _ _ _ hw'' hK
        | halt x w' => simp only [stepAt] at h3
      · rw [if_neg (by rw [hwa]; exact Bool.false_ne_true)]
        exact wpAny_of_anyC hQ fuel _ _ _ (hC listed w hi hw) hK⟩

/-- ONE WALK IN THE TEXT's ORDER SERVES EVERY ORDER, under a class of worlds that hangs on what has come up. -/
theorem wp_region_cls {id : Nat} {l : List Oper} {a : Act} {w : World} (C : Cls) (hm : P.follows .mixedOrders = true) (hB : Region.lexB .any l.toArray = true)
    (hC : C (Array.replicate l.length false) w.drew)
    (h : wpC P l.toArray .any C (fun a' => ∀ listed w', Region.ready .any l.toArray listed = [] → C listed w' → Q .normal a' w') l 0 a) : (Code.region id l.toArray true).wp P Q a w := by
  simp only [Region.lexB, Bool.and_eq_true] at hB
  refine wp_region_any hm (wpAny_of_anyC (L := fun a' => ∀ listed w', Region.ready .any l.toArray listed = [] → C listed w' → Q .normal a' w') (fun listed _ w' hr hw' h => h listed w' hr hw') _ _ _ _ (by simpa using hC) ?_)
  have := anyC_lex (C := C) (md := .any) hB.1 l 0 (Array.replicate l.toArray.size false) a (by simp) (by simpa using hB.2) h
  simpa using this

/-- Operations that only read, behind them some in one order. -/
theorem stillTail {id : Nat} {a : Act} {w : World} {l : List Oper} (n : Nat) (hm : P.follows .mixedOrders = true) (hB : Region.lexTailB .any l.toArray n = true)
    (h : wpStill P l.toArray w.drew (fun a' => wpList P l.toArray Q (l.drop n) a' w.drew) (l.take n) a) : (Code.region id l.toArray true).wp P Q a w :=
  wp_region_still_tail n hm hB h

theorem wpC_nil {C : Cls} {L : Act → Prop} {i : Nat} {a : Act} (h : L a) : wpC P ops md C L [] i a := h
/-- An operation that is not wanted. -/
theorem wpC_skip {C : Cls} {L : Act → Prop} {o : Oper} {rest : List Oper} {i : Nat} {a : Act} (hw : Region.wanted o (yielded ops a.tmps) = false)
    (hC : ∀ listed w, i ∈ Region.ready md ops listed → C listed w → C (listed.setIfInBounds i true) w)
    (h : ∀ K : Act → Prop, (∀ a, wpC P ops md C L rest (i + 1) a → K a) → K (a.put o.dst undef)) : wpC P ops md C L (o :: rest) i a :=
  ⟨undef, .inr ⟨hw, rfl, hC⟩, h _ (fun _ h => h)⟩
/-- An operation that only reads. -/
theorem wpC_read {C : Cls} {L : Act → Prop} {o : Oper} {rest : List Oper} {i : Nat} {a : Act} (hw : Region.wanted o (yielded ops a.tmps) = true)
    (hC : ∀ listed w, i ∈ Region.ready md ops listed → C listed w → C (listed.setIfInBounds i true) w)
    (h : ∀ K : Act → Prop, (∀ a, wpC P ops md C L rest (i + 1) a → K a) → ∃ v, (∀ listed w, i ∈ Region.ready md ops listed → C listed w → (execOp a.eval o).run P w = .ok (.value v) w) ∧ K (a.put o.dst v)) :
    wpC P ops md C L (o :: rest) i a := by
  obtain ⟨v, hrun, hK⟩ := h _ (fun _ h => h)
  exact ⟨v, .inl ⟨hw, fun listed w hi hc => by rw [hrun listed w hi hc]; exact ⟨rfl, hC listed w hi hc⟩⟩, hK⟩
/-- An operation that turns the world. -/
theorem wpC_turn {C : Cls} {L : Act → Prop} {o : Oper} {rest : List Oper} {i : Nat} {a : Act} (hw : Region.wanted o (yielded ops a.tmps) = true) (v : Value)
    (hrun : ∀ listed w, i ∈ Region.ready md ops listed → C listed w → ∃ w', (execOp a.eval o).run P w = .ok (.value v) w' ∧ C (listed.setIfInBounds i true) w')
    (h : ∀ K : Act → Prop, (∀ a, wpC P ops md C L rest (i + 1) a → K a) → K (a.put o.dst v)) : wpC P ops md C L (o :: rest) i a :=
  ⟨v, .inl ⟨hw, fun listed w hi hc => by obtain ⟨w', h1, h2⟩ := hrun listed w hi hc; rw [h1]; exact ⟨rfl, h2⟩⟩, h _ (fun _ h => h)⟩
/-- A call. -/
theorem wpC_call {C : Cls} {L : Act → Prop} {o : Oper} {rest : List Oper} {i : Nat} {a : Act} (hw : Region.wanted o (yielded ops a.tmps) = true) (v : Value) (f : FuncId) (args : Array Value)
    (hrun : ∀ w, (execOp a.eval o).run P w = .ok (.enter f args) w)
    (hcall : ∀ listed w, i ∈ Region.ready md ops listed → C listed w → Calls P f args w (fun e w'' => e = .returned v ∧ C (listed.setIfInBounds i true) w''))
    (h : ∀ K : Act → Prop, (∀ a, wpC P ops md C L rest (i + 1) a → K a) → K (a.put o.dst v)) : wpC P ops md C L (o :: rest) i a :=
  ⟨v, .inl ⟨hw, fun listed w hi hc => by rw [hrun w]; exact ⟨rfl, hcall listed w hi hc⟩⟩, h _ (fun _ h => h)⟩

/-- Each operation waits for earlier ones alone. -/
def backB (l : List Oper) : Bool := l.zipIdx.all fun x => x.1.after.all fun e => !Region.binds .any e || decide (e.on < x.2)

theorem all_listed {l : List Oper} (hb : backB l = true) {listed : Array Bool} (hs : listed.size = l.length) (hr : Region.ready .any l.toArray listed = []) : ∀ i, i < l.length → listed.getD i false = true := by
  intro i
  induction i using Nat.strongRecOn with
  | _ i ih =>
    intro hi
    cases hg : listed.getD i false
    · exfalso
      have hg' : listed.getD i true = false := by
        simp only [Array.getD_eq_getD_getElem?] at hg ⊢
        rw [Array.getElem?_eq_getElem (by omega)] at hg ⊢
        simpa using hg
      have : i ∈ Region.ready .any l.toArray listed := by
        rw [mem_ready]
        refine ⟨hg', l[i], by simp [hi], fun e he hbd => ?_⟩
        have h1 := List.all_eq_true.1 hb (l[i], i) (List.mem_iff_getElem.2 ⟨i, by simpa using hi, by simp⟩)
        have h2 := Array.all_eq_true_iff_forall_mem.1 h1 e he
        simp only [hbd, Bool.not_true, Bool.false_or, decide_eq_true_eq] at h2
        exact ih e.on h2 (by omega)
      rw [hr] at this
      cases this
    · rfl

/-- The same, and at the end all have come up. -/
theorem wp_region_done {id : Nat} {l : List Oper} {a : Act} {w : World} (C : Cls) (hm : P.follows .mixedOrders = true) (hB : Region.lexB .any l.toArray = true) (hb : backB l = true)
    (hC : C (Array.replicate l.length false) w.drew)
    (h : wpC P l.toArray .any (fun listed w => listed.size = l.length ∧ C listed w) (fun a' => ∀ listed w', (∀ i, i < l.length → listed.getD i false = true) → C listed w' → Q .normal a' w') l 0 a) : (Code.region id l.toArray true).wp P Q a w := by
  refine wp_region_cls (fun listed w => listed.size = l.length ∧ C listed w) hm hB ⟨by simp, hC⟩ ?_
  have mono : ∀ (r : List Oper) (i : Nat) (a : Act) (L L' : Act → Prop), (∀ a, L a → L' a) → wpC P l.toArray .any (fun listed w => listed.size = l.length ∧ C listed w) L r i a → wpC P l.toArray .any (fun listed w => listed.size = l.length ∧ C listed w) L' r i a := by
    intro r
    induction r with
    | nil => intro i a L L' hL h; exact hL a h
    | cons o r ih =>
      intro i a L L' hL h
      obtain ⟨v, hy, hK⟩ := h
      exact ⟨v, hy, ih _ _ _ _ hL hK⟩
  exact mono l 0 a _ _ (fun a' ha' listed w' hr hc => ha' listed w' (all_listed hb hc.1 hr) hc.2) h

/-- Under a class that hangs on nothing. -/
theorem wp_region_same {id : Nat} {l : List Oper} {a : Act} {w : World} (C : World → Prop) (hm : P.follows .mixedOrders = true) (hB : Region.lexB .any l.toArray = true)
    (hC : C w.drew) (h : wpC P l.toArray .any (fun _ w => C w) (fun a' => ∀ w', C w' → Q .normal a' w') l 0 a) : (Code.region id l.toArray true).wp P Q a w := by
  refine wp_region_cls (fun _ w => C w) hm hB hC ?_
  have mono : ∀ (r : List Oper) (i : Nat) (a : Act) (L L' : Act → Prop), (∀ a, L a → L' a) → wpC P l.toArray .any (fun _ w => C w) L r i a → wpC P l.toArray .any (fun _ w => C w) L' r i a := by
    intro r
    induction r with
    | nil => intro i a L L' hL h; exact hL a h
    | cons o r ih =>
      intro i a L L' hL h
      obtain ⟨v, hy, hK⟩ := h
      exact ⟨v, hy, ih _ _ _ _ hL hK⟩
  exact mono l 0 a _ _ (fun a' ha' _ w' _ hc => ha' w' hc) h
end
end Go.Proofs.Ytodohgckncnipaa
/- A list of bytes in memory: what came in (BytesAt), a block of one's own, known to its last cell (Row), a slice of one's own (Own), appended to. -/
namespace Go.Proofs.Ytodohgckncnipaa
open Go.RowKit

theorem own : ownKnob Try.prog.godebug = none := by kernel_rfl
theorem laidOut : laidOutB Try.prog = true := by kernel_rfl

abbrev Byte (a : Int) : Prop := 0 ≤ a ∧ a ≤ 255
def bytesV (Z : List Int) : List Value := Z.map (Value.int .u8)
@[simp] theorem bytesV_length (Z : List Int) : (bytesV Z).length = Z.length := by simp [bytesV]
theorem bytesV_append (X Y : List Int) : bytesV (X ++ Y) = bytesV X ++ bytesV Y := by simp [bytesV]
theorem bytesV_get {Z : List Int} {j : Nat} {u : Value} (h : (bytesV Z)[j]? = some u) : ∃ a, Z[j]? = some a ∧ u = .int .u8 a := by
  simp only [bytesV, List.getElem?_map, Option.map_eq_some_iff] at h
  obtain ⟨a, h1, h2⟩ := h
  exact ⟨a, h1, h2.symm⟩
theorem bytesV_one {Z : List Int} : ∀ u ∈ bytesV Z, u.oneCell' = true := fun u hu => by
  obtain ⟨a, _, rfl⟩ := List.mem_map.1 hu
  rfl

/-- The bytes that came in. -/
structure BytesAt (w : World) (g o : Nat) (Z : List Int) : Prop where
  c : ∀ k a, Z[k]? = some a → w.cell? ⟨g, o + k, none⟩ = some (.int .u8 a) ∧ Byte a
  lt : Z ≠ [] → g < w.heap.size
theorem BytesAt.chg {S : Nat → Prop} {w w' : World} {g o : Nat} {Z : List Int} (h : BytesAt w g o Z) (hc : Chg S w w') (hs : Z ≠ [] → ¬ S g) : BytesAt w' g o Z :=
  ⟨fun k a hk => ⟨hc.cellS (h.c k a hk).1 (hs (by intro e; rw [e] at hk; simp at hk)), (h.c k a hk).2⟩, fun hz => Nat.lt_of_lt_of_le (h.lt hz) hc.size⟩
theorem BytesAt.get {w : World} {g o : Nat} {Z : List Int} (h : BytesAt w g o Z) {k : Nat} (hk : k < Z.length) : ∃ a, Z[k]? = some a ∧ w.cell? ⟨g, o + k, none⟩ = some (.int .u8 a) ∧ 0 ≤ a ∧ a ≤ 255 :=
  ⟨Z[k], by simp, (h.c k _ (by simp)).1, (h.c k _ (by simp)).2⟩
theorem BytesAt.byte {w : World} {g o : Nat} {Z : List Int} (h : BytesAt w g o Z) : ∀ a ∈ Z, Byte a := fun a ha => by
  obtain ⟨k, hk, rfl⟩ := List.getElem_of_mem ha
  exact (h.c k _ (by simp)).2

/-- A block of one's own: its first cells. -/
structure Row (w : World) (g : Nat) (C : List Int) : Prop where
  c : ∀ k a, C[k]? = some a → w.cell? ⟨g, k, none⟩ = some (.int .u8 a)
  z : ∀ j, w.frozen? ⟨g, j, none⟩ = false
  lt : g < w.heap.size
  byte : ∀ a ∈ C, Byte a
theorem Row.chg {S : Nat → Prop} {w w' : World} {g : Nat} {C : List Int} (h : Row w g C) (hc : Chg S w w') (hs : ¬ S g) : Row w' g C :=
  ⟨fun k a hk => hc.cellS (h.c k a hk) hs, fun j => (hc.frozen (p := ⟨g, j, none⟩) h.lt hs).trans (h.z j), Nat.lt_of_lt_of_le h.lt hc.size, h.byte⟩
theorem Row.bytes {w : World} {g : Nat} {C X : List Int} (h : Row w g C) (hp : X <+: C) : BytesAt w g 0 X :=
  ⟨fun k a hk => by
    obtain ⟨Y, rfl⟩ := hp
    have hk' : (X ++ Y)[k]? = some a := by rw [List.getElem?_append_left (List.getElem?_eq_some_iff.1 hk).1]; exact hk
    rw [Nat.zero_add]
    exact ⟨h.c k a hk', h.byte a (List.mem_of_getElem? hk')⟩, fun _ => h.lt⟩
theorem Row.alloc (w : World) (C : List Int) (e : TypeId) (hb : ∀ a ∈ C, Byte a) : Row (w.alloc (.cells (bytesV C).toArray e)) w.heap.size C :=
  ⟨fun k a hk => by
    rw [World.cell?_alloc_new]
    simp [bytesV, hk], fun j => World.frozen?_alloc_new _ _ _ _, by simp, hb⟩

theorem Chg.fresh {w w' : World} (h : Chg (fun k => w.heap.size ≤ k) w w') : Chg (fun _ => False) w w' := h.mono (fun k hk e => by omega)
theorem Chg.any {S : Nat → Prop} {w w' : World} (h : Chg (fun _ => False) w w') : Chg S w w' := h.mono (fun _ _ e => e.elim)
theorem setCellChg (w : World) (t j : Nat) (v : Value) : Chg (· = t) w (w.setCell ⟨t, j, none⟩ v) := Chg.setCell (S := (· = t)) (p := ⟨t, j, none⟩) (Chg.refl _ w) (.inr rfl) v
theorem setCellsChg (b : Nat) : ∀ (vs : List Value) (o : Nat) (w : World), Chg (· = b) w (w.setCells b o vs)
  | [], _, w => Chg.refl _ w
  | v :: r, o, w => (setCellChg w b o v).trans (setCellsChg b r (o + 1) _)

/-- Y is laid over X ++ .. behind X. -/
theorem Row.put {w : World} {g : Nat} {C X Y : List Int} (h : Row w g C) (hp : X <+: C) (hl : X.length + Y.length ≤ C.length) (hY : ∀ a ∈ Y, Byte a) :
    ∃ C', Row (w.setCells g X.length (bytesV Y)) g C' ∧ C'.length = C.length ∧ X ++ Y <+: C' := by
  obtain ⟨R, rfl⟩ := hp
  refine ⟨X ++ Y ++ R.drop Y.length, ⟨fun k a hk => ?_, fun j => (World.frozen?_setCells _ _ _ _ _).trans (h.z j), Nat.lt_of_lt_of_le h.lt (setCellsChg _ _ _ _).size, fun a ha => ?_⟩, by simp only [List.length_append, List.length_drop] at *; omega, ⟨_, rfl⟩⟩
  · have hin : ∀ j, j < (bytesV Y).length → (w.cell? ⟨g, X.length + j, none⟩).isSome = true := fun j hj => by
      have hj' : X.length + j < (X ++ R).length := by simp only [bytesV_length, List.length_append] at *; omega
      rw [h.c (X.length + j) _ (List.getElem?_eq_getElem hj')]
      rfl
    by_cases h1 : k < X.length
    · rw [World.cell?_setCells_out g (bytesV Y) X.length w ⟨g, k, none⟩ (fun _ _ => .inl h1)]
      refine h.c k a ?_
      rw [List.append_assoc, List.getElem?_append_left h1] at hk
      rw [List.getElem?_append_left h1]
      exact hk
    · by_cases h2 : k < X.length + Y.length
      · obtain ⟨j, rfl⟩ : ∃ j, k = X.length + j := ⟨k - X.length, by omega⟩
        rw [World.cell?_setCells_in g (bytesV Y) X.length w hin j (by simp; omega)]
        rw [List.append_assoc, List.getElem?_append_right (by omega), Nat.add_sub_cancel_left, List.getElem?_append_left (by omega)] at hk
        have := (List.getElem?_eq_some_iff.1 hk).2
        simp [bytesV, this]
      · rw [World.cell?_setCells_out g (bytesV Y) X.length w ⟨g, k, none⟩ (fun _ _ => .inr (by simp; omega))]
        refine h.c k a ?_
        rw [List.getElem?_append_right (by simp; omega), List.getElem?_drop] at hk
        rw [List.getElem?_append_right (by omega), ← hk]
        congr 1
        simp
        omega
  · simp only [List.mem_append] at ha
    rcases ha with (ha | ha) | ha
    · exact h.byte a (by simp [ha])
    · exact hY a ha
    · exact h.byte a (by simp [List.mem_of_mem_drop ha])

/-- A slice of one's own, known up to its capacity. -/
def Own (w : World) (B : Nat) (v : Value) (X : List Int) : Prop :=
  (v = .slice none 0 0 ∧ X = []) ∨ ∃ (g : Nat) (C : List Int), v = .slice (some ⟨g, 0, none⟩) X.length C.length ∧ B ≤ g ∧ Row w g C ∧ X <+: C ∧ C.length ≤ maxLen
theorem Own.chg {S : Nat → Prop} {w w' : World} {B : Nat} {v : Value} {X : List Int} (h : Own w B v X) (hc : Chg S w w') (hs : ∀ g, B ≤ g → g < w.heap.size → ¬ S g) : Own w' B v X := by
  rcases h with h | ⟨g, C, h1, h2, h3, h4, h5⟩
  · exact .inl h
  · exact .inr ⟨g, C, h1, h2, h3.chg hc (hs g h2 h3.lt), h4, h5⟩
theorem Own.shape {w : World} {B : Nat} {v : Value} {X : List Int} (h : Own w B v X) : ∃ a c, v = .slice a X.length c := by
  rcases h with ⟨rfl, rfl⟩ | ⟨g, C, h1, _⟩
  · exact ⟨_, _, rfl⟩
  · exact ⟨_, _, h1⟩
theorem Own.lower {w : World} {B B' : Nat} {v : Value} {X : List Int} (h : Own w B v X) (hB : B' ≤ B) : Own w B' v X := by
  rcases h with h | ⟨g, C, h1, h2, h3⟩
  · exact .inl h
  · exact .inr ⟨g, C, h1, by omega, h3⟩

theorem info8 : (Try.prog.info? 5).map (fun i => (i.zero, i.size, i.bytes)) = some (some (.int .u8 0), 1, 1) := by kernel_rfl

/-- What is appended: bytes that lie somewhere. -/
theorem zeroCells8 (n : Nat) : Builtin.zeroCells (Value.int .u8 0).cells n = (bytesV (List.replicate n 0)).toArray := by
  apply Array.ext
  · simp [Builtin.zeroCells, Value.cells, bytesV]
  · intro i h1 h2
    simp [Builtin.zeroCells, Value.cells, bytesV, Nat.mod_one]

/-- There is room. -/
theorem Row.first {w : World} {g : Nat} {C X : List Int} (hR : Row w g C) (hp : X <+: C) (cap : Nat) (w' : World) (hc : Chg (fun _ => False) w w') : (Builtin.firstCells 1 X.length (.slice (some ⟨g, 0, none⟩) X.length cap)).run Try.prog w' = .ok (bytesV X).toArray w' := by
  have hb := (hR.bytes hp).chg hc (fun _ h => h)
  refine run_firstCells_some w' 1 X.length ⟨g, 0, none⟩ X.length cap (bytesV X) (by simp) (fun j u hu => ?_)
  obtain ⟨x, hx, rfl⟩ := bytesV_get hu
  rw [Addr.add_lit]
  exact (hb.c j x hx).1

/-- append where there is room, at the operation. -/
theorem madeCells8 (n : Nat) : madeCells (Value.int .u8 0).cells n = (bytesV (List.replicate n 0)).toArray := by
  apply Array.ext
  · simp [madeCells, Value.cells, bytesV]
  · intro i h1 h2
    simp [madeCells, Value.cells, bytesV, Nat.mod_one]
/-- Some bytes are written out. -/
theorem lit8 (w : World) (Y : List Int) (e : TypeId) (hY : ∀ a ∈ Y, Byte a) : BytesAt (w.alloc (.cells (bytesV Y).toArray e)) w.heap.size 0 Y := (Row.alloc w Y e hY).bytes (List.prefix_refl _)
theorem prefix_whole {X C : List Int} (h : X <+: C) (hl : C.length = X.length) : C = X := (h.eq_of_length hl.symm).symm
end Go.Proofs.Ytodohgckncnipaa
/- Lists of elements of some cells each: what came in (At), a block of one's own, known to its last cell (Row), a slice of one's own (Own), appended to. -/
namespace Go.Proofs.Ytodohgckncnipaa
open Go.RowKit

/-- How an element is spelled in cells. -/
structure Elt (α : Type) where
  enc : α → List Value
  sz : Nat
  bs : Nat
  e : TypeId
  sl : TypeId
  z : α
  zv : Value
  ok : α → Prop
  pos : 0 < sz
  len : ∀ a, (enc a).length = sz
  one : ∀ a, ∀ u ∈ enc a, u.oneCell' = true
  zok : ok z
  info : (Try.prog.info? e).map (fun i => (i.zero, i.size, i.bytes)) = some (some zv, sz, bs)
  zc : zv.cells = (enc z).toArray
  und : Try.prog.underlying sl = some (.slice e)
  bsl : bs ≤ 100

variable {α : Type} (E : Elt α)
def Elt.encs (L : List α) : List Value := L.flatMap E.enc
theorem Elt.encs_length (L : List α) : (E.encs L).length = L.length * E.sz := by
  induction L with
  | nil => simp [encs]
  | cons x L ih =>
    have : (E.encs (x :: L)) = E.enc x ++ E.encs L := rfl
    rw [this, List.length_append, E.len, ih, List.length_cons, Nat.succ_mul, Nat.add_comm]
theorem Elt.encs_append (X Y : List α) : E.encs (X ++ Y) = E.encs X ++ E.encs Y := by simp [encs]
theorem Elt.encs_one (L : List α) : ∀ u ∈ E.encs L, u.oneCell' = true := fun u hu => by
  obtain ⟨x, _, hx⟩ := List.mem_flatMap.1 hu
  exact E.one x u hx
theorem Elt.encs_at : ∀ {L : List α} {k : Nat} {x : α} {i : Nat} {u : Value}, L[k]? = some x → (E.enc x)[i]? = some u → (E.encs L)[k * E.sz + i]? = some u
  | y :: L, 0, x, i, u, hk, hi => by
    simp at hk
    subst hk
    have : (E.encs (y :: L)) = E.enc y ++ E.encs L := rfl
    rw [this, Nat.zero_mul, Nat.zero_add, List.getElem?_append_left (List.getElem?_eq_some_iff.1 hi).1]
    exact hi
  | y :: L, k + 1, x, i, u, hk, hi => by
    have : (E.encs (y :: L)) = E.enc y ++ E.encs L := rfl
    rw [this, Nat.succ_mul, List.getElem?_append_right (by rw [E.len]; omega), E.len, show k * E.sz + E.sz + i - E.sz = k * E.sz + i by omega]
    exact encs_at (by simpa using hk) hi

/-- What came in. -/
structure Elt.At (w : World) (g o : Nat) (L : List α) : Prop where
  c : ∀ j u, (E.encs L)[j]? = some u → w.cell? ⟨g, o + j, none⟩ = some u
  ok : ∀ x ∈ L, E.ok x
  lt : L ≠ [] → g < w.heap.size
variable {E}
theorem Elt.At.chg {S : Nat → Prop} {w w' : World} {g o : Nat} {L : List α} (h : E.At w g o L) (hc : Chg S w w') (hs : L ≠ [] → ¬ S g) : E.At w' g o L :=
  ⟨fun j u hj => hc.cellS (h.c j u hj) (hs (by intro e; rw [e] at hj; simp [encs] at hj)), h.ok, fun hz => Nat.lt_of_lt_of_le (h.lt hz) hc.size⟩
theorem Elt.At.get {w : World} {g o : Nat} {L : List α} (h : E.At w g o L) {k : Nat} {x : α} {i : Nat} {u : Value} (hk : L[k]? = some x) (hi : (E.enc x)[i]? = some u) : w.cell? ⟨g, o + (k * E.sz + i), none⟩ = some u :=
  h.c _ _ (E.encs_at hk hi)
theorem Elt.At.nil (E : Elt α) (w : World) (g o : Nat) : E.At w g o [] := ⟨fun j u h => by simp [encs] at h, (fun _ h => by cases h), fun h => (h rfl).elim⟩

/-- A block of one's own. -/
structure Elt.Row (E : Elt α) (w : World) (g : Nat) (C : List α) : Prop where
  c : ∀ j u, (E.encs C)[j]? = some u → w.cell? ⟨g, j, none⟩ = some u
  z : ∀ j, w.frozen? ⟨g, j, none⟩ = false
  lt : g < w.heap.size
  ok : ∀ x ∈ C, E.ok x
theorem Elt.Row.chg {S : Nat → Prop} {w w' : World} {g : Nat} {C : List α} (h : E.Row w g C) (hc : Chg S w w') (hs : ¬ S g) : E.Row w' g C :=
  ⟨fun k a hk => hc.cellS (h.c k a hk) hs, fun j => (hc.frozen (p := ⟨g, j, none⟩) h.lt hs).trans (h.z j), Nat.lt_of_lt_of_le h.lt hc.size, h.ok⟩
theorem Elt.Row.at' {w : World} {g : Nat} {C X : List α} (h : E.Row w g C) (hp : X <+: C) : E.At w g 0 X :=
  ⟨fun k a hk => by
    obtain ⟨Y, rfl⟩ := hp
    have hk' : (E.encs (X ++ Y))[k]? = some a := by rw [E.encs_append, List.getElem?_append_left (List.getElem?_eq_some_iff.1 hk).1]; exact hk
    rw [Nat.zero_add]
    exact h.c k a hk', fun x hx => h.ok x (hp.subset hx), fun _ => h.lt⟩
theorem Elt.Row.alloc (w : World) (C : List α) (e : TypeId) (hb : ∀ a ∈ C, E.ok a) : E.Row (w.alloc (.cells (E.encs C).toArray e)) w.heap.size C :=
  ⟨fun k a hk => by
    rw [World.cell?_alloc_new]
    simp [hk], fun j => World.frozen?_alloc_new _ _ _ _, by simp, hb⟩

/-- Y is laid over X ++ .. behind X. -/
theorem Elt.Row.put {w : World} {g : Nat} {C X Y : List α} (h : E.Row w g C) (hp : X <+: C) (hl : X.length + Y.length ≤ C.length) (hY : ∀ a ∈ Y, E.ok a) :
    ∃ C', E.Row (w.setCells g (X.length * E.sz) (E.encs Y)) g C' ∧ C'.length = C.length ∧ X ++ Y <+: C' := by
  obtain ⟨R, rfl⟩ := hp
  have hYR : Y.length ≤ R.length := by simp only [List.length_append] at hl; omega
  obtain ⟨R1, R2, rfl, hR1⟩ : ∃ R1 R2, R = R1 ++ R2 ∧ R1.length = Y.length := ⟨R.take Y.length, R.drop Y.length, (List.take_append_drop _ _).symm, by rw [List.length_take]; omega⟩
  have e1 : (E.encs R1).length = (E.encs Y).length := by rw [E.encs_length, E.encs_length, hR1]
  have e2 : (E.encs X).length = X.length * E.sz := E.encs_length X
  refine ⟨X ++ Y ++ R2, ⟨fun k a hk => ?_, fun j => (World.frozen?_setCells _ _ _ _ _).trans (h.z j), Nat.lt_of_lt_of_le h.lt (setCellsChg _ _ _ _).size, fun a ha => ?_⟩, by simp only [List.length_append] at *; omega, ⟨_, rfl⟩⟩
  · have hin : ∀ j, j < (E.encs Y).length → (w.cell? ⟨g, X.length * E.sz + j, none⟩).isSome = true := fun j hj => by
      have hj' : X.length * E.sz + j < (E.encs (X ++ (R1 ++ R2))).length := by rw [E.encs_append, E.encs_append, List.length_append, List.length_append]; omega
      rw [h.c (X.length * E.sz + j) _ (List.getElem?_eq_getElem hj')]
      rfl
    rw [E.encs_append, E.encs_append] at hk
    by_cases h1 : k < X.length * E.sz
    · rw [World.cell?_setCells_out g (E.encs Y) (X.length * E.sz) w ⟨g, k, none⟩ (fun _ _ => .inl h1)]
      refine h.c k a ?_
      rw [List.append_assoc, List.getElem?_append_left (by omega)] at hk
      rw [E.encs_append, List.getElem?_append_left (by omega)]
      exact hk
    · by_cases h2 : k < X.length * E.sz + (E.encs Y).length
      · obtain ⟨j, rfl⟩ : ∃ j, k = X.length * E.sz + j := ⟨k - X.length * E.sz, by omega⟩
        rw [World.cell?_setCells_in g (E.encs Y) (X.length * E.sz) w hin j (by omega)]
        rw [List.append_assoc, List.getElem?_append_right (by omega), e2, Nat.add_sub_cancel_left, List.getElem?_append_left (by omega)] at hk
        have := (List.getElem?_eq_some_iff.1 hk).2
        simp [this]
      · rw [World.cell?_setCells_out g (E.encs Y) (X.length * E.sz) w ⟨g, k, none⟩ (fun _ _ => .inr (by show X.length * E.sz + (E.encs Y).length ≤ k; omega))]
        refine h.c k a ?_
        rw [List.getElem?_append_right (by rw [List.length_append]; omega)] at hk
        rw [E.encs_append, E.encs_append, ← List.append_assoc, List.getElem?_append_right (by rw [List.length_append]; omega), ← hk, List.length_append, List.length_append, e1]
  · simp only [List.mem_append] at ha
    rcases ha with (ha | ha) | ha
    · exact h.ok a (by simp [ha])
    · exact hY a ha
    · exact h.ok a (by simp [ha])

/-- A slice of one's own, known up to its capacity. -/
def Elt.Own (E : Elt α) (w : World) (B : Nat) (v : Value) (X : List α) : Prop :=
  (v = .slice none 0 0 ∧ X = []) ∨ ∃ (g : Nat) (C : List α), v = .slice (some ⟨g, 0, none⟩) X.length C.length ∧ B ≤ g ∧ E.Row w g C ∧ X <+: C ∧ C.length ≤ maxLen
theorem Elt.Own.chg {S : Nat → Prop} {w w' : World} {B : Nat} {v : Value} {X : List α} (h : E.Own w B v X) (hc : Chg S w w') (hs : ∀ g, B ≤ g → g < w.heap.size → ¬ S g) : E.Own w' B v X := by
  rcases h with h | ⟨g, C, h1, h2, h3, h4, h5⟩
  · exact .inl h
  · exact .inr ⟨g, C, h1, h2, h3.chg hc (hs g h2 h3.lt), h4, h5⟩
theorem Elt.Own.chgB {S : Nat → Prop} {w w' : World} {B : Nat} {v : Value} {X : List α} (h : E.Own w B v X) (hc : Chg S w w') (hs : ∀ g, v.ownBlock = some g → ¬ S g) : E.Own w' B v X := by
  rcases h with h | ⟨g, C, h1, h2, h3, h4, h5⟩
  · exact .inl h
  · exact .inr ⟨g, C, h1, h2, h3.chg hc (hs g (by rw [h1]; rfl)), h4, h5⟩
theorem Elt.Own.blk {w : World} {B : Nat} {v : Value} {X : List α} (h : E.Own w B v X) {g : Nat} (hg : v.ownBlock = some g) : B ≤ g ∧ g < w.heap.size := by
  rcases h with ⟨rfl, _⟩ | ⟨g', C, rfl, h2, h3, _⟩
  · cases hg
  · obtain rfl : g' = g := by simpa [Value.ownBlock] using hg
    exact ⟨h2, h3.lt⟩
theorem Elt.Own.shape {w : World} {B : Nat} {v : Value} {X : List α} (h : E.Own w B v X) : ∃ a c, v = .slice a X.length c := by
  rcases h with ⟨rfl, rfl⟩ | ⟨g, C, h1, _⟩
  · exact ⟨_, _, rfl⟩
  · exact ⟨_, _, h1⟩
theorem Elt.Own.shape3 {w : World} {B : Nat} {v : Value} {X : List α} (h : E.Own w B v X) : ∃ a n c, v = .slice a n c := by
  obtain ⟨a, c, h⟩ := h.shape
  exact ⟨a, _, c, h⟩
theorem Elt.Own.lower {w : World} {B B' : Nat} {v : Value} {X : List α} (h : E.Own w B v X) (hB : B' ≤ B) : E.Own w B' v X := by
  rcases h with h | ⟨g, C, h1, h2, h3⟩
  · exact .inl h
  · exact .inr ⟨g, C, h1, by omega, h3⟩
theorem Elt.Own.nil (w : World) (B : Nat) : E.Own w B (.slice none 0 0) [] := .inl ⟨rfl, rfl⟩
/-- Where its elements lie. -/
theorem Elt.Own.at' {w : World} {B : Nat} {v : Value} {X : List α} (h : E.Own w B v X) : ∃ a g c, v = .slice a X.length c ∧ X.length ≤ c ∧ E.At w g 0 X ∧ (0 < X.length → a = some ⟨g, 0, none⟩ ∧ B ≤ g) := by
  rcases h with ⟨rfl, rfl⟩ | ⟨g, C, rfl, hB, hR, hp, _⟩
  · exact ⟨none, 0, 0, rfl, by simp, .nil _ _ _ _, fun h => by simp at h⟩
  · exact ⟨_, g, _, rfl, hp.length_le, hR.at' hp, fun _ => ⟨rfl, hB⟩⟩

/-- What is appended. -/
theorem Elt.At.src {w : World} {g o : Nat} {Y : List α} {a : Option Addr} {c : Nat} (h : E.At w g o Y) (ha : 0 < Y.length → a = some ⟨g, o, none⟩) : Src Try.prog E.sz E.sl (.slice a Y.length c) Y.length (E.encs Y) w := by
  cases a with
  | none =>
    have h0 : Y = [] := List.length_eq_zero_iff.1 (by rcases Nat.eq_zero_or_pos Y.length with h | h; · exact h
                                                      · cases ha h)
    subst h0
    exact Src.ofNil w E.und c
  | some ad =>
    refine Src.ofSlice w E.und ad Y.length c (E.encs Y) (E.encs_length Y) (fun j u hu => ?_) (E.encs_one Y)
    have h0 : 0 < Y.length := by
      cases Y with
      | nil => simp [encs] at hu
      | cons x Y => simp
    obtain rfl := Option.some.inj (ha h0)
    rw [Addr.add_lit]
    exact h.c j u hu

theorem Elt.zeros (n : Nat) : Builtin.zeroCells E.zv.cells (n * 1) = Builtin.zeroCells E.zv.cells n := by rw [Nat.mul_one]
theorem Elt.encs_rep (x : α) : ∀ (n j : Nat), (E.encs (List.replicate n x))[j]? = if j < n * E.sz then (E.enc x)[j % E.sz]? else none
  | 0, j => by simp [encs]
  | n + 1, j => by
    have hp := E.pos
    have : E.encs (List.replicate (n + 1) x) = E.enc x ++ E.encs (List.replicate n x) := rfl
    rw [this]
    by_cases h : j < E.sz
    · rw [List.getElem?_append_left (by rw [E.len]; exact h), if_pos (by rw [Nat.succ_mul]; omega), Nat.mod_eq_of_lt h]
    · rw [List.getElem?_append_right (by rw [E.len]; omega), E.len, encs_rep x n]
      rw [Nat.succ_mul, show j % E.sz = (j - E.sz) % E.sz from Nat.mod_eq_sub_mod (by omega)]
      by_cases h2 : j < n * E.sz + E.sz
      · rw [if_pos (by omega), if_pos h2]
      · rw [if_neg (by omega), if_neg h2]
theorem Elt.zeroCellsE (n : Nat) : Builtin.zeroCells E.zv.cells n = (E.encs (List.replicate n E.z)).toArray := by
  have hp := E.pos
  apply Array.ext'
  apply List.ext_getElem?
  intro j
  rw [E.zc, List.toList_toArray, encs_rep]
  simp only [Builtin.zeroCells, List.size_toArray, E.len]
  by_cases h : j < n * E.sz
  · rw [if_pos h]
    have hm := Nat.mod_lt j hp
    simp [h, E.len, hm]
  · rw [if_neg h]
    simp
    omega

/-- A NEW ROW: what stood, what is appended, zeros. -/
theorem Elt.grow {w : World} (v : Value) (X : List α) (base : Option Addr) (cap : Nat) (hv : v = .slice base X.length cap) (hold : ∀ w' : World, Chg (fun _ => False) w w' → (Builtin.firstCells E.sz X.length v).run Try.prog w' = .ok (E.encs X).toArray w')
    (hX : ∀ a ∈ X, E.ok a) (tx : TypeId) (x : Value) (Y : List α) (hs : Src Try.prog E.sz tx x Y.length (E.encs Y) w) (hY : ∀ a ∈ Y, E.ok a) (hg : cap < X.length + Y.length) (hlen : X.length + Y.length ≤ 1000000000000) (ty : TypeId) :
    ∃ (w' : World) (C : List α), (Builtin.append_ #[E.sl, tx] ty #[v, x]).run Try.prog w = .ok (.slice (some ⟨w.heap.size, 0, none⟩) (X ++ Y).length C.length) w' ∧ E.Row w' w.heap.size C ∧ X ++ Y <+: C ∧ C.length ≤ maxLen ∧ Chg (fun _ => False) w w' := by
  obtain ⟨i, hi, hz, h1, h2⟩ := info_parts E.info
  subst hv
  have hG := grownCap_ge w (X.length + Y.length) cap E.e
  have hG2 := grownCap_le_maxLen w (X.length + Y.length) cap E.e (by unfold maxLen; omega)
  have hbs : (X.length + Y.length) * E.bs ≤ 1000000000000 * 100 := Nat.mul_le_mul hlen E.bsl
  have hrun := run_append_grow_src (P := Try.prog) w E.sl tx ty E.e i E.zv E.und hi hz base X.length cap (E.encs X) (by rw [h1]; exact hold _ (Chg.refl _ _).drew) x Y.length (E.encs Y) (by rw [h1]; exact hs) hg (by omega)
    (by rw [h2]; exact growslice_fits hg (by omega))
  rw [zeroCellsE, ← E.encs_append, List.append_toArray, ← E.encs_append] at hrun
  obtain ⟨C, hC⟩ : ∃ C, C = X ++ Y ++ List.replicate (grownCap w (X.length + Y.length) cap E.e - (X.length + Y.length)) E.z := ⟨_, rfl⟩
  rw [← hC] at hrun
  refine ⟨w.drew.alloc (.cells (E.encs C).toArray E.e), C, ?_, Elt.Row.alloc w.drew _ _ (fun a ha => ?_), ⟨_, hC.symm⟩, ?_, (Chg.refl _ _).drew.alloc _⟩
  all_goals subst hC
  · rw [hrun]
    simp only [List.length_append, List.length_replicate]
    rw [Nat.add_sub_cancel' hG]
  · simp only [List.mem_append, List.mem_replicate] at ha
    rcases ha with (ha | ha) | ⟨_, rfl⟩
    · exact hX a ha
    · exact hY a ha
    · exact E.zok
  · simp only [List.length_append, List.length_replicate]
    omega

/-- There is room. -/
theorem Elt.room {w : World} {g : Nat} {C X : List α} (hR : E.Row w g C) (hp : X <+: C) (tx : TypeId) (x : Value) (Y : List α) (hs : Src Try.prog E.sz tx x Y.length (E.encs Y) w) (hY : ∀ a ∈ Y, E.ok a) (hl : X.length + Y.length ≤ C.length) (ty : TypeId) :
    ∃ (w' : World) (C' : List α), (Builtin.append_ #[E.sl, tx] ty #[.slice (some ⟨g, 0, none⟩) X.length C.length, x]).run Try.prog w = .ok (.slice (some ⟨g, 0, none⟩) (X ++ Y).length C'.length) w' ∧ E.Row w' g C' ∧ C'.length = C.length ∧ X ++ Y <+: C' ∧ Chg (· = g) w w' := by
  obtain ⟨i, hi, hz, h1, h2⟩ := info_parts E.info
  obtain ⟨C', hR', hl', hp'⟩ := hR.put hp hl hY
  have hle : X.length * E.sz + Y.length * E.sz ≤ C.length * E.sz := by rw [← Nat.add_mul]; exact Nat.mul_le_mul_right _ hl
  have hcell : ∀ j, j < (E.encs Y).length → (w.cell? ⟨g, 0 + X.length * i.size + j, none⟩).isSome = true := fun j hj => by
    rw [h1, Nat.zero_add, hR.c (X.length * E.sz + j) _ (List.getElem?_eq_getElem (by rw [E.encs_length] at hj ⊢; omega))]
    rfl
  have hrun := run_append_room_src (P := Try.prog) w E.sl tx ty E.e i E.und hi g 0 X.length C.length x Y.length (E.encs Y) (by rw [h1]; exact hs) hl hcell (fun j _ => hR.z _)
  refine ⟨_, C', ?_, hR', hl', hp', setCellsChg _ _ _ _⟩
  rw [hrun, h1, Nat.zero_add, hl', List.length_append]

theorem Elt.Row.first {w : World} {g : Nat} {C X : List α} (hR : E.Row w g C) (hp : X <+: C) (cap : Nat) (w' : World) (hc : Chg (fun _ => False) w w') : (Builtin.firstCells E.sz X.length (.slice (some ⟨g, 0, none⟩) X.length cap)).run Try.prog w' = .ok (E.encs X).toArray w' := by
  have hb := (hR.at' hp).chg hc (fun _ h => h)
  refine run_firstCells_some w' E.sz X.length ⟨g, 0, none⟩ X.length cap (E.encs X) (E.encs_length X) (fun j u hu => ?_)
  rw [Addr.add_lit]
  exact hb.c j u hu

/-- append. -/
theorem Elt.Own.append {w : World} {B : Nat} {v : Value} {X : List α} (h : E.Own w B v X) (hB : B ≤ w.heap.size) (tx : TypeId) (x : Value) (Y : List α) (hs : Src Try.prog E.sz tx x Y.length (E.encs Y) w) (hY : ∀ a ∈ Y, E.ok a) (hlen : X.length + Y.length ≤ 1000000000000) (ty : TypeId) :
    ∃ v' w', (Builtin.append_ #[E.sl, tx] ty #[v, x]).run Try.prog w = .ok v' w' ∧ E.Own w' B v' (X ++ Y) ∧ Chg (fun k => B ≤ k) w w' ∧ (Chg (fun k => v.ownBlock = some k) w w' ∧ (v'.ownBlock = v.ownBlock ∨ v'.ownBlock = some w.heap.size)) ∧ (v' = .slice none 0 0 → v = .slice none 0 0) := by
  rcases h with ⟨rfl, rfl⟩ | ⟨g, C, rfl, hBg, hR, hp, hC⟩
  · rcases Nat.eq_zero_or_pos Y.length with h0 | h0
    · have hY0 := List.length_eq_zero_iff.1 h0
      subst hY0
      obtain ⟨i, hi, hz, h1, h2⟩ := info_parts E.info
      refine ⟨_, _, run_append_nothing (P := Try.prog) w E.sl tx ty E.e i E.und hi none 0 0 (Nat.le_refl _) x (by rw [h1]; exact hs), .inl ⟨rfl, rfl⟩, Chg.refl _ _, ⟨Chg.refl _ _, .inl rfl⟩, fun _ => rfl⟩
    · obtain ⟨w', C, hrun, hR, hp, hC, hc⟩ := Elt.grow (E := E) (.slice none 0 0) [] none 0 rfl (fun w' _ => run_firstCells_none w' E.sz 0 0 0) (fun _ h => by cases h) tx x Y hs hY (by simp; omega) hlen ty
      exact ⟨_, _, hrun, .inr ⟨_, C, rfl, hB, hR, hp, hC⟩, hc.any, ⟨hc.any, .inr rfl⟩, fun h => by cases h⟩
  · by_cases hl : X.length + Y.length ≤ C.length
    · obtain ⟨w', C', hrun, hR', hl', hp', hc⟩ := Elt.room hR hp tx x Y hs hY hl ty
      exact ⟨_, _, hrun, .inr ⟨g, C', rfl, hBg, hR', hp', by omega⟩, hc.mono (fun k _ e => by omega), ⟨hc.mono (fun k _ e => by subst e; rfl), .inl rfl⟩, fun h => by cases h⟩
    · obtain ⟨w', C', hrun, hR', hp', hC', hc⟩ := Elt.grow (E := E) _ X _ C.length rfl (fun w' hc => hR.first hp _ w' hc) (fun a ha => hR.ok a (hp.subset ha)) tx x Y hs hY (by omega) hlen ty
      exact ⟨_, _, hrun, .inr ⟨_, C', rfl, hB, hR', hp', hC'⟩, hc.any, ⟨hc.any, .inr rfl⟩, fun h => by cases h⟩

/-- append, at the operation. -/
theorem Elt.wpList_append (E : Elt α) {ops : Array Oper} {rest : List Oper} {o : Oper} {a : Act} {w : World} {Q : Exit → Act → World → Prop} (hgd : o.guard = none) (s x : Operand) (tl tx : TypeId) (htl : tl = E.sl)
    (ho : o.op = .call { callee := .builtin .append, args := #[s, x], argTypes := #[tl, tx] }) (B : Nat) (v : Value) (X Y : List α) (u : Value) (hv : a.eval s = v) (hu : a.eval x = u)
    (h : E.Own w B v X) (hB : B ≤ w.heap.size) (hs : Src Try.prog E.sz tx u Y.length (E.encs Y) w) (hY : ∀ a ∈ Y, E.ok a) (hlen : X.length + Y.length ≤ 1000000000000)
    (hK : ∀ v' w', Hid (E.Own w' B v' (X ++ Y)) → Hid (Chg (fun k => B ≤ k) w w') → Hid (v' = .slice none 0 0 → v = .slice none 0 0) → wpList Try.prog ops Q rest (a.put o.dst v') w') : wpList Try.prog ops Q (o :: rest) a w := by
  subst htl
  obtain ⟨v', w', hrun, h1, h2, _, h3⟩ := h.append hB tx u Y hs hY hlen o.type
  exact Lib.wpList_append_run w hgd s x E.sl tx ho v u hv hu v' w' hrun (hK v' w' (Lib.hid h1) (Lib.hid h2) (Lib.hid h3))
/-- The same, a store's address told too. -/
theorem Elt.wpList_append2 (E : Elt α) {ops : Array Oper} {rest : List Oper} {o : Oper} {a : Act} {w : World} {Q : Exit → Act → World → Prop} (hgd : o.guard = none) (s x : Operand) (tl tx : TypeId) (htl : tl = E.sl)
    (ho : o.op = .call { callee := .builtin .append, args := #[s, x], argTypes := #[tl, tx] }) (B : Nat) (v : Value) (X Y : List α) (u : Value) (hv : a.eval s = v) (hu : a.eval x = u)
    (h : E.Own w B v X) (hB : B ≤ w.heap.size) (hs : Src Try.prog E.sz tx u Y.length (E.encs Y) w) (hY : ∀ a ∈ Y, E.ok a) (hlen : X.length + Y.length ≤ 1000000000000)
    (hK : ∀ v' w', Hid (E.Own w' B v' (X ++ Y)) → Hid (Chg (fun k => B ≤ k) w w') → Hid (Chg (fun k => v.ownBlock = some k) w w' ∧ (v'.ownBlock = v.ownBlock ∨ v'.ownBlock = some w.heap.size)) → wpList Try.prog ops Q rest (a.put o.dst v') w') : wpList Try.prog ops Q (o :: rest) a w := by
  subst htl
  obtain ⟨v', w', hrun, h1, h2, h4, h3⟩ := h.append hB tx u Y hs hY hlen o.type
  exact Lib.wpList_append_run w hgd s x E.sl tx ho v u hv hu v' w' hrun (hK v' w' (Lib.hid h1) (Lib.hid h2) (Lib.hid h4))

/-- Some elements are written out. -/
theorem Elt.lit (E : Elt α) (w : World) (Y : List α) (e : TypeId) (hY : ∀ a ∈ Y, E.ok a) : E.At (w.alloc (.cells (E.encs Y).toArray e)) w.heap.size 0 Y := (Elt.Row.alloc w Y e hY).at' (List.prefix_refl _)
theorem Elt.srcLit (E : Elt α) {w : World} {Y : List α} {e : TypeId} (c : Nat) (hY : ∀ a ∈ Y, E.ok a) : Src Try.prog E.sz E.sl (.slice (some ⟨w.heap.size, 0, none⟩) Y.length c) Y.length (E.encs Y) (w.alloc (.cells (E.encs Y).toArray e)) := (E.lit w Y e hY).src (fun _ => rfl)

theorem Elt.madeCellsE (n : Nat) : madeCells E.zv.cells (n * E.sz) = (E.encs (List.replicate n E.z)).toArray := by
  have hp := E.pos
  apply Array.ext'
  apply List.ext_getElem?
  intro j
  rw [E.zc, List.toList_toArray, encs_rep]
  by_cases h : j < n * E.sz
  · rw [if_pos h]
    have hm := Nat.mod_lt j hp
    simp [madeCells, h, E.len, hm]
  · rw [if_neg h]
    simp [madeCells]
    omega
/-- make, at the operation. -/
theorem Elt.wpList_make (E : Elt α) {ops : Array Oper} {rest : List Oper} {o : Oper} {a : Act} {w : World} {Q : Exit → Act → World → Prop} (hgd : o.guard = none) (l c : Operand) (tl : TypeId) (htl : tl = E.sl) (hop : o.op = Op.makeSlice tl l c)
    (kl kc : IntKind) (L N : Int) (k n : Nat) (hl : a.eval l = .int kl L) (hc : a.eval c = .int kc N) (hL : L = k) (hN : N = n) (hkn : k ≤ n) (hn : n ≤ 1000000000000)
    (hK : ∀ w', Hid (E.Row w' w.heap.size (List.replicate n E.z)) → Hid (Chg (fun _ => False) w w') → wpList Try.prog ops Q rest (a.put o.dst (.slice (some ⟨w.heap.size, 0, none⟩) k n)) w') : wpList Try.prog ops Q (o :: rest) a w := by
  subst hL hN htl
  obtain ⟨i, hi, hz, h1, h2⟩ := info_parts E.info
  have hbs : i.bytes * n ≤ 100 * 1000000000000 := Nat.mul_le_mul (by rw [h2]; exact E.bsl) hn
  have hr := run_make (P := Try.prog) w E.sl E.e i E.zv E.und hi hz kl kc k n (by omega) (by omega) (by rw [← Int.natCast_mul]; omega) (by omega)
  rw [h1] at hr
  simp only [Int.toNat_natCast] at hr
  rw [madeCellsE] at hr
  refine wpList_plain hgd fun K hK' => ?_
  unfold Oper.wp
  simp [execOp, hop, hl, hc, hr, Result.andThen]
  exact hK' _ _ (hK _ (Lib.hid (Elt.Row.alloc w _ _ (fun a ha => by rw [List.mem_replicate] at ha; rw [ha.2]; exact E.zok))) (Lib.hid ((Chg.refl _ _).alloc _)))
end Go.Proofs.Ytodohgckncnipaa
/- A list of bytes in memory: what came in (BytesAt), a block of one's own, known to its last cell (Row), a slice of one's own (Own), appended to. -/
namespace Go.Proofs.Ytodohgckncnipaa.I
open Go.RowKit

abbrev Byte (a : Int) : Prop := -9223372036854775808 ≤ a ∧ a ≤ 9223372036854775807
def bytesV (Z : List Int) : List Value := Z.map (Value.int .i64)
@[simp] theorem bytesV_length (Z : List Int) : (bytesV Z).length = Z.length := by simp [bytesV]
theorem bytesV_append (X Y : List Int) : bytesV (X ++ Y) = bytesV X ++ bytesV Y := by simp [bytesV]
theorem bytesV_get {Z : List Int} {j : Nat} {u : Value} (h : (bytesV Z)[j]? = some u) : ∃ a, Z[j]? = some a ∧ u = .int .i64 a := by
  simp only [bytesV, List.getElem?_map, Option.map_eq_some_iff] at h
  obtain ⟨a, h1, h2⟩ := h
  exact ⟨a, h1, h2.symm⟩
theorem bytesV_one {Z : List Int} : ∀ u ∈ bytesV Z, u.oneCell' = true := fun u hu => by
  obtain ⟨a, _, rfl⟩ := List.mem_map.1 hu
  rfl

/-- The bytes that came in. -/
structure BytesAt (w : World) (g o : Nat) (Z : List Int) : Prop where
  c : ∀ k a, Z[k]? = some a → w.cell? ⟨g, o + k, none⟩ = some (.int .i64 a) ∧ Byte a
  lt : Z ≠ [] → g < w.heap.size
theorem BytesAt.chg {S : Nat → Prop} {w w' : World} {g o : Nat} {Z : List Int} (h : BytesAt w g o Z) (hc : Chg S w w') (hs : Z ≠ [] → ¬ S g) : BytesAt w' g o Z :=
  ⟨fun k a hk => ⟨hc.cellS (h.c k a hk).1 (hs (by intro e; rw [e] at hk; simp at hk)), (h.c k a hk).2⟩, fun hz => Nat.lt_of_lt_of_le (h.lt hz) hc.size⟩
theorem BytesAt.get {w : World} {g o : Nat} {Z : List Int} (h : BytesAt w g o Z) {k : Nat} (hk : k < Z.length) : ∃ a, Z[k]? = some a ∧ w.cell? ⟨g, o + k, none⟩ = some (.int .i64 a) ∧ -9223372036854775808 ≤ a ∧ a ≤ 9223372036854775807 :=
  ⟨Z[k], by simp, (h.c k _ (by simp)).1, (h.c k _ (by simp)).2⟩
theorem BytesAt.byte {w : World} {g o : Nat} {Z : List Int} (h : BytesAt w g o Z) : ∀ a ∈ Z, Byte a := fun a ha => by
  obtain ⟨k, hk, rfl⟩ := List.getElem_of_mem ha
  exact (h.c k _ (by simp)).2

/-- A block of one's own: its first cells. -/
structure Row (w : World) (g : Nat) (C : List Int) : Prop where
  c : ∀ k a, C[k]? = some a → w.cell? ⟨g, k, none⟩ = some (.int .i64 a)
  z : ∀ j, w.frozen? ⟨g, j, none⟩ = false
  lt : g < w.heap.size
  byte : ∀ a ∈ C, Byte a
theorem Row.chg {S : Nat → Prop} {w w' : World} {g : Nat} {C : List Int} (h : Row w g C) (hc : Chg S w w') (hs : ¬ S g) : Row w' g C :=
  ⟨fun k a hk => hc.cellS (h.c k a hk) hs, fun j => (hc.frozen (p := ⟨g, j, none⟩) h.lt hs).trans (h.z j), Nat.lt_of_lt_of_le h.lt hc.size, h.byte⟩
theorem Row.bytes {w : World} {g : Nat} {C X : List Int} (h : Row w g C) (hp : X <+: C) : BytesAt w g 0 X :=
  ⟨fun k a hk => by
    obtain ⟨Y, rfl⟩ := hp
    have hk' : (X ++ Y)[k]? = some a := by rw [List.getElem?_append_left (List.getElem?_eq_some_iff.1 hk).1]; exact hk
    rw [Nat.zero_add]
    exact ⟨h.c k a hk', h.byte a (List.mem_of_getElem? hk')⟩, fun _ => h.lt⟩
theorem Row.alloc (w : World) (C : List Int) (e : TypeId) (hb : ∀ a ∈ C, Byte a) : Row (w.alloc (.cells (bytesV C).toArray e)) w.heap.size C :=
  ⟨fun k a hk => by
    rw [World.cell?_alloc_new]
    simp [bytesV, hk], fun j => World.frozen?_alloc_new _ _ _ _, by simp, hb⟩

/-- Y is laid over X ++ .. behind X. -/
theorem Row.put {w : World} {g : Nat} {C X Y : List Int} (h : Row w g C) (hp : X <+: C) (hl : X.length + Y.length ≤ C.length) (hY : ∀ a ∈ Y, Byte a) :
    ∃ C', Row (w.setCells g X.length (bytesV Y)) g C' ∧ C'.length = C.length ∧ X ++ Y <+: C' := by
  obtain ⟨R, rfl⟩ := hp
  refine ⟨X ++ Y ++ R.drop Y.length, ⟨fun k a hk => ?_, fun j => (World.frozen?_setCells _ _ _ _ _).trans (h.z j), Nat.lt_of_lt_of_le h.lt (setCellsChg _ _ _ _).size, fun a ha => ?_⟩, by simp only [List.length_append, List.length_drop] at *; omega, ⟨_, rfl⟩⟩
  · have hin : ∀ j, j < (bytesV Y).length → (w.cell? ⟨g, X.length + j, none⟩).isSome = true := fun j hj => by
      have hj' : X.length + j < (X ++ R).length := by simp only [bytesV_length, List.length_append] at *; omega
      rw [h.c (X.length + j) _ (List.getElem?_eq_getElem hj')]
      rfl
    by_cases h1 : k < X.length
    · rw [World.cell?_setCells_out g (bytesV Y) X.length w ⟨g, k, none⟩ (fun _ _ => .inl h1)]
      refine h.c k a ?_
      rw [List.append_assoc, List.getElem?_append_left h1] at hk
      rw [List.getElem?_append_left h1]
      exact hk
    · by_cases h2 : k < X.length + Y.length
      · obtain ⟨j, rfl⟩ : ∃ j, k = X.length + j := ⟨k - X.length, by omega⟩
        rw [World.cell?_setCells_in g (bytesV Y) X.length w hin j (by simp; omega)]
        rw [List.append_assoc, List.getElem?_append_right (by omega), Nat.add_sub_cancel_left, List.getElem?_append_left (by omega)] at hk
        have := (List.getElem?_eq_some_iff.1 hk).2
        simp [bytesV, this]
      · rw [World.cell?_setCells_out g (bytesV Y) X.length w ⟨g, k, none⟩ (fun _ _ => .inr (by simp; omega))]
        refine h.c k a ?_
        rw [List.getElem?_append_right (by simp; omega), List.getElem?_drop] at hk
        rw [List.getElem?_append_right (by omega), ← hk]
        congr 1
        simp
        omega
  · simp only [List.mem_append] at ha
    rcases ha with (ha | ha) | ha
    · exact h.byte a (by simp [ha])
    · exact hY a ha
    · exact h.byte a (by simp [List.mem_of_mem_drop ha])

/-- A slice of one's own, known up to its capacity. -/
def Own (w : World) (B : Nat) (v : Value) (X : List Int) : Prop :=
  (v = .slice none 0 0 ∧ X = []) ∨ ∃ (g : Nat) (C : List Int), v = .slice (some ⟨g, 0, none⟩) X.length C.length ∧ B ≤ g ∧ Row w g C ∧ X <+: C ∧ C.length ≤ maxLen
theorem Own.chg {S : Nat → Prop} {w w' : World} {B : Nat} {v : Value} {X : List Int} (h : Own w B v X) (hc : Chg S w w') (hs : ∀ g, B ≤ g → g < w.heap.size → ¬ S g) : Own w' B v X := by
  rcases h with h | ⟨g, C, h1, h2, h3, h4, h5⟩
  · exact .inl h
  · exact .inr ⟨g, C, h1, h2, h3.chg hc (hs g h2 h3.lt), h4, h5⟩
theorem Own.shape {w : World} {B : Nat} {v : Value} {X : List Int} (h : Own w B v X) : ∃ a c, v = .slice a X.length c := by
  rcases h with ⟨rfl, rfl⟩ | ⟨g, C, h1, _⟩
  · exact ⟨_, _, rfl⟩
  · exact ⟨_, _, h1⟩
theorem Own.lower {w : World} {B B' : Nat} {v : Value} {X : List Int} (h : Own w B v X) (hB : B' ≤ B) : Own w B' v X := by
  rcases h with h | ⟨g, C, h1, h2, h3⟩
  · exact .inl h
  · exact .inr ⟨g, C, h1, by omega, h3⟩

theorem info8 : (Try.prog.info? 3).map (fun i => (i.zero, i.size, i.bytes)) = some (some (.int .i64 0), 1, 8) := by kernel_rfl

/-- What is appended: bytes that lie somewhere. -/
theorem srcBytes {w : World} {g o : Nat} {Y : List Int} {a : Option Addr} {c : Nat} (h : BytesAt w g o Y) (ha : 0 < Y.length → a = some ⟨g, o, none⟩) : Src Try.prog 1 23 (.slice a Y.length c) Y.length (bytesV Y) w := by
  cases a with
  | none =>
    have h0 : Y = [] := List.length_eq_zero_iff.1 (by rcases Nat.eq_zero_or_pos Y.length with h | h; · exact h
                                                      · cases ha h)
    subst h0
    exact Src.ofNil w Try.underlying23 c
  | some ad =>
    refine Src.ofSlice w Try.underlying23 ad Y.length c (bytesV Y) (by simp) (fun j u hu => ?_) bytesV_one
    obtain ⟨x, hx, rfl⟩ := bytesV_get hu
    have hj := (List.getElem?_eq_some_iff.1 hx).1
    obtain rfl := Option.some.inj (ha (by omega))
    rw [Addr.add_lit]
    exact (h.c j x hx).1

theorem zeroCells8 (n : Nat) : Builtin.zeroCells (Value.int .i64 0).cells n = (bytesV (List.replicate n 0)).toArray := by
  apply Array.ext
  · simp [Builtin.zeroCells, Value.cells, bytesV]
  · intro i h1 h2
    simp [Builtin.zeroCells, Value.cells, bytesV, Nat.mod_one]

/-- A NEW ROW: what stood, what is appended, zeros. -/
theorem grow8 {w : World} (v : Value) (X : List Int) (base : Option Addr) (cap : Nat) (hv : v = .slice base X.length cap) (hold : ∀ w' : World, Chg (fun _ => False) w w' → (Builtin.firstCells 1 X.length v).run Try.prog w' = .ok (bytesV X).toArray w')
    (hX : ∀ a ∈ X, Byte a) (tx : TypeId) (x : Value) (Y : List Int) (hs : Src Try.prog 1 tx x Y.length (bytesV Y) w) (hY : ∀ a ∈ Y, Byte a) (hg : cap < X.length + Y.length) (hlen : X.length + Y.length ≤ 1000000000000) (ty : TypeId) :
    ∃ (w' : World) (C : List Int), (Builtin.append_ #[23, tx] ty #[v, x]).run Try.prog w = .ok (.slice (some ⟨w.heap.size, 0, none⟩) (X ++ Y).length C.length) w' ∧ Row w' w.heap.size C ∧ X ++ Y <+: C ∧ C.length ≤ maxLen ∧ Chg (fun _ => False) w w' := by
  obtain ⟨i, hi, hz, h1, h2⟩ := info_parts info8
  subst hv
  have hG := grownCap_ge w (X.length + Y.length) cap 3
  have hG2 := grownCap_le_maxLen w (X.length + Y.length) cap 3 (by unfold maxLen; omega)
  have hrun := run_append_grow_src (P := Try.prog) w 23 tx ty 3 i (.int .i64 0) Try.underlying23 hi hz base X.length cap (bytesV X) (by rw [h1]; exact hold _ (Chg.refl _ _).drew) x Y.length (bytesV Y) (by rw [h1]; exact hs) hg (by omega)
    (by rw [h2]; exact growslice_fits hg (by omega))
  rw [zeroCells8, ← bytesV_append, List.append_toArray, ← bytesV_append] at hrun
  obtain ⟨C, hC⟩ : ∃ C, C = X ++ Y ++ List.replicate (grownCap w (X.length + Y.length) cap 3 - (X.length + Y.length)) 0 := ⟨_, rfl⟩
  rw [← hC] at hrun
  refine ⟨w.drew.alloc (.cells (bytesV C).toArray 3), C, ?_, Row.alloc w.drew _ _ (fun a ha => ?_), ⟨_, hC.symm⟩, ?_, (Chg.refl _ _).drew.alloc _⟩
  all_goals subst hC
  · rw [hrun]
    simp only [List.length_append, List.length_replicate]
    rw [Nat.add_sub_cancel' hG]
  · simp only [List.mem_append, List.mem_replicate] at ha
    rcases ha with (ha | ha) | ⟨_, rfl⟩
    · exact hX a ha
    · exact hY a ha
    · exact ⟨by omega, by omega⟩
  · simp only [List.length_append, List.length_replicate]
    omega

/-- There is room. -/
theorem room8 {w : World} {g : Nat} {C X : List Int} (hR : Row w g C) (hp : X <+: C) (tx : TypeId) (x : Value) (Y : List Int) (hs : Src Try.prog 1 tx x Y.length (bytesV Y) w) (hY : ∀ a ∈ Y, Byte a) (hl : X.length + Y.length ≤ C.length) (ty : TypeId) :
    ∃ (w' : World) (C' : List Int), (Builtin.append_ #[23, tx] ty #[.slice (some ⟨g, 0, none⟩) X.length C.length, x]).run Try.prog w = .ok (.slice (some ⟨g, 0, none⟩) (X ++ Y).length C'.length) w' ∧ Row w' g C' ∧ C'.length = C.length ∧ X ++ Y <+: C' ∧ Chg (· = g) w w' := by
  obtain ⟨i, hi, hz, h1, h2⟩ := info_parts info8
  obtain ⟨C', hR', hl', hp'⟩ := hR.put hp hl hY
  have hcell : ∀ j, j < (bytesV Y).length → (w.cell? ⟨g, 0 + X.length * i.size + j, none⟩).isSome = true := fun j hj => by
    rw [h1, Nat.mul_one, Nat.zero_add, hR.c (X.length + j) _ (List.getElem?_eq_getElem (by simp at hj; omega))]
    rfl
  have hrun := run_append_room_src (P := Try.prog) w 23 tx ty 3 i Try.underlying23 hi g 0 X.length C.length x Y.length (bytesV Y) (by rw [h1]; exact hs) hl hcell (fun j _ => hR.z _)
  refine ⟨_, C', ?_, hR', hl', hp', setCellsChg _ _ _ _⟩
  rw [hrun, h1, Nat.mul_one, Nat.zero_add, hl', List.length_append]

theorem Row.first {w : World} {g : Nat} {C X : List Int} (hR : Row w g C) (hp : X <+: C) (cap : Nat) (w' : World) (hc : Chg (fun _ => False) w w') : (Builtin.firstCells 1 X.length (.slice (some ⟨g, 0, none⟩) X.length cap)).run Try.prog w' = .ok (bytesV X).toArray w' := by
  have hb := (hR.bytes hp).chg hc (fun _ h => h)
  refine run_firstCells_some w' 1 X.length ⟨g, 0, none⟩ X.length cap (bytesV X) (by simp) (fun j u hu => ?_)
  obtain ⟨x, hx, rfl⟩ := bytesV_get hu
  rw [Addr.add_lit]
  exact (hb.c j x hx).1

/-- append. -/
theorem Own.append {w : World} {B : Nat} {v : Value} {X : List Int} (h : Own w B v X) (hB : B ≤ w.heap.size) (tx : TypeId) (x : Value) (Y : List Int) (hs : Src Try.prog 1 tx x Y.length (bytesV Y) w) (hY : ∀ a ∈ Y, Byte a) (hlen : X.length + Y.length ≤ 1000000000000) (ty : TypeId) :
    ∃ v' w', (Builtin.append_ #[23, tx] ty #[v, x]).run Try.prog w = .ok v' w' ∧ Own w' B v' (X ++ Y) ∧ Chg (fun k => B ≤ k) w w' ∧ (v' = .slice none 0 0 → v = .slice none 0 0) := by
  rcases h with ⟨rfl, rfl⟩ | ⟨g, C, rfl, hBg, hR, hp, hC⟩
  · rcases Nat.eq_zero_or_pos Y.length with h0 | h0
    · have hY0 := List.length_eq_zero_iff.1 h0
      subst hY0
      obtain ⟨i, hi, hz, h1, h2⟩ := info_parts info8
      refine ⟨_, _, run_append_nothing (P := Try.prog) w 23 tx ty 3 i Try.underlying23 hi none 0 0 (Nat.le_refl _) x (by rw [h1]; exact hs), .inl ⟨rfl, rfl⟩, Chg.refl _ _, fun _ => rfl⟩
    · obtain ⟨w', C, hrun, hR, hp, hC, hc⟩ := grow8 (.slice none 0 0) [] none 0 rfl (fun w' _ => run_firstCells_none w' 1 0 0 0) (fun _ h => by cases h) tx x Y hs hY (by simp; omega) hlen ty
      exact ⟨_, _, hrun, .inr ⟨_, C, rfl, hB, hR, hp, hC⟩, hc.mono (fun _ _ h => h.elim), fun h => by cases h⟩
  · by_cases hl : X.length + Y.length ≤ C.length
    · obtain ⟨w', C', hrun, hR', hl', hp', hc⟩ := room8 hR hp tx x Y hs hY hl ty
      exact ⟨_, _, hrun, .inr ⟨g, C', rfl, hBg, hR', hp', by omega⟩, hc.mono (fun k _ e => by omega), fun h => by cases h⟩
    · obtain ⟨w', C', hrun, hR', hp', hC', hc⟩ := grow8 _ X _ C.length rfl (fun w' hc => hR.first hp _ w' hc) (fun a ha => hR.byte a (hp.subset ha)) tx x Y hs hY (by omega) hlen ty
      exact ⟨_, _, hrun, .inr ⟨_, C', rfl, hB, hR', hp', hC'⟩, hc.mono (fun _ _ h => h.elim), fun h => by cases h⟩

/-- append, at the operation. -/
theorem wpList_append8 {ops : Array Oper} {rest : List Oper} {o : Oper} {a : Act} {w : World} {Q : Exit → Act → World → Prop} (hgd : o.guard = none) (s x : Operand) (tx : TypeId)
    (ho : o.op = .call { callee := .builtin .append, args := #[s, x], argTypes := #[23, tx] }) (B : Nat) (v : Value) (X Y : List Int) (u : Value) (hv : a.eval s = v) (hu : a.eval x = u)
    (h : Own w B v X) (hB : B ≤ w.heap.size) (hs : Src Try.prog 1 tx u Y.length (bytesV Y) w) (hY : ∀ a ∈ Y, Byte a) (hlen : X.length + Y.length ≤ 1000000000000)
    (hK : ∀ v' w', Hid (Own w' B v' (X ++ Y)) → Hid (Chg (fun k => B ≤ k) w w') → Hid (v' = .slice none 0 0 → v = .slice none 0 0) → wpList Try.prog ops Q rest (a.put o.dst v') w') : wpList Try.prog ops Q (o :: rest) a w := by
  obtain ⟨v', w', hrun, h1, h2, h3⟩ := h.append hB tx u Y hs hY hlen o.type
  exact Lib.wpList_append_run w hgd s x 23 tx ho v u hv hu v' w' hrun (hK v' w' (Lib.hid h1) (Lib.hid h2) (Lib.hid h3))

/-- append where there is room, at the operation. -/
theorem wpList_room8 {ops : Array Oper} {rest : List Oper} {o : Oper} {a : Act} {w : World} {Q : Exit → Act → World → Prop} (hgd : o.guard = none) (s x : Operand) (tx : TypeId)
    (ho : o.op = .call { callee := .builtin .append, args := #[s, x], argTypes := #[23, tx] }) (g : Nat) (C X Y : List Int) (n m cap : Nat) (u : Value) (hv : a.eval s = .slice (some ⟨g, 0, none⟩) n cap) (hn : n = X.length) (hm : m = Y.length) (hcap : cap = C.length) (hu : a.eval x = u)
    (hR : Row w g C) (hp : X <+: C) (hs : Src Try.prog 1 tx u Y.length (bytesV Y) w) (hY : ∀ a ∈ Y, Byte a) (hl : X.length + Y.length ≤ C.length)
    (hK : ∀ w' C', Hid (Row w' g C') → Hid (C'.length = cap) → Hid (X ++ Y <+: C') → Hid (Chg (· = g) w w') → wpList Try.prog ops Q rest (a.put o.dst (.slice (some ⟨g, 0, none⟩) (n + m) cap)) w') : wpList Try.prog ops Q (o :: rest) a w := by
  subst hn hcap hm
  obtain ⟨w', C', hrun, h1, h2, h3, h4⟩ := room8 hR hp tx u Y hs hY hl o.type
  refine Lib.wpList_append_run w hgd s x 23 tx ho _ u hv hu _ w' hrun ?_
  rw [h2, List.length_append]
  exact hK w' C' (Lib.hid h1) (Lib.hid h2) (Lib.hid h3) (Lib.hid h4)

theorem madeCells8 (n : Nat) : madeCells (Value.int .i64 0).cells n = (bytesV (List.replicate n 0)).toArray := by
  apply Array.ext
  · simp [madeCells, Value.cells, bytesV]
  · intro i h1 h2
    simp [madeCells, Value.cells, bytesV, Nat.mod_one]
/-- make, at the operation. -/
theorem wpList_make8 {ops : Array Oper} {rest : List Oper} {o : Oper} {a : Act} {w : World} {Q : Exit → Act → World → Prop} (hgd : o.guard = none) (l c : Operand) (hop : o.op = Op.makeSlice 23 l c)
    (kl kc : IntKind) (L N : Int) (k n : Nat) (hl : a.eval l = .int kl L) (hc : a.eval c = .int kc N) (hL : L = k) (hN : N = n) (hkn : k ≤ n) (hn : n ≤ 1000000000000)
    (hK : ∀ w', Hid (Row w' w.heap.size (List.replicate n 0)) → Hid (Chg (fun _ => False) w w') → wpList Try.prog ops Q rest (a.put o.dst (.slice (some ⟨w.heap.size, 0, none⟩) k n)) w') : wpList Try.prog ops Q (o :: rest) a w := by
  subst hL hN
  obtain ⟨i, hi, hz, h1, h2⟩ := info_parts info8
  have hr := run_make (P := Try.prog) w 23 3 i (.int .i64 0) Try.underlying23 hi hz kl kc k n (by omega) (by omega) (by rw [h2]; omega) (by omega)
  rw [h1] at hr
  simp only [Int.toNat_natCast, Nat.mul_one] at hr
  rw [madeCells8] at hr
  refine wpList_plain hgd fun K hK' => ?_
  unfold Oper.wp
  simp [execOp, hop, hl, hc, hr, Result.andThen]
  exact hK' _ _ (hK _ (Lib.hid (Row.alloc w _ _ (fun a ha => by rw [List.mem_replicate] at ha; rw [ha.2]; exact ⟨by omega, by omega⟩))) (Lib.hid ((Chg.refl _ _).alloc _)))

/-- Some bytes are written out. -/
theorem lit8 (w : World) (Y : List Int) (e : TypeId) (hY : ∀ a ∈ Y, Byte a) : BytesAt (w.alloc (.cells (bytesV Y).toArray e)) w.heap.size 0 Y := (Row.alloc w Y e hY).bytes (List.prefix_refl _)
theorem srcLit {w : World} {Y : List Int} {e : TypeId} (c : Nat) (hY : ∀ a ∈ Y, Byte a) : Src Try.prog 1 23 (.slice (some ⟨w.heap.size, 0, none⟩) Y.length c) Y.length (bytesV Y) (w.alloc (.cells (bytesV Y).toArray e)) := srcBytes (lit8 w Y e hY) (fun _ => rfl)
theorem prefix_whole {X C : List Int} (h : X <+: C) (hl : C.length = X.length) : C = X := (h.eq_of_length hl.symm).symm
end Go.Proofs.Ytodohgckncnipaa.I
/- The statements' twins of lists of bytes: a copy with two marked places behind it; two lists compared; was a twin left as it was? -/
namespace Go.Proofs.Ytodohgckncnipaa.I
open Go.RowKit

set_option maxRecDepth 100000 in
set_option maxHeartbeats 2000000 in
theorem same_any (X Y : List Int) (ax ay : Option Addr) (gx ox gy oy cx cy : Nat) (w : World) (hx : BytesAt w gx ox X) (hax : 0 < X.length → ax = some ⟨gx, ox, none⟩) (hy : BytesAt w gy oy Y) (hay : 0 < Y.length → ay = some ⟨gy, oy, none⟩) (hl : X.length ≤ 1000000000000) :
    Calls Try.prog 67 #[.slice ax X.length cx, .slice ay Y.length cy] w fun e w' => e = .returned (.bool (decide (X = Y))) ∧ Chg (fun _ => False) w w' := by
  have HX := Lib.hid hx
  have HY := Lib.hid hy
  have HAX := Lib.hid hax
  have HAY := Lib.hid hay
  clear hx hy hax hay
  by_cases hxy : X.length = Y.length
  · have b10 : ((X.length : Int) != (Y.length : Int)) = false := by simp [hxy]
    go_enter Try.func67, Try.ntmps67
    go_wp2
    go_loopw [5] (fun i wr => ∃ k : Nat, k ≤ X.length ∧ i = .int .i64 k ∧ Chg (fun _ => False) w wr ∧ X.take k = Y.take k) (fun i _ => X.length - (intOf i).toNat)
    case atStart => exact ⟨0, by omega, rfl, Chg.refl _ _, by simp⟩
    case round =>
      obtain ⟨k, hk, rfl, hc, he⟩ := hrel
      have HC := Lib.hid hc
      have HE := Lib.hid he
      clear hc he
      by_cases hkl : k < X.length
      · have b14 : decide ((k : Int) < (X.length : Int)) = true := by simp; omega
        obtain ⟨p, hp, c1, p0, p1⟩ := (HX.out.chg HC.out (fun _ h => h)).get hkl
        obtain ⟨q, hq, c2, q0, q1⟩ := (HY.out.chg HC.out (fun _ h => h)).get (k := k) (by omega)
        have e1 := HAX.out (by omega)
        have e2 := HAY.out (by omega)
        subst e1 e2
        have HP := Lib.hid hp
        have HQ := Lib.hid hq
        clear hp hq
        by_cases hpq : p = q
        · subst hpq
          have HT : Hid (X.take (k + 1) = Y.take (k + 1)) := Lib.hid (by rw [List.take_add_one, List.take_add_one, HE.out, HP.out, HQ.out])
          clear HE HP HQ
          go_upto_region 6 with (fail)
          go_still (by kernel_rfl)
          go_wp2
          go_roundw
          case rel => exact ⟨k + 1, by omega, by go_num, HC.out.drew, HT.out⟩
          case measure => simp [intOf]; omega
        · have b25 : (p != q) = true := by simpa using hpq
          have HD : Hid (decide (X = Y) = false) := Lib.hid (by
            apply decide_eq_false
            intro h
            rw [h, HQ.out] at HP
            exact hpq (Option.some.inj HP.out).symm)
          clear HE HP HQ hpq
          go_upto_region 6 with (fail)
          go_still (by kernel_rfl)
          go_wp2
          go_ret
          exact ⟨by rw [HD.out]; rfl, HC.out.drew⟩
      · obtain rfl : k = X.length := by omega
        have HD : Hid (decide (X = Y) = true) := Lib.hid (by
          have := HE.out
          rw [List.take_length, hxy, List.take_length] at this
          simp [this])
        clear HE
        go_wp2
        go_ret
        exact ⟨by rw [HD.out]; rfl, HC.out⟩
  · have b10 : ((X.length : Int) != (Y.length : Int)) = true := by simp; omega
    have HD : Hid (decide (X = Y) = false) := Lib.hid (by
      apply decide_eq_false
      intro h
      exact hxy (by rw [h]))
    go_enter Try.func67, Try.ntmps67
    go_wp2
    go_ret
    exact ⟨by rw [HD.out]; rfl, Chg.refl _ _⟩

set_option maxRecDepth 100000 in
set_option maxHeartbeats 2000000 in
theorem twin_any (Z : List Int) (m : Int) (a : Option Addr) (g o c : Nat) (w : World) (hz : BytesAt w g o Z) (ha : 0 < Z.length → a = some ⟨g, o, none⟩) (hm : Byte m) (hl : Z.length ≤ 1000000000) :
    Calls Try.prog 58 #[.slice a Z.length c, .int .i64 m] w fun e w' => ∃ h, e = .returned (.slice (some ⟨h, 0, none⟩) Z.length (Z.length + 2)) ∧ w.heap.size ≤ h ∧ Row w' h (Z ++ [m, m]) ∧ Chg (fun _ => False) w w' := by
  have HZ := Lib.hid hz
  have HA := Lib.hid ha
  have HB := Lib.hid (hz.byte)
  have HM : Hid (∀ a ∈ [m, m], Byte a) := Lib.hid (by simp; exact hm)
  obtain ⟨hm0, hm1⟩ := hm
  clear hz ha
  go_enter Try.func58, Try.ntmps58
  go_upto_region 1 with (fail)
  go_wp2_with (first
    | (at_make; refine wpList_make8 rfl _ _ rfl _ _ _ _ 0 (Z.length + 2) rfl rfl rfl (by omega) (by omega) (by omega) ?_; intro w1 HR1 HC1)
    | (at_builtin; refine wpList_room8 rfl _ _ 23 rfl w.heap.size (List.replicate (Z.length + 2) 0) [] Z 0 Z.length (Z.length + 2) (.slice a Z.length c) rfl rfl rfl (by simp) rfl HR1.out (List.nil_prefix) (srcBytes (HZ.out.chg HC1.out (fun _ h => h)) HA.out) HB.out (by simp) ?_; intro w2 C2 HR2 HL2 HP2 HC2)
    | (at_builtin; refine wpList_room8 rfl _ _ 23 rfl w.heap.size C2 ([] ++ Z) [m, m] Z.length 2 (Z.length + 2) (.slice (some ⟨w2.heap.size, 0, none⟩) 2 2) rfl rfl rfl HL2.out.symm rfl (HR2.out.chg ((Chg.refl (fun _ => False) _).alloc _) (fun h => h)) HP2.out (srcLit 2 HM.out) HM.out (by rw [HL2.out]; simp) ?_; intro w3 C3 HR3 HL3 HP3 HC3))
  have HF : Hid (Row w3 w.heap.size (Z ++ [m, m]) ∧ Chg (fun _ => False) w w3) := Lib.hid (by
    have e : C3 = Z ++ [m, m] := prefix_whole HP3.out (by rw [HL3.out]; simp)
    exact ⟨e ▸ HR3.out, ((HC1.out.any.trans (HC2.out.mono (fun k _ e => by omega))).trans (((Chg.refl _ w2).alloc _).trans (HC3.out.mono (fun k _ e => by omega)))).fresh⟩)
  go_ret
  exact ⟨_, rfl, Nat.le_refl _, HF.out.1, HF.out.2⟩

set_option maxRecDepth 100000 in
set_option maxHeartbeats 2000000 in
/-- Was the twin left as it was? (It was.) -/
theorem left_any (Z X : List Int) (m : Int) (a : Option Addr) (h g o c : Nat) (w : World) (hr : Row w h (X ++ [m, m])) (hz : BytesAt w g o Z) (ha : 0 < Z.length → a = some ⟨g, o, none⟩) (hl : X.length ≤ 1000000000) :
    Calls Try.prog 69 #[.slice (some ⟨h, 0, none⟩) X.length (X.length + 2), .slice a Z.length c, .int .i64 m] w fun e w' => e = .returned (.bool (decide (X = Z))) ∧ Chg (fun _ => False) w w' := by
  have HR := Lib.hid hr
  have HZ := Lib.hid hz
  have HA := Lib.hid ha
  clear hr hz ha
  by_cases hxz : X = Z
  · have HD : Hid (decide (X = Z) = true) := Lib.hid (by simp [hxz])
    have e2 : X.length + 2 - X.length = 2 := by omega
    clear hxz
    go_enter Try.func69, Try.ntmps69
    go_wp2_with fail
    refine (same_any X Z _ a h 0 g o _ c w (HR.out.bytes (List.prefix_append _ _)) (fun _ => rfl) HZ.out HA.out (by omega)).mono ?_
    rintro e w1 ⟨rfl, hc⟩
    rw [HD.out]
    have HC := Lib.hid hc
    have q0 : w1.cell? ⟨h, X.length, none⟩ = some (.int .i64 m) := (HR.out.chg hc (fun h => h)).c X.length m (by simp)
    have q1 : w1.cell? ⟨h, X.length + 1, none⟩ = some (.int .i64 m) := (HR.out.chg hc (fun h => h)).c (X.length + 1) m (by simp)
    clear hc
    go_wp2
    go_ret
    exact ⟨by rw [HD.out]; rfl, HC.out⟩
  · have HD : Hid (decide (X = Z) = false) := Lib.hid (by simp [hxz])
    have e2 : X.length + 2 - X.length = 2 := by omega
    clear hxz
    go_enter Try.func69, Try.ntmps69
    go_wp2_with fail
    refine (same_any X Z _ a h 0 g o _ c w (HR.out.bytes (List.prefix_append _ _)) (fun _ => rfl) HZ.out HA.out (by omega)).mono ?_
    rintro e w1 ⟨rfl, hc⟩
    rw [HD.out]
    have HC := Lib.hid hc
    clear hc
    go_wp2
    go_ret
    exact ⟨by rw [HD.out]; rfl, HC.out⟩
end Go.Proofs.Ytodohgckncnipaa.I
/- Lists of ints as lists of elements of one cell; one of them written over. -/
namespace Go.Proofs.Ytodohgckncnipaa
open Go.RowKit

def intE : Elt Int where
  enc := fun n => [.int .i64 n]
  sz := 1
  bs := 8
  e := 3
  sl := 23
  z := 0
  zv := .int .i64 0
  ok := I.Byte
  pos := by omega
  len := fun _ => rfl
  one := fun a u hu => by
    simp only [List.mem_cons, List.not_mem_nil, or_false] at hu
    subst hu; rfl
  zok := by decide
  info := by kernel_rfl
  zc := rfl
  und := by kernel_rfl
  bsl := by omega
theorem intEncs (L : List Int) : intE.encs L = I.bytesV L := by
  induction L with
  | nil => rfl
  | cons x L ih =>
    have : intE.encs (x :: L) = [.int .i64 x] ++ intE.encs L := rfl
    rw [this, ih]
    rfl
theorem intRow {w : World} {g : Nat} {C : List Int} : intE.Row w g C ↔ I.Row w g C := by
  refine ⟨fun h => ⟨fun k a hk => h.c k _ (by rw [intEncs]; simp [I.bytesV, hk]), h.z, h.lt, h.ok⟩, fun h => ⟨fun j u hj => ?_, h.z, h.lt, h.byte⟩⟩
  rw [intEncs] at hj
  obtain ⟨a, ha, rfl⟩ := I.bytesV_get hj
  exact h.c j a ha
theorem intAt {w : World} {g o : Nat} {L : List Int} : intE.At w g o L ↔ I.BytesAt w g o L := by
  refine ⟨fun h => ⟨fun k a hk => ⟨h.c k _ (by rw [intEncs]; simp [I.bytesV, hk]), h.ok a (List.mem_of_getElem? hk)⟩, h.lt⟩, fun h => ⟨fun j u hj => ?_, h.byte, h.lt⟩⟩
  rw [intEncs] at hj
  obtain ⟨a, ha, rfl⟩ := I.bytesV_get hj
  exact (h.c j a ha).1
/-- Number k of a list of one's own. -/
theorem intOwn_get {w : World} {B : Nat} {a : Option Addr} {n c : Nat} {X : List Int} (h : intE.Own w B (.slice a n c) X) {k : Nat} (hk : k < X.length) :
    ∃ g x, n = X.length ∧ X.length ≤ c ∧ a = some ⟨g, 0, none⟩ ∧ X[k]? = some x ∧ w.cell? ⟨g, k, none⟩ = some (.int .i64 x) ∧ w.frozen? ⟨g, k, none⟩ = false ∧ -9223372036854775808 ≤ x ∧ x ≤ 9223372036854775807 ∧ B ≤ g ∧ g < w.heap.size := by
  rcases h with ⟨h, rfl⟩ | ⟨g, C, h1, h2, h3, h4, h5⟩
  · simp at hk
  · injection h1 with e1 e2 e3
    subst e1 e2 e3
    have hx : X[k]? = some X[k] := List.getElem?_eq_getElem hk
    have hR := intRow.1 h3
    have hb := (hR.bytes h4).c k _ hx
    rw [Nat.zero_add] at hb
    exact ⟨g, X[k], rfl, h4.length_le, rfl, hx, hb.1, hR.z k, hb.2.1, hb.2.2, h2, h3.lt⟩
/-- Number k is written over. -/
theorem intOwn_set {w : World} {B g k : Nat} {n c : Nat} {X : List Int} (h : intE.Own w B (.slice (some ⟨g, 0, none⟩) n c) X) (hk : k < X.length) {x : Int} (hx : I.Byte x) :
    intE.Own (w.setCell ⟨g, k, none⟩ (.int .i64 x)) B (.slice (some ⟨g, 0, none⟩) n c) (X.set k x) := by
  rcases h with ⟨h, _⟩ | ⟨g', C, h1, h2, h3, h4, h5⟩
  · cases h
  · injection h1 with e1 e2 e3
    injection e1 with e1
    injection e1 with e1
    subst e1 e2 e3
    have hR := intRow.1 h3
    obtain ⟨R, rfl⟩ := h4
    refine .inr ⟨g, (X ++ R).set k x, by rw [List.length_set, List.length_set], h2, intRow.2 ⟨fun j a hj => ?_, fun j => (World.frozen?_setCell _ _ _ _).trans (hR.z j), Nat.lt_of_lt_of_le hR.lt (setCellChg _ _ _ _).size, fun a ha => ?_⟩, ?_, by rw [List.length_set]; exact h5⟩
    · have hkl : k < (X ++ R).length := by rw [List.length_append]; omega
      by_cases he : j = k
      · subst he
        rw [List.getElem?_set_self hkl] at hj
        obtain rfl := Option.some.inj hj
        exact World.cell?_setCell_same _ _ _ (hR.c j _ (List.getElem?_eq_getElem hkl))
      · rw [List.getElem?_set_ne (Ne.symm he)] at hj
        rw [World.cell?_setCell_other _ _ _ _ (by intro e; injection e with _ e; exact he e.symm)]
        exact hR.c j a hj
    · rcases List.mem_or_eq_of_mem_set ha with h1 | rfl
      · exact hR.byte a h1
      · exact hx
    · rw [List.set_append_left _ _ hk]
      exact List.prefix_append _ _

end Go.Proofs.Ytodohgckncnipaa
/- Lists that lie somewhere, lists of lists of ints, fields that hold a list. -/
namespace Go.Proofs.Ytodohgckncnipaa
open Go.RowKit

/-- The first place where p holds, or -1. -/
def idxV {α : Type} (p : α → Bool) (L : List α) : Int := if L.findIdx p < L.length then (L.findIdx p : Int) else -1
theorem idxV_found {α : Type} {p : α → Bool} {L : List α} {k : Nat} {x : α} (hx : L[k]? = some x) (hp : p x = true) (hb : ∀ (j : Nat) (y : α), j < k → L[j]? = some y → p y = false) : idxV p L = k := by
  have hk := (List.getElem?_eq_some_iff.1 hx).1
  have he : L.findIdx p = k := (List.findIdx_eq hk).2 ⟨by rw [(List.getElem?_eq_some_iff.1 hx).2]; exact hp, fun j hj => hb j _ hj (List.getElem?_eq_getElem (by omega))⟩
  unfold idxV
  rw [he, if_pos hk]
theorem idxV_none {α : Type} {p : α → Bool} {L : List α} (hb : ∀ (j : Nat) (y : α), j < L.length → L[j]? = some y → p y = false) : idxV p L = -1 := by
  have : ¬ L.findIdx p < L.length := by
    rw [List.findIdx_lt_length]
    rintro ⟨x, hx, hp⟩
    obtain ⟨j, hj, rfl⟩ := List.getElem_of_mem hx
    rw [hb j _ hj (List.getElem?_eq_getElem hj)] at hp
    cases hp
  unfold idxV
  rw [if_neg this]
theorem idx_cases {α : Type} (p : α → Bool) : ∀ L : List α, (∃ (k : Nat) (x : α), L[k]? = some x ∧ p x = true ∧ idxV p L = k ∧ L.find? p = some x ∧ L.any p = true) ∨ (idxV p L = -1 ∧ L.find? p = none ∧ L.any p = false)
  | [] => .inr ⟨rfl, rfl, rfl⟩
  | x :: L => by
    by_cases hx : p x = true
    · exact .inl ⟨0, x, rfl, hx, idxV_found (k := 0) (x := x) rfl hx (fun j y h => absurd h (Nat.not_lt_zero _)), by simp [hx], by simp [hx]⟩
    · have hx' : p x = false := by simpa using hx
      rcases idx_cases p L with ⟨k, y, h1, h2, h3, h4, h5⟩ | ⟨h1, h2, h3⟩
      · refine .inl ⟨k + 1, y, by simpa using h1, h2, ?_, by simp [hx', h4], by simp only [List.any_cons, hx', h5, Bool.false_or]⟩
        unfold idxV at h3 ⊢
        simp only [List.findIdx_cons, hx', cond_false, List.length_cons]
        split at h3
        · rw [if_pos (by omega)]; omega
        · omega
      · refine .inr ⟨?_, by simp [hx', h2], by simp only [List.any_cons, hx', h3, Bool.false_or]⟩
        unfold idxV at h1 ⊢
        simp only [List.findIdx_cons, hx', cond_false, List.length_cons]
        split at h1
        · omega
        · rw [if_neg (by omega)]

abbrev Sl := Option Addr × Nat × Nat
def slV (s : Sl) : Value := .slice s.1 s.2.1 s.2.2
def listE : Elt Sl where
  enc := fun s => [slV s]
  sz := 1
  bs := 24
  e := 23
  sl := 24
  z := (none, 0, 0)
  zv := .slice none 0 0
  ok := fun _ => True
  pos := by omega
  len := fun _ => rfl
  one := fun a u hu => by
    simp only [List.mem_cons, List.not_mem_nil, or_false] at hu
    subst hu; rfl
  zok := trivial
  info := by kernel_rfl
  zc := rfl
  und := by kernel_rfl
  bsl := by omega

variable {α : Type} {E : Elt α}
/-- A list that lies somewhere, from block B on. -/
def Elt.In (E : Elt α) (w : World) (B : Nat) (s : Sl) (L : List α) : Prop :=
  s.2.1 = L.length ∧ s.2.1 ≤ s.2.2 ∧ ∃ g o, E.At w g o L ∧ (0 < L.length → s.1 = some ⟨g, o, none⟩ ∧ B ≤ g)
theorem Elt.In.chg {S : Nat → Prop} {w w' : World} {B : Nat} {s : Sl} {L : List α} (h : E.In w B s L) (hc : Chg S w w') (hs : ∀ g o, s.1 = some ⟨g, o, none⟩ → ¬ S g) : E.In w' B s L := by
  obtain ⟨h1, h2, g, o, h3, h4⟩ := h
  exact ⟨h1, h2, g, o, h3.chg hc (fun hne => hs g o (h4 (by cases L with
    | nil => exact absurd rfl hne
    | cons x L => simp)).1), h4⟩
theorem Elt.In.same {w w' : World} {B : Nat} {s : Sl} {L : List α} (h : E.In w B s L) (hc : Chg (fun _ => False) w w') : E.In w' B s L := h.chg hc (fun _ _ _ h => h)
theorem Elt.In.lower {w : World} {B B' : Nat} {s : Sl} {L : List α} (h : E.In w B s L) (hB : B' ≤ B) : E.In w B' s L := by
  obtain ⟨h1, h2, g, o, h3, h4⟩ := h
  exact ⟨h1, h2, g, o, h3, fun hp => ⟨(h4 hp).1, Nat.le_trans hB (h4 hp).2⟩⟩
theorem Elt.In.nil (E : Elt α) (w : World) (B : Nat) : E.In w B (none, 0, 0) [] := ⟨rfl, Nat.le_refl _, 0, 0, .nil _ _ _ _, fun h => absurd h (by simp)⟩
theorem Elt.Own.in' {w : World} {B : Nat} {a : Option Addr} {n c c' : Nat} {X : List α} (h : E.Own w B (.slice a n c) X) (hc : n ≤ c') : E.In w B (a, n, c') X := by
  obtain ⟨a', g, c2, h1, h2, h3, h4⟩ := h.at'
  injection h1 with e1 e2 e3
  subst e1 e2 e3
  exact ⟨rfl, hc, g, 0, h3, h4⟩
/-- One of its elements of two cells. -/
theorem Elt.In.get2 {w : World} {B : Nat} {a : Option Addr} {n c : Nat} {L : List α} (h : E.In w B (a, n, c) L) (hz : E.sz = 2) {k : Nat} (hk : k < L.length) : ∃ (x : α) (g o : Nat) (u v : Value), L[k]? = some x ∧ a = some ⟨g, o, none⟩ ∧ E.enc x = [u, v] ∧ w.cell? ⟨g, o + k * 2, none⟩ = some u ∧ w.cell? ⟨g, o + k * 2 + 1, none⟩ = some v ∧ E.ok x ∧ B ≤ g ∧ g < w.heap.size := by
  obtain ⟨h1, h2, g, o, h3, h4⟩ := h
  obtain ⟨h4, h5⟩ := h4 (by omega)
  have hx : L[k]? = some L[k] := List.getElem?_eq_getElem hk
  have hl := E.len L[k]
  rw [hz] at hl
  match he : E.enc L[k], hl with
  | [u, v], _ =>
    have c0 := h3.get hx (i := 0) (u := u) (by rw [he]; rfl)
    have c1 := h3.get hx (i := 1) (u := v) (by rw [he]; rfl)
    rw [hz] at c0 c1
    exact ⟨_, g, o, u, v, hx, h4, he, by simpa using c0, by rw [Nat.add_assoc]; exact c1, h3.ok _ (List.getElem_mem _), h5, h3.lt (by intro e; rw [e] at hk; simp at hk)⟩

/-- Lists of lists. -/
def ListsIn (w : World) (B : Nat) (s : Sl) (LL : List (List Int)) : Prop := ∃ X : List Sl, listE.In w B s X ∧ X.length = LL.length ∧ ∀ (j : Nat) x l, X[j]? = some x → LL[j]? = some l → intE.In w B x l
theorem ListsIn.same {w w' : World} {B : Nat} {s : Sl} {LL : List (List Int)} (h : ListsIn w B s LL) (hc : Chg (fun _ => False) w w') : ListsIn w' B s LL := by
  obtain ⟨X, h1, h2, h3⟩ := h
  exact ⟨X, h1.same hc, h2, fun j x r hx hr => (h3 j x r hx hr).same hc⟩
theorem ListsIn.get {w : World} {B : Nat} {a : Option Addr} {n c : Nat} {LL : List (List Int)} (h : ListsIn w B (a, n, c) LL) {k : Nat} (hk : k < LL.length) :
    ∃ (l : List Int) (g o : Nat) (la : Option Addr) (lc gl ol : Nat), LL[k]? = some l ∧ a = some ⟨g, o, none⟩ ∧ w.cell? ⟨g, o + k, none⟩ = some (.slice la l.length lc) ∧ l.length ≤ lc ∧ I.BytesAt w gl ol l ∧ (0 < l.length → la = some ⟨gl, ol, none⟩ ∧ B ≤ gl) ∧ g < w.heap.size ∧ B ≤ g := by
  obtain ⟨X, ⟨h1, h2, g, o, h3, h4⟩, h5, h6⟩ := h
  have hx : X[k]? = some X[k] := List.getElem?_eq_getElem (by omega)
  have hl : LL[k]? = some LL[k] := List.getElem?_eq_getElem hk
  obtain ⟨k1, k2, gl, ol, k3, k4⟩ := h6 k _ _ hx hl
  have hc := h3.get hx (i := 0) (u := slV X[k]) rfl
  rw [Nat.add_zero, show listE.sz = 1 from rfl, Nat.mul_one] at hc
  obtain ⟨h4, h7⟩ := h4 (by omega)
  refine ⟨LL[k], g, o, X[k].1, X[k].2.2, gl, ol, hl, h4, ?_, by omega, intAt.1 k3, k4, h3.lt (by intro e; rw [e] at h5; simp at h5; omega), h7⟩
  rw [hc, ← k1]
  rfl
theorem ListsIn.len {w : World} {B : Nat} {a : Option Addr} {n c : Nat} {LL : List (List Int)} (h : ListsIn w B (a, n, c) LL) : n = LL.length ∧ n ≤ c := by
  obtain ⟨X, ⟨h1, h2, _⟩, h5, _⟩ := h
  exact ⟨by rw [← h5]; exact h1, h2⟩
/-- The first k of them. -/
theorem Elt.In.take {w : World} {B : Nat} {a : Option Addr} {n c : Nat} {L : List α} (h : E.In w B (a, n, c) L) {k : Nat} (hk : k ≤ L.length) : E.In w B (a, k, c) (L.take k) := by
  obtain ⟨h1, h2, g, o, h3, h4⟩ := h
  simp only at h1 h2 h4
  have hX : L = L.take k ++ L.drop k := (List.take_append_drop k L).symm
  refine ⟨by simp; omega, by simp; omega, g, o, ⟨fun j u hj => ?_, fun x hx => h3.ok x (List.mem_of_mem_take hx), fun hne => h3.lt (fun e => hne (by rw [e]; simp))⟩, fun hp => h4 (by rw [List.length_take] at hp; omega)⟩
  refine h3.c j u ?_
  rw [hX, E.encs_append, List.getElem?_append_left (List.getElem?_eq_some_iff.1 hj).1]
  exact hj
/-- A variable of two, three cells is written over. -/
theorem store2 {W : World} {b : Nat} {u0 u1 : Value} (v0 v1 : Value) (h0 : W.cell? ⟨b, 0, none⟩ = some u0) (h1 : W.cell? ⟨b, 1, none⟩ = some u1) :
    ((W.setCell ⟨b, 0, none⟩ v0).setCell ⟨b, 1, none⟩ v1).cell? ⟨b, 0, none⟩ = some v0 ∧ ((W.setCell ⟨b, 0, none⟩ v0).setCell ⟨b, 1, none⟩ v1).cell? ⟨b, 1, none⟩ = some v1 ∧ Chg (· = b) W ((W.setCell ⟨b, 0, none⟩ v0).setCell ⟨b, 1, none⟩ v1) := by
  refine ⟨?_, World.cell?_setCell_same _ _ _ (u := u1) ?_, (setCellChg _ _ _ _).trans (setCellChg _ _ _ _)⟩
  · rw [World.cell?_setCell_other _ _ _ _ (by intro e; injection e with _ e; cases e)]
    exact World.cell?_setCell_same _ _ _ h0
  · rw [World.cell?_setCell_other _ _ _ _ (by intro e; injection e with _ e; cases e)]
    exact h1
theorem store3 {W : World} {b : Nat} {u0 u1 u2 : Value} (v0 v1 v2 : Value) (h0 : W.cell? ⟨b, 0, none⟩ = some u0) (h1 : W.cell? ⟨b, 1, none⟩ = some u1) (h2 : W.cell? ⟨b, 2, none⟩ = some u2) :
    (((W.setCell ⟨b, 0, none⟩ v0).setCell ⟨b, 1, none⟩ v1).setCell ⟨b, 2, none⟩ v2).cell? ⟨b, 0, none⟩ = some v0 ∧ (((W.setCell ⟨b, 0, none⟩ v0).setCell ⟨b, 1, none⟩ v1).setCell ⟨b, 2, none⟩ v2).cell? ⟨b, 1, none⟩ = some v1 ∧ (((W.setCell ⟨b, 0, none⟩ v0).setCell ⟨b, 1, none⟩ v1).setCell ⟨b, 2, none⟩ v2).cell? ⟨b, 2, none⟩ = some v2 ∧ Chg (· = b) W (((W.setCell ⟨b, 0, none⟩ v0).setCell ⟨b, 1, none⟩ v1).setCell ⟨b, 2, none⟩ v2) := by
  obtain ⟨k0, k1, k2⟩ := store2 v0 v1 h0 h1
  have k3 : ((W.setCell ⟨b, 0, none⟩ v0).setCell ⟨b, 1, none⟩ v1).cell? ⟨b, 2, none⟩ = some u2 := by
    rw [World.cell?_setCell_other _ _ _ _ (by intro e; injection e with _ e; cases e), World.cell?_setCell_other _ _ _ _ (by intro e; injection e with _ e; cases e)]
    exact h2
  refine ⟨?_, ?_, World.cell?_setCell_same _ _ _ k3, k2.trans (setCellChg _ _ _ _)⟩
  · rw [World.cell?_setCell_other _ _ _ _ (by intro e; injection e with _ e; cases e)]
    exact k0
  · rw [World.cell?_setCell_other _ _ _ _ (by intro e; injection e with _ e; cases e)]
    exact k1
/-- A field that holds a list of one's own. -/
structure Fld (E : Elt α) (br off : Nat) (w : World) (v : Value) (X : List α) : Prop where
  c : w.cell? ⟨br, off, none⟩ = some v
  z : w.frozen? ⟨br, off, none⟩ = false
  own : E.Own w (br + 1) v X
theorem Fld.lt {br off : Nat} {w : World} {v : Value} {X : List α} (h : Fld E br off w v X) : br < w.heap.size := World.block_lt_of_cell? _ _ h.c
theorem Fld.chg {S : Nat → Prop} {br off : Nat} {w w' : World} {v : Value} {X : List α} (h : Fld E br off w v X) (hc : Chg S w w') (hs : ∀ g, br ≤ g → g < w.heap.size → ¬ S g) : Fld E br off w' v X :=
  ⟨hc.cellS h.c (hs br (Nat.le_refl _) h.lt), (hc.frozen (p := ⟨br, off, none⟩) h.lt (hs br (Nat.le_refl _) h.lt)).trans h.z, h.own.chg hc (fun g hg => hs g (by omega))⟩
/-- Another list is stored there. -/
theorem Fld.step {br off : Nat} {w w1 : World} {v v' : Value} {X X' : List α} (h : Fld E br off w v X) (ho : E.Own w1 (br + 1) v' X') (hc : Chg (fun k => br + 1 ≤ k) w w1) :
    (w1.cell? ⟨br, off, none⟩ = some v ∧ w1.frozen? ⟨br, off, none⟩ = false) ∧ Fld E br off (w1.setCell ⟨br, off, none⟩ v') v' X' ∧ Chg (fun k => br ≤ k) w (w1.setCell ⟨br, off, none⟩ v') ∧
      ∀ off' u, off' ≠ off → w.cell? ⟨br, off', none⟩ = some u → (w1.setCell ⟨br, off, none⟩ v').cell? ⟨br, off', none⟩ = some u := by
  have hlt := h.lt
  have c1 := hc.cellS h.c (by show ¬ br + 1 ≤ br; omega)
  have z1 := (hc.frozen (p := ⟨br, off, none⟩) hlt (by show ¬ br + 1 ≤ br; omega)).trans h.z
  refine ⟨⟨c1, z1⟩, ⟨World.cell?_setCell_same _ _ _ c1, (World.frozen?_setCell _ _ _ _).trans z1, ho.chg (setCellChg _ _ _ _) (fun g hg _ e => by omega)⟩, (hc.mono (fun k _ e => by omega)).trans ((setCellChg w1 br off v').mono (fun k _ e => by omega)), fun off' u hne hu => ?_⟩
  rw [World.cell?_setCell_other _ _ _ _ (by intro e; injection e with _ e; exact hne e.symm)]
  exact hc.cellS hu (by show ¬ br + 1 ≤ br; omega)
end Go.Proofs.Ytodohgckncnipaa
/- A table that is gone through rune by rune, plainly: may it be, its steps. -/
namespace Go.Proofs.Ytodohgckncnipaa
open Go.RowKit

/-- A table. -/
structure TabD where
  r : List (Int × Int)
  c : List Int
  n : List (List Int)
  e : List Int

def holdB (x : Int) (p : Int × Int) : Bool := decide (p.1 ≤ x) && decide (x ≤ p.2)
/-- Which range holds it. -/
def classL (R : List (Int × Int)) (x : Int) : Int := idxV (holdB x) R
theorem idxV_bounds {α : Type} (p : α → Bool) (L : List α) : -1 ≤ idxV p L ∧ idxV p L < L.length ∨ (idxV p L = -1 ∧ L = []) := by
  unfold idxV
  split
  · left; omega
  · cases L with
    | nil => right; simp
    | cons x L => left; simp; omega
theorem classL_lt (R : List (Int × Int)) (x : Int) : -1 ≤ classL R x ∧ (classL R x < R.length) := by
  rcases idxV_bounds (holdB x) R with h | ⟨h1, h2⟩
  · exact h
  · unfold classL; rw [h1]; omega
/-- So many columns. -/
def colsL (C : List Int) : Int := C.foldl (fun m c => max m (c + 1)) 0
theorem colsL_snoc (C : List Int) (c : Int) : colsL (C ++ [c]) = max (colsL C) (c + 1) := by simp [colsL, List.foldl_append]
theorem colsL_take {C : List Int} {k : Nat} {c : Int} (h : C[k]? = some c) : colsL (C.take (k + 1)) = max (colsL (C.take k)) (c + 1) := by
  rw [List.take_add_one, h]
  exact colsL_snoc _ _
theorem colsL_foldl (C : List Int) : ∀ m : Int, m ≤ C.foldl (fun m c => max m (c + 1)) m ∧ ∀ c ∈ C, c + 1 ≤ C.foldl (fun m c => max m (c + 1)) m := by
  induction C with
  | nil => intro m; simp
  | cons x C ih =>
    intro m
    obtain ⟨h1, h2⟩ := ih (max m (x + 1))
    simp only [List.foldl_cons, List.mem_cons]
    refine ⟨by omega, ?_⟩
    rintro c (rfl | hc)
    · omega
    · exact h2 c hc
theorem colsL_nonneg (C : List Int) : 0 ≤ colsL C := (colsL_foldl C 0).1
theorem colsL_mem {C : List Int} {c : Int} (h : c ∈ C) : c < colsL C := Int.lt_of_add_one_le ((colsL_foldl C 0).2 c h)
theorem colsL_le {C : List Int} {m : Int} (hm : 0 ≤ m) (h : ∀ c ∈ C, c < m) : colsL C ≤ m := by
  have key : ∀ (C : List Int) (a : Int), a ≤ m → (∀ c ∈ C, c < m) → C.foldl (fun m c => max m (c + 1)) a ≤ m := by
    intro C
    induction C with
    | nil => intro a ha _; exact ha
    | cons x C ih =>
      intro a ha hc
      have := hc x (by simp)
      exact ih (max a (x + 1)) (by omega) (fun c h => hc c (by simp [h]))
  exact key C 0 hm h
def apOk (R : List (Int × Int)) (i : Nat) : Bool := decide ((R.getD i (0, 0)).1 ≤ (R.getD i (0, 0)).2) && (decide (i = 0) || decide ((R.getD (i - 1) (0, 0)).2 < (R.getD i (0, 0)).1))
/-- Ranges rise apart. -/
def apartB (R : List (Int × Int)) : Bool := (List.range R.length).all (apOk R)
theorem apartB_true {R : List (Int × Int)} (h : ∀ j, j < R.length → apOk R j = true) : apartB R = true := by
  unfold apartB
  rw [List.all_eq_true]
  intro j hj
  exact h j (List.mem_range.1 hj)
theorem apartB_false {R : List (Int × Int)} {j : Nat} (hj : j < R.length) (h : apOk R j = false) : apartB R = false := by
  unfold apartB
  rw [List.all_eq_false]
  exact ⟨j, List.mem_range.2 hj, by rw [h]; simp⟩
def inB (lo hi x : Int) : Bool := decide (lo ≤ x) && decide (x < hi)
def rowB (cols many : Int) (row : List Int) : Bool := decide ((row.length : Int) = cols) && row.all (inB (-1) many)
def fillB (C : List Int) : Bool := (List.range (colsL C).toNat).all (fun c => C.contains (c : Int))
/-- May it be? -/
def mayT (t : TabD) : Bool :=
  apartB t.r && decide (t.c.length = t.r.length ∧ 0 < t.n.length ∧ t.e.length = t.n.length) && t.c.all (inB 0 t.c.length) && fillB t.c && t.e.all (fun e => decide (-1 ≤ e)) && t.n.all (rowB (colsL t.c) t.n.length)

structure MayS (t : TabD) : Prop where
  ap : apartB t.r = true
  cl : t.c.length = t.r.length
  nl : 0 < t.n.length
  el : t.e.length = t.n.length
  cb : ∀ c ∈ t.c, 0 ≤ c ∧ c < t.c.length
  fill : fillB t.c = true
  eb : ∀ e ∈ t.e, -1 ≤ e
  row : ∀ l ∈ t.n, (l.length : Int) = colsL t.c ∧ ∀ x ∈ l, -1 ≤ x ∧ x < t.n.length
theorem mayT_iff {t : TabD} : mayT t = true ↔ MayS t := by
  unfold mayT
  simp only [Bool.and_eq_true, decide_eq_true_eq, List.all_eq_true, inB, rowB]
  constructor
  · rintro ⟨⟨⟨⟨⟨h1, h2, h3, h4⟩, h5⟩, h6⟩, h7⟩, h8⟩
    exact ⟨h1, h2, h3, h4, h5, h6, h7, h8⟩
  · rintro ⟨h1, h2, h3, h4, h5, h6, h7, h8⟩
    exact ⟨⟨⟨⟨⟨h1, h2, h3, h4⟩, h5⟩, h6⟩, h7⟩, h8⟩
theorem mayT_no {t : TabD} (h : ¬ MayS t) : mayT t = false := by
  cases hm : mayT t
  · rfl
  · exact absurd (mayT_iff.1 hm) h

/-- A step. -/
def stepT (t : TabD) (st x : Int) : Int :=
  if classL t.r x < 0 ∨ (t.c.length : Int) ≤ classL t.r x ∨ st < 0 ∨ (t.n.length : Int) ≤ st then -1
  else if t.c.getD (classL t.r x).toNat 0 < 0 ∨ ((t.n.getD st.toNat []).length : Int) ≤ t.c.getD (classL t.r x).toNat 0 then -1
  else (t.n.getD st.toNat []).getD (t.c.getD (classL t.r x).toNat 0).toNat 0
theorem getD_mem {α : Type} {L : List α} {k : Nat} {z : α} (h : k < L.length) : L.getD k z ∈ L := by
  rw [List.getD_eq_getElem?_getD, List.getElem?_eq_getElem h]
  exact List.getElem_mem h
theorem stepT_lt {t : TabD} (h : MayS t) (st x : Int) : -1 ≤ stepT t st x ∧ stepT t st x < t.n.length := by
  unfold stepT
  split
  · omega
  · rename_i h1
    split
    · omega
    · rename_i h2
      exact (h.row _ (getD_mem (z := []) (k := st.toNat) (by omega))).2 _ (getD_mem (by omega))
def endAt (t : TabD) (st : Int) : Int := t.e.getD st.toNat 0
end Go.Proofs.Ytodohgckncnipaa
/- Ranges, bools, tokens as elements of some cells; a table in memory. -/
namespace Go.Proofs.Ytodohgckncnipaa
open Go.RowKit

abbrev I32 (a : Int) : Prop := -2147483648 ≤ a ∧ a ≤ 2147483647
abbrev okRng (p : Int × Int) : Prop := I32 p.1 ∧ I32 p.2
def encRng (p : Int × Int) : List Value := [.int .i32 p.1, .int .i32 p.2]
def rngE : Elt (Int × Int) where
  enc := encRng
  sz := 2
  bs := 8
  e := 54
  sl := 22
  z := (0, 0)
  zv := .agg #[.int .i32 0, .int .i32 0]
  ok := okRng
  pos := by omega
  len := fun _ => rfl
  one := fun a u hu => by
    simp only [encRng, List.mem_cons, List.not_mem_nil, or_false] at hu
    rcases hu with rfl | rfl <;> rfl
  zok := by decide
  info := by kernel_rfl
  zc := rfl
  und := by kernel_rfl
  bsl := by omega

/-- A table in memory. -/
structure TabIn (w : World) (B : Nat) (rs cs ns es : Sl) (t : TabD) : Prop where
  r : rngE.In w B rs t.r
  c : intE.In w B cs t.c
  n : ListsIn w B ns t.n
  e : intE.In w B es t.e
theorem TabIn.same {w w' : World} {B : Nat} {rs cs ns es : Sl} {t : TabD} (h : TabIn w B rs cs ns es t) (hc : Chg (fun _ => False) w w') : TabIn w' B rs cs ns es t :=
  ⟨h.r.same hc, h.c.same hc, h.n.same hc, h.e.same hc⟩
theorem Elt.In.chgB {α : Type} {E : Elt α} {S : Nat → Prop} {w w' : World} {B : Nat} {s : Sl} {L : List α} (h : E.In w B s L) (hc : Chg S w w') (hs : ∀ g, B ≤ g → ¬ S g) : E.In w' B s L := by
  obtain ⟨h1, h2, g, o, h3, h4⟩ := h
  exact ⟨h1, h2, g, o, h3.chg hc (fun hne => hs g (h4 (by cases L with
    | nil => exact absurd rfl hne
    | cons x L => simp)).2), h4⟩
theorem ListsIn.chgB {S : Nat → Prop} {w w' : World} {B : Nat} {s : Sl} {LL : List (List Int)} (h : ListsIn w B s LL) (hc : Chg S w w') (hs : ∀ g, B ≤ g → ¬ S g) : ListsIn w' B s LL := by
  obtain ⟨X, h1, h2, h3⟩ := h
  exact ⟨X, h1.chgB hc hs, h2, fun j x r hx hr => (h3 j x r hx hr).chgB hc hs⟩
theorem ListsIn.lower {w : World} {B B' : Nat} {s : Sl} {LL : List (List Int)} (h : ListsIn w B s LL) (hB : B' ≤ B) : ListsIn w B' s LL := by
  obtain ⟨X, h1, h2, h3⟩ := h
  exact ⟨X, h1.lower hB, h2, fun j x r hx hr => (h3 j x r hx hr).lower hB⟩
theorem TabIn.chgB {S : Nat → Prop} {w w' : World} {B : Nat} {rs cs ns es : Sl} {t : TabD} (h : TabIn w B rs cs ns es t) (hc : Chg S w w') (hs : ∀ g, B ≤ g → ¬ S g) : TabIn w' B rs cs ns es t :=
  ⟨h.r.chgB hc hs, h.c.chgB hc hs, h.n.chgB hc hs, h.e.chgB hc hs⟩
theorem TabIn.lower {w : World} {B B' : Nat} {rs cs ns es : Sl} {t : TabD} (h : TabIn w B rs cs ns es t) (hB : B' ≤ B) : TabIn w B' rs cs ns es t :=
  ⟨h.r.lower hB, h.c.lower hB, h.n.lower hB, h.e.lower hB⟩
/-- One of some ints, ranges. -/
theorem Elt.In.len {α : Type} {E : Elt α} {w : World} {B : Nat} {a : Option Addr} {n c : Nat} {L : List α} (h : E.In w B (a, n, c) L) : n = L.length ∧ n ≤ c := ⟨h.1, h.2.1⟩
theorem Elt.In.getI {w : World} {B : Nat} {a : Option Addr} {n c : Nat} {L : List Int} (h : intE.In w B (a, n, c) L) {k : Nat} (hk : k < L.length) :
    ∃ (x : Int) (g o : Nat), L[k]? = some x ∧ a = some ⟨g, o, none⟩ ∧ w.cell? ⟨g, o + k, none⟩ = some (.int .i64 x) ∧ -9223372036854775808 ≤ x ∧ x ≤ 9223372036854775807 ∧ B ≤ g ∧ g < w.heap.size := by
  obtain ⟨h1, h2, g, o, h3, h4⟩ := h
  have hx : L[k]? = some L[k] := List.getElem?_eq_getElem hk
  have hc := h3.get hx (i := 0) (u := .int .i64 L[k]) rfl
  rw [Nat.add_zero, show intE.sz = 1 from rfl, Nat.mul_one] at hc
  obtain ⟨h5, h6⟩ := h4 (by omega)
  have hok := h3.ok _ (List.getElem_mem hk)
  exact ⟨L[k], g, o, hx, h5, hc, hok.1, hok.2, h6, h3.lt (by intro e; rw [e] at hk; simp at hk)⟩
theorem Elt.In.getR {w : World} {B : Nat} {a : Option Addr} {n c : Nat} {L : List (Int × Int)} (h : rngE.In w B (a, n, c) L) {k : Nat} (hk : k < L.length) :
    ∃ (x y : Int) (g o : Nat), L[k]? = some (x, y) ∧ a = some ⟨g, o, none⟩ ∧ w.cell? ⟨g, o + k * 2, none⟩ = some (.int .i32 x) ∧ w.cell? ⟨g, o + k * 2 + 1, none⟩ = some (.int .i32 y) ∧ (-2147483648 ≤ x ∧ x ≤ 2147483647) ∧ (-2147483648 ≤ y ∧ y ≤ 2147483647) ∧ B ≤ g ∧ g < w.heap.size := by
  obtain ⟨x, g, o, u, v, hx, ha, he, c0, c1, hok, hB, hg⟩ := h.get2 rfl hk
  obtain ⟨x, y⟩ := x
  have he : [Value.int .i32 x, Value.int .i32 y] = [u, v] := he
  injection he with e1 he
  injection he with e2
  subst e1 e2
  exact ⟨x, y, g, o, hx, ha, c0, c1, hok.1, hok.2, hB, hg⟩
/-- The table's block: four lists. -/
def TabAt (w : World) (b : Nat) (rs cs ns es : Sl) : Prop :=
  w.cell? ⟨b, 0, none⟩ = some (.slice rs.1 rs.2.1 rs.2.2) ∧ w.cell? ⟨b, 1, none⟩ = some (.slice cs.1 cs.2.1 cs.2.2) ∧ w.cell? ⟨b, 2, none⟩ = some (.slice ns.1 ns.2.1 ns.2.2) ∧ w.cell? ⟨b, 3, none⟩ = some (.slice es.1 es.2.1 es.2.2)
theorem tabBox (w : World) (rs cs ns es : Sl) (e : TypeId) : TabAt (w.alloc (.cells #[.slice rs.1 rs.2.1 rs.2.2, .slice cs.1 cs.2.1 cs.2.2, .slice ns.1 ns.2.1 ns.2.2, .slice es.1 es.2.1 es.2.2] e)) w.heap.size rs cs ns es := by
  refine ⟨?_, ?_, ?_, ?_⟩ <;> · rw [World.cell?_alloc_new]; rfl
theorem TabAt.chg {S : Nat → Prop} {w w' : World} {b : Nat} {rs cs ns es : Sl} (h : TabAt w b rs cs ns es) (hc : Chg S w w') (hs : ¬ S b) : TabAt w' b rs cs ns es :=
  ⟨hc.cellS h.1 hs, hc.cellS h.2.1 hs, hc.cellS h.2.2.1 hs, hc.cellS h.2.2.2 hs⟩
def tabV (rs cs ns es : Sl) : Value := .agg #[.slice rs.1 rs.2.1 rs.2.2, .slice cs.1 cs.2.1 cs.2.2, .slice ns.1 ns.2.1 ns.2.2, .slice es.1 es.2.1 es.2.2]
end Go.Proofs.Ytodohgckncnipaa
