/- A region that draws and holds one call: what only reads is taken first. A region that draws and turns the world: what only reads is taken first, under a condition that the last operations (those that wait for all that read) need not leave. Lists cloned; a variable of four cells; regions that hold calls. States of a table that no text tells apart, plainly: by texts of so many columns at most (relE); by so many columns as there are states it is settled (relE_settled). No program. The least table that does the same, plainly (leastT); what a table does with a text (doesN). No program. The least table: which states are found; it may be, and does the same; two tables that do the same have the same least one. No program. -/
import Derived.Test.YtodohgckncnipaaGA1
import Derived.Test.YtodohgckncnipaaGA3
import Derived.OrdersHeld
/- A region that draws and holds one call: what only reads is taken first. -/
namespace Go.Proofs.Ytodohgckncnipaa
section
variable {P : Program} {ops : Array Oper} {Q : Exit → Act → World → Prop} {md : Region.Mode} {S : World → Prop}

theorem held_read {i : Nat} {oi : Oper} {fuel : Nat} {listed : Array Bool} {a : Act} {w : World} (hi : ops[i]? = some oi)
    (hs : Region.noSelect ops = true) (hf : Region.free md ops listed i = true) (hr : (Region.ready md ops listed).contains i = true)
    (hQ : ∀ v c a w, Q (.panic c) (a.put oi.dst v) w → Q (.panic c) a w) (hw : Region.wanted oi (yielded ops a.tmps) = true) (hS : S w)
    (h : ∀ K : Act → Prop, (∀ a, wpAnyH P md ops Q S fuel (listed.setIfInBounds i true) a w → K a) → ∃ v, (∀ w', S w' → (execOp a.eval oi).run P w' = .ok (.value v) w') ∧ K (a.put oi.dst v)) :
    wpAnyH P md ops Q S (fuel + 1) listed a w := by
  obtain ⟨v, hrun, hK⟩ := h _ (fun _ h => h)
  exact wpAnyH_take hi hs hf hr (hQ v) (.inl ⟨hw, hrun⟩) hS hK

theorem wpOp_value {i : Nat} {oi : Oper} {a : Act} {w : World} {v : Value} {K : Act → World → Prop} (hi : ops[i]? = some oi) (hw : Region.wanted oi (yielded ops a.tmps) = true)
    (hrun : (execOp a.eval oi).run P w = .ok (.value v) w) (h : K (a.put oi.dst v) w) : wpOp P ops Q i K a w := by
  unfold Go.wpOp
  simp only [hi, hw, if_true, Oper.wp, hrun, Oper.upon]
  exact .inl h

/-- The one operation that may come up now. -/
theorem held_one {i : Nat} {oi : Oper} {fuel : Nat} {listed : Array Bool} {a : Act} {w : World} (hr : Region.ready md ops listed = [i]) (hi : ops[i]? = some oi)
    (hw : Region.wanted oi (yielded ops a.tmps) = true) (hS : S w)
    (h : ∀ K : Act → Prop, (∀ a, wpAnyH P md ops Q S fuel (listed.setIfInBounds i true) a w → K a) → ∃ v, (execOp a.eval oi).run P w = .ok (.value v) w ∧ K (a.put oi.dst v)) :
    wpAnyH P md ops Q S (fuel + 1) listed a w := by
  obtain ⟨v, hrun, hK⟩ := h _ (fun _ h => h)
  exact wpAnyH_all hr (by simp) (fun j hj => by
    obtain rfl : j = i := by simpa using hj
    exact wpOp_value hi hw hrun ⟨hS, hK⟩)

/-- The one operation that may come up now is a call. -/
theorem held_call {i : Nat} {oi : Oper} {fuel : Nat} {listed : Array Bool} {a : Act} {w : World} (hr : Region.ready md ops listed = [i]) (hi : ops[i]? = some oi)
    (hw : Region.wanted oi (yielded ops a.tmps) = true) (f : FuncId) (args : Array Value) (R : Value → World → Prop) (hrun : (execOp a.eval oi).run P w = .ok (.enter f args) w)
    (hcall : Calls P f args w (fun e w'' => ∃ v, e = .returned v ∧ S w'' ∧ R v w''))
    (h : ∀ v w'', S w'' → R v w'' → ∀ K : Act → Prop, (∀ a, wpAnyH P md ops Q S fuel (listed.setIfInBounds i true) a w'' → K a) → K (a.put oi.dst v)) :
    wpAnyH P md ops Q S (fuel + 1) listed a w :=
  wpAnyH_all hr (by simp) (fun j hj => by
    obtain rfl : j = i := by simpa using hj
    unfold Go.wpOp
    simp only [hi, hw, if_true, Oper.wp, hrun, Oper.upon]
    refine .inl (hcall.mono fun e w'' ⟨v, he, hS, hR⟩ => ?_)
    subst he
    exact ⟨hS, h v w'' hS hR _ (fun _ h => h)⟩)
end
end Go.Proofs.Ytodohgckncnipaa
/- A region that draws and turns the world: what only reads is taken first, under a condition that the last operations (those that wait for all that read) need not leave. -/
namespace Go.Proofs.Ytodohgckncnipaa
section
variable {P : Program} {ops : Array Oper} {Q : Exit → Act → World → Prop} {md : Region.Mode} {S : World → Prop} {late : Nat → Bool}

/-- Whatever order; S holds behind each operation that is not late. -/
def wpAnyL (P : Program) (md : Region.Mode) (ops : Array Oper) (Q : Exit → Act → World → Prop) (S : World → Prop) (late : Nat → Bool) : Nat → Array Bool → Act → World → Prop
  | 0, listed, a, w => Region.ready md ops listed = [] ∧ Q .normal a w
  | fuel + 1, listed, a, w => (Region.ready md ops listed = [] → Q .normal a w) ∧
    ∀ i ∈ Region.ready md ops listed, wpOp P ops Q i (fun a' w' => (late i = false → S w') ∧ wpAnyL P md ops Q S late fuel (listed.setIfInBounds i true) a' w') a w

theorem wpAny_of_late : ∀ (fuel : Nat) (listed : Array Bool) (a : Act) (w : World), wpAnyL P md ops Q S late fuel listed a w → wpAny P md ops Q fuel listed a w
  | 0, _, _, _, h => h
  | fuel + 1, _, _, _, h => ⟨h.1, fun i hi => wpOp_mono (fun a' w' h' => wpAny_of_late fuel _ a' w' h'.2) (h.2 i hi)⟩

/-- j waits for i, directly or through others. -/
def waitsB (md : Region.Mode) (ops : Array Oper) : Nat → Nat → Nat → Bool
  | 0, _, _ => false
  | f + 1, j, i => match ops[j]? with
    | none => false
    | some oj => oj.after.any fun e => Region.binds md e && (decide (e.on = i) || waitsB md ops f e.on i)
/-- What has come up had to. -/
def Closed (md : Region.Mode) (ops : Array Oper) (listed : Array Bool) : Prop :=
  ∀ (k : Nat) (ok : Oper), ops[k]? = some ok → listed.getD k false = true → ∀ e ∈ ok.after, Region.binds md e = true → listed.getD e.on false = true
def closedB (md : Region.Mode) (ops : Array Oper) (listed : Array Bool) : Bool :=
  ops.toList.zipIdx.all fun x => !(listed.getD x.2 false) || x.1.after.all fun e => !Region.binds md e || listed.getD e.on false
theorem closedB_spec {listed : Array Bool} (h : closedB md ops listed = true) : Closed md ops listed := by
  intro k ok hk hl e he hb
  have h1 := List.all_eq_true.1 h (ok, k) (by
    obtain ⟨hlt, rfl⟩ := Array.getElem?_eq_some_iff.1 hk
    exact List.mem_iff_getElem.2 ⟨k, by simpa using hlt, by simp⟩)
  simp only [hl, Bool.not_true, Bool.false_or] at h1
  have h2 := Array.all_eq_true_iff_forall_mem.1 h1 e he
  simpa only [hb, Bool.not_true, Bool.false_or] using h2
theorem Closed.set {listed : Array Bool} (h : Closed md ops listed) {j : Nat} (hj : j ∈ Region.ready md ops listed) : Closed md ops (listed.setIfInBounds j true) := by
  obtain ⟨_, oj, hoj, hall⟩ := mem_ready.1 hj
  have up : ∀ k, listed.getD k false = true → (listed.setIfInBounds j true).getD k false = true := fun k hk => by
    by_cases he : j = k
    · subst he
      simp only [Array.getD_eq_getD_getElem?] at hk ⊢
      rcases Nat.lt_or_ge j listed.size with h' | h'
      · simp [h']
      · simp [Array.getElem?_eq_none h'] at hk
    · rw [getD_set_ne false he]; exact hk
  intro k ok hk hl e he hb
  by_cases hjk : j = k
  · subst hjk
    rw [hoj] at hk
    obtain rfl := Option.some.inj hk
    exact up _ (hall e he hb)
  · rw [getD_set_ne false hjk] at hl
    exact up _ (h k ok hk hl e he hb)
theorem waits_listed {listed : Array Bool} (hc : Closed md ops listed) {i : Nat} : ∀ (f j : Nat), (∀ oj, ops[j]? = some oj → ∀ e ∈ oj.after, Region.binds md e = true → listed.getD e.on false = true) → waitsB md ops f j i = true → listed.getD i false = true
  | 0, _, _, h => by cases h
  | f + 1, j, hp, h => by
    simp only [waitsB] at h
    cases ho : ops[j]? with
    | none => rw [ho] at h; cases h
    | some oj =>
      rw [ho] at h
      obtain ⟨e, he, h2⟩ := Array.any_eq_true.1 h
      simp only [Bool.and_eq_true, Bool.or_eq_true, decide_eq_true_eq] at h2
      have h3 := hp oj ho _ (Array.getElem_mem he) h2.1
      rcases h2.2 with h4 | h4
      · rw [← h4]; exact h3
      · exact waits_listed hc f _ (fun ok hk => hc _ ok hk h3) h4
/-- The late ones wait for i. -/
def lateB (md : Region.Mode) (ops : Array Oper) (late : Nat → Bool) (i : Nat) : Bool :=
  (List.range ops.size).all fun j => !late j || decide (j = i) || waitsB md ops ops.size j i
theorem lateB_spec {i : Nat} (h : lateB md ops late i = true) : ∀ (j : Nat) (oj : Oper), ops[j]? = some oj → late j = true → j ≠ i → waitsB md ops ops.size j i = true := by
  intro j oj hj hl hji
  have h1 := List.all_eq_true.1 h j (List.mem_range.2 (Array.getElem?_eq_some_iff.1 hj).1)
  simp only [hl, Bool.not_true, Bool.false_or, Bool.or_eq_true, decide_eq_true_eq] at h1
  rcases h1 with h1 | h1
  · exact absurd h1 hji
  · exact h1

theorem late_first {i : Nat} {oi : Oper} {v : Value} (hi : ops[i]? = some oi) (hsel : ∀ (j : Nat) (o : Oper) cs b, ops[j]? = some o → o.op ≠ .select cs b)
    (hQ : ∀ c a w, Q (.panic c) (a.put oi.dst v) w → Q (.panic c) a w) (hlate : ∀ (j : Nat) (oj : Oper), ops[j]? = some oj → late j = true → j ≠ i → waitsB md ops ops.size j i = true) :
    ∀ (fuel : Nat) (listed : Array Bool) (a : Act) (w : World), Closed md ops listed →
      (∀ j oj, ops[j]? = some oj → j ≠ i → listed.getD j true = false → (∀ e ∈ oj.after, Region.binds md e = true → e.on ≠ i) → oi.apart ops oj = true) →
      i ∈ Region.ready md ops listed → YieldsIf P ops S oi v a → S w →
      wpAnyL P md ops Q S late fuel (listed.setIfInBounds i true) (a.put oi.dst v) w → wpAnyL P md ops Q S late (fuel + 1) listed a w := by
  intro fuel
  induction fuel with
  | zero =>
    intro listed a w _ _ hr hy hS H
    refine ⟨fun h => (by rw [h] at hr; cases hr), fun j hj => ?_⟩
    by_cases hji : j = i
    · subst hji; exact hy.wpOp hi hS ⟨fun _ => hS, H⟩
    · have := ready_mono hj hji
      rw [H.1] at this
      cases this
  | succ fuel ih =>
    intro listed a w hcl hfree hr hy hS H
    refine ⟨fun h => (by rw [h] at hr; cases hr), fun j hj => ?_⟩
    by_cases hji : j = i
    · subst hji; exact hy.wpOp hi hS ⟨fun _ => hS, H⟩
    · obtain ⟨hjun, oj, hoj, hall⟩ := mem_ready.1 hj
      have hnot : ∀ e ∈ oj.after, Region.binds md e = true → e.on ≠ i := fun e he hb heq => by
        have h1 := hall e he hb
        have h0 := (mem_ready.1 hr).1
        rw [heq] at h1
        rcases Nat.lt_or_ge i listed.size with h' | h'
        · simp [h'] at h0 h1; rw [h0] at h1; cases h1
        · simp [Array.getElem?_eq_none h'] at h1
      have hlj : late j = false := by
        cases hl : late j
        · rfl
        · have h1 := waits_listed hcl _ j (fun ok hk e he hb => by rw [hoj] at hk; obtain rfl := Option.some.inj hk; exact hall e he hb) (hlate j oj hoj hl hji)
          have h0 := (mem_ready.1 hr).1
          rw [getD_both h0] at h1
          cases h1
      have h2 := wpOp_putIf hoj (hfree j oj hoj hji hjun hnot) (fun cs b => hsel i oi cs b hi) (fun cs b => hsel j oj cs b hoj) hQ hy (H.2 j (ready_mono hj hji))
      have hfree' : ∀ k ok, ops[k]? = some ok → k ≠ i → (listed.setIfInBounds j true).getD k true = false →
          (∀ e ∈ ok.after, Region.binds md e = true → e.on ≠ i) → oi.apart ops ok = true := fun k ok hk hki hun hno => by
        refine hfree k ok hk hki ?_ hno
        by_cases hjk : j = k
        · subst hjk; exact hjun
        · rw [getD_set_ne true hjk] at hun; exact hun
      refine wpOp_mono (fun a' w' h3 => ⟨h3.2.1, ih (listed.setIfInBounds j true) a' w' (hcl.set hj) hfree' (ready_mono hr (Ne.symm hji)) h3.1 (h3.2.1 hlj) ?_⟩) h2
      rw [Array.setIfInBounds_comm _ _ hji]
      exact h3.2.2

/-- An operation that only reads. -/
theorem late_read {i : Nat} {oi : Oper} {fuel : Nat} {listed : Array Bool} {a : Act} {w : World} (hi : ops[i]? = some oi)
    (hs : (Region.noSelect ops && Region.free md ops listed i && (Region.ready md ops listed).contains i && lateB md ops late i && closedB md ops listed) = true)
    (hQ : ∀ v c a w, Q (.panic c) (a.put oi.dst v) w → Q (.panic c) a w) (hw : Region.wanted oi (yielded ops a.tmps) = true) (hS : S w)
    (h : ∀ K : Act → Prop, (∀ a, wpAnyL P md ops Q S late fuel (listed.setIfInBounds i true) a w → K a) → ∃ v, (∀ w', S w' → (execOp a.eval oi).run P w' = .ok (.value v) w') ∧ K (a.put oi.dst v)) :
    wpAnyL P md ops Q S late (fuel + 1) listed a w := by
  simp only [Bool.and_eq_true] at hs
  obtain ⟨⟨⟨⟨h1, h2⟩, h3⟩, h4⟩, h5⟩ := hs
  obtain ⟨v, hrun, hK⟩ := h _ (fun _ h => h)
  exact late_first hi (Region.noSelect_spec h1) (hQ v) (lateB_spec h4) fuel listed a w (closedB_spec h5) (Region.free_spec hi h2) (by simpa using h3) (.inl ⟨hw, hrun⟩) hS hK
/-- An operation that is not wanted. -/
theorem late_skip {i : Nat} {oi : Oper} {fuel : Nat} {listed : Array Bool} {a : Act} {w : World} (hi : ops[i]? = some oi)
    (hs : (Region.noSelect ops && Region.free md ops listed i && (Region.ready md ops listed).contains i && lateB md ops late i && closedB md ops listed) = true)
    (hQ : ∀ v c a w, Q (.panic c) (a.put oi.dst v) w → Q (.panic c) a w) (hw : Region.wanted oi (yielded ops a.tmps) = false) (hS : S w)
    (h : ∀ K : Act → Prop, (∀ a, wpAnyL P md ops Q S late fuel (listed.setIfInBounds i true) a w → K a) → K (a.put oi.dst undef)) :
    wpAnyL P md ops Q S late (fuel + 1) listed a w := by
  simp only [Bool.and_eq_true] at hs
  obtain ⟨⟨⟨⟨h1, h2⟩, h3⟩, h4⟩, h5⟩ := hs
  exact late_first hi (Region.noSelect_spec h1) (hQ undef) (lateB_spec h4) fuel listed a w (closedB_spec h5) (Region.free_spec hi h2) (by simpa using h3) (.inr ⟨hw, rfl⟩) hS (h _ (fun _ h => h))

/-- The one operation that may come up now: it yields a value, and may turn the world. -/
theorem late_turn {i : Nat} {oi : Oper} {fuel : Nat} {listed : Array Bool} {a : Act} {w : World} (hr : Region.ready md ops listed = [i]) (hi : ops[i]? = some oi)
    (hw : Region.wanted oi (yielded ops a.tmps) = true)
    (h : ∀ K : Act → World → Prop, (∀ a w, wpAnyL P md ops Q S late fuel (listed.setIfInBounds i true) a w → K a w) → ∃ v w'', (execOp a.eval oi).run P w = .ok (.value v) w'' ∧ (late i = false → S w'') ∧ K (a.put oi.dst v) w'') :
    wpAnyL P md ops Q S late (fuel + 1) listed a w := by
  obtain ⟨v, w'', hrun, hS, hK⟩ := h _ (fun _ _ h => h)
  refine ⟨fun h0 => (by rw [hr] at h0; cases h0), fun j hj => ?_⟩
  rw [hr] at hj
  obtain rfl : j = i := by simpa using hj
  unfold Go.wpOp
  simp only [hi, hw, if_true, Oper.wp, hrun, Oper.upon]
  exact .inl ⟨hS, hK⟩
/-- The one operation that may come up now: a store. -/
theorem late_store {i : Nat} {oi : Oper} {fuel : Nat} {listed : Array Bool} {a : Act} {w : World} (hr : Region.ready md ops listed = [i]) (hi : ops[i]? = some oi)
    (hw : Region.wanted oi (yielded ops a.tmps) = true)
    (h : ∀ K : Act → World → Prop, (∀ a w, wpAnyL P md ops Q S late fuel (listed.setIfInBounds i true) a w → K a w) → ∃ w'', (execOp a.eval oi).run P w = .ok .skip w'' ∧ (late i = false → S w'') ∧ K (a.put oi.dst undef) w'') :
    wpAnyL P md ops Q S late (fuel + 1) listed a w := by
  obtain ⟨w'', hrun, hS, hK⟩ := h _ (fun _ _ h => h)
  refine ⟨fun h0 => (by rw [hr] at h0; cases h0), fun j hj => ?_⟩
  rw [hr] at hj
  obtain rfl : j = i := by simpa using hj
  unfold Go.wpOp
  simp only [hi, hw, if_true, Oper.wp, hrun, Oper.upon]
  exact .inl ⟨hS, hK⟩
/-- The one operation that may come up now is a builtin append. -/
theorem late_append {i : Nat} {oi : Oper} {fuel : Nat} {listed : Array Bool} {a : Act} {w : World} (hr : Region.ready md ops listed = [i]) (hi : ops[i]? = some oi)
    (hw : Region.wanted oi (yielded ops a.tmps) = true) (s x : Operand) (tl tx : TypeId) (ho : oi.op = .call { callee := .builtin .append, args := #[s, x], argTypes := #[tl, tx] }) (v u : Value) (hv : a.eval s = v) (hu : a.eval x = u)
    (R : Value → World → Prop) (hrun : ∃ v' w'', (Builtin.append_ #[tl, tx] oi.type #[v, u]).run P w = .ok v' w'' ∧ (late i = false → S w'') ∧ R v' w'')
    (h : ∀ v' w'', (late i = false → S w'') → R v' w'' → ∀ K : Act → Prop, (∀ a, wpAnyL P md ops Q S late fuel (listed.setIfInBounds i true) a w'' → K a) → K (a.put oi.dst v')) :
    wpAnyL P md ops Q S late (fuel + 1) listed a w := by
  obtain ⟨v', w'', hrun, hS, hR⟩ := hrun
  refine ⟨fun h0 => (by rw [hr] at h0; cases h0), fun j hj => ?_⟩
  rw [hr] at hj
  obtain rfl : j = i := by simpa using hj
  have hx : (execOp a.eval oi).run P w = .ok (.value v') w'' := by
    simp [execOp, ho, resolve, invoke, builtin, hv, hu, hrun, Result.andThen]
  unfold Go.wpOp
  simp only [hi, hw, if_true, Oper.wp, hx, Oper.upon]
  exact .inl ⟨hS, h v' w'' hS hR _ (fun _ h => h)⟩
/-- The one operation that may come up now is a call. -/
theorem late_call {i : Nat} {oi : Oper} {fuel : Nat} {listed : Array Bool} {a : Act} {w : World} (hr : Region.ready md ops listed = [i]) (hi : ops[i]? = some oi)
    (hw : Region.wanted oi (yielded ops a.tmps) = true) (f : FuncId) (args : Array Value) (R : Value → World → Prop) (hrun : (execOp a.eval oi).run P w = .ok (.enter f args) w)
    (hcall : Calls P f args w (fun e w'' => ∃ v, e = .returned v ∧ (late i = false → S w'') ∧ R v w''))
    (h : ∀ v w'', (late i = false → S w'') → R v w'' → ∀ K : Act → Prop, (∀ a, wpAnyL P md ops Q S late fuel (listed.setIfInBounds i true) a w'' → K a) → K (a.put oi.dst v)) :
    wpAnyL P md ops Q S late (fuel + 1) listed a w := by
  refine ⟨fun h0 => (by rw [hr] at h0; cases h0), fun j hj => ?_⟩
  rw [hr] at hj
  obtain rfl : j = i := by simpa using hj
  unfold Go.wpOp
  simp only [hi, hw, if_true, Oper.wp, hrun, Oper.upon]
  refine .inl (hcall.mono fun e w'' ⟨v, he, hS, hR⟩ => ?_)
  subst he
  exact ⟨hS, h v w'' hS hR _ (fun _ h => h)⟩
/-- All have come up. -/
theorem late_done {listed : Array Bool} {a : Act} {w : World} (hr : Region.ready md ops listed = []) (h : Q .normal a w) : ∀ fuel, wpAnyL P md ops Q S late fuel listed a w
  | 0 => ⟨hr, h⟩
  | _ + 1 => ⟨fun _ => h, by rw [hr]; simp⟩
theorem wp_region_late {id : Nat} {a : Act} {w : World} (S : World → Prop) (late : Nat → Bool) (hm : P.follows .mixedOrders = true)
    (h : wpAnyL P .any ops Q S late ops.size (Array.replicate ops.size false) a w.drew) : (Code.region id ops true).wp P Q a w :=
  wp_region_any hm (wpAny_of_late _ _ _ _ h)
end
end Go.Proofs.Ytodohgckncnipaa
/- Lists cloned; a variable of four cells; regions that hold calls. -/
namespace Go.Proofs.Ytodohgckncnipaa
open Go.RowKit

theorem Elt.In.src {α : Type} {E : Elt α} {w : World} {B : Nat} {a : Option Addr} {c : Nat} {L : List α} (h : E.In w B (a, L.length, c) L) : Src Try.prog E.sz E.sl (.slice a L.length c) L.length (E.encs L) w := by
  obtain ⟨h1, h2, g, o, h3, h4⟩ := h
  exact h3.src (fun hp => (h4 hp).1)
theorem Elt.In.ok {α : Type} {E : Elt α} {w : World} {B : Nat} {s : Sl} {L : List α} (h : E.In w B s L) : ∀ x ∈ L, E.ok x := by
  obtain ⟨h1, h2, g, o, h3, h4⟩ := h
  exact h3.ok
/-- Nothing, in a block of its own. -/
theorem Elt.Own.empty {α : Type} (E : Elt α) (w : World) (e : TypeId) : E.Own (w.alloc (.cells #[] e)) w.heap.size (.slice (some ⟨w.heap.size, 0, none⟩) 0 0) [] :=
  .inr ⟨w.heap.size, [], rfl, Nat.le_refl _, Elt.Row.alloc w [] e (fun _ h => by cases h), List.nil_prefix, by unfold maxLen; simp⟩

set_option maxRecDepth 100000 in
set_option maxHeartbeats 1000000 in
theorem cloneInt (L : List Int) (a : Option Addr) (c B : Nat) (w : World) (h : intE.In w B (a, L.length, c) L) (hl : L.length ≤ 1000000000) :
    Calls Try.prog 60 #[.slice a L.length c] w fun e w' => ∃ v, e = .returned v ∧ intE.Own w' w.heap.size v L ∧ Chg (fun _ => False) w w' := by
  cases a with
  | none =>
    obtain rfl : L = [] := by
      obtain ⟨h1, h2, g, o, h3, h4⟩ := h
      rcases Nat.eq_zero_or_pos L.length with h0 | h0
      · exact List.length_eq_zero_iff.1 h0
      · cases (h4 h0).1
    have hq := fun (w : World) => Lib.run_eql_slice_nil (P := Try.prog) w 23 intE.e none 0 c 0 0 intE.und
    go_enter Try.func60, Try.ntmps60
    go_wp2
    go_ret
    exact ⟨_, rfl, .nil _ _, Chg.refl _ _⟩
  | some ad =>
    have HL := Lib.hid h
    clear h
    have HC0 := Lib.hid ((Chg.refl (fun _ => False) w).alloc (.cells #[] intE.e))
    have hq := fun (w : World) => Lib.run_eql_slice_nil (P := Try.prog) w 23 intE.e (some ad) L.length c 0 0 intE.und
    go_enter Try.func60, Try.ntmps60
    go_wp2_with (at_builtin; refine Elt.wpList_append2 intE rfl _ _ 23 23 rfl rfl w.heap.size _ [] L (.slice (some ad) L.length c) rfl rfl (Elt.Own.empty intE w _) (by simp) (HL.out.same HC0.out).src (HL.out.ok) (by simp; omega) ?_; intro v' w2 HO HC HC2)
    have HF : Hid (intE.Own w2 w.heap.size v' L ∧ Chg (fun _ => False) w w2) := Lib.hid ⟨HO.out, (HC0.out.any.trans HC.out).fresh⟩
    go_ret
    exact ⟨_, rfl, HF.out.1, HF.out.2⟩
theorem Elt.Own.clip {α : Type} {E : Elt α} {w : World} {B : Nat} {v : Value} {X : List α} (h : E.Own w B v X) : ∃ a c, v = .slice a X.length c ∧ X.length ≤ c ∧ E.Own w B (.slice a X.length X.length) X := by
  rcases h with ⟨rfl, rfl⟩ | ⟨g, C, rfl, h2, h3, h4, h5⟩
  · exact ⟨none, 0, rfl, Nat.le_refl _, .nil _ _⟩
  · refine ⟨_, _, rfl, h4.length_le, .inr ⟨g, X, rfl, h2, ⟨fun j u hj => ?_, h3.z, h3.lt, fun x hx => h3.ok x (h4.subset hx)⟩, List.prefix_refl _, Nat.le_trans h4.length_le h5⟩⟩
    have := (h3.at' h4).c j u hj
    rwa [Nat.zero_add] at this
/-- A variable of four cells is written over. -/
theorem store4 {W : World} {b : Nat} {u0 u1 u2 u3 : Value} (v0 v1 v2 v3 : Value) (h0 : W.cell? ⟨b, 0, none⟩ = some u0) (h1 : W.cell? ⟨b, 1, none⟩ = some u1) (h2 : W.cell? ⟨b, 2, none⟩ = some u2) (h3 : W.cell? ⟨b, 3, none⟩ = some u3) :
    let V := (((W.setCell ⟨b, 0, none⟩ v0).setCell ⟨b, 1, none⟩ v1).setCell ⟨b, 2, none⟩ v2).setCell ⟨b, 3, none⟩ v3
    V.cell? ⟨b, 0, none⟩ = some v0 ∧ V.cell? ⟨b, 1, none⟩ = some v1 ∧ V.cell? ⟨b, 2, none⟩ = some v2 ∧ V.cell? ⟨b, 3, none⟩ = some v3 ∧ Chg (· = b) W V ∧ V.frozen? ⟨b, 2, none⟩ = W.frozen? ⟨b, 2, none⟩ := by
  obtain ⟨k0, k1, k2, k4⟩ := store3 v0 v1 v2 h0 h1 h2
  have k3 : (((W.setCell ⟨b, 0, none⟩ v0).setCell ⟨b, 1, none⟩ v1).setCell ⟨b, 2, none⟩ v2).cell? ⟨b, 3, none⟩ = some u3 := by
    rw [World.cell?_setCell_other _ _ _ _ (by intro e; injection e with _ e; cases e), World.cell?_setCell_other _ _ _ _ (by intro e; injection e with _ e; cases e), World.cell?_setCell_other _ _ _ _ (by intro e; injection e with _ e; cases e)]
    exact h3
  refine ⟨?_, ?_, ?_, World.cell?_setCell_same _ _ _ k3, k4.trans (setCellChg _ _ _ _), ?_⟩
  · rw [World.cell?_setCell_other _ _ _ _ (by intro e; injection e with _ e; cases e)]; exact k0
  · rw [World.cell?_setCell_other _ _ _ _ (by intro e; injection e with _ e; cases e)]; exact k1
  · rw [World.cell?_setCell_other _ _ _ _ (by intro e; injection e with _ e; cases e)]; exact k2
  · simp only [World.frozen?_setCell]
section
variable {P : Program} {ops : Array Oper} {Q : Exit → Act → World → Prop} {md : Region.Mode} {S : World → Prop}
/-- What may come up now: a call, or an operation that turns the world. -/
theorem held_call_or {i j : Nat} {oi oj : Oper} {fuel : Nat} {listed : Array Bool} {a : Act} {w : World} (hr : Region.ready md ops listed = [i, j]) (hi : ops[i]? = some oi) (hj : ops[j]? = some oj)
    (hwi : Region.wanted oi (yielded ops a.tmps) = true) (hwj : Region.wanted oj (yielded ops a.tmps) = true) (f : FuncId) (args : Array Value) (R : Value → World → Prop) (hrun : (execOp a.eval oi).run P w = .ok (.enter f args) w)
    (hcall : Calls P f args w (fun e w'' => ∃ v, e = .returned v ∧ S w'' ∧ R v w''))
    (h : ∀ v w'', S w'' → R v w'' → ∀ K : Act → Prop, (∀ a, wpAnyH P md ops Q S fuel (listed.setIfInBounds i true) a w'' → K a) → K (a.put oi.dst v))
    (hturn : ∀ K : Act → World → Prop, (∀ a w, wpAnyH P md ops Q S fuel (listed.setIfInBounds j true) a w → K a w) → ∃ v w'', (execOp a.eval oj).run P w = .ok (.value v) w'' ∧ S w'' ∧ K (a.put oj.dst v) w'') :
    wpAnyH P md ops Q S (fuel + 1) listed a w :=
  wpAnyH_all hr (by simp) (fun k hk => by
    rw [List.mem_cons, List.mem_singleton] at hk
    rcases hk with rfl | rfl
    · unfold Go.wpOp
      simp only [hi, hwi, if_true, Oper.wp, hrun, Oper.upon]
      refine .inl (hcall.mono fun e w'' ⟨v, he, hS, hR⟩ => ?_)
      subst he
      exact ⟨hS, h v w'' hS hR _ (fun _ h => h)⟩
    · obtain ⟨v, w'', hx, hS, hK⟩ := hturn _ (fun _ _ h => h)
      unfold Go.wpOp
      simp only [hj, hwj, if_true, Oper.wp, hx, Oper.upon]
      exact .inl ⟨hS, hK⟩)
/-- The one operation that may come up now turns the world. -/
theorem held_turn {i : Nat} {oi : Oper} {fuel : Nat} {listed : Array Bool} {a : Act} {w : World} (hr : Region.ready md ops listed = [i]) (hi : ops[i]? = some oi)
    (hw : Region.wanted oi (yielded ops a.tmps) = true)
    (h : ∀ K : Act → World → Prop, (∀ a w, wpAnyH P md ops Q S fuel (listed.setIfInBounds i true) a w → K a w) → ∃ v w'', (execOp a.eval oi).run P w = .ok (.value v) w'' ∧ S w'' ∧ K (a.put oi.dst v) w'') :
    wpAnyH P md ops Q S (fuel + 1) listed a w := by
  obtain ⟨v, w'', hx, hS, hK⟩ := h _ (fun _ _ h => h)
  exact wpAnyH_all hr (by simp) (fun j hj => by
    obtain rfl : j = i := by simpa using hj
    unfold Go.wpOp
    simp only [hi, hw, if_true, Oper.wp, hx, Oper.upon]
    exact .inl ⟨hS, hK⟩)
/-- It is a store. -/
theorem held_store {i : Nat} {oi : Oper} {fuel : Nat} {listed : Array Bool} {a : Act} {w : World} (hr : Region.ready md ops listed = [i]) (hi : ops[i]? = some oi)
    (hw : Region.wanted oi (yielded ops a.tmps) = true)
    (h : ∀ K : Act → World → Prop, (∀ a w, wpAnyH P md ops Q S fuel (listed.setIfInBounds i true) a w → K a w) → ∃ w'', (execOp a.eval oi).run P w = .ok .skip w'' ∧ S w'' ∧ K (a.put oi.dst undef) w'') :
    wpAnyH P md ops Q S (fuel + 1) listed a w := by
  obtain ⟨w'', hx, hS, hK⟩ := h _ (fun _ _ h => h)
  exact wpAnyH_all hr (by simp) (fun j hj => by
    obtain rfl : j = i := by simpa using hj
    unfold Go.wpOp
    simp only [hi, hw, if_true, Oper.wp, hx, Oper.upon]
    exact .inl ⟨hS, hK⟩)
end

end Go.Proofs.Ytodohgckncnipaa
/- States of a table that no text tells apart, plainly: by texts of so many columns at most (relE); by so many columns as there are states it is settled (relE_settled). No program. -/
namespace Go.Proofs.Ytodohgckncnipaa
open Go.RowKit

/-- How many columns. -/
def colsN (t : TabD) : Nat := (colsL t.c).toNat
/-- What ends at a state; the last one is nowhere. -/
def endN (t : TabD) (s : Nat) : Int := if s < t.n.length then t.e.getD s 0 else -1
/-- Where a state goes by a column; the last one is nowhere. -/
def goN (t : TabD) (s c : Nat) : Nat := if s < t.n.length ∧ 0 ≤ (t.n.getD s []).getD c (-1) then ((t.n.getD s []).getD c (-1)).toNat else t.n.length
/-- Are states told apart by no text of so many columns at most? -/
def relE (t : TabD) : Nat → Nat → Nat → Bool
  | 0, a, b => decide (endN t a = endN t b)
  | k + 1, a, b => relE t k a b && (List.range (colsN t)).all fun c => relE t k (goN t a c) (goN t b c)
/-- Are they by none? -/
def eqB (t : TabD) (a b : Nat) : Bool := relE t (t.n.length + 1) a b

theorem relE_succ {t : TabD} {k a b : Nat} : relE t (k + 1) a b = true ↔ relE t k a b = true ∧ ∀ c, c < colsN t → relE t k (goN t a c) (goN t b c) = true := by
  simp only [relE, Bool.and_eq_true, List.all_eq_true, List.mem_range]
theorem relE_refl (t : TabD) : ∀ k a, relE t k a a = true
  | 0, a => by simp [relE]
  | k + 1, a => relE_succ.2 ⟨relE_refl t k a, fun c _ => relE_refl t k _⟩
theorem relE_symm {t : TabD} : ∀ {k a b}, relE t k a b = true → relE t k b a = true
  | 0, a, b, h => by simp only [relE, decide_eq_true_eq] at h ⊢; exact h.symm
  | k + 1, a, b, h => by
    rw [relE_succ] at h ⊢
    exact ⟨relE_symm h.1, fun c hc => relE_symm (h.2 c hc)⟩
theorem relE_trans {t : TabD} : ∀ {k a b c}, relE t k a b = true → relE t k b c = true → relE t k a c = true
  | 0, a, b, c, h, h' => by simp only [relE, decide_eq_true_eq] at h h' ⊢; exact h.trans h'
  | k + 1, a, b, c, h, h' => by
    rw [relE_succ] at h h' ⊢
    exact ⟨relE_trans h.1 h'.1, fun d hd => relE_trans (h.2 d hd) (h'.2 d hd)⟩
theorem relE_down {t : TabD} : ∀ {k j a b}, j ≤ k → relE t k a b = true → relE t j a b = true
  | 0, j, a, b, h, h' => by
    obtain rfl : j = 0 := by omega
    exact h'
  | k + 1, j, a, b, h, h' => by
    by_cases e : j = k + 1
    · rw [e]; exact h'
    · exact relE_down (by omega) (relE_succ.1 h').1
theorem relE_end {t : TabD} {k a b : Nat} (h : relE t k a b = true) : endN t a = endN t b := by
  have := relE_down (Nat.zero_le k) h
  simpa [relE] using this
/-- What is kept by each step is told apart by none. -/
theorem relE_max {t : TabD} (R : Nat → Nat → Prop) (h0 : ∀ a b, R a b → endN t a = endN t b) (h1 : ∀ a b, R a b → ∀ c, c < colsN t → R (goN t a c) (goN t b c)) : ∀ k a b, R a b → relE t k a b = true
  | 0, a, b, h => by simp [relE, h0 a b h]
  | k + 1, a, b, h => relE_succ.2 ⟨relE_max R h0 h1 k a b h, fun c hc => relE_max R h0 h1 k _ _ (h1 a b h c hc)⟩

theorem goN_le {t : TabD} (h : MayS t) (s c : Nat) : goN t s c ≤ t.n.length := by
  unfold goN
  split
  · rename_i hs
    rcases Nat.lt_or_ge c (t.n.getD s []).length with hc | hc
    · have := (h.row _ (getD_mem (z := []) hs.1)).2 _ (getD_mem (z := -1) hc)
      omega
    · have : (t.n.getD s []).getD c (-1) = -1 := by rw [List.getD_eq_getElem?_getD, List.getElem?_eq_none hc]; rfl
      omega
  · exact Nat.le_refl _

/-- Numbers below N that none before them is like. -/
def repsN (t : TabD) (N k : Nat) : Nat := (List.range N).countP fun a => (List.range a).all fun b => !relE t k b a
theorem countP_lt {α : Type} {p q : α → Bool} : ∀ {l : List α}, (∀ x ∈ l, p x = true → q x = true) → (∃ x ∈ l, q x = true ∧ p x = false) → l.countP p < l.countP q
  | [], _, ⟨x, hx, _⟩ => by cases hx
  | y :: l, h, ⟨x, hx, h1, h2⟩ => by
    have hmono : l.countP p ≤ l.countP q := List.countP_mono_left (fun z hz hp => h z (List.mem_cons_of_mem _ hz) hp)
    rw [List.countP_cons, List.countP_cons]
    rcases List.mem_cons.1 hx with rfl | hx'
    · rw [h1, h2]; simp; omega
    · have := countP_lt (p := p) (q := q) (l := l) (fun z hz hp => h z (List.mem_cons_of_mem _ hz) hp) ⟨x, hx', h1, h2⟩
      have h3 := h y (by simp)
      cases hp : p y
      · cases hq : q y <;> simp <;> omega
      · rw [h3 hp]; simp; omega
theorem reps_all {t : TabD} {k a : Nat} : ((List.range a).all fun b => !relE t k b a) = true ↔ ∀ b, b < a → relE t k b a = false := by
  simp only [List.all_eq_true, List.mem_range, Bool.not_eq_true']
/-- The least one that is like. -/
theorem least_rep {t : TabD} (k : Nat) : ∀ a, ∃ m, m ≤ a ∧ relE t k m a = true ∧ ∀ b, b < m → relE t k b m = false := by
  intro a
  induction a using Nat.strongRecOn with
  | _ a ih =>
    by_cases h : ∃ b, b < a ∧ relE t k b a = true
    · obtain ⟨b, hb, hr⟩ := h
      obtain ⟨m, h1, h2, h3⟩ := ih b hb
      exact ⟨m, by omega, relE_trans h2 hr, h3⟩
    · refine ⟨a, Nat.le_refl _, relE_refl _ _ _, fun b hb => ?_⟩
      cases hr : relE t k b a
      · rfl
      · exact absurd ⟨b, hb, hr⟩ h
/-- Where it is not settled, there are more. -/
theorem reps_lt {t : TabD} {N k : Nat} (h : ∃ a b, a < N ∧ b < N ∧ relE t k a b = true ∧ relE t (k + 1) a b = false) : repsN t N k < repsN t N (k + 1) := by
  obtain ⟨a, b, ha, hb, h1, h2⟩ := h
  refine countP_lt (fun x _ hx => ?_) ?_
  · rw [reps_all] at hx ⊢
    intro b hb
    have := hx b hb
    cases hr : relE t (k + 1) b x
    · rfl
    · rw [relE_down (Nat.le_succ k) hr] at this; cases this
  · obtain ⟨m, m1, m2, m3⟩ := least_rep (t := t) k a
    obtain ⟨x, hx, hmx, hxk⟩ : ∃ x, x < N ∧ relE t (k + 1) m x = false ∧ relE t k m x = true := by
      cases hr : relE t (k + 1) m a
      · exact ⟨a, ha, hr, m2⟩
      · refine ⟨b, hb, ?_, relE_trans m2 h1⟩
        cases hr' : relE t (k + 1) m b
        · rfl
        · rw [relE_trans (relE_symm hr) hr'] at h2; cases h2
    obtain ⟨m', n1, n2, n3⟩ := least_rep (t := t) (k + 1) x
    have hk : relE t k m m' = true := relE_trans hxk (relE_symm (relE_down (Nat.le_succ k) n2))
    have hne : m ≠ m' := fun e => by rw [e, n2] at hmx; cases hmx
    have hlt : m < m' := by
      rcases Nat.lt_or_ge m m' with h | h
      · exact h
      · have := m3 m' (by omega)
        rw [relE_symm hk] at this; cases this
    refine ⟨m', List.mem_range.2 (by omega), reps_all.2 n3, ?_⟩
    cases hr : (List.range m').all fun b => !relE t k b m'
    · rfl
    · rw [reps_all.1 hr m hlt] at hk; cases hk
/-- If it is settled once, it stays so. -/
theorem relE_stays {t : TabD} {N k : Nat} (hN : ∀ a c, a < N → goN t a c < N) (h : ∀ a b, a < N → b < N → relE t k a b = true → relE t (k + 1) a b = true) : ∀ j a b, a < N → b < N → relE t k a b = true → relE t (k + j) a b = true
  | 0, a, b, _, _, hr => hr
  | j + 1, a, b, ha, hb, hr => by
    have h1 := relE_succ.1 (h a b ha hb hr)
    exact relE_succ.2 ⟨relE_stays hN h j a b ha hb hr, fun c hc => relE_stays hN h j _ _ (hN a c ha) (hN b c hb) (h1.2 c hc)⟩
/-- By so many columns as there are states it is settled. -/
theorem relE_settled {t : TabD} (ht : MayS t) (k a b : Nat) (ha : a ≤ t.n.length) (hb : b ≤ t.n.length) (h : relE t (t.n.length + 1) a b = true) : relE t k a b = true := by
  have hN : ∀ a c, a < t.n.length + 1 → goN t a c < t.n.length + 1 := fun a c _ => by have := goN_le ht a c; omega
  have key : ∃ j, j ≤ t.n.length + 1 ∧ ∀ a b, a < t.n.length + 1 → b < t.n.length + 1 → relE t j a b = true → relE t (j + 1) a b = true := by
    refine Classical.byContradiction fun hno => ?_
    have step : ∀ j, j ≤ t.n.length + 1 → repsN t (t.n.length + 1) j < repsN t (t.n.length + 1) (j + 1) := fun j hj => by
      refine reps_lt ?_
      refine Classical.byContradiction fun h2 => hno ⟨j, hj, fun a b ha hb hr => ?_⟩
      cases hr2 : relE t (j + 1) a b
      · exact absurd ⟨a, b, ha, hb, hr, hr2⟩ h2
      · rfl
    have up : ∀ j, j ≤ t.n.length + 2 → j ≤ repsN t (t.n.length + 1) j := by
      intro j
      induction j with
      | zero => intro _; exact Nat.zero_le _
      | succ j ih => intro hj; have := ih (by omega); have := step j (by omega); omega
    have h1 := up (t.n.length + 2) (Nat.le_refl _)
    have h2 : repsN t (t.n.length + 1) (t.n.length + 2) ≤ t.n.length + 1 := by
      have := List.countP_le_length (p := fun a => (List.range a).all fun b => !relE t (t.n.length + 2) b a) (l := List.range (t.n.length + 1))
      rw [List.length_range] at this
      exact this
    omega
  obtain ⟨j, hj, hst⟩ := key
  have h1 := relE_down hj h
  rcases Nat.le_total k j with hk | hk
  · exact relE_down hk h1
  · have := relE_stays hN hst (k - j) a b (by omega) (by omega) h1
    rwa [Nat.add_sub_cancel' hk] at this

section
variable {t : TabD}
theorem eqB_refl (t : TabD) (a : Nat) : eqB t a a = true := relE_refl _ _ _
theorem eqB_symm {a b : Nat} (h : eqB t a b = true) : eqB t b a = true := relE_symm h
theorem eqB_comm (a b : Nat) : eqB t a b = eqB t b a := by
  cases h : eqB t a b
  · cases h' : eqB t b a
    · rfl
    · rw [eqB_symm h'] at h; cases h
  · exact (eqB_symm h).symm
theorem eqB_trans {a b c : Nat} (h : eqB t a b = true) (h' : eqB t b c = true) : eqB t a c = true := relE_trans h h'
theorem eqB_end {a b : Nat} (h : eqB t a b = true) : endN t a = endN t b := relE_end h
theorem eqB_go (ht : MayS t) {a b : Nat} (ha : a ≤ t.n.length) (hb : b ≤ t.n.length) (h : eqB t a b = true) {c : Nat} (hc : c < colsN t) : eqB t (goN t a c) (goN t b c) = true :=
  (relE_succ.1 (relE_settled ht (t.n.length + 2) a b ha hb h)).2 c hc
theorem eqB_max (R : Nat → Nat → Prop) (h0 : ∀ a b, R a b → endN t a = endN t b) (h1 : ∀ a b, R a b → ∀ c, c < colsN t → R (goN t a c) (goN t b c)) {a b : Nat} (h : R a b) : eqB t a b = true := relE_max R h0 h1 _ _ _ h
/-- Like one of two that are like. -/
theorem eqB_left {a b c : Nat} (h : eqB t a b = true) : eqB t a c = eqB t b c := by
  cases h' : eqB t b c
  · cases h2 : eqB t a c
    · rfl
    · rw [eqB_trans (eqB_symm h) h2] at h'; cases h'
  · exact eqB_trans h h'
end
end Go.Proofs.Ytodohgckncnipaa
/- The least table that does the same, plainly (leastT); what a table does with a text (doesN). No program. -/
namespace Go.Proofs.Ytodohgckncnipaa
open Go.RowKit

/-- A state that is found, if none like it is there yet. -/
def insN (t : TabD) (o : List Nat) (d : Nat) : List Nat := if eqB t d t.n.length || o.any (eqB t d) then o else o ++ [d]
def bfsRow (t : TabD) (s : Nat) (o : List Nat) : List Nat := t.c.foldl (fun o c => insN t o (goN t s c.toNat)) o
def bfsF (t : TabD) : Nat → Nat → List Nat → List Nat
  | 0, _, o => o
  | f + 1, i, o => if i < o.length then bfsF t f (i + 1) (bfsRow t (o.getD i 0) o) else o
/-- One state of each kind, as they are found. -/
def orderT (t : TabD) : List Nat := bfsF t t.n.length 0 [0]
/-- Its number. -/
def numT (t : TabD) (o : List Nat) (s : Nat) : Int := idxV (eqB t s) o
def entT (t : TabD) (o : List Nat) (d : Nat) : Int := if eqB t d t.n.length then -1 else numT t o d
def colT (t : TabD) (o : List Nat) (c : Int) : List Int := o.map fun s => entT t o (goN t s c.toNat)
abbrev ColZ := List (List Int) × List (Int × Int) × List Int
/-- A range more. -/
def mrg (R : List (Int × Int)) (C : List Int) (r : Int × Int) (c : Int) : List (Int × Int) × List Int :=
  if C.getLast? = some c ∧ (R.getLast?.map fun p => p.2 + 1) = some r.1 then (R.dropLast ++ [((R.getLast?.getD (0, 0)).1, r.2)], C) else (R ++ [r], C ++ [c])
def negB (col : List Int) : Bool := col.all fun n => decide (n < 0)
def foldCol (z : ColZ) (r : Int × Int) (col : List Int) : ColZ :=
  if negB col then z
  else if idxV (fun x => x == col) z.1 < 0 then (z.1 ++ [col], mrg z.2.1 z.2.2 r z.1.length)
  else (z.1, mrg z.2.1 z.2.2 r (idxV (fun x => x == col) z.1))
def leastZ (t : TabD) (o : List Nat) : ColZ := (t.r.zip t.c).foldl (fun z x => foldCol z x.1 (colT t o x.2)) ([], [], [])
/-- The table of so many kinds, columns. -/
def mkT (o : List Nat) (z : ColZ) (e : List Int) : TabD := ⟨z.2.1, z.2.2, (List.range o.length).map fun k => z.1.map fun col => col.getD k 0, o.map fun s => e.getD s 0⟩
/-- The least table that does the same. -/
def leastT (t : TabD) : TabD := mkT (orderT t) (leastZ t (orderT t)) t.e

/-- Ranges rise apart. -/
def Asc (R : List (Int × Int)) : Prop := (∀ p ∈ R, p.1 ≤ p.2) ∧ R.Pairwise fun p q => p.2 < q.1
theorem apOk_iff {R : List (Int × Int)} {i : Nat} {p : Int × Int} (h : R[i]? = some p) : apOk R i = true ↔ p.1 ≤ p.2 ∧ ∀ q, 0 < i → R[i - 1]? = some q → q.2 < p.1 := by
  unfold apOk
  rw [List.getD_eq_getElem?_getD, h]
  simp only [Option.getD_some, Bool.and_eq_true, Bool.or_eq_true, decide_eq_true_eq]
  refine and_congr_right fun _ => ?_
  have hi := (List.getElem?_eq_some_iff.1 h).1
  rcases Nat.eq_zero_or_pos i with rfl | h0
  · simp
  · have hq : R[i - 1]? = some (R[i - 1]'(by omega)) := List.getElem?_eq_getElem (by omega)
    rw [List.getD_eq_getElem?_getD, hq]
    simp only [Option.getD_some]
    constructor
    · rintro (h | h) q _ hq'
      · omega
      · obtain rfl := Option.some.inj hq'; exact h
    · intro h
      exact .inr (h _ h0 rfl)
theorem apartB_iff {R : List (Int × Int)} : apartB R = true ↔ Asc R := by
  unfold apartB
  rw [List.all_eq_true]
  constructor
  · intro h
    have h1 : ∀ i p, R[i]? = some p → p.1 ≤ p.2 ∧ ∀ q, 0 < i → R[i - 1]? = some q → q.2 < p.1 := fun i p hp => (apOk_iff hp).1 (h i (List.mem_range.2 (List.getElem?_eq_some_iff.1 hp).1))
    refine ⟨fun p hp => ?_, List.pairwise_iff_getElem.2 fun i j hi hj hij => ?_⟩
    · obtain ⟨i, hi⟩ := List.getElem?_of_mem hp
      exact (h1 i p hi).1
    · have key : ∀ d i, (hd : i + d + 1 < R.length) → (R[i]'(by omega)).2 < (R[i + d + 1]'hd).1 := by
        intro d
        induction d with
        | zero =>
          intro i hd
          exact (h1 (i + 1) _ (List.getElem?_eq_getElem hd)).2 _ (by omega) (List.getElem?_eq_getElem (by omega))
        | succ d ih =>
          intro i hd
          have k1 := ih i (by omega)
          have k2 := (h1 (i + d + 1) _ (List.getElem?_eq_getElem (by omega))).1
          have k3 := (h1 (i + (d + 1) + 1) _ (List.getElem?_eq_getElem hd)).2 (R[i + d + 1]'(by omega)) (by omega) (by rw [show i + (d + 1) + 1 - 1 = i + d + 1 by omega]; exact List.getElem?_eq_getElem _)
          omega
      obtain ⟨d, rfl⟩ : ∃ d, j = i + d + 1 := ⟨j - i - 1, by omega⟩
      exact key d i hj
  · rintro ⟨h1, h2⟩ i hi
    have hil := List.mem_range.1 hi
    have hp : R[i]? = some R[i] := List.getElem?_eq_getElem hil
    refine (apOk_iff hp).2 ⟨h1 _ (List.getElem_mem hil), fun q h0 hq => ?_⟩
    obtain ⟨hi', rfl⟩ := List.getElem?_eq_some_iff.1 hq
    exact List.pairwise_iff_getElem.1 h2 (i - 1) i hi' hil (by omega)
/-- Where a rune's range stands. -/
theorem classL_of {R : List (Int × Int)} (h : Asc R) {i : Nat} {p : Int × Int} (hp : R[i]? = some p) {x : Int} (h1 : p.1 ≤ x) (h2 : x ≤ p.2) : classL R x = i := by
  refine idxV_found hp (by simp [holdB, h1, h2]) fun j y hj hy => ?_
  obtain ⟨hi, rfl⟩ := List.getElem?_eq_some_iff.1 hp
  obtain ⟨hj', rfl⟩ := List.getElem?_eq_some_iff.1 hy
  have := List.pairwise_iff_getElem.1 h.2 j i hj' hi hj
  simp [holdB]
  omega
theorem classL_cases (R : List (Int × Int)) (x : Int) : (classL R x = -1 ∧ ∀ p ∈ R, ¬ (p.1 ≤ x ∧ x ≤ p.2)) ∨ ∃ (i : Nat) (p : Int × Int), R[i]? = some p ∧ p.1 ≤ x ∧ x ≤ p.2 ∧ classL R x = i := by
  rcases idx_cases (holdB x) R with ⟨k, p, h1, h2, h3, -⟩ | ⟨h1, h2, -⟩
  · refine .inr ⟨k, p, h1, ?_, ?_, h3⟩
    · simp [holdB] at h2; exact h2.1
    · simp [holdB] at h2; exact h2.2
  · refine .inl ⟨h1, fun p hp hx => ?_⟩
    rw [List.find?_eq_none] at h2
    exact h2 p hp (by simp [holdB, hx.1, hx.2])

/-- A step, rune by rune. -/
def stN (t : TabD) (s : Nat) (x : Int) : Nat := if classL t.r x < 0 then t.n.length else goN t s (t.c.getD (classL t.r x).toNat 0).toNat
/-- What a table does with a text, from a state on. -/
def doesN (t : TabD) : Nat → List Int → Int
  | s, [] => endN t s
  | s, x :: l => doesN t (stN t s x) l
section
variable {t : TabD}
theorem stN_le (h : MayS t) (s : Nat) (x : Int) : stN t s x ≤ t.n.length := by
  unfold stN
  split
  · exact Nat.le_refl _
  · exact goN_le h _ _
theorem goN_none (t : TabD) (c : Nat) : goN t t.n.length c = t.n.length := by unfold goN; rw [if_neg (by omega)]
theorem stN_none (t : TabD) (x : Int) : stN t t.n.length x = t.n.length := by unfold stN; rw [goN_none]; split <;> rfl
theorem endN_none (t : TabD) : endN t t.n.length = -1 := by unfold endN; rw [if_neg (by omega)]
theorem doesN_none (t : TabD) : ∀ l, doesN t t.n.length l = -1
  | [] => endN_none t
  | x :: l => by rw [doesN, stN_none]; exact doesN_none t l
/-- A range's rune goes as its column. -/
theorem stN_of (h : MayS t) {i : Nat} {p : Int × Int} {c : Int} (hp : t.r[i]? = some p) (hc : t.c[i]? = some c) {x : Int} (h1 : p.1 ≤ x) (h2 : x ≤ p.2) (s : Nat) : stN t s x = goN t s c.toNat := by
  have e := classL_of (apartB_iff.1 h.ap) hp h1 h2
  unfold stN
  rw [e, if_neg (by omega), Int.toNat_natCast, List.getD_eq_getElem?_getD, hc]
  rfl
theorem stN_out {x : Int} (h : ∀ p ∈ t.r, ¬ (p.1 ≤ x ∧ x ≤ p.2)) (s : Nat) : stN t s x = t.n.length := by
  rcases classL_cases t.r x with ⟨e, _⟩ | ⟨i, p, hp, h1, h2, _⟩
  · unfold stN; rw [e]; rfl
  · exact absurd ⟨h1, h2⟩ (h p (List.mem_of_getElem? hp))
theorem col_lt (h : MayS t) {c : Int} (hc : c ∈ t.c) : c.toNat < colsN t := by
  have h1 := (h.cb c hc).1
  have h2 := colsL_mem hc
  unfold colsN
  omega
/-- Each column has a rune. -/
theorem col_rune (h : MayS t) {c : Nat} (hc : c < colsN t) : ∃ x, ∀ s, stN t s x = goN t s c := by
  have hf := h.fill
  unfold fillB at hf
  rw [List.all_eq_true] at hf
  have := hf c (List.mem_range.2 hc)
  rw [List.contains_iff_mem] at this
  obtain ⟨i, hi⟩ := List.getElem?_of_mem this
  have hil := (List.getElem?_eq_some_iff.1 hi).1
  have hp : t.r[i]? = some (t.r[i]'(by have := h.cl; omega)) := List.getElem?_eq_getElem _
  have hle := (apartB_iff.1 h.ap).1 _ (List.mem_of_getElem? hp)
  exact ⟨_, fun s => by rw [stN_of h hp hi (Int.le_refl _) hle s, Int.toNat_natCast]⟩
theorem doesN_of_eqB (h : MayS t) : ∀ (l : List Int) (a b : Nat), a ≤ t.n.length → b ≤ t.n.length → eqB t a b = true → doesN t a l = doesN t b l
  | [], a, b, _, _, he => eqB_end he
  | x :: l, a, b, ha, hb, he => by
    rw [doesN, doesN]
    rcases classL_cases t.r x with ⟨e, hno⟩ | ⟨i, p, hp, h1, h2, _⟩
    · rw [stN_out hno, stN_out hno]
    · have hil := (List.getElem?_eq_some_iff.1 hp).1
      have hc : t.c[i]? = some (t.c[i]'(by have := h.cl; omega)) := List.getElem?_eq_getElem _
      rw [stN_of h hp hc h1 h2, stN_of h hp hc h1 h2]
      exact doesN_of_eqB h l _ _ (goN_le h _ _) (goN_le h _ _) (eqB_go h ha hb he (col_lt h (List.mem_of_getElem? hc)))
/-- States that no text tells apart. -/
theorem eqB_iff (h : MayS t) {a b : Nat} (ha : a ≤ t.n.length) (hb : b ≤ t.n.length) : eqB t a b = true ↔ doesN t a = doesN t b := by
  refine ⟨fun he => funext fun l => doesN_of_eqB h l a b ha hb he, fun he => ?_⟩
  refine eqB_max (fun a b => doesN t a = doesN t b) (fun a b hr => congrFun hr []) (fun a b hr c hc => ?_) he
  obtain ⟨x, hx⟩ := col_rune h hc
  funext l
  have := congrFun hr (x :: l)
  rw [doesN, doesN, hx, hx] at this
  exact this
end

/-- The runes from one on to another. -/
def ints (lo hi : Int) : List Int := (List.range (hi + 1 - lo).toNat).map fun i : Nat => lo + i
theorem mem_ints {lo hi x : Int} : x ∈ ints lo hi ↔ lo ≤ x ∧ x ≤ hi := by
  unfold ints
  rw [List.mem_map]
  constructor
  · rintro ⟨i, hi, rfl⟩
    have := List.mem_range.1 hi
    omega
  · rintro ⟨h1, h2⟩
    exact ⟨(x - lo).toNat, List.mem_range.2 (by omega), by omega⟩
theorem ints_asc (lo hi : Int) : (ints lo hi).Pairwise (· < ·) := by
  unfold ints
  rw [List.pairwise_map]
  exact List.pairwise_lt_range.imp (fun h => by omega)
theorem ints_one (lo : Int) : ints lo lo = [lo] := by
  unfold ints
  rw [show (lo + 1 - lo).toNat = 1 by omega]
  simp
theorem ints_snoc {lo hi : Int} (h : lo ≤ hi + 1) : ints lo (hi + 1) = ints lo hi ++ [hi + 1] := by
  unfold ints
  rw [show (hi + 1 + 1 - lo).toNat = (hi + 1 - lo).toNat + 1 by omega, List.range_succ, List.map_append]
  simp
  omega
/-- All runes of a table. -/
def runesT (t : TabD) : List Int := t.r.flatMap fun p => ints p.1 p.2
theorem mem_runes {t : TabD} {x : Int} : x ∈ runesT t ↔ ∃ p ∈ t.r, p.1 ≤ x ∧ x ≤ p.2 := by
  unfold runesT
  rw [List.mem_flatMap]
  simp only [mem_ints]
theorem flat_asc : ∀ {R : List (Int × Int)}, Asc R → (R.flatMap fun p => ints p.1 p.2).Pairwise (· < ·)
  | [], _ => List.Pairwise.nil
  | p :: R, ⟨h1, h2⟩ => by
    rw [List.flatMap_cons, List.pairwise_append]
    rw [List.pairwise_cons] at h2
    refine ⟨ints_asc _ _, flat_asc ⟨fun q hq => h1 q (List.mem_cons_of_mem _ hq), h2.2⟩, fun x hx y hy => ?_⟩
    obtain ⟨q, hq, hy⟩ := List.mem_flatMap.1 hy
    have := h2.1 q hq
    rw [mem_ints] at hx hy
    omega
theorem runes_asc {t : TabD} (h : MayS t) : (runesT t).Pairwise (· < ·) := flat_asc (apartB_iff.1 h.ap)
/-- Rising lists of the same numbers are the same. -/
theorem asc_eq : ∀ {X Y : List Int}, X.Pairwise (· < ·) → Y.Pairwise (· < ·) → (∀ x, x ∈ X ↔ x ∈ Y) → X = Y
  | [], [], _, _, _ => rfl
  | [], y :: Y, _, _, h => absurd ((h y).2 (by simp)) (by simp)
  | x :: X, [], _, _, h => absurd ((h x).1 (by simp)) (by simp)
  | x :: X, y :: Y, hX, hY, h => by
    rw [List.pairwise_cons] at hX hY
    obtain rfl : x = y := by
      have h1 := (h x).1 (by simp)
      have h2 := (h y).2 (by simp)
      rw [List.mem_cons] at h1 h2
      rcases h1 with h1 | h1
      · exact h1
      · rcases h2 with h2 | h2
        · exact h2.symm
        · have := hX.1 y h2; have := hY.1 x h1; omega
    have e : X = Y := asc_eq hX.2 hY.2 (fun z => by
      have := h z
      rw [List.mem_cons, List.mem_cons] at this
      constructor
      · intro hz
        have h1 := hX.1 z hz
        rcases this.1 (.inr hz) with e | e
        · omega
        · exact e
      · intro hz
        have h1 := hY.1 z hz
        rcases this.2 (.inr hz) with e | e
        · omega
        · exact e)
    rw [e]
/-- Going through the ranges is going through the runes. -/
theorem fold_runes {β : Type} (G : β → Int → β) (H : β → (Int × Int) × Int → β) : ∀ (R : List (Int × Int)) (C : List Int), C.length = R.length → (∀ (i : Nat) (p : Int × Int) (c : Int), R[i]? = some p → C[i]? = some c → ∀ b, (ints p.1 p.2).foldl G b = H b (p, c)) → ∀ b, (R.flatMap fun p => ints p.1 p.2).foldl G b = (R.zip C).foldl H b
  | [], [], _, _, _ => rfl
  | [], c :: C, h, _, _ => by simp at h
  | p :: R, [], h, _, _ => by simp at h
  | p :: R, c :: C, hl, h, b => by
    rw [List.flatMap_cons, List.foldl_append, List.zip_cons_cons, List.foldl_cons, h 0 p c rfl rfl b]
    exact fold_runes G H R C (by simpa using hl) (fun i p' c' hp hc => h (i + 1) p' c' hp hc) _
theorem fold_same {β : Type} {G : β → Int → β} {K : β → β} (hK : ∀ b, K (K b) = K b) : ∀ (L : List Int), L ≠ [] → (∀ x ∈ L, ∀ b, G b x = K b) → ∀ b, L.foldl G b = K b
  | [x], _, h, b => h x (by simp) b
  | x :: y :: L, _, h, b => by
    rw [List.foldl_cons, h x (by simp), fold_same hK (y :: L) (by simp) (fun z hz => h z (List.mem_cons_of_mem _ hz)), hK]
theorem ints_ne {lo hi : Int} (h : lo ≤ hi) : ints lo hi ≠ [] := fun e => by
  have : lo ∈ ints lo hi := mem_ints.2 ⟨Int.le_refl _, h⟩
  rw [e] at this
  cases this

section
variable {t : TabD}
theorem insN_idem (o : List Nat) (d : Nat) : insN t (insN t o d) d = insN t o d := by
  unfold insN
  by_cases h : (eqB t d t.n.length || o.any (eqB t d)) = true
  · rw [if_pos h, if_pos h]
  · rw [if_neg h, if_pos (by simp [eqB_refl])]
theorem bfsRow_runes (h : MayS t) (s : Nat) (o : List Nat) : bfsRow t s o = (runesT t).foldl (fun o x => insN t o (stN t s x)) o := by
  unfold bfsRow runesT
  rw [fold_runes (fun o x => insN t o (stN t s x)) (fun o (x : (Int × Int) × Int) => insN t o (goN t s x.2.toNat)) t.r t.c h.cl (fun i p c hp hc b => ?_)]
  · have e : t.c = (t.r.zip t.c).map Prod.snd := by rw [List.map_snd_zip]; have := h.cl; omega
    conv => lhs; rw [e]
    rw [List.foldl_map]
  · exact fold_same (K := fun o => insN t o (goN t s c.toNat)) (fun b => insN_idem b _) _ (ints_ne ((apartB_iff.1 h.ap).1 p (List.mem_of_getElem? hp))) (fun x hx b => by
      obtain ⟨h1, h2⟩ := mem_ints.1 hx
      rw [stN_of h hp hc h1 h2]) b
/-- The column of a rune. -/
def colX (t : TabD) (o : List Nat) (x : Int) : List Int := o.map fun s => entT t o (stN t s x)
theorem mrg_mrg (R : List (Int × Int)) (C : List Int) (lo hi h2 c : Int) : mrg (mrg R C (lo, hi) c).1 (mrg R C (lo, hi) c).2 (hi + 1, h2) c = mrg R C (lo, h2) c := by
  unfold mrg
  by_cases h : C.getLast? = some c ∧ (R.getLast?.map fun p => p.2 + 1) = some lo
  · rw [if_pos h]
    simp only
    rw [if_pos ⟨h.1, by simp⟩, if_pos h]
    simp
  · rw [if_neg h]
    simp only
    rw [if_pos ⟨by simp, by simp⟩, if_neg h]
    simp
theorem mrg_len {R : List (Int × Int)} {C : List Int} (hl : C.length = R.length) (r : Int × Int) (c : Int) : (mrg R C r c).2.length = (mrg R C r c).1.length := by
  unfold mrg
  split
  · rename_i h
    have h0 : R ≠ [] := fun e => by rw [e] at h; simp at h
    have : 0 < R.length := List.length_pos_iff.2 h0
    simp; omega
  · simp [hl]
theorem idx_self {col : List Int} {L : List (List Int)} (h : idxV (fun x => x == col) L < 0) : idxV (fun x => x == col) (L ++ [col]) = L.length := by
  refine idxV_found (x := col) (by simp) (by simp) fun j y hj hy => ?_
  rw [List.getElem?_append_left hj] at hy
  rcases idx_cases (fun x => x == col) L with ⟨k, x, h1, h2, h3, -⟩ | ⟨-, h2, -⟩
  · rw [h3] at h; omega
  · rw [List.find?_eq_none] at h2
    have := h2 y (List.mem_of_getElem? hy)
    simpa using this
theorem foldCol_two (z : ColZ) (lo hi h2 : Int) (col : List Int) : foldCol (foldCol z (lo, hi) col) (hi + 1, h2) col = foldCol z (lo, h2) col := by
  unfold foldCol
  by_cases hn : negB col = true
  · simp only [hn, if_true]
  · simp only [hn, Bool.false_eq_true, if_false]
    by_cases hi' : idxV (fun x => x == col) z.1 < 0
    · simp only [if_pos hi']
      rw [idx_self hi', if_neg (by omega)]
      simp only [mrg_mrg]
    · simp only [if_neg hi']
      simp only [mrg_mrg]
theorem foldCol_len {z : ColZ} (hl : z.2.2.length = z.2.1.length) (r : Int × Int) (col : List Int) : (foldCol z r col).2.2.length = (foldCol z r col).2.1.length := by
  unfold foldCol
  split
  · exact hl
  · split <;> exact mrg_len hl _ _
theorem foldCol_ints (f : Int → List Int) (col : List Int) : ∀ (d : Nat) (z : ColZ) (lo : Int), z.2.2.length = z.2.1.length → (∀ x, lo ≤ x → x ≤ lo + d → f x = col) → (ints lo (lo + d)).foldl (fun z x => foldCol z (x, x) (f x)) z = foldCol z (lo, lo + d) col
  | 0, z, lo, hl, h => by
    rw [Int.natCast_zero, Int.add_zero, ints_one]
    rw [List.foldl_cons, List.foldl_nil, h lo (by omega) (by omega)]
  | d + 1, z, lo, hl, h => by
    have e : lo + ((d + 1 : Nat) : Int) = lo + d + 1 := by omega
    rw [e, ints_snoc (by omega), List.foldl_append, foldCol_ints f col d z lo hl (fun x h1 h2 => h x h1 (by omega))]
    rw [List.foldl_cons, List.foldl_nil, h (lo + d + 1) (by omega) (by omega)]
    exact foldCol_two z lo (lo + d) _ col
/-- With the lengths kept. -/
theorem leastZ_runes (h : MayS t) (o : List Nat) : leastZ t o = (runesT t).foldl (fun z x => foldCol z (x, x) (colX t o x)) ([], [], []) := by
  have key : ∀ (R : List (Int × Int)) (C : List Int), C.length = R.length → (∀ (i : Nat) (p : Int × Int) (c : Int), R[i]? = some p → C[i]? = some c → p.1 ≤ p.2 ∧ ∀ x, p.1 ≤ x → x ≤ p.2 → colX t o x = colT t o c) → ∀ z : ColZ, z.2.2.length = z.2.1.length →
      (R.flatMap fun p => ints p.1 p.2).foldl (fun z x => foldCol z (x, x) (colX t o x)) z = (R.zip C).foldl (fun z x => foldCol z x.1 (colT t o x.2)) z := by
    intro R
    induction R with
    | nil => intro C hC _ z _; rfl
    | cons p R ih =>
      intro C hC hh z hz
      cases C with
      | nil => simp at hC
      | cons c C =>
        obtain ⟨h1, h2⟩ := hh 0 p c rfl rfl
        have e1 := foldCol_ints (colX t o) (colT t o c) (p.2 - p.1).toNat z p.1 hz (fun x k1 k2 => h2 x k1 (by omega))
        rw [show p.1 + ((p.2 - p.1).toNat : Int) = p.2 by omega] at e1
        rw [List.flatMap_cons, List.foldl_append, List.zip_cons_cons, List.foldl_cons, e1]
        exact ih C (by simpa using hC) (fun i p' c' hp hc => hh (i + 1) p' c' hp hc) _ (foldCol_len hz _ _)
  refine (key t.r t.c h.cl (fun i p c hp hc => ⟨(apartB_iff.1 h.ap).1 p (List.mem_of_getElem? hp), fun x h1 h2 => ?_⟩) ([], [], []) rfl).symm
  unfold colX colT
  refine List.map_congr_left fun s _ => ?_
  rw [stN_of h hp hc h1 h2]
end
end Go.Proofs.Ytodohgckncnipaa
/- The least table: which states are found; it may be, and does the same; two tables that do the same have the same least one. No program. -/
namespace Go.Proofs.Ytodohgckncnipaa
open Go.RowKit

section
variable {t : TabD}
/-- No two of them are like; all but the first lead to an end. -/
structure Ord (t : TabD) (o : List Nat) : Prop where
  pw : o.Pairwise fun a b => eqB t a b = false
  lt : ∀ s ∈ o, s < t.n.length
  live : ∀ (i : Nat) (s : Nat), 0 < i → o[i]? = some s → eqB t s t.n.length = false
  first : o[0]? = some 0
theorem Ord.ne {o : List Nat} (h : Ord t o) : 0 < o.length := by
  rcases Nat.eq_zero_or_pos o.length with h0 | h0
  · have := h.first
    rw [List.length_eq_zero_iff.1 h0] at this
    cases this
  · exact h0
theorem Ord.start (ht : MayS t) : Ord t [0] :=
  ⟨by simp, fun s hs => by simp at hs; subst hs; exact ht.nl, fun i s hi hs => by
    match i, hi with
    | i + 1, _ => simp at hs, rfl⟩
theorem insN_cases (t : TabD) (o : List Nat) (d : Nat) : (insN t o d = o ∧ (eqB t d t.n.length = true ∨ o.any (eqB t d) = true)) ∨ (insN t o d = o ++ [d] ∧ eqB t d t.n.length = false ∧ o.any (eqB t d) = false) := by
  unfold insN
  by_cases h : (eqB t d t.n.length || o.any (eqB t d)) = true
  · rw [if_pos h]
    exact .inl ⟨rfl, by simpa using h⟩
  · rw [if_neg h]
    simp only [Bool.or_eq_true, not_or, Bool.not_eq_true] at h
    exact .inr ⟨rfl, h.1, h.2⟩
theorem Ord.ins {o : List Nat} (h : Ord t o) {d : Nat} (hd : d ≤ t.n.length) : Ord t (insN t o d) := by
  rcases insN_cases t o d with ⟨e, _⟩ | ⟨e, h1, h2⟩
  · rw [e]; exact h
  · rw [e]
    have hdl : d < t.n.length := by
      rcases Nat.lt_or_ge d t.n.length with h | h
      · exact h
      · rw [show d = t.n.length by omega, eqB_refl] at h1; cases h1
    rw [List.any_eq_false] at h2
    refine ⟨List.pairwise_append.2 ⟨h.pw, by simp, fun a ha b hb => ?_⟩, fun s hs => ?_, fun i s hi hs => ?_, ?_⟩
    · rw [List.mem_singleton] at hb
      subst hb
      rw [eqB_comm]
      simpa using h2 a ha
    · rcases List.mem_append.1 hs with hs | hs
      · exact h.lt s hs
      · rw [List.mem_singleton] at hs; rw [hs]; exact hdl
    · by_cases hil : i < o.length
      · rw [List.getElem?_append_left hil] at hs
        exact h.live i s hi hs
      · rw [List.getElem?_append_right (by omega)] at hs
        obtain ⟨_, rfl⟩ := List.getElem?_eq_some_iff.1 hs
        simpa using h1
    · rw [List.getElem?_append_left h.ne]; exact h.first
/-- What is found: it is there, or leads nowhere. -/
def Fnd (t : TabD) (o : List Nat) (d : Nat) : Prop := eqB t d t.n.length = true ∨ o.any (eqB t d) = true
theorem Fnd.app {o : List Nat} {d : Nat} (h : Fnd t o d) (r : List Nat) : Fnd t (o ++ r) d := by
  rcases h with h | h
  · exact .inl h
  · exact .inr (by rw [List.any_append, h, Bool.true_or])
theorem insN_pre (t : TabD) (o : List Nat) (d : Nat) : o <+: insN t o d ∧ Fnd t (insN t o d) d := by
  rcases insN_cases t o d with ⟨e, h⟩ | ⟨e, h1, h2⟩
  · rw [e]; exact ⟨List.prefix_refl _, h⟩
  · rw [e]; exact ⟨List.prefix_append _ _, .inr (by simp [eqB_refl])⟩
theorem Fnd.pre {o o' : List Nat} {d : Nat} (h : Fnd t o d) (hp : o <+: o') : Fnd t o' d := by
  obtain ⟨r, rfl⟩ := hp
  exact h.app r
theorem fold_ins (ht : MayS t) (s : Nat) : ∀ (C : List Int) (o : List Nat), Ord t o → Ord t (C.foldl (fun o c => insN t o (goN t s c.toNat)) o) ∧ o <+: C.foldl (fun o c => insN t o (goN t s c.toNat)) o ∧ ∀ c ∈ C, Fnd t (C.foldl (fun o c => insN t o (goN t s c.toNat)) o) (goN t s c.toNat)
  | [], o, h => ⟨h, List.prefix_refl _, fun c hc => by cases hc⟩
  | c :: C, o, h => by
    obtain ⟨h1, h2, h3⟩ := fold_ins ht s C _ (h.ins (goN_le ht s c.toNat))
    obtain ⟨k1, k2⟩ := insN_pre t o (goN t s c.toNat)
    refine ⟨h1, k1.trans h2, fun d hd => ?_⟩
    rcases List.mem_cons.1 hd with rfl | hd
    · exact k2.pre h2
    · exact h3 d hd
/-- All that the first ones lead to is found. -/
def ClsO (t : TabD) (o : List Nat) (i : Nat) : Prop := ∀ (j s : Nat), j < i → o[j]? = some s → ∀ c ∈ t.c, Fnd t o (goN t s c.toNat)
theorem Ord.len_le {o : List Nat} (h : Ord t o) : o.length ≤ t.n.length := by
  have hnd : o.Nodup := h.pw.imp (fun {a b} hab e => by rw [e, eqB_refl] at hab; cases hab)
  have key : ∀ (n : Nat) (l : List Nat), l.Nodup → (∀ s ∈ l, s < n) → l.length ≤ n := by
    intro n
    induction n with
    | zero =>
      intro l _ hl
      cases l with
      | nil => exact Nat.le_refl _
      | cons x l => exact absurd (hl x (by simp)) (Nat.not_lt_zero _)
    | succ n ih =>
      intro l hl hb
      have h1 := ih (l.erase n) (hl.erase n) (fun s hs => by
        have h2 := hb s (List.mem_of_mem_erase hs)
        have h3 : s ≠ n := fun e => by
          subst e
          exact (List.Nodup.not_mem_erase hl) hs
        omega)
      have := List.length_erase (a := n) (l := l)
      split at this <;> omega
  exact key _ o hnd h.lt
theorem bfsF_spec (ht : MayS t) : ∀ (f i : Nat) (o : List Nat), Ord t o → ClsO t o i → i ≤ o.length → t.n.length ≤ f + i → Ord t (bfsF t f i o) ∧ ClsO t (bfsF t f i o) (bfsF t f i o).length ∧ o <+: bfsF t f i o
  | 0, i, o, h1, h2, h3, h4 => by
    have := h1.len_le
    obtain rfl : i = o.length := by omega
    exact ⟨h1, h2, List.prefix_refl _⟩
  | f + 1, i, o, h1, h2, h3, h4 => by
    rw [bfsF]
    by_cases hi : i < o.length
    · rw [if_pos hi]
      obtain ⟨k1, k2, k3⟩ := fold_ins ht (o.getD i 0) t.c o h1
      have hge : (o.getD i 0) = o[i] := by rw [List.getD_eq_getElem?_getD, List.getElem?_eq_getElem hi]; rfl
      obtain ⟨m1, m2, m3⟩ := bfsF_spec ht f (i + 1) (bfsRow t (o.getD i 0) o) k1 (fun j s hj hs c hc => by
        by_cases hji : j < i
        · have hs' : o[j]? = some s := by
            obtain ⟨r, hr⟩ := k2
            have : (bfsRow t (o.getD i 0) o)[j]? = o[j]? := by unfold bfsRow; rw [← hr, List.getElem?_append_left (by omega)]
            rw [← this]; exact hs
          exact (h2 j s hji hs' c hc).pre k2
        · obtain rfl : j = i := by omega
          have hs' : o[j]? = some s := by
            obtain ⟨r, hr⟩ := k2
            have : (bfsRow t (o.getD j 0) o)[j]? = o[j]? := by unfold bfsRow; rw [← hr, List.getElem?_append_left (by omega)]
            rw [← this]; exact hs
          have e : o.getD j 0 = s := by rw [List.getD_eq_getElem?_getD, hs']; rfl
          have := k3 c hc
          rw [e] at this ⊢
          exact this) (Nat.lt_of_lt_of_le hi k2.length_le) (by omega)
      exact ⟨m1, m2, k2.trans m3⟩
    · rw [if_neg hi]
      obtain rfl : i = o.length := by omega
      exact ⟨h1, h2, List.prefix_refl _⟩
theorem order_ok (ht : MayS t) : Ord t (orderT t) ∧ ClsO t (orderT t) (orderT t).length := by
  obtain ⟨h1, h2, -⟩ := bfsF_spec ht t.n.length 0 [0] (Ord.start ht) (fun j s hj _ _ _ => absurd hj (Nat.not_lt_zero _)) (by simp) (by omega)
  exact ⟨h1, h2⟩

/-- A number tells a state like it. -/
theorem numT_spec {o : List Nat} {d : Nat} (h : o.any (eqB t d) = true) : ∃ (k s : Nat), numT t o d = k ∧ o[k]? = some s ∧ eqB t d s = true := by
  rcases idx_cases (eqB t d) o with ⟨k, x, h1, h2, h3, -⟩ | ⟨-, -, h3⟩
  · exact ⟨k, x, h3, h1, h2⟩
  · rw [h3] at h; cases h
/-- What an entry says. -/
theorem entT_cases {o : List Nat} {d : Nat} (h : Fnd t o d) : (eqB t d t.n.length = true ∧ entT t o d = -1) ∨ ∃ (k s : Nat), eqB t d t.n.length = false ∧ entT t o d = k ∧ o[k]? = some s ∧ eqB t d s = true := by
  unfold entT
  cases hd : eqB t d t.n.length with
  | true => exact .inl ⟨rfl, by simp⟩
  | false =>
    rcases h with h | h
    · rw [h] at hd; cases hd
    · obtain ⟨k, s, h1, h2, h3⟩ := numT_spec h
      exact .inr ⟨k, s, rfl, by rw [if_neg (by simp), h1], h2, h3⟩
/-- By each rune what is found leads to what is found. -/
theorem ClsO.rune (ht : MayS t) {o : List Nat} (h : ClsO t o o.length) {s : Nat} (hs : s ∈ o) (x : Int) : Fnd t o (stN t s x) := by
  rcases classL_cases t.r x with ⟨_, hno⟩ | ⟨i, p, hp, h1, h2, _⟩
  · rw [stN_out hno]; exact .inl (eqB_refl _ _)
  · have hil := (List.getElem?_eq_some_iff.1 hp).1
    have hc : t.c[i]? = some (t.c[i]'(by have := ht.cl; omega)) := List.getElem?_eq_getElem _
    rw [stN_of ht hp hc h1 h2]
    obtain ⟨j, hj⟩ := List.getElem?_of_mem hs
    exact h j s (List.getElem?_eq_some_iff.1 hj).1 hj _ (List.mem_of_getElem? hc)
end

/-- Columns, ranges of the runes that were gone through. -/
structure ZOk (f : Int → List Int) (xs : List Int) (z : ColZ) : Prop where
  asc : Asc z.2.1
  len : z.2.2.length = z.2.1.length
  cb : ∀ c ∈ z.2.2, 0 ≤ c ∧ c < z.1.length
  fill : ∀ k : Nat, k < z.1.length → (k : Int) ∈ z.2.2
  le : z.1.length ≤ z.2.1.length
  hi : ∀ p ∈ z.2.1, ∃ x ∈ xs, p.2 ≤ x
  sound : ∀ (j : Nat) (p : Int × Int) (c : Int), z.2.1[j]? = some p → z.2.2[j]? = some c → ∀ x, p.1 ≤ x → x ≤ p.2 → x ∈ xs ∧ z.1[c.toNat]? = some (f x) ∧ negB (f x) = false
  comp : ∀ x ∈ xs, negB (f x) = false → ∃ p ∈ z.2.1, p.1 ≤ x ∧ x ≤ p.2
  cols : ∀ col ∈ z.1, ∃ x ∈ xs, col = f x
theorem ZOk.nil (f : Int → List Int) : ZOk f [] ([], [], []) :=
  ⟨⟨fun p h => (by cases h), List.Pairwise.nil⟩, rfl, fun c h => (by cases h), fun k h => absurd h (Nat.not_lt_zero _), Nat.le_refl _, fun p h => (by cases h), fun j p c h => (by cases h), fun x h => (by cases h), fun c h => (by cases h)⟩
theorem getLast_some {α : Type} {L : List α} {c : α} (h : L.getLast? = some c) : ∃ L', L = L' ++ [c] := by
  have hne : L ≠ [] := fun e => by rw [e] at h; cases h
  refine ⟨L.dropLast, ?_⟩
  rw [List.getLast?_eq_some_getLast hne] at h
  obtain rfl := Option.some.inj h
  exact (List.dropLast_concat_getLast hne).symm
/-- A rune more, whose column has a number. -/
theorem ZOk.add {f : Int → List Int} {xs : List Int} {cols cols' : List (List Int)} {R : List (Int × Int)} {C : List Int} (h : ZOk f xs (cols, R, C)) {x : Int} (hx : ∀ y ∈ xs, y < x) (hn : negB (f x) = false) {k : Nat} (hk : cols'[k]? = some (f x)) (hpre : cols <+: cols') (hlen : cols'.length = cols.length ∨ (cols'.length = cols.length + 1 ∧ k = cols.length)) (hcol : ∀ c ∈ cols', ∃ y ∈ xs ++ [x], c = f y) :
    ZOk f (xs ++ [x]) (cols', mrg R C (x, x) k) := by
  have hkl := (List.getElem?_eq_some_iff.1 hk).1
  have hle := hpre.length_le
  have keep : ∀ {j : Nat} {c : List Int}, cols[j]? = some c → cols'[j]? = some c := fun {j c} hj => by
    obtain ⟨r, rfl⟩ := hpre
    rw [List.getElem?_append_left (List.getElem?_eq_some_iff.1 hj).1]
    exact hj
  have hxs : ∀ p ∈ R, p.2 < x := fun p hp => by
    obtain ⟨y, hy, h1⟩ := h.hi p hp
    have := hx y hy
    omega
  have hcb : ∀ c ∈ C, 0 ≤ c ∧ c < cols.length := h.cb
  unfold mrg
  split
  · rename_i hm
    obtain ⟨C', hC'⟩ := getLast_some hm.1
    obtain ⟨q, hq, hq2⟩ : ∃ q, R.getLast? = some q ∧ q.2 + 1 = x := by
      cases hR : R.getLast? with
      | none => rw [hR] at hm; simp at hm
      | some q => rw [hR] at hm; exact ⟨q, rfl, by simpa using hm.2⟩
    obtain ⟨R', hR'⟩ := getLast_some hq
    subst hC' hR'
    have hll : C'.length = R'.length := by have := h.len; simpa using this
    have hasc := h.asc
    simp only [List.dropLast_concat, hq, Option.getD_some]
    have hq1 : q.1 ≤ q.2 := hasc.1 q (by simp)
    have hkc : (k : Int) < cols.length := (hcb k (by simp)).2
    have hlen' : cols'.length = cols.length := by
      rcases hlen with h | ⟨_, h⟩
      · exact h
      · omega
    have hpw := List.pairwise_append.1 hasc.2
    refine ⟨⟨fun p hp => ?_, List.pairwise_append.2 ⟨hpw.1, by simp, fun a ha b hb => ?_⟩⟩, by simp [hll], fun c hc => by rw [hlen']; exact hcb c hc, fun j hj => h.fill j (by rw [← hlen']; exact hj), ?_, fun p hp => ?_, fun j p c hp hc y h1 h2 => ?_, fun y hy hy2 => ?_, hcol⟩
    · simp only [List.mem_append, List.mem_singleton] at hp
      rcases hp with hp | rfl
      · exact hasc.1 p (by simp [hp])
      · simp only; omega
    · rw [List.mem_singleton] at hb
      subst hb
      exact hpw.2.2 a ha q (by simp)
    · rw [hlen']
      have := h.le
      simpa using this
    · exact ⟨x, by simp, by
        simp only [List.mem_append, List.mem_singleton] at hp
        rcases hp with hp | rfl
        · have := hxs p (by simp [hp]); omega
        · exact Int.le_refl _⟩
    · by_cases hj : j < R'.length
      · rw [List.getElem?_append_left hj] at hp
        have hp' : (R' ++ [q])[j]? = some p := by rw [List.getElem?_append_left hj]; exact hp
        obtain ⟨m1, m2, m3⟩ := h.sound j p c hp' hc y h1 h2
        exact ⟨by simp [m1], keep m2, m3⟩
      · have hj' : j = R'.length := by
          have := (List.getElem?_eq_some_iff.1 hp).1
          simp at this; omega
        subst hj'
        rw [List.getElem?_append_right (Nat.le_refl _), Nat.sub_self] at hp
        simp only [List.getElem?_cons_zero, Option.some.injEq] at hp
        subst hp
        simp only at h1 h2
        have hc2 : c = k := by
          rw [← hll, List.getElem?_append_right (Nat.le_refl _), Nat.sub_self] at hc
          simpa using hc.symm
        subst hc2
        by_cases hyq : y ≤ q.2
        · obtain ⟨m1, m2, m3⟩ := h.sound R'.length q k (by simp) (by show (C' ++ [(k : Int)])[R'.length]? = _; rw [← hll]; simp) y h1 hyq
          exact ⟨by simp [m1], keep m2, m3⟩
        · obtain rfl : y = x := by omega
          exact ⟨by simp, by rw [Int.toNat_natCast]; exact hk, hn⟩
    · rcases List.mem_append.1 hy with hy | hy
      · obtain ⟨p, hp, h1, h2⟩ := h.comp y hy hy2
        simp only [List.mem_append, List.mem_singleton] at hp
        rcases hp with hp | rfl
        · exact ⟨p, by simp [hp], h1, h2⟩
        · exact ⟨(p.1, x), by simp, h1, by have := hxs p (by simp); simp only; omega⟩
      · rw [List.mem_singleton] at hy
        subst hy
        exact ⟨(q.1, y), by simp, by simp only; omega, Int.le_refl _⟩
  · have hR : C.length = R.length := h.len
    refine ⟨⟨fun p hp => ?_, List.pairwise_append.2 ⟨h.asc.2, by simp, fun a ha b hb => ?_⟩⟩, by simp [hR], fun c hc => ?_, fun j hj => ?_, ?_, fun p hp => ?_, fun j p c hp hc y h1 h2 => ?_, fun y hy hy2 => ?_, hcol⟩
    · simp only [List.mem_append, List.mem_singleton] at hp
      rcases hp with hp | rfl
      · exact h.asc.1 p hp
      · exact Int.le_refl _
    · rw [List.mem_singleton] at hb
      subst hb
      exact hxs a ha
    · simp only [List.mem_append, List.mem_singleton] at hc
      rcases hc with hc | rfl
      · have := hcb c hc
        simp only
        omega
      · simp only; omega
    · by_cases hjc : j < cols.length
      · exact List.mem_append_left _ (h.fill j hjc)
      · have hj' : j < cols'.length := hj
        have : j = k := by
          rcases hlen with h | ⟨h, h'⟩ <;> omega
        subst this
        simp
    · have := h.le
      simp only at this
      simp
      omega
    · exact ⟨x, by simp, by
        simp only [List.mem_append, List.mem_singleton] at hp
        rcases hp with hp | rfl
        · have := hxs p hp; omega
        · exact Int.le_refl _⟩
    · by_cases hj : j < R.length
      · rw [List.getElem?_append_left hj] at hp
        rw [List.getElem?_append_left (by omega)] at hc
        obtain ⟨m1, m2, m3⟩ := h.sound j p c hp hc y h1 h2
        exact ⟨by simp [m1], keep m2, m3⟩
      · have hj' : j = R.length := by
          have := (List.getElem?_eq_some_iff.1 hp).1
          simp at this; omega
        subst hj'
        rw [List.getElem?_append_right (Nat.le_refl _), Nat.sub_self] at hp
        rw [← hR, List.getElem?_append_right (Nat.le_refl _), Nat.sub_self] at hc
        simp only [List.getElem?_cons_zero, Option.some.injEq] at hp hc
        subst hp hc
        simp only at h1 h2
        obtain rfl : y = x := by omega
        exact ⟨by simp, by rw [Int.toNat_natCast]; exact hk, hn⟩
    · rcases List.mem_append.1 hy with hy | hy
      · obtain ⟨p, hp, h1, h2⟩ := h.comp y hy hy2
        exact ⟨p, List.mem_append_left _ hp, h1, h2⟩
      · rw [List.mem_singleton] at hy
        subst hy
        exact ⟨(y, y), by simp, Int.le_refl _, Int.le_refl _⟩
theorem ZOk.step {f : Int → List Int} {xs : List Int} {z : ColZ} (h : ZOk f xs z) {x : Int} (hx : ∀ y ∈ xs, y < x) : ZOk f (xs ++ [x]) (foldCol z (x, x) (f x)) := by
  obtain ⟨cols, R, C⟩ := z
  unfold foldCol
  cases hn : negB (f x) with
  | true =>
    simp only [if_true]
    refine ⟨h.asc, h.len, h.cb, h.fill, h.le, fun p hp => ?_, fun j p c hp hc y h1 h2 => ?_, fun y hy hy2 => ?_, fun c hc => ?_⟩
    · obtain ⟨y, hy, h1⟩ := h.hi p hp
      exact ⟨y, by simp [hy], h1⟩
    · obtain ⟨m1, m2, m3⟩ := h.sound j p c hp hc y h1 h2
      exact ⟨by simp [m1], m2, m3⟩
    · rcases List.mem_append.1 hy with hy | hy
      · exact h.comp y hy hy2
      · rw [List.mem_singleton] at hy
        subst hy
        rw [hn] at hy2; cases hy2
    · obtain ⟨y, hy, h1⟩ := h.cols c hc
      exact ⟨y, by simp [hy], h1⟩
  | false =>
    simp only [Bool.false_eq_true, if_false]
    have hold : ∀ c ∈ cols, ∃ y ∈ xs ++ [x], c = f y := fun c hc => by
      obtain ⟨y, hy, h1⟩ := h.cols c hc
      exact ⟨y, by simp [hy], h1⟩
    rcases idx_cases (fun y => y == f x) cols with ⟨k, y, h1, h2, h3, -⟩ | ⟨h3, -⟩
    · rw [h3, if_neg (by omega)]
      have : y = f x := by simpa using h2
      subst this
      exact h.add hx hn h1 (List.prefix_refl _) (.inl rfl) hold
    · rw [h3, if_pos (by omega)]
      refine h.add hx hn (k := cols.length) (by simp) (List.prefix_append _ _) (.inr ⟨by simp, rfl⟩) (fun c hc => ?_)
      rcases List.mem_append.1 hc with hc | hc
      · exact hold c hc
      · rw [List.mem_singleton] at hc
        exact ⟨x, by simp, hc⟩
theorem ZOk.all (f : Int → List Int) : ∀ (ys xs : List Int) (z : ColZ), ZOk f xs z → (xs ++ ys).Pairwise (· < ·) → ZOk f (xs ++ ys) (ys.foldl (fun z x => foldCol z (x, x) (f x)) z)
  | [], xs, z, h, _ => by rw [List.append_nil]; exact h
  | y :: ys, xs, z, h, hp => by
    have h1 := List.pairwise_append.1 hp
    have := ZOk.all f ys (xs ++ [y]) _ (h.step (fun x hx => h1.2.2 x hx y (by simp))) (by rw [List.append_assoc]; exact hp)
    rw [List.append_assoc] at this
    exact this

section
variable {t : TabD}
theorem leastZ_ok (h : MayS t) (o : List Nat) : ZOk (colX t o) (runesT t) (leastZ t o) := by
  rw [leastZ_runes h]
  have := ZOk.all (colX t o) (runesT t) [] _ (ZOk.nil _) (by simpa using runes_asc h)
  simpa using this
theorem colsL_eq {C : List Int} {m : Nat} (h1 : ∀ c ∈ C, 0 ≤ c ∧ c < m) (h2 : ∀ k : Nat, k < m → (k : Int) ∈ C) : colsL C = m := by
  have k1 := colsL_le (m := (m : Int)) (by omega) (fun c hc => (h1 c hc).2)
  rcases Nat.eq_zero_or_pos m with rfl | h0
  · have := colsL_nonneg C; omega
  · have := colsL_mem (h2 (m - 1) (by omega))
    omega
/-- How the least table lies. -/
theorem least_n (t : TabD) {i : Nat} (hi : i < (orderT t).length) : (leastT t).n[i]? = some ((leastZ t (orderT t)).1.map fun col => col.getD i 0) := by
  unfold leastT mkT
  simp only
  rw [List.getElem?_map, List.getElem?_range hi]
  rfl
theorem least_nlen (t : TabD) : (leastT t).n.length = (orderT t).length := by unfold leastT mkT; simp
theorem colX_get {o : List Nat} {x : Int} {i s : Nat} (h : o[i]? = some s) : (colX t o x).getD i 0 = entT t o (stN t s x) := by
  unfold colX
  rw [List.getD_eq_getElem?_getD, List.getElem?_map, h]
  rfl
theorem ent_bounds {o : List Nat} {d : Nat} (h : Fnd t o d) : -1 ≤ entT t o d ∧ entT t o d < o.length ∨ entT t o d = -1 := by
  rcases entT_cases h with ⟨_, e⟩ | ⟨k, s, _, e, h2, _⟩
  · exact .inr e
  · have := (List.getElem?_eq_some_iff.1 h2).1
    left; omega
/-- The least table may be. -/
theorem least_may (ht : MayS t) : MayS (leastT t) := by
  obtain ⟨h1, h2⟩ := order_ok ht
  have hz := leastZ_ok ht (orderT t)
  have hcols : colsL (leastZ t (orderT t)).2.2 = ((leastZ t (orderT t)).1.length : Nat) := colsL_eq hz.cb hz.fill
  refine ⟨apartB_iff.2 hz.asc, hz.len, by rw [least_nlen]; exact h1.ne, by rw [least_nlen]; unfold leastT mkT; simp, fun c hc => ?_, ?_, fun e he => ?_, fun l hl => ?_⟩
  · have k1 := hz.cb c hc
    have k2 := hz.le
    have k3 := hz.len
    have e : (leastT t).c.length = (leastZ t (orderT t)).2.2.length := rfl
    rw [e]
    omega
  · unfold fillB
    rw [List.all_eq_true]
    intro k hk
    rw [List.contains_iff_mem]
    have e : colsL (leastT t).c = ((leastZ t (orderT t)).1.length : Nat) := hcols
    rw [e, Int.toNat_natCast] at hk
    exact hz.fill k (List.mem_range.1 hk)
  · unfold leastT mkT at he
    simp only [List.mem_map] at he
    obtain ⟨s, hs, rfl⟩ := he
    have := h1.lt s hs
    exact ht.eb _ (getD_mem (by have := ht.el; omega))
  · obtain ⟨i, hi⟩ := List.getElem?_of_mem hl
    have hil := (List.getElem?_eq_some_iff.1 hi).1
    rw [least_nlen] at hil
    rw [least_n t hil] at hi
    obtain rfl := Option.some.inj hi
    refine ⟨?_, fun x hx => ?_⟩
    · have e : colsL (leastT t).c = ((leastZ t (orderT t)).1.length : Nat) := hcols
      rw [e, List.length_map]
    · simp only [List.mem_map] at hx
      obtain ⟨col, hc, rfl⟩ := hx
      obtain ⟨y, -, rfl⟩ := hz.cols col hc
      have hs : (orderT t)[i]? = some (orderT t)[i] := List.getElem?_eq_getElem hil
      rw [colX_get hs, least_nlen]
      have := ent_bounds (h2.rune ht (List.mem_of_getElem? hs) y)
      omega
theorem negB_mem {col : List Int} (h : negB col = true) {x : Int} (hx : x ∈ col) : x < 0 := by
  unfold negB at h
  rw [List.all_eq_true] at h
  simpa using h x hx
/-- Where the least table goes. -/
theorem least_step (ht : MayS t) {i s : Nat} (hi : (orderT t)[i]? = some s) (x : Int) :
    (eqB t (stN t s x) t.n.length = true ∧ stN (leastT t) i x = (leastT t).n.length) ∨ ∃ (k s' : Nat), (orderT t)[k]? = some s' ∧ eqB t (stN t s x) s' = true ∧ stN (leastT t) i x = k := by
  obtain ⟨h1, h2⟩ := order_ok ht
  have hz := leastZ_ok ht (orderT t)
  have hil := (List.getElem?_eq_some_iff.1 hi).1
  have hf := h2.rune ht (List.mem_of_getElem? hi) x
  have hent : entT t (orderT t) (stN t s x) ∈ colX t (orderT t) x := List.mem_map.2 ⟨s, List.mem_of_getElem? hi, rfl⟩
  rcases classL_cases (leastT t).r x with ⟨e, hno⟩ | ⟨j, p, hp, q1, q2, e⟩
  · have hneg : eqB t (stN t s x) t.n.length = true := by
      by_cases hx : x ∈ runesT t
      · cases hn : negB (colX t (orderT t) x) with
        | true =>
          have := negB_mem hn hent
          rcases entT_cases hf with ⟨h, _⟩ | ⟨k, s', _, h, _⟩
          · exact h
          · omega
        | false =>
          obtain ⟨p, hp, h3⟩ := hz.comp x hx hn
          exact absurd h3 (hno p hp)
      · rw [stN_out (fun p hp hx' => hx (mem_runes.2 ⟨p, hp, hx'⟩))]
        exact eqB_refl _ _
    exact .inl ⟨hneg, stN_out hno _⟩
  · have hjl := (List.getElem?_eq_some_iff.1 hp).1
    obtain ⟨cj, hc⟩ : ∃ cj, (leastT t).c[j]? = some cj := ⟨_, List.getElem?_eq_getElem (show j < (leastT t).c.length by have := (least_may ht).cl; omega)⟩
    obtain ⟨m1, m2, m3⟩ := hz.sound j p _ hp hc x q1 q2
    have hg : stN (leastT t) i x = goN (leastT t) i cj.toNat := stN_of (least_may ht) hp hc q1 q2 i
    have hrow : ((leastT t).n.getD i []).getD cj.toNat (-1) = entT t (orderT t) (stN t s x) := by
      have e3 : (leastT t).n.getD i [] = (leastZ t (orderT t)).1.map fun col => col.getD i 0 := by rw [List.getD_eq_getElem?_getD, least_n t hil]; rfl
      rw [e3, List.getD_eq_getElem?_getD, List.getElem?_map, m2]
      simp only [Option.map_some, Option.getD_some]
      exact colX_get hi
    rw [hg]
    unfold goN
    rw [hrow, least_nlen]
    rcases entT_cases hf with ⟨h, e'⟩ | ⟨k, s', _, e', hk, hs'⟩
    · exact .inl ⟨h, by rw [e', if_neg (by omega)]⟩
    · exact .inr ⟨k, s', hk, hs', by rw [e', if_pos (by omega), Int.toNat_natCast]⟩
theorem least_end (ht : MayS t) {i s : Nat} (hi : (orderT t)[i]? = some s) : endN (leastT t) i = endN t s := by
  have hil := (List.getElem?_eq_some_iff.1 hi).1
  have := (order_ok ht).1.lt s (List.mem_of_getElem? hi)
  unfold endN
  rw [least_nlen, if_pos hil, if_pos this]
  unfold leastT mkT
  simp only
  rw [List.getD_eq_getElem?_getD, List.getElem?_map, hi]
  rfl
/-- It does the same. -/
theorem least_does (ht : MayS t) : ∀ (l : List Int) (i s : Nat), (orderT t)[i]? = some s → doesN (leastT t) i l = doesN t s l
  | [], i, s, h => least_end ht h
  | x :: l, i, s, h => by
    have hs := (order_ok ht).1.lt s (List.mem_of_getElem? h)
    rw [doesN, doesN]
    rcases least_step ht h x with ⟨h1, h2⟩ | ⟨k, s', h1, h2, h3⟩
    · rw [h2, doesN_none, (eqB_iff ht (stN_le ht _ _) (Nat.le_refl _)).1 h1, doesN_none]
    · have hs' := (order_ok ht).1.lt s' (List.mem_of_getElem? h1)
      rw [h3, least_does ht l k s' h1, (eqB_iff ht (stN_le ht _ _) (by omega)).1 h2]
theorem least_same (ht : MayS t) : doesN (leastT t) 0 = doesN t 0 := funext fun l => least_does ht l 0 0 (order_ok ht).1.first
/-- Its states are told apart. -/
theorem least_apart (ht : MayS t) {i j : Nat} (hj : j < (leastT t).n.length) (hij : i < j) : eqB (leastT t) i j = false := by
  rw [least_nlen] at hj
  cases h : eqB (leastT t) i j with
  | false => rfl
  | true =>
    obtain ⟨h1, h2⟩ := order_ok ht
    have e1 : (orderT t)[i]? = some ((orderT t)[i]'(by omega)) := List.getElem?_eq_getElem _
    have e2 : (orderT t)[j]? = some ((orderT t)[j]) := List.getElem?_eq_getElem _
    have k1 := h1.lt _ (List.mem_of_getElem? e1)
    have k2 := h1.lt _ (List.mem_of_getElem? e2)
    rw [eqB_iff (least_may ht) (by rw [least_nlen]; omega) (by rw [least_nlen]; omega)] at h
    have h3 : doesN t ((orderT t)[i]'(by omega)) = doesN t ((orderT t)[j]) := by
      funext l
      rw [← least_does ht l i _ e1, ← least_does ht l j _ e2, h]
    rw [← eqB_iff ht (by omega) (by omega)] at h3
    rw [List.pairwise_iff_getElem.1 h1.pw i j (by omega) hj hij] at h3
    cases h3
theorem least_live (ht : MayS t) {j : Nat} (hj : j < (leastT t).n.length) (h0 : 0 < j) : eqB (leastT t) j (leastT t).n.length = false := by
  have hj' := hj
  rw [least_nlen] at hj
  cases h : eqB (leastT t) j (leastT t).n.length with
  | false => rfl
  | true =>
    obtain ⟨h1, h2⟩ := order_ok ht
    have e2 : (orderT t)[j]? = some ((orderT t)[j]) := List.getElem?_eq_getElem _
    have k2 := h1.lt _ (List.mem_of_getElem? e2)
    rw [eqB_iff (least_may ht) (by omega) (Nat.le_refl _)] at h
    have h3 : doesN t ((orderT t)[j]) = doesN t t.n.length := by
      funext l
      rw [← least_does ht l j _ e2, h, doesN_none, doesN_none]
    rw [← eqB_iff ht (by omega) (Nat.le_refl _), h1.live j _ h0 e2] at h3
    cases h3
end

section
variable {t u : TabD}
/-- What is found hangs on what is done. -/
theorem ins_same (ht : MayS t) (hu : MayS u) {o o' : List Nat} (hlt : ∀ s ∈ o, s < t.n.length) (hlu : ∀ s ∈ o', s < u.n.length) (h : o.map (doesN t) = o'.map (doesN u)) {d d' : Nat} (hd : d ≤ t.n.length) (hd' : d' ≤ u.n.length) (he : doesN t d = doesN u d') :
    eqB t d t.n.length = eqB u d' u.n.length ∧ (∀ (j s s' : Nat), o[j]? = some s → o'[j]? = some s' → eqB t d s = eqB u d' s') ∧ o.any (eqB t d) = o'.any (eqB u d') ∧ numT t o d = numT u o' d' := by
  have hnone : doesN t t.n.length = doesN u u.n.length := by funext l; rw [doesN_none, doesN_none]
  have bool : ∀ {a b : Bool}, (a = true ↔ b = true) → a = b := fun {a b} h => by
    cases a <;> cases b <;> simp_all
  have h1 : eqB t d t.n.length = eqB u d' u.n.length := bool (by rw [eqB_iff ht hd (Nat.le_refl _), eqB_iff hu hd' (Nat.le_refl _), he, hnone])
  have h2 : ∀ (j s s' : Nat), o[j]? = some s → o'[j]? = some s' → eqB t d s = eqB u d' s' := fun j s s' hs hs' => bool (by
    have k1 := hlt s (List.mem_of_getElem? hs)
    have k2 := hlu s' (List.mem_of_getElem? hs')
    have k3 : doesN t s = doesN u s' := by
      have := congrArg (fun L => L[j]?) h
      simp only [List.getElem?_map, hs, hs', Option.map_some, Option.some.injEq] at this
      exact this
    rw [eqB_iff ht hd (by omega), eqB_iff hu hd' (by omega), he, k3])
  have hlen : o.length = o'.length := by have := congrArg List.length h; simpa using this
  have key : o.map (eqB t d) = o'.map (eqB u d') := by
    apply List.ext_getElem?
    intro j
    rw [List.getElem?_map, List.getElem?_map]
    by_cases hj : j < o.length
    · rw [List.getElem?_eq_getElem hj, List.getElem?_eq_getElem (by omega)]
      simp only [Option.map_some, Option.some.injEq]
      exact h2 j _ _ (List.getElem?_eq_getElem hj) (List.getElem?_eq_getElem (by omega))
    · rw [List.getElem?_eq_none (by omega), List.getElem?_eq_none (by omega)]; rfl
  have hany : o.any (eqB t d) = o'.any (eqB u d') := by
    have e1 : o.any (eqB t d) = (o.map (eqB t d)).any id := by rw [List.any_map]; rfl
    have e2 : o'.any (eqB u d') = (o'.map (eqB u d')).any id := by rw [List.any_map]; rfl
    rw [e1, e2, key]
  have hidx : ∀ {α : Type} (p : α → Bool) (L : List α), L.findIdx p = (L.map p).findIdx id := fun p L => by
    induction L with
    | nil => rfl
    | cons x L ih => simp only [List.findIdx_cons, List.map_cons, ih, id]
  refine ⟨h1, h2, hany, ?_⟩
  unfold numT idxV
  rw [hidx, hidx (eqB u d'), key, hlen]
theorem foldl_skip {β : Type} (G : β → Int → β) (p : Int → Bool) : ∀ (L : List Int), (∀ x ∈ L, p x = false → ∀ b, G b x = b) → ∀ b, L.foldl G b = (L.filter p).foldl G b
  | [], _, _ => rfl
  | x :: L, h, b => by
    have ih := foldl_skip G p L (fun y hy => h y (List.mem_cons_of_mem _ hy))
    rw [List.foldl_cons, List.filter_cons]
    cases hp : p x with
    | true => rw [if_pos rfl, List.foldl_cons]; exact ih _
    | false => rw [if_neg (by simp), h x (by simp) hp]; exact ih _
theorem row_same (ht : MayS t) (hu : MayS u) {s s' : Nat} (he : doesN t s = doesN u s') {o o' : List Nat} (ho : Ord t o) (ho' : Ord u o') (h : o.map (doesN t) = o'.map (doesN u)) :
    (bfsRow t s o).map (doesN t) = (bfsRow u s' o').map (doesN u) := by
  have hstep : ∀ x, doesN t (stN t s x) = doesN u (stN u s' x) := fun x => by
    funext l
    have := congrFun he (x :: l)
    rw [doesN, doesN] at this
    exact this
  have hdead : ∀ x, eqB t (stN t s x) t.n.length = eqB u (stN u s' x) u.n.length := fun x =>
    (ins_same ht hu ho.lt ho'.lt h (stN_le ht s x) (stN_le hu s' x) (hstep x)).1
  rw [bfsRow_runes ht, bfsRow_runes hu]
  rw [foldl_skip _ (fun x => !eqB t (stN t s x) t.n.length) (runesT t) (fun x _ hx b => by
    unfold insN
    rw [if_pos (by simp at hx; rw [hx]; rfl)]) o,
    foldl_skip _ (fun x => !eqB u (stN u s' x) u.n.length) (runesT u) (fun x _ hx b => by
    unfold insN
    rw [if_pos (by simp at hx; rw [hx]; rfl)]) o']
  have hfil : (runesT t).filter (fun x => !eqB t (stN t s x) t.n.length) = (runesT u).filter (fun x => !eqB u (stN u s' x) u.n.length) := by
    refine asc_eq ((runes_asc ht).filter _) ((runes_asc hu).filter _) (fun x => ?_)
    rw [List.mem_filter, List.mem_filter, hdead x]
    have in_of : ∀ {v : TabD} (s : Nat), eqB v (stN v s x) v.n.length = false → x ∈ runesT v := fun {v} s hx => by
      refine Classical.byContradiction fun hno => ?_
      rw [stN_out (fun p hp hx' => hno (mem_runes.2 ⟨p, hp, hx'⟩)), eqB_refl] at hx
      cases hx
    constructor
    · rintro ⟨_, k⟩
      exact ⟨in_of s' (by simpa using k), k⟩
    · rintro ⟨_, k⟩
      exact ⟨in_of s (by rw [hdead x]; simpa using k), k⟩
  rw [hfil]
  generalize (runesT u).filter (fun x => !eqB u (stN u s' x) u.n.length) = L
  clear hfil
  induction L generalizing o o' with
  | nil => exact h
  | cons x L ih =>
    rw [List.foldl_cons, List.foldl_cons]
    refine ih (ho.ins (stN_le ht s x)) (ho'.ins (stN_le hu s' x)) ?_
    obtain ⟨k1, -, k3, -⟩ := ins_same ht hu ho.lt ho'.lt h (stN_le ht s x) (stN_le hu s' x) (hstep x)
    unfold insN
    rw [k1, k3]
    split
    · exact h
    · rw [List.map_append, List.map_append, h]
      simp [hstep x]
theorem bfs_same (ht : MayS t) (hu : MayS u) : ∀ (f f' i : Nat) (o o' : List Nat), Ord t o → Ord u o' → ClsO t o i → ClsO u o' i → i ≤ o.length → t.n.length ≤ f + i → u.n.length ≤ f' + i → o.map (doesN t) = o'.map (doesN u) → (bfsF t f i o).map (doesN t) = (bfsF u f' i o').map (doesN u)
  | 0, f', i, o, o', h1, h2, _, _, h3, h4, h5, h => by
    have hl : o.length = o'.length := by have := congrArg List.length h; simpa using this
    have := h1.len_le
    have e : bfsF u f' i o' = o' := by
      cases f' with
      | zero => rfl
      | succ f' => rw [bfsF, if_neg (by omega)]
    rw [e]; exact h
  | f + 1, 0, i, o, o', h1, h2, _, _, h3, h4, h5, h => by
    have hl : o.length = o'.length := by have := congrArg List.length h; simpa using this
    have := h2.len_le
    change (bfsF t (f + 1) i o).map (doesN t) = o'.map (doesN u)
    rw [bfsF, if_neg (by omega)]
    exact h
  | f + 1, f' + 1, i, o, o', h1, h2, c1, c2, h3, h4, h5, h => by
    have hl : o.length = o'.length := by have := congrArg List.length h; simpa using this
    rw [bfsF, bfsF]
    by_cases hi : i < o.length
    · rw [if_pos hi, if_pos (by omega)]
      have e1 : o.getD i 0 = o[i] := by rw [List.getD_eq_getElem?_getD, List.getElem?_eq_getElem hi]; rfl
      have e2 : o'.getD i 0 = o'[i]'(by omega) := by rw [List.getD_eq_getElem?_getD, List.getElem?_eq_getElem (by omega)]; rfl
      have hge : doesN t (o.getD i 0) = doesN u (o'.getD i 0) := by
        rw [e1, e2]
        have := congrArg (fun L => L[i]?) h
        simp only [List.getElem?_map, List.getElem?_eq_getElem hi, List.getElem?_eq_getElem (show i < o'.length by omega), Option.map_some, Option.some.injEq] at this
        exact this
      obtain ⟨k1, k2, k3⟩ := fold_ins ht (o.getD i 0) t.c o h1
      obtain ⟨m1, m2, m3⟩ := fold_ins hu (o'.getD i 0) u.c o' h2
      have cls : ∀ {v : TabD} {o : List Nat} (hi : i < o.length), ClsO v o i → o <+: bfsRow v (o.getD i 0) o → (∀ c ∈ v.c, Fnd v (bfsRow v (o.getD i 0) o) (goN v (o.getD i 0) c.toNat)) → ClsO v (bfsRow v (o.getD i 0) o) (i + 1) := fun {v o} hi hc hp hf j s hj hs c hcm => by
        have hs' : o[j]? = some s := by
          obtain ⟨r, hr⟩ := hp
          rw [← hr, List.getElem?_append_left (by omega)] at hs
          exact hs
        by_cases hji : j < i
        · exact (hc j s hji hs' c hcm).pre hp
        · obtain rfl : j = i := by omega
          have e : o.getD j 0 = s := by rw [List.getD_eq_getElem?_getD, hs']; rfl
          have := hf c hcm
          rw [e] at this ⊢
          exact this
      exact bfs_same ht hu f f' (i + 1) _ _ k1 m1 (cls hi c1 k2 k3) (cls (by omega) c2 m2 m3) (Nat.lt_of_lt_of_le hi k2.length_le) (by omega) (by omega) (row_same ht hu hge h1 h2 h)
    · rw [if_neg hi, if_neg (by omega)]
      exact h
/-- Two tables that do the same have the same least one. -/
theorem least_unique (ht : MayS t) (hu : MayS u) (h : doesN t 0 = doesN u 0) : leastT t = leastT u := by
  have nocls : ∀ v : TabD, ClsO v [0] 0 := fun v j s hj _ _ _ => absurd hj (Nat.not_lt_zero _)
  have ho : (orderT t).map (doesN t) = (orderT u).map (doesN u) :=
    bfs_same ht hu _ _ 0 [0] [0] (Ord.start ht) (Ord.start hu) (nocls t) (nocls u) (by simp) (by omega) (by omega) (by simp [h])
  obtain ⟨h1, h2⟩ := order_ok ht
  obtain ⟨k1, k2⟩ := order_ok hu
  have hl : (orderT t).length = (orderT u).length := by have := congrArg List.length ho; simpa using this
  have hat : ∀ (j s s' : Nat), (orderT t)[j]? = some s → (orderT u)[j]? = some s' → doesN t s = doesN u s' := fun j s s' hs hs' => by
    have := congrArg (fun L => L[j]?) ho
    simp only [List.getElem?_map, hs, hs', Option.map_some, Option.some.injEq] at this
    exact this
  have hent : ∀ (j s s' : Nat), (orderT t)[j]? = some s → (orderT u)[j]? = some s' → ∀ x, entT t (orderT t) (stN t s x) = entT u (orderT u) (stN u s' x) := fun j s s' hs hs' x => by
    have hstep : doesN t (stN t s x) = doesN u (stN u s' x) := by
      funext l
      have := congrFun (hat j s s' hs hs') (x :: l)
      rw [doesN, doesN] at this
      exact this
    obtain ⟨q1, -, -, q4⟩ := ins_same ht hu h1.lt k1.lt ho (stN_le ht s x) (stN_le hu s' x) hstep
    unfold entT
    rw [q1, q4]
  have hcol : ∀ x, colX t (orderT t) x = colX u (orderT u) x := fun x => by
    unfold colX
    apply List.ext_getElem?
    intro j
    rw [List.getElem?_map, List.getElem?_map]
    by_cases hj : j < (orderT t).length
    · rw [List.getElem?_eq_getElem hj, List.getElem?_eq_getElem (by omega)]
      simp only [Option.map_some, Option.some.injEq]
      exact hent j _ _ (List.getElem?_eq_getElem hj) (List.getElem?_eq_getElem (by omega)) x
    · rw [List.getElem?_eq_none (by omega), List.getElem?_eq_none (by omega)]; rfl
  have skip : ∀ {v : TabD} (x : Int), x ∉ runesT v → negB (colX v (orderT v) x) = true := fun {v} x hx => by
    unfold negB
    rw [List.all_eq_true]
    intro y hy
    unfold colX at hy
    rw [List.mem_map] at hy
    obtain ⟨s, -, rfl⟩ := hy
    rw [stN_out (fun p hp hx' => hx (mem_runes.2 ⟨p, hp, hx'⟩))]
    unfold entT
    rw [eqB_refl]
    rfl
  have hz : leastZ t (orderT t) = leastZ u (orderT u) := by
    rw [leastZ_runes ht, leastZ_runes hu]
    have sk : ∀ (v : TabD), (runesT v).foldl (fun z x => foldCol z (x, x) (colX v (orderT v) x)) (([], [], []) : ColZ) = ((runesT v).filter fun x => !negB (colX v (orderT v) x)).foldl (fun z x => foldCol z (x, x) (colX v (orderT v) x)) (([], [], []) : ColZ) := fun v =>
      foldl_skip _ _ _ (fun x _ hx b => by unfold foldCol; rw [if_pos (by simpa using hx)]) _
    rw [sk t, sk u]
    have hfil : ((runesT t).filter fun x => !negB (colX t (orderT t) x)) = (runesT u).filter fun x => !negB (colX u (orderT u) x) := by
      refine asc_eq ((runes_asc ht).filter _) ((runes_asc hu).filter _) (fun x => ?_)
      rw [List.mem_filter, List.mem_filter, hcol x]
      constructor
      · rintro ⟨_, k⟩
        exact ⟨Classical.byContradiction fun hno => (by rw [skip x hno] at k; cases k), k⟩
      · rintro ⟨_, k⟩
        refine ⟨Classical.byContradiction fun hno => ?_, k⟩
        rw [← hcol x, skip x hno] at k; cases k
    rw [hfil]
    congr 1
    funext z x
    rw [hcol x]
  have he : (orderT t).map (fun s => t.e.getD s 0) = (orderT u).map (fun s => u.e.getD s 0) := by
    apply List.ext_getElem?
    intro j
    rw [List.getElem?_map, List.getElem?_map]
    by_cases hj : j < (orderT t).length
    · have e1 : (orderT t)[j]? = some ((orderT t)[j]) := List.getElem?_eq_getElem hj
      have e2 : (orderT u)[j]? = some ((orderT u)[j]'(by omega)) := List.getElem?_eq_getElem _
      rw [e1, e2]
      simp only [Option.map_some, Option.some.injEq]
      have := congrFun (hat j _ _ e1 e2) []
      rw [doesN, doesN] at this
      unfold endN at this
      rwa [if_pos (h1.lt _ (List.mem_of_getElem? e1)), if_pos (k1.lt _ (List.mem_of_getElem? e2))] at this
    · rw [List.getElem?_eq_none (by omega), List.getElem?_eq_none (by omega)]; rfl
  unfold leastT mkT
  rw [hz, hl, he]
/-- The least one's least one is it. -/
theorem least_again (ht : MayS t) : leastT (leastT t) = leastT t := least_unique (least_may ht) ht (least_same ht)
theorem least_iff (ht : MayS t) (hu : MayS u) : leastT t = leastT u ↔ doesN t 0 = doesN u 0 :=
  ⟨fun h => by rw [← least_same ht, ← least_same hu, h], least_unique ht hu⟩
end
end Go.Proofs.Ytodohgckncnipaa
