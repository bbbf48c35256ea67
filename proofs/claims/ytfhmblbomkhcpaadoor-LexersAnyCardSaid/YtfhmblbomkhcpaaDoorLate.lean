/- A region that draws and turns the world: what only reads is taken first, under a condition that the last operations (those that wait for all that read) need not leave. -/
import Derived.Test.YtfhmblbomkhcpaaDoorBase
import Derived.OrdersHeld
namespace Go.Proofs.YtfhmblbomkhcpaaDoor
section
variable {P : Program} {ops : Array Oper} {Q : Exit → Act → World → Prop} {md : Region.Mode} {S : World → Prop} {late : Nat → Bool}

/-- Whatever order; S holds behind each operation that is not late. -/
def wpAnyL (P : Program) (md : Region.Mode) (ops : Array Oper) (Q : Exit → Act → World → Prop) (S : World → Prop) (late : Nat → Bool) : Nat → Array Bool → Act → World → Prop
  | 0, listed, a, w => Region.ready md ops listed = [] ∧ Q .normal a w
  | fuel + 1, listed, a, w => (Region.ready md ops listed = [] → Q .normal a w) ∧
    ∀ i ∈ Region.ready md ops listed, wpOp P ops Q i (fun a' w' => (late i = false → S w') ∧ wpAnyL P md ops Q S late fuel (listed.setIfInBounds i true) a' w') a w

theorem wpAny_of_late : ∀ (fuel : Nat) (listed : Array Bool) (a : Act) (w : World), wpAnyL P md ops Q S late fuel listed a w → wpAny P md ops Q fuel listed a w
  | 0, _, _, _, h => h
  | fuel + 1, _, _, _, h => ⟨h.1, fun i hi => wpOp_mono (fun a' w' h' => wpAny_of_late fuel _ a' w' h'.2) (h.2 i hi)⟩

/-- j waits for i, directly or through others. -/
def waitsB (md : Region.Mode) (ops : Array Oper) : Nat → Nat → Nat → Bool
  | 0, _, _ => false
  | f + 1, j, i => match ops[j]? with
    | none => false
    | some oj => oj.after.any fun e => Region.binds md e && (decide (e.on = i) || waitsB md ops f e.on i)
/-- What has come up had to. -/
def Closed (md : Region.Mode) (ops : Array Oper) (listed : Array Bool) : Prop :=
  ∀ (k : Nat) (ok : Oper), ops[k]? = some ok → listed.getD k false = true → ∀ e ∈ ok.after, Region.binds md e = true → listed.getD e.on false = true
def closedB (md : Region.Mode) (ops : Array Oper) (listed : Array Bool) : Bool :=
  ops.toList.zipIdx.all fun x => !(listed.getD x.2 false) || x.1.after.all fun e => !Region.binds md e || listed.getD e.on false
theorem closedB_spec {listed : Array Bool} (h : closedB md ops listed = true) : Closed md ops listed := by
  intro k ok hk hl e he hb
  have h1 := List.all_eq_true.1 h (ok, k) (by
    obtain ⟨hlt, rfl⟩ := Array.getElem?_eq_some_iff.1 hk
    exact List.mem_iff_getElem.2 ⟨k, by simpa using hlt, by simp⟩)
  simp only [hl, Bool.not_true, Bool.false_or] at h1
  have h2 := Array.all_eq_true_iff_forall_mem.1 h1 e he
  simpa only [hb, Bool.not_true, Bool.false_or] using h2
theorem Closed.set {listed : Array Bool} (h : Closed md ops listed) {j : Nat} (hj : j ∈ Region.ready md ops listed) : Closed md ops (listed.setIfInBounds j true) := by
  obtain ⟨_, oj, hoj, hall⟩ := mem_ready.1 hj
  have up : ∀ k, listed.getD k false = true → (listed.setIfInBounds j true).getD k false = true := fun k hk => by
    by_cases he : j = k
    · subst he
      simp only [Array.getD_eq_getD_getElem?] at hk ⊢
      rcases Nat.lt_or_ge j listed.size with h' | h'
      · simp [h']
      · simp [Array.getElem?_eq_none h'] at hk
    · rw [getD_set_ne false he]; exact hk
  intro k ok hk hl e he hb
  by_cases hjk : j = k
  · subst hjk
    rw [hoj] at hk
    obtain rfl := Option.some.inj hk
    exact up _ (hall e he hb)
  · rw [getD_set_ne false hjk] at hl
    exact up _ (h k ok hk hl e he hb)
theorem waits_listed {listed : Array Bool} (hc : Closed md ops listed) {i : Nat} : ∀ (f j : Nat), (∀ oj, ops[j]? = some oj → ∀ e ∈ oj.after, Region.binds md e = true → listed.getD e.on false = true) → waitsB md ops f j i = true → listed.getD i false = true
  | 0, _, _, h => by cases h
  | f + 1, j, hp, h => by
    simp only [waitsB] at h
    cases ho : ops[j]? with
    | none => rw [ho] at h; cases h
    | some oj =>
      rw [ho] at h
      obtain ⟨e, he, h2⟩ := Array.any_eq_true.1 h
      simp only [Bool.and_eq_true, Bool.or_eq_true, decide_eq_true_eq] at h2
      have h3 := hp oj ho _ (Array.getElem_mem he) h2.1
      rcases h2.2 with h4 | h4
      · rw [← h4]; exact h3
      · exact waits_listed hc f _ (fun ok hk => hc _ ok hk h3) h4
/-- The late ones wait for i. -/
def lateB (md : Region.Mode) (ops : Array Oper) (late : Nat → Bool) (i : Nat) : Bool :=
  (List.range ops.size).all fun j => !late j || decide (j = i) || waitsB md ops ops.size j i
theorem lateB_spec {i : Nat} (h : lateB md ops late i = true) : ∀ (j : Nat) (oj : Oper), ops[j]? = some oj → late j = true → j ≠ i → waitsB md ops ops.size j i = true := by
  intro j oj hj hl hji
  have h1 := List.all_eq_true.1 h j (List.mem_range.2 (Array.getElem?_eq_some_iff.1 hj).1)
  simp only [hl, Bool.not_true, Bool.false_or, Bool.or_eq_true, decide_eq_true_eq] at h1
  rcases h1 with h1 | h1
  · exact absurd h1 hji
  · exact h1

theorem late_first {i : Nat} {oi : Oper} {v : Value} (hi : ops[i]? = some oi) (hsel : ∀ (j : Nat) (o : Oper) cs b, ops[j]? = some o → o.op ≠ .select cs b)
    (hQ : ∀ c a w, Q (.panic c) (a.put oi.dst v) w → Q (.panic c) a w) (hlate : ∀ (j : Nat) (oj : Oper), ops[j]? = some oj → late j = true → j ≠ i → waitsB md ops ops.size j i = true) :
    ∀ (fuel : Nat) (listed : Array Bool) (a : Act) (w : World), Closed md ops listed →
      (∀ j oj, ops[j]? = some oj → j ≠ i → listed.getD j true = false → (∀ e ∈ oj.after, Region.binds md e = true → e.on ≠ i) → oi.apart ops oj = true) →
      i ∈ Region.ready md ops listed → YieldsIf P ops S oi v a → S w →
      wpAnyL P md ops Q S late fuel (listed.setIfInBounds i true) (a.put oi.dst v) w → wpAnyL P md ops Q S late (fuel + 1) listed a w := by
  intro fuel
  induction fuel with
  | zero =>
    intro listed a w _ _ hr hy hS H
    refine ⟨fun h => (by rw [h] at hr; cases hr), fun j hj => ?_⟩
    by_cases hji : j = i
    · subst hji; exact hy.wpOp hi hS ⟨fun _ => hS, H⟩
    · have := ready_mono hj hji
      rw [H.1] at this
      cases this
  | succ fuel ih =>
    intro listed a w hcl hfree hr hy hS H
    refine ⟨fun h => (by rw [h] at hr; cases hr), fun j hj => ?_⟩
    by_cases hji : j = i
    · subst hji; exact hy.wpOp hi hS ⟨fun _ => hS, H⟩
    · obtain ⟨hjun, oj, hoj, hall⟩ := mem_ready.1 hj
      have hnot : ∀ e ∈ oj.after, Region.binds md e = true → e.on ≠ i := fun e he hb heq => by
        have h1 := hall e he hb
        have h0 := (mem_ready.1 hr).1
        rw [heq] at h1
        rcases Nat.lt_or_ge i listed.size with h' | h'
        · simp [h'] at h0 h1; rw [h0] at h1; cases h1
        · simp [Array.getElem?_eq_none h'] at h1
      have hlj : late j = false := by
        cases hl : late j
        · rfl
        · have h1 := waits_listed hcl _ j (fun ok hk e he hb => by rw [hoj] at hk; obtain rfl := Option.some.inj hk; exact hall e he hb) (hlate j oj hoj hl hji)
          have h0 := (mem_ready.1 hr).1
          rw [getD_both h0] at h1
          cases h1
      have h2 := wpOp_putIf hoj (hfree j oj hoj hji hjun hnot) (fun cs b => hsel i oi cs b hi) (fun cs b => hsel j oj cs b hoj) hQ hy (H.2 j (ready_mono hj hji))
      have hfree' : ∀ k ok, ops[k]? = some ok → k ≠ i → (listed.setIfInBounds j true).getD k true = false →
          (∀ e ∈ ok.after, Region.binds md e = true → e.on ≠ i) → oi.apart ops ok = true := fun k ok hk hki hun hno => by
        refine hfree k ok hk hki ?_ hno
        by_cases hjk : j = k
        · subst hjk; exact hjun
        · rw [getD_set_ne true hjk] at hun; exact hun
      refine wpOp_mono (fun a' w' h3 => ⟨h3.2.1, ih (listed.setIfInBounds j true) a' w' (hcl.set hj) hfree' (ready_mono hr (Ne.symm hji)) h3.1 (h3.2.1 hlj) ?_⟩) h2
      rw [Array.setIfInBounds_comm _ _ hji]
      exact h3.2.2

/-- An operation that only reads. -/
theorem late_read {i : Nat} {oi : Oper} {fuel : Nat} {listed : Array Bool} {a : Act} {w : World} (hi : ops[i]? = some oi)
    (hs : (Region.noSelect ops && Region.free md ops listed i && (Region.ready md ops listed).contains i && lateB md ops late i && closedB md ops listed) = true)
    (hQ : ∀ v c a w, Q (.panic c) (a.put oi.dst v) w → Q (.panic c) a w) (hw : Region.wanted oi (yielded ops a.tmps) = true) (hS : S w)
    (h : ∀ K : Act → Prop, (∀ a, wpAnyL P md ops Q S late fuel (listed.setIfInBounds i true) a w → K a) → ∃ v, (∀ w', S w' → (execOp a.eval oi).run P w' = .ok (.value v) w') ∧ K (a.put oi.dst v)) :
    wpAnyL P md ops Q S late (fuel + 1) listed a w := by
  simp only [Bool.and_eq_true] at hs
  obtain ⟨⟨⟨⟨h1, h2⟩, h3⟩, h4⟩, h5⟩ := hs
  obtain ⟨v, hrun, hK⟩ := h _ (fun _ h => h)
  exact late_first hi (Region.noSelect_spec h1) (hQ v) (lateB_spec h4) fuel listed a w (closedB_spec h5) (Region.free_spec hi h2) (by simpa using h3) (.inl ⟨hw, hrun⟩) hS hK
/-- An operation that is not wanted. -/
theorem late_skip {i : Nat} {oi : Oper} {fuel : Nat} {listed : Array Bool} {a : Act} {w : World} (hi : ops[i]? = some oi)
    (hs : (Region.noSelect ops && Region.free md ops listed i && (Region.ready md ops listed).contains i && lateB md ops late i && closedB md ops listed) = true)
    (hQ : ∀ v c a w, Q (.panic c) (a.put oi.dst v) w → Q (.panic c) a w) (hw : Region.wanted oi (yielded ops a.tmps) = false) (hS : S w)
    (h : ∀ K : Act → Prop, (∀ a, wpAnyL P md ops Q S late fuel (listed.setIfInBounds i true) a w → K a) → K (a.put oi.dst undef)) :
    wpAnyL P md ops Q S late (fuel + 1) listed a w := by
  simp only [Bool.and_eq_true] at hs
  obtain ⟨⟨⟨⟨h1, h2⟩, h3⟩, h4⟩, h5⟩ := hs
  exact late_first hi (Region.noSelect_spec h1) (hQ undef) (lateB_spec h4) fuel listed a w (closedB_spec h5) (Region.free_spec hi h2) (by simpa using h3) (.inr ⟨hw, rfl⟩) hS (h _ (fun _ h => h))

/-- The one operation that may come up now: it yields a value, and may turn the world. -/
theorem late_turn {i : Nat} {oi : Oper} {fuel : Nat} {listed : Array Bool} {a : Act} {w : World} (hr : Region.ready md ops listed = [i]) (hi : ops[i]? = some oi)
    (hw : Region.wanted oi (yielded ops a.tmps) = true)
    (h : ∀ K : Act → World → Prop, (∀ a w, wpAnyL P md ops Q S late fuel (listed.setIfInBounds i true) a w → K a w) → ∃ v w'', (execOp a.eval oi).run P w = .ok (.value v) w'' ∧ (late i = false → S w'') ∧ K (a.put oi.dst v) w'') :
    wpAnyL P md ops Q S late (fuel + 1) listed a w := by
  obtain ⟨v, w'', hrun, hS, hK⟩ := h _ (fun _ _ h => h)
  refine ⟨fun h0 => (by rw [hr] at h0; cases h0), fun j hj => ?_⟩
  rw [hr] at hj
  obtain rfl : j = i := by simpa using hj
  unfold Go.wpOp
  simp only [hi, hw, if_true, Oper.wp, hrun, Oper.upon]
  exact .inl ⟨hS, hK⟩
/-- The one operation that may come up now: a store. -/
theorem late_store {i : Nat} {oi : Oper} {fuel : Nat} {listed : Array Bool} {a : Act} {w : World} (hr : Region.ready md ops listed = [i]) (hi : ops[i]? = some oi)
    (hw : Region.wanted oi (yielded ops a.tmps) = true)
    (h : ∀ K : Act → World → Prop, (∀ a w, wpAnyL P md ops Q S late fuel (listed.setIfInBounds i true) a w → K a w) → ∃ w'', (execOp a.eval oi).run P w = .ok .skip w'' ∧ (late i = false → S w'') ∧ K (a.put oi.dst undef) w'') :
    wpAnyL P md ops Q S late (fuel + 1) listed a w := by
  obtain ⟨w'', hrun, hS, hK⟩ := h _ (fun _ _ h => h)
  refine ⟨fun h0 => (by rw [hr] at h0; cases h0), fun j hj => ?_⟩
  rw [hr] at hj
  obtain rfl : j = i := by simpa using hj
  unfold Go.wpOp
  simp only [hi, hw, if_true, Oper.wp, hrun, Oper.upon]
  exact .inl ⟨hS, hK⟩
/-- The one operation that may come up now is a builtin append. -/
theorem late_append {i : Nat} {oi : Oper} {fuel : Nat} {listed : Array Bool} {a : Act} {w : World} (hr : Region.ready md ops listed = [i]) (hi : ops[i]? = some oi)
    (hw : Region.wanted oi (yielded ops a.tmps) = true) (s x : Operand) (tl tx : TypeId) (ho : oi.op = .call { callee := .builtin .append, args := #[s, x], argTypes := #[tl, tx] }) (v u : Value) (hv : a.eval s = v) (hu : a.eval x = u)
    (R : Value → World → Prop) (hrun : ∃ v' w'', (Builtin.append_ #[tl, tx] oi.type #[v, u]).run P w = .ok v' w'' ∧ (late i = false → S w'') ∧ R v' w'')
    (h : ∀ v' w'', (late i = false → S w'') → R v' w'' → ∀ K : Act → Prop, (∀ a, wpAnyL P md ops Q S late fuel (listed.setIfInBounds i true) a w'' → K a) → K (a.put oi.dst v')) :
    wpAnyL P md ops Q S late (fuel + 1) listed a w := by
  obtain ⟨v', w'', hrun, hS, hR⟩ := hrun
  refine ⟨fun h0 => (by rw [hr] at h0; cases h0), fun j hj => ?_⟩
  rw [hr] at hj
  obtain rfl : j = i := by simpa using hj
  have hx : (execOp a.eval oi).run P w = .ok (.value v') w'' := by
    simp [execOp, ho, resolve, invoke, builtin, hv, hu, hrun, Result.andThen]
  unfold Go.wpOp
  simp only [hi, hw, if_true, Oper.wp, hx, Oper.upon]
  exact .inl ⟨hS, h v' w'' hS hR _ (fun _ h => h)⟩
/-- The one operation that may come up now is a call. -/
theorem late_call {i : Nat} {oi : Oper} {fuel : Nat} {listed : Array Bool} {a : Act} {w : World} (hr : Region.ready md ops listed = [i]) (hi : ops[i]? = some oi)
    (hw : Region.wanted oi (yielded ops a.tmps) = true) (f : FuncId) (args : Array Value) (R : Value → World → Prop) (hrun : (execOp a.eval oi).run P w = .ok (.enter f args) w)
    (hcall : Calls P f args w (fun e w'' => ∃ v, e = .returned v ∧ (late i = false → S w'') ∧ R v w''))
    (h : ∀ v w'', (late i = false → S w'') → R v w'' → ∀ K : Act → Prop, (∀ a, wpAnyL P md ops Q S late fuel (listed.setIfInBounds i true) a w'' → K a) → K (a.put oi.dst v)) :
    wpAnyL P md ops Q S late (fuel + 1) listed a w := by
  refine ⟨fun h0 => (by rw [hr] at h0; cases h0), fun j hj => ?_⟩
  rw [hr] at hj
  obtain rfl : j = i := by simpa using hj
  unfold Go.wpOp
  simp only [hi, hw, if_true, Oper.wp, hrun, Oper.upon]
  refine .inl (hcall.mono fun e w'' ⟨v, he, hS, hR⟩ => ?_)
  subst he
  exact ⟨hS, h v w'' hS hR _ (fun _ h => h)⟩
/-- All have come up. -/
theorem late_done {listed : Array Bool} {a : Act} {w : World} (hr : Region.ready md ops listed = []) (h : Q .normal a w) : ∀ fuel, wpAnyL P md ops Q S late fuel listed a w
  | 0 => ⟨hr, h⟩
  | _ + 1 => ⟨fun _ => h, by rw [hr]; simp⟩
theorem wp_region_late {id : Nat} {a : Act} {w : World} (S : World → Prop) (late : Nat → Bool) (hm : P.follows .mixedOrders = true)
    (h : wpAnyL P .any ops Q S late ops.size (Array.replicate ops.size false) a w.drew) : (Code.region id ops true).wp P Q a w :=
  wp_region_any hm (wpAny_of_late _ _ _ _ h)
end
end Go.Proofs.YtfhmblbomkhcpaaDoor
