/- A region that draws and holds one call: what only reads is taken first. -/
import Derived.Test.YtfhmblbomkhcpaaDoorBase
import Derived.OrdersHeld
namespace Go.Proofs.YtfhmblbomkhcpaaDoor
section
variable {P : Program} {ops : Array Oper} {Q : Exit → Act → World → Prop} {md : Region.Mode} {S : World → Prop}

theorem held_read {i : Nat} {oi : Oper} {fuel : Nat} {listed : Array Bool} {a : Act} {w : World} (hi : ops[i]? = some oi)
    (hs : Region.noSelect ops = true) (hf : Region.free md ops listed i = true) (hr : (Region.ready md ops listed).contains i = true)
    (hQ : ∀ v c a w, Q (.panic c) (a.put oi.dst v) w → Q (.panic c) a w) (hw : Region.wanted oi (yielded ops a.tmps) = true) (hS : S w)
    (h : ∀ K : Act → Prop, (∀ a, wpAnyH P md ops Q S fuel (listed.setIfInBounds i true) a w → K a) → ∃ v, (∀ w', S w' → (execOp a.eval oi).run P w' = .ok (.value v) w') ∧ K (a.put oi.dst v)) :
    wpAnyH P md ops Q S (fuel + 1) listed a w := by
  obtain ⟨v, hrun, hK⟩ := h _ (fun _ h => h)
  exact wpAnyH_take hi hs hf hr (hQ v) (.inl ⟨hw, hrun⟩) hS hK

theorem wpOp_value {i : Nat} {oi : Oper} {a : Act} {w : World} {v : Value} {K : Act → World → Prop} (hi : ops[i]? = some oi) (hw : Region.wanted oi (yielded ops a.tmps) = true)
    (hrun : (execOp a.eval oi).run P w = .ok (.value v) w) (h : K (a.put oi.dst v) w) : wpOp P ops Q i K a w := by
  unfold Go.wpOp
  simp only [hi, hw, if_true, Oper.wp, hrun, Oper.upon]
  exact .inl h

/-- The one operation that may come up now. -/
theorem held_one {i : Nat} {oi : Oper} {fuel : Nat} {listed : Array Bool} {a : Act} {w : World} (hr : Region.ready md ops listed = [i]) (hi : ops[i]? = some oi)
    (hw : Region.wanted oi (yielded ops a.tmps) = true) (hS : S w)
    (h : ∀ K : Act → Prop, (∀ a, wpAnyH P md ops Q S fuel (listed.setIfInBounds i true) a w → K a) → ∃ v, (execOp a.eval oi).run P w = .ok (.value v) w ∧ K (a.put oi.dst v)) :
    wpAnyH P md ops Q S (fuel + 1) listed a w := by
  obtain ⟨v, hrun, hK⟩ := h _ (fun _ h => h)
  exact wpAnyH_all hr (by simp) (fun j hj => by
    obtain rfl : j = i := by simpa using hj
    exact wpOp_value hi hw hrun ⟨hS, hK⟩)

/-- The one operation that may come up now is a call. -/
theorem held_call {i : Nat} {oi : Oper} {fuel : Nat} {listed : Array Bool} {a : Act} {w : World} (hr : Region.ready md ops listed = [i]) (hi : ops[i]? = some oi)
    (hw : Region.wanted oi (yielded ops a.tmps) = true) (f : FuncId) (args : Array Value) (R : Value → World → Prop) (hrun : (execOp a.eval oi).run P w = .ok (.enter f args) w)
    (hcall : Calls P f args w (fun e w'' => ∃ v, e = .returned v ∧ S w'' ∧ R v w''))
    (h : ∀ v w'', S w'' → R v w'' → ∀ K : Act → Prop, (∀ a, wpAnyH P md ops Q S fuel (listed.setIfInBounds i true) a w'' → K a) → K (a.put oi.dst v)) :
    wpAnyH P md ops Q S (fuel + 1) listed a w :=
  wpAnyH_all hr (by simp) (fun j hj => by
    obtain rfl : j = i := by simpa using hj
    unfold Go.wpOp
    simp only [hi, hw, if_true, Oper.wp, hrun, Oper.upon]
    refine .inl (hcall.mono fun e w'' ⟨v, he, hS, hR⟩ => ?_)
    subst he
    exact ⟨hS, h v w'' hS hR _ (fun _ h => h)⟩)
end
end Go.Proofs.YtfhmblbomkhcpaaDoor
