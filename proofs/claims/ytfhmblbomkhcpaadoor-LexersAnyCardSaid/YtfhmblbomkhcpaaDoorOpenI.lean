/- What a row's proof opens: a list of ints. -/
import Derived.Test.YtfhmblbomkhcpaaDoorNums
import Derived.Test.YtfhmblbomkhcpaaDoorOpenB
import Derived.ProofKit
import Derived.OpenShut
import Derived.ShutString
import Derived.ChangeOld
import Derived.Deep.Slices
import Derived.Deep.Fields
namespace Go.Proofs.YtfhmblbomkhcpaaDoor
open Go.ChangeShapes Go.WideShapes Go.ChangeAt Go.RowKit Go.Deep Go.WideMaps

section
variable {H : Type} {enc : TypeId × Value → H} {W : World}
/-- The ints that came in. -/
theorem open_nums {a0 : Option Addr} {len cap0 : Nat} {d : DataW H} {p : List MemPlace} (h : DataW.Trod enc Tryd.prog W 0 (fun _ => true) true 23 (.slice a0 len cap0) d p) :
    ∃ (g o : Nat) (Z : List Int), len = Z.length ∧ I.BytesAt W g o Z ∧ (0 < Z.length → a0 = some ⟨g, o, none⟩) ∧ len ≤ cap0 ∧ (a0 = none → cap0 = 0) := by
  obtain ⟨fuel, hf⟩ := h
  rcases open_ints Tryd.underlying23 Tryd.underlying3 (by kernel_rfl) hf with ⟨hcs, _⟩ | ⟨a, len', cap, zs, hcs, _, hl, _, hz, _, hc, hw⟩
  · simp [Value.cells] at hcs
    obtain ⟨rfl, rfl, rfl⟩ := hcs
    exact ⟨0, 0, [], rfl, ⟨fun k a hk => by simp at hk, fun h => absurd rfl h⟩, fun h => by simp at h, Nat.le_refl _, fun _ => rfl⟩
  · simp [Value.cells] at hcs
    obtain ⟨rfl, rfl, rfl⟩ := hcs
    simp only [if_true] at hz
    obtain ⟨b, o, sp⟩ := a
    have hlen : (zs.take len).length = len := by simp; omega
    have hget : ∀ k x, (zs.take len)[k]? = some x → k < len ∧ zs[k]? = some x := fun k x hk => by
      have h1 := (List.getElem?_eq_some_iff.1 hk).1
      rw [hlen] at h1
      rw [List.getElem?_take_of_lt h1] at hk
      exact ⟨h1, hk⟩
    have hsp : 0 < len → sp = none := fun h0 => by
      have := World.cell?_spot (hc 0 (by omega))
      simpa [Addr.add] using this
    refine ⟨b, o, zs.take len, hlen.symm, ⟨fun k x hk => ?_, fun hne => ?_⟩, fun h0 => ?_, hl, fun h => by cases h⟩
    · obtain ⟨h1, h2⟩ := hget k x hk
      obtain rfl := hsp (by omega)
      have hk' := (List.getElem?_eq_some_iff.1 h2)
      obtain ⟨h3, h4⟩ := hk'
      have h5 := hc k h3
      have h6 : zs.getD k 0 = x := by rw [List.getD_eq_getElem?_getD, h2]; rfl
      rw [h6] at h5
      have h7 := bounds_i64 (hw x (by rw [← h4]; exact List.getElem_mem h3))
      exact ⟨by simpa only [Addr.add_lit] using h5, h7.1, h7.2⟩
    · have h0 : 0 < len := by
        rcases Nat.eq_zero_or_pos len with h | h
        · subst h; simp at hne
        · exact h
      have := World.block_lt_of_cell? _ _ (hc 0 (by omega))
      simpa [Addr.add] using this
    · rw [hlen] at h0
      obtain rfl := hsp h0
      rfl
end

end Go.Proofs.YtfhmblbomkhcpaaDoor
