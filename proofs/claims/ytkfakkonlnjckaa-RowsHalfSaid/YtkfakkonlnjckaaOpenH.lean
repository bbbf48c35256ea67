/- What a row's proof opens: a list of bools. -/
import Derived.Test.YtkfakkonlnjckaaRowsH
import Derived.Test.YtkfakkonlnjckaaOpenI
import Derived.Deep.Grids
namespace Go.Proofs.Ytkfakkonlnjckaa
open Go.ChangeShapes Go.WideShapes Go.ChangeAt Go.RowKit Go.Deep Go.WideMaps

section
variable {H : Type} {enc : TypeId × Value → H} {W : World}
theorem boolEncs (L : List Bool) : boolE.encs L = L.map Value.bool := by
  induction L with
  | nil => rfl
  | cons x L ih =>
    have : boolE.encs (x :: L) = [.bool x] ++ boolE.encs L := rfl
    rw [this, ih]
    rfl
theorem open_boolsL {a0 : Option Addr} {len cap0 : Nat} {d : DataW H} {p : List MemPlace} (h : DataW.Trod enc Try.prog W 0 (fun _ => true) true 70 (.slice a0 len cap0) d p) :
    ∃ (g o : Nat) (L : List Bool), len = L.length ∧ boolE.At W g o L ∧ (0 < L.length → a0 = some ⟨g, o, none⟩) := by
  obtain ⟨fuel, hf⟩ := h
  rcases open_bools Try.underlying70 Try.underlying4 (by kernel_rfl) hf with ⟨hcs, _⟩ | ⟨a, len', cap, B, hcs, _, hl, _, _, hc⟩
  · simp [Value.cells] at hcs
    obtain ⟨rfl, rfl, rfl⟩ := hcs
    exact ⟨0, 0, [], rfl, .nil _ _ _ _, fun h => by simp at h⟩
  · simp [Value.cells] at hcs
    obtain ⟨rfl, rfl, rfl⟩ := hcs
    obtain ⟨b, o, sp⟩ := a
    have hsp : 0 < len → sp = none := fun h0 => by
      have := World.cell?_spot (hc 0 (by omega))
      simpa [Addr.add] using this
    refine ⟨b, o, (List.range len).map B, by simp, ⟨fun j u hj => ?_, fun _ _ => trivial, fun hne => ?_⟩, fun h0 => ?_⟩
    · rw [boolEncs] at hj
      simp only [List.map_map, List.getElem?_map, Option.map_eq_some_iff] at hj
      obtain ⟨k, hk, rfl⟩ := hj
      have hk' := List.getElem?_eq_some_iff.1 hk
      obtain ⟨h1, h2⟩ := hk'
      simp at h1 h2
      subst h2
      obtain rfl := hsp (by omega)
      have := hc j (by omega)
      simpa only [Addr.add_lit, Function.comp] using this
    · have h0 : 0 < len := by
        rcases Nat.eq_zero_or_pos len with h | h
        · subst h; simp at hne
        · exact h
      have := World.block_lt_of_cell? _ _ (hc 0 (by omega))
      simpa [Addr.add] using this
    · simp at h0
      obtain rfl := hsp h0
      rfl
end
end Go.Proofs.Ytkfakkonlnjckaa
