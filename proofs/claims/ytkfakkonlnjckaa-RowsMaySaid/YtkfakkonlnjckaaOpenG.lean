/- What a row's proof opens: lists of whatever elements, none longer than memory holds. -/
import Derived.Test.YtkfakkonlnjckaaRowsE
import Derived.Test.YtkfakkonlnjckaaOpenI
import Derived.SizedLaws
namespace Go.Proofs.Ytkfakkonlnjckaa
open Go.ChangeShapes Go.WideShapes Go.ChangeAt Go.RowKit Go.Deep Go.WideMaps

section
variable {H : Type} {enc : TypeId × Value → H} {W : World} {α : Type} {E : Elt α}
theorem Elt.encs_get {L : List α} {j : Nat} {u : Value} (h : (E.encs L)[j]? = some u) : ∃ x, L[j / E.sz]? = some x ∧ (E.enc x)[j % E.sz]? = some u := by
  have h1 := (List.getElem?_eq_some_iff.1 h).1
  rw [E.encs_length] at h1
  have h2 : j / E.sz < L.length := Nat.div_lt_of_lt_mul (by rw [Nat.mul_comm]; exact h1)
  have h3 : j % E.sz < (E.enc L[j / E.sz]).length := by rw [E.len]; exact Nat.mod_lt _ E.pos
  refine ⟨L[j / E.sz], List.getElem?_eq_getElem h2, ?_⟩
  have h4 := E.encs_at (List.getElem?_eq_getElem h2) (List.getElem?_eq_getElem h3)
  rw [Nat.div_add_mod' j E.sz, h] at h4
  rw [List.getElem?_eq_getElem h3]
  exact h4.symm
theorem weightsAll_memG {P : Program} {e : TypeId} {d : DataW H} {n : Nat} (hn : n ∈ d.weights P e) : ∀ {ds : List (DataW H)}, d ∈ ds → n ∈ DataW.weightsAll P e ds
  | [], h => by cases h
  | d' :: ds, h => by
    simp only [DataW.weightsAll, List.mem_append]
    rcases List.mem_cons.1 h with rfl | h
    · exact .inl hn
    · exact .inr (weightsAll_memG hn h)
theorem weights_agg {P : Program} {t : TypeId} {fs : Array Field} (hu : P.underlying t = some (.struct fs)) {i : Nat} {f : Field} {d : DataW H} {parts : List (DataW H)} (hf : fs[i]? = some f) (hd : parts[i]? = some d) {n : Nat} (hn : n ∈ d.weights P f.type) : n ∈ (DataW.agg parts).weights P t := by
  simp only [DataW.weights, hu]
  refine DataW.weights_mem_each (j := i) ?_ hd n hn
  rw [List.getElem?_map, Array.getElem?_toList, hf]
  rfl
/-- A list that came in. -/
theorem open_list (E : Elt α) (hsz : Try.prog.cellsOf E.e = E.sz) (hbs : Try.prog.bytesOf E.e = E.bs) (Q : α → Prop) {fuel : Nat} {cs : List Value} {d : DataW H} {p : List MemPlace} (h : DataW.trod enc Try.prog W 0 (fun _ => true) true fuel E.sl cs = some (d, p)) (hz : ∀ n ∈ d.weights Try.prog E.sl, n ≤ reachBytes)
    (hel : ∀ fuel cs' d' pl, DataW.trod enc Try.prog W 0 (fun _ => true) true fuel E.e cs' = some (d', pl) → cs'.length = E.sz → (∀ n ∈ d'.weights Try.prog E.e, n ≤ reachBytes) → ∃ x, cs' = E.enc x ∧ E.ok x ∧ Q x) :
    ∃ (a : Option Addr) (c : Nat) (L : List α), cs = [.slice a L.length c] ∧ E.In W 0 (a, L.length, c) L ∧ (∀ x ∈ L, Q x) ∧ L.length * E.bs ≤ reachBytes := by
  rcases open_slice E.und h with ⟨rfl, _⟩ | ⟨a, len, cap, m, n, D, Pl, rfl, _, hl, _, hm, hx, hi⟩
  · exact ⟨none, 0, [], rfl, .nil _ _ _, (fun x hx => by cases hx), by simp⟩
  · simp only [if_true] at hm
    subst hm
    simp only [Prod.mk.injEq] at hx
    obtain ⟨rfl, -⟩ := hx
    simp only [DataW.weights, E.und, hbs, List.mem_cons, List.mem_append, List.length_map, List.length_range] at hz
    have hlen := hz _ (.inl rfl)
    have each : ∀ i, i < len → ∃ x : α, (∀ k, k < E.sz → W.cell? (a.add (i * E.sz + k)) = (E.enc x)[k]?) ∧ E.ok x ∧ Q x := by
      intro i hil
      obtain ⟨cs', hc, ht⟩ := hi i (by omega)
      rw [hsz] at hc
      obtain ⟨_, hcl, hat⟩ := World.cells?_some hc
      obtain ⟨x, rfl, h1, h2⟩ := hel _ _ _ _ ht hcl (fun n hn => hz n (.inr (.inl (weightsAll_memG hn (List.mem_map.2 ⟨i, List.mem_range.2 hil, rfl⟩)))))
      exact ⟨x, fun k hk => by rw [← hat k hk, Go.Deep.add_add], h1, h2⟩
    haveI : Inhabited α := ⟨E.z⟩
    obtain ⟨f, hf⟩ := choose_lt each
    have hL : ((List.range len).map f).length = len := by simp
    have hget : ∀ k x, ((List.range len).map f)[k]? = some x → k < len ∧ x = f k := by
      intro k x hx
      have h1 := (List.getElem?_eq_some_iff.1 hx).1
      simp at h1
      simp [h1] at hx
      exact ⟨h1, hx.symm⟩
    have hmem : ∀ x ∈ (List.range len).map f, ∃ k, k < len ∧ x = f k := by
      intro x hx
      obtain ⟨k, hk⟩ := List.getElem?_of_mem hx
      exact ⟨k, hget k x hk⟩
    obtain ⟨b, o, sp⟩ := a
    have hfst : 0 < len → ∃ u, W.cell? ((⟨b, o, sp⟩ : Addr).add 0) = some u := fun h0 => by
      have h1 := (hf 0 h0).1 0 E.pos
      rw [Nat.zero_mul, Nat.zero_add, List.getElem?_eq_getElem (by rw [E.len]; exact E.pos)] at h1
      exact ⟨_, h1⟩
    have hsp : 0 < len → sp = none := fun h0 => by
      obtain ⟨u, hu⟩ := hfst h0
      have := World.cell?_spot hu
      simpa [Addr.add] using this
    refine ⟨some ⟨b, o, sp⟩, m, (List.range len).map f, by rw [hL], ⟨rfl, by show ((List.range len).map f).length ≤ m; rw [hL]; exact hl, b, o, ⟨fun j u hj => ?_, fun x hx => ?_, fun hne => ?_⟩, fun h0 => ?_⟩, fun x hx => ?_, ?_⟩
    · obtain ⟨x, h1, h2⟩ := Elt.encs_get hj
      obtain ⟨h3, rfl⟩ := hget _ _ h1
      obtain rfl := hsp (Nat.lt_of_le_of_lt (Nat.zero_le _) h3)
      have h4 := (hf _ h3).1 (j % E.sz) (Nat.mod_lt _ E.pos)
      rw [Nat.div_add_mod' j E.sz, h2, Addr.add_lit] at h4
      exact h4
    · obtain ⟨k, h1, rfl⟩ := hmem x hx
      exact (hf k h1).2.1
    · have h0 : 0 < len := by
        rcases Nat.eq_zero_or_pos len with h | h
        · subst h; simp at hne
        · exact h
      obtain ⟨u, hu⟩ := hfst h0
      have := World.block_lt_of_cell? _ _ hu
      simpa [Addr.add] using this
    · rw [hL] at h0
      obtain rfl := hsp h0
      exact ⟨rfl, Nat.zero_le _⟩
    · obtain ⟨k, h1, rfl⟩ := hmem x hx
      exact (hf k h1).2.2
    · rw [hL]
      exact Nat.le_trans (Nat.mul_le_mul_right _ (by omega)) hlen
end
end Go.Proofs.Ytkfakkonlnjckaa
