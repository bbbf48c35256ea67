/- What a row's proof opens: a list of lists of ints, none longer than memory holds; two ints. -/
import Derived.Test.YtkfakkonlnjckaaRowsT
import Derived.Test.YtkfakkonlnjckaaOpenI
import Derived.Deep.Matrix
import Derived.SizedLaws
import Derived.WideKeyArr2
namespace Go.Proofs.Ytkfakkonlnjckaa
open Go.ChangeShapes Go.WideShapes Go.ChangeAt Go.RowKit Go.Deep Go.WideMaps

section
variable {H : Type} {enc : TypeId × Value → H} {W : World}
theorem weightsAll_mem {P : Program} {e : TypeId} {d : DataW H} {n : Nat} (hn : n ∈ d.weights P e) : ∀ {ds : List (DataW H)}, d ∈ ds → n ∈ DataW.weightsAll P e ds
  | [], h => by cases h
  | d' :: ds, h => by
    simp only [DataW.weightsAll, List.mem_append]
    rcases List.mem_cons.1 h with rfl | h
    · exact .inl hn
    · exact .inr (weightsAll_mem hn h)
theorem cells_bytes {b o : Nat} {zs : List Int} {C L : Nat} (hc : ∀ c, c < C → W.cell? ((⟨b, o, none⟩ : Addr).add c) = some (.int .i64 (zs.getD c 0))) (hz : zs.length = C) (hl : L ≤ C) (hw : ∀ n ∈ zs, (Lit.int .i64 n).wf = true) : I.BytesAt W b o (zs.take L) := by
  have hlen : (zs.take L).length = L := by simp; omega
  refine ⟨fun k x hk => ?_, fun hne => ?_⟩
  · have h1 := (List.getElem?_eq_some_iff.1 hk).1
    rw [hlen] at h1
    rw [List.getElem?_take_of_lt h1] at hk
    obtain ⟨h3, h4⟩ := List.getElem?_eq_some_iff.1 hk
    have h5 := hc k (by omega)
    have h6 : zs.getD k 0 = x := by rw [List.getD_eq_getElem?_getD, hk]; rfl
    rw [h6] at h5
    have h7 := bounds_i64 (hw x (by rw [← h4]; exact List.getElem_mem h3))
    exact ⟨by simpa only [Addr.add_lit] using h5, h7.1, h7.2⟩
  · have h0 : 0 < L := by
      rcases Nat.eq_zero_or_pos L with h | h
      · subst h; simp at hne
      · exact h
    have := World.block_lt_of_cell? _ _ (hc 0 (by omega))
    simpa [Addr.add] using this
theorem spot_none {b o : Nat} {sp} {v : Value} (h : W.cell? ((⟨b, o, sp⟩ : Addr).add 0) = some v) : sp = none := by
  have := World.cell?_spot h
  simpa [Addr.add] using this

/-- The lists that came in. -/
theorem open_lists {a0 : Option Addr} {len cap0 : Nat} {d : DataW H} {p : List MemPlace} (h : DataW.Trod enc Try.prog W 0 (fun _ => true) true 40 (.slice a0 len cap0) d p) (hz : ∀ n ∈ d.weights Try.prog 40, n ≤ reachBytes) :
    ∃ LL : List (List Int), len = LL.length ∧ ListsIn W 0 (a0, LL.length, cap0) LL ∧ LL.length ≤ 100000000000000 ∧ ∀ l ∈ LL, l.length ≤ 100000000000000 := by
  have b24 : Try.prog.bytesOf 22 = 24 := by kernel_rfl
  have b8 : Try.prog.bytesOf 3 = 8 := by kernel_rfl
  obtain ⟨fuel, hf⟩ := h
  rcases open_int_rows Try.underlying40 Try.underlying22 Try.underlying3 (by kernel_rfl) (by kernel_rfl) hf with ⟨hcs, _⟩ | ⟨a, len', cap, A, L, C, Z, hcs, _, hl, _, hd, hr⟩
  · simp [Value.cells] at hcs
    obtain ⟨rfl, rfl, rfl⟩ := hcs
    exact ⟨[], rfl, ⟨[], .nil _ _ _, rfl, fun j x l hx => by simp at hx⟩, by simp, fun l hl => by cases hl⟩
  · simp [Value.cells] at hcs
    obtain ⟨rfl, rfl, rfl⟩ := hcs
    simp only [Prod.mk.injEq] at hd
    obtain ⟨rfl, -⟩ := hd
    have hrb : reachBytes = 140737488351232 := rfl
    simp only [DataW.weights, Try.underlying40, b24, List.mem_cons, List.mem_append, List.length_map, List.length_range] at hz
    have hlen := hz _ (.inl rfl)
    have hrow : ∀ r, r < len → L r ≤ 100000000000000 := by
      intro r hrl
      obtain ⟨_, h2, _, h4, _, h6, _⟩ := hr r (by omega)
      rcases hA : A r with _ | a'
      · have := h6 hA; omega
      · have hw := hz ((Z r).length * 8) (.inr (.inl (weightsAll_mem (d := Go.Deep.intRow .i64 (A r) (L r) (Z r)) (by
          rw [hA]
          have e : (lits (H := H) .i64 ((Z r).take (L r))).length + (lits (H := H) .i64 ((Z r).drop (L r))).length = (Z r).length := by
            simp [lits]; omega
          simp only [Go.Deep.intRow, DataW.weights, Try.underlying22, b8, e]
          exact List.mem_cons_self) (List.mem_map.2 ⟨r, List.mem_range.2 hrl, rfl⟩))))
        omega
    have hmem : ∀ (j : Nat) l, ((List.range len).map fun r => (Z r).take (L r))[j]? = some l → j < len ∧ l = (Z j).take (L j) := by
      intro j l hj
      have h1 := (List.getElem?_eq_some_iff.1 hj).1
      simp at h1
      simp [h1] at hj
      exact ⟨h1, hj.symm⟩
    have hlj : ∀ j, j < len → ((Z j).take (L j)).length = L j := by
      intro j hj
      obtain ⟨_, h2, _, h4, _⟩ := hr j (by omega)
      simp; omega
    obtain ⟨b, o, sp⟩ := a
    have hsp : 0 < len → sp = none := fun h0 => spot_none (hr 0 (by omega)).1
    refine ⟨(List.range len).map fun r => (Z r).take (L r), by simp, ⟨(List.range len).map fun r => (A r, L r, C r), ⟨by simp, by simpa using hl, b, o, ⟨fun j u hj => ?_, fun _ _ => trivial, fun hne => ?_⟩, fun h0 => ?_⟩, by simp, fun j x l hx hl' => ?_⟩, by simp; omega, fun l hl' => ?_⟩
    · have e : listE.encs ((List.range len).map fun r => (A r, L r, C r)) = (List.range len).map fun r => slV (A r, L r, C r) := by
        unfold Elt.encs
        rw [List.flatMap_map]
        exact List.map_eq_flatMap.symm
      rw [e] at hj
      have h1 := (List.getElem?_eq_some_iff.1 hj).1
      simp at h1
      simp [h1] at hj
      subst hj
      have h2 := (hr j (by omega)).1
      obtain rfl := hsp (by omega)
      simp only [Addr.add_lit] at h2
      exact h2
    · have h0 : 0 < len := by
        rcases Nat.eq_zero_or_pos len with h | h
        · subst h; simp at hne
        · exact h
      have := World.block_lt_of_cell? _ _ (hr 0 (by omega)).1
      simpa [Addr.add] using this
    · simp at h0
      obtain rfl := hsp h0
      exact ⟨rfl, Nat.zero_le _⟩
    · obtain ⟨h1, rfl⟩ := hmem j l hl'
      simp [h1] at hx
      subst hx
      obtain ⟨_, h2, h3, h4, h5, h6, h7⟩ := hr j (by omega)
      refine ⟨(hlj j h1).symm, h2, ?_⟩
      rcases hA : A j with _ | ⟨b', o', sp'⟩
      · have := h6 hA
        have e : (Z j).take (L j) = [] := by rw [List.eq_nil_iff_length_eq_zero, hlj j h1]; omega
        rw [e]
        exact ⟨0, 0, .nil _ _ _ _, fun h => absurd h (by simp)⟩
      · obtain ⟨_, h8⟩ := h7 _ hA
        by_cases h0 : 0 < C j
        · obtain rfl := spot_none (h8 0 h0)
          exact ⟨b', o', intAt.2 (cells_bytes h8 h4 h2 h5), fun _ => ⟨rfl, Nat.zero_le _⟩⟩
        · have e : (Z j).take (L j) = [] := by rw [List.eq_nil_iff_length_eq_zero, hlj j h1]; omega
          rw [e]
          exact ⟨0, 0, .nil _ _ _ _, fun h => absurd h (by simp)⟩
    · obtain ⟨j, hj⟩ := List.getElem?_of_mem hl'
      obtain ⟨h1, rfl⟩ := hmem j l hj
      rw [hlj j h1]
      exact hrow j h1
set_option maxRecDepth 100000 in
theorem twoCells : Try.prog.cellsOf 3 = 1 := by kernel_rfl
set_option maxRecDepth 100000 in
theorem arr2 : ArrKey Try.prog 41 3 2 := ⟨Try.underlying41, by kernel_rfl, by kernel_rfl, by kernel_rfl⟩
set_option maxRecDepth 100000 in
/-- Two numbers that came in by value. -/
theorem open_two {v : Value} {d : DataW H} {p : List MemPlace} {b0 : Nat} (hv : Value.okWide Try.prog W .any b0 41 v) (h : DataW.Trod enc Try.prog W 0 (fun _ => true) true 41 v d p) : ∃ x y : Int, v = .agg #[.int .i64 x, .int .i64 y] ∧ I.Byte x ∧ I.Byte y := by
  obtain ⟨xs, rfl, hs⟩ := okWide_arr arr2 hv
  obtain ⟨fuel, hf⟩ := h
  obtain ⟨ys, m, _, _, _, _, hg⟩ := DataW.trod_array Try.underlying41 hf
  obtain ⟨l⟩ := xs
  match l, hs with
  | [c0, c1], _ =>
    have g0 := hg 0 (by omega)
    have g1 := hg 1 (by omega)
    have k0 : ∃ y, ys[0]? = some y := ⟨ys[0], by simp⟩
    have k1 : ∃ y, ys[1]? = some y := ⟨ys[1], by simp⟩
    obtain ⟨y0, k0⟩ := k0
    obtain ⟨y1, k1⟩ := k1
    rw [k0] at g0
    rw [k1] at g1
    obtain ⟨x, e0, _, w0⟩ := DataW.trod_int Try.underlying3 g0
    obtain ⟨y, e1, _, w1⟩ := DataW.trod_int Try.underlying3 g1
    simp [Value.cells, twoCells] at e0 e1
    exact ⟨x, y, by rw [e0, e1], bounds_i64 w0, bounds_i64 w1⟩
end
end Go.Proofs.Ytkfakkonlnjckaa
