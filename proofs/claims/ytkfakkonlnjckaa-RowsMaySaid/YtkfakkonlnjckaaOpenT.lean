/- What a row's proof opens: a table of rows. -/
import Derived.Test.YtkfakkonlnjckaaRowsM
import Derived.Test.YtkfakkonlnjckaaInts
import Derived.Test.YtkfakkonlnjckaaOpenL
import Derived.Test.YtkfakkonlnjckaaOpenG
namespace Go.Proofs.Ytkfakkonlnjckaa
open Go.ChangeShapes Go.WideShapes Go.ChangeAt Go.RowKit Go.Deep Go.WideMaps

section
variable {H : Type} {enc : TypeId × Value → H} {W : World}
/-- Ints that came in. -/
theorem open_ints' {fuel : Nat} {cs : List Value} {d : DataW H} {p : List MemPlace} (h : DataW.trod enc Try.prog W 0 (fun _ => true) true fuel 22 cs = some (d, p)) (hz : ∀ n ∈ d.weights Try.prog 22, n ≤ reachBytes) :
    ∃ (a : Option Addr) (c g o : Nat) (L : List Int), cs = [.slice a L.length c] ∧ I.BytesAt W g o L ∧ (0 < L.length → a = some ⟨g, o, none⟩) ∧ L.length ≤ 100000000000000 := by
  have hrb : reachBytes = 140737488351232 := rfl
  obtain ⟨a, c, L, rfl, ⟨_, _, g, o, h1, h2⟩, -, h3⟩ := open_list intE (by kernel_rfl) (by kernel_rfl) (fun _ => True) h hz (fun fuel cs' d' pl ht hl _ => by
    obtain ⟨x, e, _, w⟩ := DataW.trod_int Try.underlying3 ht
    exact ⟨x, e, bounds_i64 w, trivial⟩)
  refine ⟨a, c, g, o, L, rfl, intAt.1 h1, fun h => (h2 h).1, ?_⟩
  have e : intE.bs = 8 := rfl
  rw [e] at h3
  omega
set_option maxRecDepth 100000 in
/-- Cells that came in. -/
theorem open_cells {fuel : Nat} {cs : List Value} {d : DataW H} {p : List MemPlace} (h : DataW.trod enc Try.prog W 0 (fun _ => true) true fuel 25 cs = some (d, p)) (hz : ∀ n ∈ d.weights Try.prog 25, n ≤ reachBytes) :
    ∃ (a : Option Addr) (c : Nat) (L : List (Int × Int)), cs = [.slice a L.length c] ∧ cellE.In W 0 (a, L.length, c) L ∧ L.length ≤ 100000000000000 := by
  have hrb : reachBytes = 140737488351232 := rfl
  obtain ⟨a, c, L, rfl, h1, -, h3⟩ := open_list cellE (by kernel_rfl) (by kernel_rfl) (fun _ => True) h hz (fun fuel cs' d' pl ht hl _ => by
    obtain ⟨xs, n', _, _, _, hxl, hg⟩ := DataW.trod_struct Try.underlying79 ht
    match cs', hl with
    | [k0, k1], _ =>
      have hxs : xs.length = 2 := hxl
      have g0 := hg 0 _ rfl
      have g1 := hg 1 _ rfl
      rw [List.getElem?_eq_getElem (by omega)] at g0 g1
      obtain ⟨x0, e0, _, w0⟩ := DataW.trod_int Try.underlying3 g0
      obtain ⟨x1, e1, _, w1⟩ := DataW.trod_int Try.underlying3 g1
      simp [twoCells] at e0 e1
      subst e0 e1
      exact ⟨(x0, x1), rfl, ⟨bounds_i64 w0, bounds_i64 w1⟩, trivial⟩)
  refine ⟨a, c, L, rfl, h1, ?_⟩
  have e : cellE.bs = 16 := rfl
  rw [e] at h3
  omega
theorem sliceCells : Try.prog.cellsOf 25 = 1 := by kernel_rfl
theorem sliceCellsR : Try.prog.cellsOf 43 = 1 := by kernel_rfl
theorem sliceCellsI : Try.prog.cellsOf 22 = 1 := by kernel_rfl
theorem tableCells : Try.prog.cellsOf 45 = 3 := by kernel_rfl
set_option maxRecDepth 100000 in
/-- Rows that came in. -/
theorem open_rows {fuel : Nat} {cs : List Value} {d : DataW H} {p : List MemPlace} (h : DataW.trod enc Try.prog W 0 (fun _ => true) true fuel 43 cs = some (d, p)) (hz : ∀ n ∈ d.weights Try.prog 43, n ≤ reachBytes) :
    ∃ (a : Option Addr) (c : Nat) (R : List RowD), cs = [.slice a R.length c] ∧ RowsIn cellE rowE W 0 (a, R.length, c) R ∧ R.length ≤ 100000000000000 ∧ ∀ r ∈ R, r.2.length ≤ 100000000000000 := by
  have hrb : reachBytes = 140737488351232 := rfl
  obtain ⟨a, c, L, rfl, h1, h2, h3⟩ := open_list rowE (by kernel_rfl) (by kernel_rfl) (fun x => I.Byte x.1 ∧ ∃ X : List (Int × Int), cellE.In W 0 x.2 X ∧ X.length ≤ 100000000000000) h hz (fun fuel cs' d' pl ht hl hw => by
    obtain ⟨xs, n', _, hd, _, hxl, hg⟩ := DataW.trod_struct Try.underlying27 ht
    simp only [Prod.mk.injEq] at hd
    obtain ⟨rfl, -⟩ := hd
    match cs', hl with
    | [k0, k1], _ =>
      have hxs : xs.length = 2 := hxl
      have g0 := hg 0 _ rfl
      have g1 := hg 1 _ rfl
      rw [List.getElem?_eq_getElem (by omega)] at g0 g1
      obtain ⟨x0, e0, _, w0⟩ := DataW.trod_int Try.underlying3 g0
      obtain ⟨a, c, X, e1, hin, hle⟩ := open_cells (d := xs[1].1) (p := xs[1].2) g1 (fun n hn => hw n (weights_agg Try.underlying27 (i := 1) rfl (by rw [List.getElem?_map, List.getElem?_eq_getElem (by omega)]; rfl) hn))
      simp [twoCells] at e0
      simp [sliceCells] at e1
      subst e0 e1
      exact ⟨(x0, a, X.length, c), rfl, bounds_i64 w0, bounds_i64 w0, X, hin, hle⟩)
  have e : rowE.bs = 32 := rfl
  rw [e] at h3
  have hex : ∀ i, i < L.length → ∃ r : RowD, ∀ x, L[i]? = some x → RowIn cellE W 0 x r ∧ r.2.length ≤ 100000000000000 := by
    intro i hi
    obtain ⟨k1, X, k2, k3⟩ := h2 _ (List.getElem_mem hi)
    refine ⟨(L[i].1, X), fun x hx => ?_⟩
    rw [List.getElem?_eq_getElem hi] at hx
    obtain rfl := Option.some.inj hx
    exact ⟨⟨rfl, k1, k2⟩, k3⟩
  obtain ⟨f, hf⟩ := choose_lt hex
  have hget : ∀ k r, ((List.range L.length).map f)[k]? = some r → k < L.length ∧ r = f k := by
    intro k x hx
    have h1 := (List.getElem?_eq_some_iff.1 hx).1
    simp at h1
    simp [h1] at hx
    exact ⟨h1, hx.symm⟩
  have hlen : ((List.range L.length).map f).length = L.length := by simp
  refine ⟨a, c, (List.range L.length).map f, by rw [hlen], ⟨L, by rw [hlen]; exact h1, hlen.symm, fun j x r hx hr => ?_⟩, by rw [hlen]; omega, fun r hr => ?_⟩
  · obtain ⟨h4, rfl⟩ := hget j r hr
    exact (hf j h4 x hx).1
  · obtain ⟨k, hk⟩ := List.getElem?_of_mem hr
    obtain ⟨h4, rfl⟩ := hget k r hk
    exact (hf k h4 _ (List.getElem?_eq_getElem h4)).2
set_option maxRecDepth 100000 in
/-- A table that came in by value. -/
theorem open_table {v : Value} {d : DataW H} {p : List MemPlace} {b0 : Nat} (hv : Value.okWide Try.prog W .any b0 45 v) (h : DataW.Trod enc Try.prog W 0 (fun _ => true) true 45 v d p) (hz : ∀ n ∈ d.weights Try.prog 45, n ≤ reachBytes) :
    ∃ (wd : Int) (R : List RowD) (O : List Int) (ra oa : Option Addr) (rc oc g o : Nat), v = .agg #[.int .i64 wd, .slice ra R.length rc, .slice oa O.length oc] ∧ I.Byte wd ∧ RowsIn cellE rowE W 0 (ra, R.length, rc) R ∧ R.length ≤ 100000000000000 ∧ (∀ r ∈ R, r.2.length ≤ 100000000000000) ∧
      I.BytesAt W g o O ∧ (0 < O.length → oa = some ⟨g, o, none⟩) ∧ O.length ≤ 100000000000000 := by
  obtain ⟨xs, rfl, hs⟩ := okWide_struct Try.underlying45 hv
  obtain ⟨fuel, hf⟩ := h
  obtain ⟨ys, m, _, hd, _, hyl, hg⟩ := DataW.trod_struct Try.underlying45 hf
  simp only [Prod.mk.injEq] at hd
  obtain ⟨rfl, -⟩ := hd
  obtain ⟨l⟩ := xs
  rw [tableCells] at hs
  match l, hs with
  | [c0, c1, c2], _ =>
    have hys : ys.length = 3 := hyl
    have g0 := hg 0 _ rfl
    have g1 := hg 1 _ rfl
    have g2 := hg 2 _ rfl
    rw [List.getElem?_eq_getElem (by omega)] at g0 g1 g2
    obtain ⟨x, e0, _, w0⟩ := DataW.trod_int Try.underlying3 g0
    obtain ⟨ra, rc, R, e1, hR, hRl, hRc⟩ := open_rows (d := ys[1].1) (p := ys[1].2) g1 (fun n hn => hz n (weights_agg Try.underlying45 (i := 1) rfl (by rw [List.getElem?_map, List.getElem?_eq_getElem (by omega)]; rfl) hn))
    obtain ⟨oa, oc, g, o, O, e2, hO, hOa, hOl⟩ := open_ints' (d := ys[2].1) (p := ys[2].2) g2 (fun n hn => hz n (weights_agg Try.underlying45 (i := 2) rfl (by rw [List.getElem?_map, List.getElem?_eq_getElem (by omega)]; rfl) hn))
    simp [Value.cells, twoCells] at e0
    simp [Value.cells, sliceCellsR] at e1
    simp [Value.cells, sliceCellsI] at e2
    subst e0 e1 e2
    exact ⟨x, R, O, ra, oa, rc, oc, g, o, rfl, bounds_i64 w0, hR, hRl, hRc, hO, hOa, hOl⟩
end
end Go.Proofs.Ytkfakkonlnjckaa
