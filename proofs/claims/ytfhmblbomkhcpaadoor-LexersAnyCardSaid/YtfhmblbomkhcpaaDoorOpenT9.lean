/- What a row's proof opens: lists of whatever elements, of lists, a table; none longer than memory holds. -/
import Derived.Test.YtfhmblbomkhcpaaDoorElts
import Derived.Test.YtfhmblbomkhcpaaDoorOpenI
import Derived.SizedLaws
import Derived.Deep.Matrix
import Derived.ProofKit
import Derived.OpenShut
namespace Go.Proofs.YtfhmblbomkhcpaaDoor
open Go.ChangeShapes Go.WideShapes Go.ChangeAt Go.RowKit Go.Deep Go.WideMaps

section
variable {H : Type} {enc : TypeId × Value → H} {W : World} {α : Type} {E : Elt α}
theorem Elt.encs_get {L : List α} {j : Nat} {u : Value} (h : (E.encs L)[j]? = some u) : ∃ x, L[j / E.sz]? = some x ∧ (E.enc x)[j % E.sz]? = some u := by
  have h1 := (List.getElem?_eq_some_iff.1 h).1
  rw [E.encs_length] at h1
  have h2 : j / E.sz < L.length := Nat.div_lt_of_lt_mul (by rw [Nat.mul_comm]; exact h1)
  have h3 : j % E.sz < (E.enc L[j / E.sz]).length := by rw [E.len]; exact Nat.mod_lt _ E.pos
  refine ⟨L[j / E.sz], List.getElem?_eq_getElem h2, ?_⟩
  have h4 := E.encs_at (List.getElem?_eq_getElem h2) (List.getElem?_eq_getElem h3)
  rw [Nat.div_add_mod' j E.sz, h] at h4
  rw [List.getElem?_eq_getElem h3]
  exact h4.symm
theorem weightsAll_memG {P : Program} {e : TypeId} {d : DataW H} {n : Nat} (hn : n ∈ d.weights P e) : ∀ {ds : List (DataW H)}, d ∈ ds → n ∈ DataW.weightsAll P e ds
  | [], h => by cases h
  | d' :: ds, h => by
    simp only [DataW.weightsAll, List.mem_append]
    rcases List.mem_cons.1 h with rfl | h
    · exact .inl hn
    · exact .inr (weightsAll_memG hn h)
theorem weights_agg {P : Program} {t : TypeId} {fs : Array Field} (hu : P.underlying t = some (.struct fs)) {i : Nat} {f : Field} {d : DataW H} {parts : List (DataW H)} (hf : fs[i]? = some f) (hd : parts[i]? = some d) {n : Nat} (hn : n ∈ d.weights P f.type) : n ∈ (DataW.agg parts).weights P t := by
  simp only [DataW.weights, hu]
  refine DataW.weights_mem_each (j := i) ?_ hd n hn
  rw [List.getElem?_map, Array.getElem?_toList, hf]
  rfl
/-- A list that came in. -/
theorem open_list (E : Elt α) (hsz : Tryd.prog.cellsOf E.e = E.sz) (hbs : Tryd.prog.bytesOf E.e = E.bs) (Q : α → Prop) {fuel : Nat} {cs : List Value} {d : DataW H} {p : List MemPlace} (h : DataW.trod enc Tryd.prog W 0 (fun _ => true) true fuel E.sl cs = some (d, p)) (hz : ∀ n ∈ d.weights Tryd.prog E.sl, n ≤ reachBytes)
    (hel : ∀ fuel cs' d' pl, DataW.trod enc Tryd.prog W 0 (fun _ => true) true fuel E.e cs' = some (d', pl) → cs'.length = E.sz → (∀ n ∈ d'.weights Tryd.prog E.e, n ≤ reachBytes) → ∃ x, cs' = E.enc x ∧ E.ok x ∧ Q x) :
    ∃ (a : Option Addr) (c : Nat) (L : List α), cs = [.slice a L.length c] ∧ E.In W 0 (a, L.length, c) L ∧ (∀ x ∈ L, Q x) ∧ L.length * E.bs ≤ reachBytes := by
  rcases open_slice E.und h with ⟨rfl, _⟩ | ⟨a, len, cap, m, n, D, Pl, rfl, _, hl, _, hm, hx, hi⟩
  · exact ⟨none, 0, [], rfl, .nil _ _ _, (fun x hx => by cases hx), by simp⟩
  · simp only [if_true] at hm
    subst hm
    simp only [Prod.mk.injEq] at hx
    obtain ⟨rfl, -⟩ := hx
    simp only [DataW.weights, E.und, hbs, List.mem_cons, List.mem_append, List.length_map, List.length_range] at hz
    have hlen := hz _ (.inl rfl)
    have each : ∀ i, i < len → ∃ x : α, (∀ k, k < E.sz → W.cell? (a.add (i * E.sz + k)) = (E.enc x)[k]?) ∧ E.ok x ∧ Q x := by
      intro i hil
      obtain ⟨cs', hc, ht⟩ := hi i (by omega)
      rw [hsz] at hc
      obtain ⟨_, hcl, hat⟩ := World.cells?_some hc
      obtain ⟨x, rfl, h1, h2⟩ := hel _ _ _ _ ht hcl (fun n hn => hz n (.inr (.inl (weightsAll_memG hn (List.mem_map.2 ⟨i, List.mem_range.2 hil, rfl⟩)))))
      exact ⟨x, fun k hk => by rw [← hat k hk, Go.Deep.add_add], h1, h2⟩
    haveI : Inhabited α := ⟨E.z⟩
    obtain ⟨f, hf⟩ := choose_lt each
    have hL : ((List.range len).map f).length = len := by simp
    have hget : ∀ k x, ((List.range len).map f)[k]? = some x → k < len ∧ x = f k := by
      intro k x hx
      have h1 := (List.getElem?_eq_some_iff.1 hx).1
      simp at h1
      simp [h1] at hx
      exact ⟨h1, hx.symm⟩
    have hmem : ∀ x ∈ (List.range len).map f, ∃ k, k < len ∧ x = f k := by
      intro x hx
      obtain ⟨k, hk⟩ := List.getElem?_of_mem hx
      exact ⟨k, hget k x hk⟩
    obtain ⟨b, o, sp⟩ := a
    have hfst : 0 < len → ∃ u, W.cell? ((⟨b, o, sp⟩ : Addr).add 0) = some u := fun h0 => by
      have h1 := (hf 0 h0).1 0 E.pos
      rw [Nat.zero_mul, Nat.zero_add, List.getElem?_eq_getElem (by rw [E.len]; exact E.pos)] at h1
      exact ⟨_, h1⟩
    have hsp : 0 < len → sp = none := fun h0 => by
      obtain ⟨u, hu⟩ := hfst h0
      have := World.cell?_spot hu
      simpa [Addr.add] using this
    refine ⟨some ⟨b, o, sp⟩, m, (List.range len).map f, by rw [hL], ⟨rfl, by show ((List.range len).map f).length ≤ m; rw [hL]; exact hl, b, o, ⟨fun j u hj => ?_, fun x hx => ?_, fun hne => ?_⟩, fun h0 => ?_⟩, fun x hx => ?_, ?_⟩
    · obtain ⟨x, h1, h2⟩ := Elt.encs_get hj
      obtain ⟨h3, rfl⟩ := hget _ _ h1
      obtain rfl := hsp (Nat.lt_of_le_of_lt (Nat.zero_le _) h3)
      have h4 := (hf _ h3).1 (j % E.sz) (Nat.mod_lt _ E.pos)
      rw [Nat.div_add_mod' j E.sz, h2, Addr.add_lit] at h4
      exact h4
    · obtain ⟨k, h1, rfl⟩ := hmem x hx
      exact (hf k h1).2.1
    · have h0 : 0 < len := by
        rcases Nat.eq_zero_or_pos len with h | h
        · subst h; simp at hne
        · exact h
      obtain ⟨u, hu⟩ := hfst h0
      have := World.block_lt_of_cell? _ _ hu
      simpa [Addr.add] using this
    · rw [hL] at h0
      obtain rfl := hsp h0
      exact ⟨rfl, Nat.zero_le _⟩
    · obtain ⟨k, h1, rfl⟩ := hmem x hx
      exact (hf k h1).2.2
    · rw [hL]
      exact Nat.le_trans (Nat.mul_le_mul_right _ (by omega)) hlen
theorem cells_bytes {b o : Nat} {zs : List Int} {C L : Nat} (hc : ∀ c, c < C → W.cell? ((⟨b, o, none⟩ : Addr).add c) = some (.int .i64 (zs.getD c 0))) (hz : zs.length = C) (hl : L ≤ C) (hw : ∀ n ∈ zs, (Lit.int .i64 n).wf = true) : I.BytesAt W b o (zs.take L) := by
  have hlen : (zs.take L).length = L := by simp; omega
  refine ⟨fun k x hk => ?_, fun hne => ?_⟩
  · have h1 := (List.getElem?_eq_some_iff.1 hk).1
    rw [hlen] at h1
    rw [List.getElem?_take_of_lt h1] at hk
    obtain ⟨h3, h4⟩ := List.getElem?_eq_some_iff.1 hk
    have h5 := hc k (by omega)
    have h6 : zs.getD k 0 = x := by rw [List.getD_eq_getElem?_getD, hk]; rfl
    rw [h6] at h5
    have h7 := bounds_i64 (hw x (by rw [← h4]; exact List.getElem_mem h3))
    exact ⟨by simpa only [Addr.add_lit] using h5, h7.1, h7.2⟩
  · have h0 : 0 < L := by
      rcases Nat.eq_zero_or_pos L with h | h
      · subst h; simp at hne
      · exact h
    have := World.block_lt_of_cell? _ _ (hc 0 (by omega))
    simpa [Addr.add] using this
theorem spot_none {b o : Nat} {sp} {v : Value} (h : W.cell? ((⟨b, o, sp⟩ : Addr).add 0) = some v) : sp = none := by
  have := World.cell?_spot h
  simpa [Addr.add] using this

/-- The lists that came in. -/
theorem open_lists {a0 : Option Addr} {len cap0 : Nat} {d : DataW H} {p : List MemPlace} (h : DataW.Trod enc Tryd.prog W 0 (fun _ => true) true 24 (.slice a0 len cap0) d p) (hz : ∀ n ∈ d.weights Tryd.prog 24, n ≤ reachBytes) :
    ∃ LL : List (List Int), len = LL.length ∧ ListsIn W 0 (a0, LL.length, cap0) LL ∧ LL.length ≤ 100000000000000 ∧ ∀ l ∈ LL, l.length ≤ 100000000000000 := by
  have b24 : Tryd.prog.bytesOf 23 = 24 := by kernel_rfl
  have b8 : Tryd.prog.bytesOf 3 = 8 := by kernel_rfl
  obtain ⟨fuel, hf⟩ := h
  rcases open_int_rows Tryd.underlying24 Tryd.underlying23 Tryd.underlying3 (by kernel_rfl) (by kernel_rfl) hf with ⟨hcs, _⟩ | ⟨a, len', cap, A, L, C, Z, hcs, _, hl, _, hd, hr⟩
  · simp [Value.cells] at hcs
    obtain ⟨rfl, rfl, rfl⟩ := hcs
    exact ⟨[], rfl, ⟨[], .nil _ _ _, rfl, fun j x l hx => by simp at hx⟩, by simp, fun l hl => by cases hl⟩
  · simp [Value.cells] at hcs
    obtain ⟨rfl, rfl, rfl⟩ := hcs
    simp only [Prod.mk.injEq] at hd
    obtain ⟨rfl, -⟩ := hd
    have hrb : reachBytes = 140737488351232 := rfl
    simp only [DataW.weights, Tryd.underlying24, b24, List.mem_cons, List.mem_append, List.length_map, List.length_range] at hz
    have hlen := hz _ (.inl rfl)
    have hrow : ∀ r, r < len → L r ≤ 100000000000000 := by
      intro r hrl
      obtain ⟨_, h2, _, h4, _, h6, _⟩ := hr r (by omega)
      rcases hA : A r with _ | a'
      · have := h6 hA; omega
      · have hw := hz ((Z r).length * 8) (.inr (.inl (weightsAll_memG (d := Go.Deep.intRow .i64 (A r) (L r) (Z r)) (by
          rw [hA]
          have e : (lits (H := H) .i64 ((Z r).take (L r))).length + (lits (H := H) .i64 ((Z r).drop (L r))).length = (Z r).length := by
            simp [lits]; omega
          simp only [Go.Deep.intRow, DataW.weights, Tryd.underlying23, b8, e]
          exact List.mem_cons_self) (List.mem_map.2 ⟨r, List.mem_range.2 hrl, rfl⟩))))
        omega
    have hmem : ∀ (j : Nat) l, ((List.range len).map fun r => (Z r).take (L r))[j]? = some l → j < len ∧ l = (Z j).take (L j) := by
      intro j l hj
      have h1 := (List.getElem?_eq_some_iff.1 hj).1
      simp at h1
      simp [h1] at hj
      exact ⟨h1, hj.symm⟩
    have hlj : ∀ j, j < len → ((Z j).take (L j)).length = L j := by
      intro j hj
      obtain ⟨_, h2, _, h4, _⟩ := hr j (by omega)
      simp; omega
    obtain ⟨b, o, sp⟩ := a
    have hsp : 0 < len → sp = none := fun h0 => spot_none (hr 0 (by omega)).1
    refine ⟨(List.range len).map fun r => (Z r).take (L r), by simp, ⟨(List.range len).map fun r => (A r, L r, C r), ⟨by simp, by simpa using hl, b, o, ⟨fun j u hj => ?_, fun _ _ => trivial, fun hne => ?_⟩, fun h0 => ?_⟩, by simp, fun j x l hx hl' => ?_⟩, by simp; omega, fun l hl' => ?_⟩
    · have e : listE.encs ((List.range len).map fun r => (A r, L r, C r)) = (List.range len).map fun r => slV (A r, L r, C r) := by
        unfold Elt.encs
        rw [List.flatMap_map]
        exact List.map_eq_flatMap.symm
      rw [e] at hj
      have h1 := (List.getElem?_eq_some_iff.1 hj).1
      simp at h1
      simp [h1] at hj
      subst hj
      have h2 := (hr j (by omega)).1
      obtain rfl := hsp (by omega)
      simp only [Addr.add_lit] at h2
      exact h2
    · have h0 : 0 < len := by
        rcases Nat.eq_zero_or_pos len with h | h
        · subst h; simp at hne
        · exact h
      have := World.block_lt_of_cell? _ _ (hr 0 (by omega)).1
      simpa [Addr.add] using this
    · simp at h0
      obtain rfl := hsp h0
      exact ⟨rfl, Nat.zero_le _⟩
    · obtain ⟨h1, rfl⟩ := hmem j l hl'
      simp [h1] at hx
      subst hx
      obtain ⟨_, h2, h3, h4, h5, h6, h7⟩ := hr j (by omega)
      refine ⟨(hlj j h1).symm, h2, ?_⟩
      rcases hA : A j with _ | ⟨b', o', sp'⟩
      · have := h6 hA
        have e : (Z j).take (L j) = [] := by rw [List.eq_nil_iff_length_eq_zero, hlj j h1]; omega
        rw [e]
        exact ⟨0, 0, .nil _ _ _ _, fun h => absurd h (by simp)⟩
      · obtain ⟨_, h8⟩ := h7 _ hA
        by_cases h0 : 0 < C j
        · obtain rfl := spot_none (h8 0 h0)
          exact ⟨b', o', intAt.2 (cells_bytes h8 h4 h2 h5), fun _ => ⟨rfl, Nat.zero_le _⟩⟩
        · have e : (Z j).take (L j) = [] := by rw [List.eq_nil_iff_length_eq_zero, hlj j h1]; omega
          rw [e]
          exact ⟨0, 0, .nil _ _ _ _, fun h => absurd h (by simp)⟩
    · obtain ⟨j, hj⟩ := List.getElem?_of_mem hl'
      obtain ⟨h1, rfl⟩ := hmem j l hj
      rw [hlj j h1]
      exact hrow j h1

theorem bounds_i32 {x : Int} (h : (Lit.int .i32 x).wf = true) : I32 x := by
  have e1 : IntKind.i32.min = -2147483648 := rfl
  have e2 : IntKind.i32.max = 2147483647 := rfl
  simp [Lit.wf, e1, e2] at h
  exact h
/-- No list is longer than memory holds. -/
structure Vast (t : TabD) : Prop where
  r : t.r.length ≤ 100000000000000
  c : t.c.length ≤ 100000000000000
  n : t.n.length ≤ 100000000000000
  e : t.e.length ≤ 100000000000000
  l : ∀ l ∈ t.n, l.length ≤ 100000000000000
theorem i32Cells : Tryd.prog.cellsOf 21 = 1 := by kernel_rfl
theorem slR : Tryd.prog.cellsOf 22 = 1 := by kernel_rfl
theorem slI : Tryd.prog.cellsOf 23 = 1 := by kernel_rfl
theorem slL : Tryd.prog.cellsOf 24 = 1 := by kernel_rfl
theorem tab9Cells : Tryd.prog.cellsOf 26 = 4 := by kernel_rfl
set_option maxRecDepth 100000 in
/-- Ranges that came in. -/
theorem open_rngs {fuel : Nat} {cs : List Value} {d : DataW H} {p : List MemPlace} (h : DataW.trod enc Tryd.prog W 0 (fun _ => true) true fuel 22 cs = some (d, p)) (hz : ∀ n ∈ d.weights Tryd.prog 22, n ≤ reachBytes) :
    ∃ (a : Option Addr) (c : Nat) (L : List (Int × Int)), cs = [.slice a L.length c] ∧ rngE.In W 0 (a, L.length, c) L ∧ L.length ≤ 100000000000000 := by
  obtain ⟨a, c, L, h1, h2, -, h4⟩ := open_list rngE (by kernel_rfl) (by kernel_rfl) (fun _ => True) h hz (fun fuel cs' d' pl ht hl _ => by
    obtain ⟨xs, n', _, _, _, hxl, hg⟩ := DataW.trod_struct Tryd.underlying63 ht
    match cs', hl with
    | [k0, k1], _ =>
      have hxs : xs.length = 2 := hxl
      have g0 := hg 0 _ rfl
      have g1 := hg 1 _ rfl
      rw [List.getElem?_eq_getElem (by omega)] at g0 g1
      obtain ⟨x0, e0, _, w0⟩ := DataW.trod_int Tryd.underlying21 g0
      obtain ⟨x1, e1, _, w1⟩ := DataW.trod_int Tryd.underlying21 g1
      simp [i32Cells] at e0 e1
      subst e0 e1
      exact ⟨(x0, x1), rfl, ⟨bounds_i32 w0, bounds_i32 w1⟩, trivial⟩)
  exact ⟨a, c, L, h1, h2, by have hrb : reachBytes = 140737488351232 := rfl; have : rngE.bs = 8 := rfl; rw [this] at h4; omega⟩
/-- Ints that came in. -/
theorem open_intE {fuel : Nat} {cs : List Value} {d : DataW H} {p : List MemPlace} (h : DataW.trod enc Tryd.prog W 0 (fun _ => true) true fuel 23 cs = some (d, p)) (hz : ∀ n ∈ d.weights Tryd.prog 23, n ≤ reachBytes) :
    ∃ (a : Option Addr) (c : Nat) (L : List Int), cs = [.slice a L.length c] ∧ intE.In W 0 (a, L.length, c) L ∧ L.length ≤ 100000000000000 := by
  obtain ⟨a, c, L, h1, h2, -, h4⟩ := open_list intE (by kernel_rfl) (by kernel_rfl) (fun _ => True) h hz (fun fuel cs' d' pl ht hl _ => by
    obtain ⟨x, e, _, w⟩ := DataW.trod_int Tryd.underlying3 ht
    exact ⟨x, e, bounds_i64 w, trivial⟩)
  exact ⟨a, c, L, h1, h2, by have hrb : reachBytes = 140737488351232 := rfl; have : intE.bs = 8 := rfl; rw [this] at h4; omega⟩
set_option maxRecDepth 100000 in
/-- A table that came in by value. -/
theorem open_tab {v : Value} {d : DataW H} {p : List MemPlace} {b0 : Nat} (hv : Value.okWide Tryd.prog W .any b0 26 v) (h : DataW.Trod enc Tryd.prog W 0 (fun _ => true) true 26 v d p) (hz : ∀ n ∈ d.weights Tryd.prog 26, n ≤ reachBytes) :
    ∃ (t : TabD) (rs cs ns es : Sl), v = tabV rs cs ns es ∧ TabIn W 0 rs cs ns es t ∧ Vast t := by
  obtain ⟨xs, rfl, hs⟩ := okWide_struct Tryd.underlying26 hv
  obtain ⟨fuel, hf⟩ := h
  obtain ⟨ys, m, _, hd, _, hyl, hg⟩ := DataW.trod_struct Tryd.underlying26 hf
  simp only [Prod.mk.injEq] at hd
  obtain ⟨rfl, -⟩ := hd
  obtain ⟨l⟩ := xs
  rw [tab9Cells] at hs
  match l, hs with
  | [c0, c1, c2, c3], _ =>
    have hys : ys.length = 4 := hyl
    have g0 := hg 0 _ rfl
    have g1 := hg 1 _ rfl
    have g2 := hg 2 _ rfl
    have g3 := hg 3 _ rfl
    rw [List.getElem?_eq_getElem (by omega)] at g0 g1 g2 g3
    obtain ⟨ra, rc, R, e0, hR, hRl⟩ := open_rngs (d := ys[0].1) (p := ys[0].2) g0 (fun n hn => hz n (weights_agg Tryd.underlying26 (i := 0) rfl (by rw [List.getElem?_map, List.getElem?_eq_getElem (by omega)]; rfl) hn))
    obtain ⟨ca, cc, C, e1, hC, hCl⟩ := open_intE (d := ys[1].1) (p := ys[1].2) g1 (fun n hn => hz n (weights_agg Tryd.underlying26 (i := 1) rfl (by rw [List.getElem?_map, List.getElem?_eq_getElem (by omega)]; rfl) hn))
    obtain ⟨ea, ec, E, e3, hE, hEl⟩ := open_intE (d := ys[3].1) (p := ys[3].2) g3 (fun n hn => hz n (weights_agg Tryd.underlying26 (i := 3) rfl (by rw [List.getElem?_map, List.getElem?_eq_getElem (by omega)]; rfl) hn))
    simp [Value.cells, slR] at e0
    simp [Value.cells, slI] at e1 e3
    have g2' := g2
    simp [Value.cells, slL] at g2'
    subst e0 e1 e3
    obtain ⟨na, nl, nc, rfl⟩ : ∃ a n c, c2 = .slice a n c := by
      rcases open_int_rows Tryd.underlying24 Tryd.underlying23 Tryd.underlying3 (by kernel_rfl) (by kernel_rfl) g2' with ⟨hcs, _⟩ | ⟨a, len', cap, A, L, C, Z, hcs, _⟩
      · simp at hcs; exact ⟨_, _, _, hcs⟩
      · simp at hcs; exact ⟨_, _, _, hcs⟩
    obtain ⟨N, hnl, hN, hNl, hNr⟩ := open_lists (a0 := na) (len := nl) (cap0 := nc) (d := ys[2].1) (p := ys[2].2) ⟨_, by simpa [Value.cells] using g2'⟩ (fun n hn => hz n (weights_agg Tryd.underlying26 (i := 2) rfl (by rw [List.getElem?_map, List.getElem?_eq_getElem (by omega)]; rfl) hn))
    subst hnl
    exact ⟨⟨R, C, N, E⟩, (ra, R.length, rc), (ca, C.length, cc), (na, N.length, nc), (ea, E.length, ec), rfl, ⟨hR, hC, hN, hE⟩, ⟨hRl, hCl, hNl, hEl, hNr⟩⟩
end
end Go.Proofs.YtfhmblbomkhcpaaDoor
