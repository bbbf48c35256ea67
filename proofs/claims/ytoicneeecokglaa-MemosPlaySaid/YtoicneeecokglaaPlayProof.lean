/- 'MemosPlay' for whatever numbers and acts: true, and both read as they did. No condition. -/
import Derived.Test.YtoicneeecokglaaPlayC
import Derived.ProofKit
import Derived.OpenShut
import Derived.ShutString
import Derived.ChangeOld
import Derived.Deep.Slices
import Derived.Deep.Fields
import Derived.WideKeyArr2
namespace Go.Proofs.Ytoicneeecokglaa.memosPlay
open Go.ChangeShapes Go.WideShapes Go.ChangeAt Go.RowKit Go.Deep Go.WideMaps

theorem wf64 {x : Int} (h : (Lit.int .i64 x).wf = true) : W64 x := bounds_i64 h
theorem arrSize : ArrKey Try.prog 22 3 3 := ⟨Try.underlying22, by kernel_rfl, by kernel_rfl, by kernel_rfl⟩

section
variable {H : Type} {enc : TypeId × Value → H} {W : World}
/-- Three numbers that came in by value. -/
theorem open_three {v : Value} {d : DataW H} {p : List MemPlace} {b0 : Nat} (hv : Value.okWide Try.prog W .any b0 22 v) (h : DataW.Trod enc Try.prog W 0 (fun _ => true) true 22 v d p) : ∃ x y z : Int, v = .agg #[.int .i64 x, .int .i64 y, .int .i64 z] := by
  obtain ⟨xs, rfl, hs⟩ := okWide_arr arrSize hv
  obtain ⟨fuel, hf⟩ := h
  obtain ⟨ys, m, _, _, _, _, hg⟩ := DataW.trod_array Try.underlying22 hf
  obtain ⟨l⟩ := xs
  match l, hs with
  | [c0, c1, c2], _ =>
    have g0 := hg 0 (by omega)
    have g1 := hg 1 (by omega)
    have g2 := hg 2 (by omega)
    have k0 : ∃ y, ys[0]? = some y := ⟨ys[0], by simp⟩
    have k1 : ∃ y, ys[1]? = some y := ⟨ys[1], by simp⟩
    have k2 : ∃ y, ys[2]? = some y := ⟨ys[2], by simp⟩
    obtain ⟨y0, k0⟩ := k0
    obtain ⟨y1, k1⟩ := k1
    obtain ⟨y2, k2⟩ := k2
    rw [k0] at g0
    rw [k1] at g1
    rw [k2] at g2
    obtain ⟨x, e0, _, _⟩ := DataW.trod_int Try.underlying3 g0
    obtain ⟨y, e1, _, _⟩ := DataW.trod_int Try.underlying3 g1
    obtain ⟨z, e2, _, _⟩ := DataW.trod_int Try.underlying3 g2
    simp [Value.cells, intCells] at e0 e1 e2
    exact ⟨x, y, z, by rw [e0, e1, e2]⟩

theorem byteCells : Try.prog.cellsOf 5 = 1 := by kernel_rfl
theorem actCells : Try.prog.cellsOf 33 = 4 := by kernel_rfl

/-- The acts that came in. -/
theorem open_acts {a0 : Option Addr} {len cap0 : Nat} {d : DataW H} {p : List MemPlace} (h : DataW.Trod enc Try.prog W 0 (fun _ => true) true 23 (.slice a0 len cap0) d p) :
    len = 0 ∨ ∃ (g o : Nat) (A : List Actt), a0 = some ⟨g, o, none⟩ ∧ len = A.length ∧ ActsAt W g o A ∧ g < W.heap.size := by
  obtain ⟨fuel, hf⟩ := h
  rcases open_slice Try.underlying23 hf with ⟨hcs, _⟩ | ⟨a, len', cap, m, n, D, Pl, hcs, _, hl, hm, hmm, _, hi⟩
  · left
    simp [Value.cells] at hcs
    exact hcs.2.1
  · simp [Value.cells] at hcs
    obtain ⟨rfl, rfl, rfl⟩ := hcs
    simp only [if_true] at hmm
    subst hmm
    -- each act, field by field
    have each : ∀ i, i < len → ∃ x : Actt, (W.cell? (a.add (i * 4)) = some (.int .u8 x.1) ∧ W.cell? (a.add (i * 4 + 1)) = some (.int .i64 x.2.1) ∧ W.cell? (a.add (i * 4 + 2)) = some (.int .i64 x.2.2.1) ∧ W.cell? (a.add (i * 4 + 3)) = some (.int .i64 x.2.2.2)) ∧
        ((0 ≤ x.1 ∧ x.1 ≤ 255) ∧ W64 x.2.1 ∧ W64 x.2.2.1 ∧ W64 x.2.2.2) := by
      intro i hil
      obtain ⟨cs', hc, ht⟩ := hi i (by omega)
      rw [actCells] at hc
      obtain ⟨_, hcl, hat⟩ := World.cells?_some hc
      obtain ⟨xs, n', _, _, _, hxl, hg⟩ := DataW.trod_struct Try.underlying33 ht
      match cs', hcl with
      | [k0, k1, k2, k3], _ =>
        have hxs : xs.length = 4 := hxl
        have g0 := hg 0 _ rfl
        have g1 := hg 1 _ rfl
        have g2 := hg 2 _ rfl
        have g3 := hg 3 _ rfl
        rw [List.getElem?_eq_getElem (by omega)] at g0 g1 g2 g3
        obtain ⟨x0, e0, _, w0⟩ := DataW.trod_int Try.underlying5 g0
        obtain ⟨x1, e1, _, w1⟩ := DataW.trod_int Try.underlying3 g1
        obtain ⟨x2, e2, _, w2⟩ := DataW.trod_int Try.underlying3 g2
        obtain ⟨x3, e3, _, w3⟩ := DataW.trod_int Try.underlying3 g3
        simp [intCells, byteCells] at e0 e1 e2 e3
        subst e0 e1 e2 e3
        have q0 := hat 0 (by omega)
        have q1 := hat 1 (by omega)
        have q2 := hat 2 (by omega)
        have q3 := hat 3 (by omega)
        rw [Go.Deep.add_add] at q0 q1 q2 q3
        exact ⟨(x0, x1, x2, x3), ⟨q0, q1, q2, q3⟩, bounds_u8 w0, wf64 w1, wf64 w2, wf64 w3⟩
    by_cases h0 : len = 0
    · exact .inl h0
    right
    obtain ⟨x0, ⟨z0, _⟩, _⟩ := each 0 (by omega)
    obtain ⟨b, o, sp⟩ := a
    have hsp : sp = none := by simpa [Addr.add] using World.cell?_spot z0
    subst hsp
    let A : List Actt := (List.finRange len).map fun i => Classical.choose (each i.1 i.2)
    have hA : A.length = len := by simp [A]
    have hget : ∀ k x, A[k]? = some x → ∃ hk : k < len, x = Classical.choose (each k hk) := by
      intro k x hx
      simp only [A, List.getElem?_map, Option.map_eq_some_iff] at hx
      obtain ⟨i, hi1, hi2⟩ := hx
      have hk : k < len := by
        have := (List.getElem?_eq_some_iff.1 hi1).1
        simpa using this
      refine ⟨hk, ?_⟩
      rw [List.getElem?_eq_getElem (by simpa using hk)] at hi1
      simp at hi1
      subst hi1
      exact hi2.symm
    refine ⟨b, o, A, rfl, hA.symm, ⟨fun k x hx => ?_, fun x hx => ?_⟩, ?_⟩
    · obtain ⟨hk, rfl⟩ := hget k x hx
      have := (Classical.choose_spec (each k hk)).1
      simpa only [Addr.add_lit, Nat.add_assoc] using this
    · obtain ⟨k, hk'⟩ := List.mem_iff_getElem?.1 hx
      obtain ⟨hk, rfl⟩ := hget k x hk'
      exact (Classical.choose_spec (each k hk)).2
    · have := World.block_lt_of_cell? _ _ z0
      simpa [Addr.add] using this
end

set_option maxRecDepth 100000 in
theorem lifted (os : Os) (started : os.Started) (H : Type) (enc : TypeId × Value → H) :
    ReturnsInHanded {} Try.checked os 3 .any (Rows.memosPlaySpec.pre6 enc Try.prog Try.f3 Rows.memosPlayRow.domain false) (Rows.memosPlaySpec.post enc Try.prog Try.f3 false true false false) := by
  refine returnsInHanded_of_change (C := Try.checked) own started (by kernel_rfl) Try.func3
    (ChangeSpec.witness6 (enc := enc) (C := Try.checked) false ⟨#[], #[.agg #[.int .i64 0, .int .i64 0, .int .i64 0], .slice none 0 0], []⟩ 8 (by kernel_rfl) (by kernel_rfl) (by kernel_rfl) (by kernel_rfl)) ?_
  intro W base args ds gs before hval0 hW hcnd _
  have hval : ∀ (j : Nat) t v, Try.f3.params[j]? = some t → args[j]? = some v → Value.okWide Try.prog W .any base t v := hval0
  have hW' := hW
  obtain ⟨p, q, hA0, hV, rfl, hfz, hnd⟩ := hW
  have hA : DataW.TrodAll enc Try.prog W 0 (fun _ => true) true Try.f3.params.toList args.toList ds p := hA0
  rw [Try.params3] at hA hval
  obtain ⟨v0, vs0, d0, ds0, p0, q0, hargs, rfl, rfl, h0, r0⟩ := trodAll_cons hA
  obtain ⟨v1, vs1, d1, ds1, p1, q1, rfl, rfl, rfl, h1, r1⟩ := trodAll_cons r0
  obtain ⟨rfl, rfl, rfl⟩ := trodAll_nil r1
  obtain rfl : args = #[v0, v1] := by cases args; simp_all
  obtain ⟨rfl, rfl⟩ := trodVars_none hV
  have k0 := h0
  have lt0 : ∀ x ∈ p0, x.block < W.heap.size := by obtain ⟨m, hm⟩ := k0; exact DataW.trod_lt m _ _ _ hm
  have k1 := h1
  have lt1 : ∀ x ∈ p1, x.block < W.heap.size := by obtain ⟨m, hm⟩ := k1; exact DataW.trod_lt m _ _ _ hm
  obtain ⟨x, y, z, rfl⟩ := open_three (hval 0 22 v0 rfl rfl) h0
  obtain ⟨a, n, cap, rfl⟩ := okWide_slice Try.underlying23 (hval 1 23 v1 rfl rfl)
  have walk : Calls Try.prog 3 #[.agg #[.int .i64 x, .int .i64 y, .int .i64 z], .slice a n cap] W fun e w' => e = .returned (.bool true) ∧ Chg (fun _ => False) W w' := by
    by_cases hn : 300 < n
    · exact play_long x y z a n cap W hn
    cases hnb : newB x y z
    · exact play_no x y z a n cap W (by omega) hnb
    rcases open_acts h1 with rfl | ⟨g, o, A, rfl, rfl, hA, hg⟩
    · exact play_none x y z a cap W hnb
    · exact play_yes x y z g o cap A W hA hg (by omega) hnb
  clear hA0 hval0
  refine walk.mono fun e W' ⟨he, hc⟩ => ?_
  subst he
  have bel := hc.to_below
  exact ⟨_, rfl, _, _, _, [], _, [], hW', trodAll_mk1 (shut_bool Try.underlying4 _), (trodAll_cons_mk (Below.trod laidOut (by kernel_rfl) (of_decide_eq_true (by kernel_rfl)) k0 bel lt0) (trodAll_cons_mk (Below.trod laidOut (by kernel_rfl) (of_decide_eq_true (by kernel_rfl)) k1 bel lt1) trodAll_mk0)), rfl, bel.frame _, fun h => by cases h⟩

theorem proved : Rows.MemosPlaySaid :=
  OpenClaim.holds_of_wide 3 Try.f3 rfl rfl rfl rfl rfl rfl rfl ⟨rfl, rfl, rfl, rfl, rfl⟩ rfl rfl rfl rfl rfl (by kernel_rfl) Try.func3 (by kernel_rfl)
    (of_decide_eq_true (by kernel_rfl)) (by unfold Func.isWrapper; first | (rw [if_pos (by decide +kernel)]; kernel_rfl) | (rw [if_neg (by decide +kernel)]; exact ⟨rfl, rfl⟩))
    (fun os started H enc _ => lifted os started H enc)
#print axioms proved
end Go.Proofs.Ytoicneeecokglaa.memosPlay
