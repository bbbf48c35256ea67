/- 'RowsHalf' for whatever is handed in: true, and all reads as it did. No condition. -/
import Derived.Test.YtkfakkonlnjckaaOpenH
import Derived.Test.YtkfakkonlnjckaaOpenI
namespace Go.Proofs.Ytkfakkonlnjckaa.rowsHalf
open Go.ChangeShapes Go.WideShapes Go.ChangeAt Go.RowKit Go.Deep Go.WideMaps

set_option maxRecDepth 100000 in
theorem lifted (os : Os) (started : os.Started) (H : Type) (enc : TypeId × Value → H) :
    ReturnsInHanded {} Try.checked os 6 .any (Rows.rowsHalfSpec.pre6 enc Try.prog Try.f6 Rows.rowsHalfRow.domain false) (Rows.rowsHalfSpec.post enc Try.prog Try.f6 false true false false) := by
  refine returnsInHanded_of_change (C := Try.checked) own started (by kernel_rfl) Try.func6
    (ChangeSpec.witness6 (enc := enc) (C := Try.checked) false ⟨#[], #[.int .u16 0, .int .u16 0, .slice none 0 0], []⟩ 8 (by kernel_rfl) (by kernel_rfl) (by kernel_rfl) (by kernel_rfl)) ?_
  intro W base args ds gs before hval0 hW hcnd _
  have hval : ∀ (j : Nat) t v, Try.f6.params[j]? = some t → args[j]? = some v → Value.okWide Try.prog W .any base t v := hval0
  have hW' := hW
  obtain ⟨p, q, hA0, hV, rfl, hfz, hnd⟩ := hW
  have hA : DataW.TrodAll enc Try.prog W 0 (fun _ => true) true Try.f6.params.toList args.toList ds p := hA0
  rw [Try.params6] at hA hval
  obtain ⟨v0, vs0, d0, ds0, p0, q0, hargs, rfl, rfl, h0, r0⟩ := trodAll_cons hA
  obtain ⟨v1, vs1, d1, ds1, p1, q1, rfl, rfl, rfl, h1, r1⟩ := trodAll_cons r0
  obtain ⟨v2, vs2, d2, ds2, p2, q2, rfl, rfl, rfl, h2, r2⟩ := trodAll_cons r1
  obtain ⟨rfl, rfl, rfl⟩ := trodAll_nil r2
  obtain rfl : args = #[v0, v1, v2] := by cases args; simp_all
  obtain ⟨rfl, rfl⟩ := trodVars_none hV
  have k0 := h0
  have lt0 : ∀ x ∈ p0, x.block < W.heap.size := by obtain ⟨m, hm⟩ := k0; exact DataW.trod_lt m _ _ _ hm
  have k1 := h1
  have lt1 : ∀ x ∈ p1, x.block < W.heap.size := by obtain ⟨m, hm⟩ := k1; exact DataW.trod_lt m _ _ _ hm
  have k2 := h2
  have lt2 : ∀ x ∈ p2, x.block < W.heap.size := by obtain ⟨m, hm⟩ := k2; exact DataW.trod_lt m _ _ _ hm
  obtain ⟨x, rfl⟩ := okWide_int Try.underlying69 (hval 0 69 v0 rfl rfl)
  obtain ⟨m0, g0⟩ := h0
  obtain ⟨x0, e0, _, w0⟩ := DataW.trod_int Try.underlying69 g0
  simp [Value.cells] at e0
  subst e0
  have hx := bounds_u16 w0
  obtain ⟨x', rfl⟩ := Int.eq_ofNat_of_zero_le hx.1
  obtain ⟨y, rfl⟩ := okWide_int Try.underlying69 (hval 1 69 v1 rfl rfl)
  obtain ⟨m1, g1⟩ := h1
  obtain ⟨x1, e1, _, w1⟩ := DataW.trod_int Try.underlying69 g1
  simp [Value.cells] at e1
  subst e1
  have hy := bounds_u16 w1
  obtain ⟨y', rfl⟩ := Int.eq_ofNat_of_zero_le hy.1
  obtain ⟨aZ, nZ, cZ, rfl⟩ := okWide_slice Try.underlying70 (hval 2 70 v2 rfl rfl)
  have walk : Calls Try.prog 6 #[.int .u16 (x' : Int), .int .u16 (y' : Int), .slice aZ nZ cZ] W fun e w' => e = .returned (.bool true) ∧ Chg (fun _ => False) W w' := by
    by_cases hn : 3000 < nZ ∨ nZ = 0
    · exact rowsHalf_no x' y' aZ nZ cZ W hn
    obtain ⟨g, o, Z, rfl, hZ, ha⟩ := open_boolsL h2
    exact rowsHalf_any x' y' Z aZ g o cZ W hx hy hZ ha (by omega) (by intro e; rw [e] at hn; simp at hn)
  clear hA0 hval0
  refine walk.mono fun e W' ⟨he, hc⟩ => ?_
  subst he
  have bel := hc.to_below
  exact ⟨_, rfl, _, _, _, [], _, [], hW', trodAll_mk1 (shut_bool Try.underlying4 _), (trodAll_cons_mk (Below.trod laidOut (by kernel_rfl) (of_decide_eq_true (by kernel_rfl)) k0 bel lt0) (trodAll_cons_mk (Below.trod laidOut (by kernel_rfl) (of_decide_eq_true (by kernel_rfl)) k1 bel lt1) (trodAll_cons_mk (Below.trod laidOut (by kernel_rfl) (of_decide_eq_true (by kernel_rfl)) k2 bel lt2) trodAll_mk0))), rfl, bel.frame _, fun h => by cases h⟩

theorem proved : Rows.RowsHalfSaid :=
  OpenClaim.holds_of_wide 6 Try.f6 rfl rfl rfl rfl rfl rfl rfl ⟨rfl, rfl, rfl, rfl, rfl⟩ rfl rfl rfl rfl rfl (by kernel_rfl) Try.func6 (by kernel_rfl)
    (of_decide_eq_true (by kernel_rfl)) (by unfold Func.isWrapper; first | (rw [if_pos (by decide +kernel)]; kernel_rfl) | (rw [if_neg (by decide +kernel)]; exact ⟨rfl, rfl⟩))
    (fun os started H enc _ => lifted os started H enc)
#print axioms proved
end Go.Proofs.Ytkfakkonlnjckaa.rowsHalf
