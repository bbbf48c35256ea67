/- 'MemosApart' for whatever numbers and bytes: true, and all read as they did. No condition. -/
import Derived.Test.YtoicneeecokglaaApartC
import Derived.ProofKit
import Derived.OpenShut
import Derived.ShutString
import Derived.ChangeOld
import Derived.Deep.Slices
import Derived.Deep.Fields
namespace Go.Proofs.Ytoicneeecokglaa.memosApart
open Go.ChangeShapes Go.WideShapes Go.ChangeAt Go.RowKit Go.Deep Go.WideMaps

section
variable {H : Type} {enc : TypeId × Value → H} {W : World}
/-- The bytes that came in. -/
theorem open_bytes {a0 : Option Addr} {len cap0 : Nat} {d : DataW H} {p : List MemPlace} (h : DataW.Trod enc Try.prog W 0 (fun _ => true) true 57 (.slice a0 len cap0) d p) :
    ∃ (g o : Nat) (Z : List Int), len = Z.length ∧ BytesAt W g o Z ∧ (0 < Z.length → a0 = some ⟨g, o, none⟩) := by
  obtain ⟨fuel, hf⟩ := h
  rcases open_ints Try.underlying57 Try.underlying5 (by kernel_rfl) hf with ⟨hcs, _⟩ | ⟨a, len', cap, zs, hcs, _, hl, _, hz, _, hc, hw⟩
  · simp [Value.cells] at hcs
    obtain ⟨rfl, rfl, rfl⟩ := hcs
    exact ⟨0, 0, [], rfl, ⟨fun k a hk => by simp at hk, fun h => absurd rfl h⟩, fun h => by simp at h⟩
  · simp [Value.cells] at hcs
    obtain ⟨rfl, rfl, rfl⟩ := hcs
    simp only [if_true] at hz
    obtain ⟨b, o, sp⟩ := a
    have hlen : (zs.take len).length = len := by simp; omega
    have hget : ∀ k x, (zs.take len)[k]? = some x → k < len ∧ zs[k]? = some x := fun k x hk => by
      have h1 := (List.getElem?_eq_some_iff.1 hk).1
      rw [hlen] at h1
      rw [List.getElem?_take_of_lt h1] at hk
      exact ⟨h1, hk⟩
    have hsp : 0 < len → sp = none := fun h0 => by
      have := World.cell?_spot (hc 0 (by omega))
      simpa [Addr.add] using this
    refine ⟨b, o, zs.take len, hlen.symm, ⟨fun k x hk => ?_, fun hne => ?_⟩, fun h0 => ?_⟩
    · obtain ⟨h1, h2⟩ := hget k x hk
      obtain rfl := hsp (by omega)
      have hk' := (List.getElem?_eq_some_iff.1 h2)
      obtain ⟨h3, h4⟩ := hk'
      have h5 := hc k h3
      have h6 : zs.getD k 0 = x := by rw [List.getD_eq_getElem?_getD, h2]; rfl
      rw [h6] at h5
      have h7 := bounds_u8 (hw x (by rw [← h4]; exact List.getElem_mem h3))
      exact ⟨by simpa only [Addr.add_lit] using h5, h7.1, h7.2⟩
    · have h0 : 0 < len := by
        rcases Nat.eq_zero_or_pos len with h | h
        · subst h; simp at hne
        · exact h
      have := World.block_lt_of_cell? _ _ (hc 0 (by omega))
      simpa [Addr.add] using this
    · rw [hlen] at h0
      obtain rfl := hsp h0
      rfl
end

set_option maxRecDepth 100000 in
theorem lifted (os : Os) (started : os.Started) (H : Type) (enc : TypeId × Value → H) :
    ReturnsInHanded {} Try.checked os 5 .any (Rows.memosApartSpec.pre6 enc Try.prog Try.f5 Rows.memosApartRow.domain false) (Rows.memosApartSpec.post enc Try.prog Try.f5 false true false false) := by
  refine returnsInHanded_of_change (C := Try.checked) own started (by kernel_rfl) Try.func5
    (ChangeSpec.witness6 (enc := enc) (C := Try.checked) false ⟨#[], #[.int .u8 0, .int .u8 0, .slice none 0 0], []⟩ 8 (by kernel_rfl) (by kernel_rfl) (by kernel_rfl) (by kernel_rfl)) ?_
  intro W base args ds gs before hval0 hW hcnd _
  have hval : ∀ (j : Nat) t v, Try.f5.params[j]? = some t → args[j]? = some v → Value.okWide Try.prog W .any base t v := hval0
  have hW' := hW
  obtain ⟨p, q, hA0, hV, rfl, hfz, hnd⟩ := hW
  have hA : DataW.TrodAll enc Try.prog W 0 (fun _ => true) true Try.f5.params.toList args.toList ds p := hA0
  rw [Try.params5] at hA hval
  obtain ⟨v0, vs0, d0, ds0, p0, q0, hargs, rfl, rfl, h0, r0⟩ := trodAll_cons hA
  obtain ⟨v1, vs1, d1, ds1, p1, q1, rfl, rfl, rfl, h1, r1⟩ := trodAll_cons r0
  obtain ⟨v2, vs2, d2, ds2, p2, q2, rfl, rfl, rfl, h2, r2⟩ := trodAll_cons r1
  obtain ⟨rfl, rfl, rfl⟩ := trodAll_nil r2
  obtain rfl : args = #[v0, v1, v2] := by cases args; simp_all
  obtain ⟨rfl, rfl⟩ := trodVars_none hV
  have k0 := h0
  have lt0 : ∀ x ∈ p0, x.block < W.heap.size := by obtain ⟨m, hm⟩ := k0; exact DataW.trod_lt m _ _ _ hm
  have k1 := h1
  have lt1 : ∀ x ∈ p1, x.block < W.heap.size := by obtain ⟨m, hm⟩ := k1; exact DataW.trod_lt m _ _ _ hm
  have k2 := h2
  have lt2 : ∀ x ∈ p2, x.block < W.heap.size := by obtain ⟨m, hm⟩ := k2; exact DataW.trod_lt m _ _ _ hm
  obtain ⟨x, rfl⟩ := okWide_int Try.underlying5 (hval 0 5 v0 rfl rfl)
  obtain ⟨y, rfl⟩ := okWide_int Try.underlying5 (hval 1 5 v1 rfl rfl)
  obtain ⟨m0, g0⟩ := h0
  obtain ⟨x', e0, _, w0⟩ := DataW.trod_int Try.underlying5 g0
  obtain ⟨m1, g1⟩ := h1
  obtain ⟨y', e1, _, w1⟩ := DataW.trod_int Try.underlying5 g1
  simp [Value.cells] at e0 e1
  subst e0 e1
  obtain ⟨a, n, cap, rfl⟩ := okWide_slice Try.underlying57 (hval 2 57 v2 rfl rfl)
  have hx := bounds_u8 w0
  have hy := bounds_u8 w1
  have walk : Calls Try.prog 5 #[.int .u8 x, .int .u8 y, .slice a n cap] W fun e w' => e = .returned (.bool true) ∧ Chg (fun _ => False) W w' := by
    by_cases hn : 400 < n
    · exact apart_long x y a n cap W hx hy hn
    obtain ⟨g, o, Z, rfl, hZ, ha⟩ := open_bytes h2
    exact apart_any x y a g o cap Z W hx hy hZ ha (by omega)
  clear hA0 hval0
  refine walk.mono fun e W' ⟨he, hc⟩ => ?_
  subst he
  have bel := hc.to_below
  exact ⟨_, rfl, _, _, _, [], _, [], hW', trodAll_mk1 (shut_bool Try.underlying4 _), (trodAll_cons_mk (Below.trod laidOut (by kernel_rfl) (of_decide_eq_true (by kernel_rfl)) k0 bel lt0) (trodAll_cons_mk (Below.trod laidOut (by kernel_rfl) (of_decide_eq_true (by kernel_rfl)) k1 bel lt1) (trodAll_cons_mk (Below.trod laidOut (by kernel_rfl) (of_decide_eq_true (by kernel_rfl)) k2 bel lt2) trodAll_mk0))), rfl, bel.frame _, fun h => by cases h⟩

theorem proved : Rows.MemosApartSaid :=
  OpenClaim.holds_of_wide 5 Try.f5 rfl rfl rfl rfl rfl rfl rfl ⟨rfl, rfl, rfl, rfl, rfl⟩ rfl rfl rfl rfl rfl (by kernel_rfl) Try.func5 (by kernel_rfl)
    (of_decide_eq_true (by kernel_rfl)) (by unfold Func.isWrapper; first | (rw [if_pos (by decide +kernel)]; kernel_rfl) | (rw [if_neg (by decide +kernel)]; exact ⟨rfl, rfl⟩))
    (fun os started H enc _ => lifted os started H enc)
#print axioms proved
end Go.Proofs.Ytoicneeecokglaa.memosApart
