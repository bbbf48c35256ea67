/- 'RowsBack' for whatever is handed in: true, and all reads as it did. No condition. -/
import Derived.Test.YtkfakkonlnjckaaBackW
import Derived.Test.YtkfakkonlnjckaaOpenL
namespace Go.Proofs.Ytkfakkonlnjckaa.rowsBack
open Go.RowKit

set_option maxRecDepth 100000 in
theorem great_lives (wd : Nat) (LL : List (List Int)) (n : Nat) (a ba : Option Addr) (c bc B : Nat) (w : World) (h : ListsIn w B (a, LL.length, c) LL) (hn : LL.length ≤ 100000000000000) (hl : ∀ l ∈ LL, l.length ≤ 100000000000000) (hs : 4000 < sumL LL) :
    Calls Try.prog 8 #[.int .u8 wd, .slice a LL.length c, .slice ba n bc] w fun e w' => e = .returned (.bool true) ∧ Chg (fun _ => False) w w' := by
  have HL := Lib.hid h
  have HN := Lib.hid hn
  have HLL := Lib.hid hl
  have HF : Hid (decide (4000 < sumL LL) = true) := Lib.hid (by simpa using hs)
  clear h hl hn hs
  go_enter Try.func8, Try.ntmps8
  go_wp2_with fail
  refine (great_any LL a c B w HL.out HN.out HLL.out).mono ?_
  rintro e w1 ⟨rfl, hc1⟩
  rw [HF.out]
  have HC1 := Lib.hid hc1
  clear hc1
  go_wp2_with fail
  refine (lives_any w1).mono ?_
  rintro e w2 ⟨rfl, hc2⟩
  have HC2 := Lib.hid (HC1.out.trans hc2)
  clear hc2
  go_wp2
  go_ret
  exact ⟨rfl, HC2.out⟩
set_option maxRecDepth 100000 in
theorem more_lives (wd : Nat) (LL : List (List Int)) (n : Nat) (a ba : Option Addr) (c bc B : Nat) (w : World) (h : ListsIn w B (a, LL.length, c) LL) (hn : LL.length ≤ 100000000000000) (hl : ∀ l ∈ LL, l.length ≤ 100000000000000) (hs : sumL LL ≤ 4000) (hm : 50 < n) :
    Calls Try.prog 8 #[.int .u8 wd, .slice a LL.length c, .slice ba n bc] w fun e w' => e = .returned (.bool true) ∧ Chg (fun _ => False) w w' := by
  have HL := Lib.hid h
  have HN := Lib.hid hn
  have HLL := Lib.hid hl
  have HF : Hid (decide (4000 < sumL LL) = false) := Lib.hid (by simpa using hs)
  have b33 : decide (50 < n) = true := by simpa using hm
  clear h hl hn hs
  go_enter Try.func8, Try.ntmps8
  go_wp2_with fail
  refine (great_any LL a c B w HL.out HN.out HLL.out).mono ?_
  rintro e w1 ⟨rfl, hc1⟩
  rw [HF.out]
  have HC1 := Lib.hid hc1
  clear hc1
  go_wp2_with fail
  refine (lives_any w1).mono ?_
  rintro e w2 ⟨rfl, hc2⟩
  have HC2 := Lib.hid (HC1.out.trans hc2)
  clear hc2
  go_wp2
  go_ret
  exact ⟨rfl, HC2.out⟩
theorem each_le {LL : List (List Int)} (h : sumL LL ≤ 4000) : LL.length ≤ 4000 ∧ ∀ l ∈ LL, l.length ≤ 4000 := by
  unfold sumL at h
  refine ⟨by omega, fun l hl => ?_⟩
  have key : ∀ (M : List (List Int)), l ∈ M → l.length ≤ (M.map (·.length)).sum := by
    intro M
    induction M with
    | nil => intro h; cases h
    | cons m M ih =>
      intro h
      rw [List.map_cons, List.sum_cons]
      rcases List.mem_cons.1 h with rfl | h
      · omega
      · have := ih h; omega
  have := key LL hl
  omega

open Go.ChangeShapes Go.WideShapes Go.ChangeAt Go.RowKit Go.Deep Go.WideMaps
set_option maxRecDepth 100000 in
theorem lifted (os : Os) (started : os.Started) (H : Type) (enc : TypeId × Value → H) :
    ReturnsInHanded {} Try.checked os 8 .any (Rows.rowsBackSpec.pre6 enc Try.prog Try.f8 Rows.rowsBackRow.domain false) (Rows.rowsBackSpec.post enc Try.prog Try.f8 false true false false) := by
  refine returnsInHanded_of_change_sized (C := Try.checked) own started (by kernel_rfl) Try.func8
    (ChangeSpec.witness6 (enc := enc) (C := Try.checked) false ⟨#[], #[.int .u8 0, .slice none 0 0, .slice none 0 0], []⟩ 8 (by kernel_rfl) (by kernel_rfl) (by kernel_rfl) (by kernel_rfl)) ?_
  intro W base args ds gs before hval0 hW hcnd hsz0 _
  have hval : ∀ (j : Nat) t v, Try.f8.params[j]? = some t → args[j]? = some v → Value.okWide Try.prog W .any base t v := hval0
  have hW' := hW
  obtain ⟨p, q, hA0, hV, rfl, hfz, hnd⟩ := hW
  have hA : DataW.TrodAll enc Try.prog W 0 (fun _ => true) true Try.f8.params.toList args.toList ds p := hA0
  rw [Try.params8] at hA hval hsz0
  obtain ⟨v0, vs0, d0, ds0, p0, q0, hargs, rfl, rfl, h0, r0⟩ := trodAll_cons hA
  obtain ⟨v1, vs1, d1, ds1, p1, q1, rfl, rfl, rfl, h1, r1⟩ := trodAll_cons r0
  obtain ⟨v2, vs2, d2, ds2, p2, q2, rfl, rfl, rfl, h2, r2⟩ := trodAll_cons r1
  obtain ⟨rfl, rfl, rfl⟩ := trodAll_nil r2
  obtain rfl : args = #[v0, v1, v2] := by cases args; simp_all
  obtain ⟨rfl, rfl⟩ := trodVars_none hV
  have k0 := h0
  have lt0 : ∀ x ∈ p0, x.block < W.heap.size := by obtain ⟨m, hm⟩ := k0; exact DataW.trod_lt m _ _ _ hm
  have k1 := h1
  have lt1 : ∀ x ∈ p1, x.block < W.heap.size := by obtain ⟨m, hm⟩ := k1; exact DataW.trod_lt m _ _ _ hm
  have k2 := h2
  have lt2 : ∀ x ∈ p2, x.block < W.heap.size := by obtain ⟨m, hm⟩ := k2; exact DataW.trod_lt m _ _ _ hm
  obtain ⟨i, rfl⟩ := okWide_int Try.underlying5 (hval 0 5 v0 rfl rfl)
  obtain ⟨m0, g0⟩ := h0
  obtain ⟨x0, e0, _, w0⟩ := DataW.trod_int Try.underlying5 g0
  simp [Value.cells] at e0
  subst e0
  have hi := bounds_u8 w0
  obtain ⟨i', rfl⟩ := Int.eq_ofNat_of_zero_le hi.1
  obtain ⟨aL, nL, cL, rfl⟩ := okWide_slice Try.underlying40 (hval 1 40 v1 rfl rfl)
  have hsz : ∀ n ∈ d1.weights Try.prog 40, n ≤ reachBytes := fun n hn => by
    have := List.all_eq_true.1 hsz0 n (DataW.weights_mem_each (j := 1) rfl rfl n hn)
    simpa using this
  obtain ⟨LL, rfl, hL, hn, hl⟩ := open_lists h1 hsz
  obtain ⟨aB, nB, cB, rfl⟩ := okWide_slice Try.underlying55 (hval 2 55 v2 rfl rfl)
  obtain ⟨gb, ob, Z, rfl, hZ, hZa, _⟩ := open_bytes h2
  have walk : Calls Try.prog 8 #[.int .u8 (i' : Int), .slice aL LL.length cL, .slice aB Z.length cB] W fun e w' => e = .returned (.bool true) ∧ Chg (fun _ => False) W w' := by
    by_cases hs : sumL LL ≤ 4000
    · by_cases hm : 50 < Z.length
      · exact more_lives i' LL Z.length aL aB cL cB _ W hL hn hl hs hm
      · obtain ⟨h4, h5⟩ := each_le hs
        exact rowsBack_any i' LL Z aL aB cL cB _ gb ob W hL (by omega) h4 h5 hs hZ hZa (by omega)
    · exact great_lives i' LL Z.length aL aB cL cB _ W hL hn hl (by omega)
  clear hA0 hval0
  refine walk.mono fun e W' ⟨he, hc⟩ => ?_
  subst he
  have bel := hc.to_below
  exact ⟨_, rfl, _, _, _, [], _, [], hW', trodAll_mk1 (shut_bool Try.underlying4 _), (trodAll_cons_mk (Below.trod laidOut (by kernel_rfl) (of_decide_eq_true (by kernel_rfl)) k0 bel lt0) (trodAll_cons_mk (Below.trod laidOut (by kernel_rfl) (of_decide_eq_true (by kernel_rfl)) k1 bel lt1) (trodAll_cons_mk (Below.trod laidOut (by kernel_rfl) (of_decide_eq_true (by kernel_rfl)) k2 bel lt2) trodAll_mk0))), rfl, bel.frame _, fun h => by cases h⟩

theorem proved : Rows.RowsBackSaid :=
  OpenClaim.holds_of_wide 8 Try.f8 rfl rfl rfl rfl rfl rfl rfl ⟨rfl, rfl, rfl, rfl, rfl⟩ rfl rfl rfl rfl rfl (by kernel_rfl) Try.func8 (by kernel_rfl)
    (of_decide_eq_true (by kernel_rfl)) (by unfold Func.isWrapper; first | (rw [if_pos (by decide +kernel)]; kernel_rfl) | (rw [if_neg (by decide +kernel)]; exact ⟨rfl, rfl⟩))
    (fun os started H enc _ => lifted os started H enc)
#print axioms proved
end Go.Proofs.Ytkfakkonlnjckaa.rowsBack
