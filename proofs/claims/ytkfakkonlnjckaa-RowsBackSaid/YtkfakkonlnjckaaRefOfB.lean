/- The document's row of values where one is none. -/
import Derived.Test.YtkfakkonlnjckaaRefOfR
namespace Go.Proofs.Ytkfakkonlnjckaa
open Go.RowKit

set_option maxRecDepth 100000 in
set_option maxHeartbeats 8000000 in
theorem refOf_bad (Z : List Int) (a : Option Addr) (g o c : Nat) (w : World) (hz : I.BytesAt w g o Z) (ha : 0 < Z.length → a = some ⟨g, o, none⟩) (hl : Z.length ≤ 65536) (hv : noValB Z = true) :
    Calls Try.prog 12 #[.slice a Z.length c] w fun e w' => e = .returned (ofV 0 (none, 0, 0) 1) ∧ Chg (fun _ => False) w w' := by
  have HZ := Lib.hid hz
  have HA := Lib.hid ha
  have HV := Lib.hid hv
  have HC0 := Lib.hid ((Chg.refl (fun k => w.heap.size ≤ k) w).alloc (.cells #[.int .i64 0, .slice none 0 0] 33))
  have HR0 : Hid (∀ wr, Chg (fun k => w.heap.size + 1 ≤ k) (w.alloc (.cells #[.int .i64 0, .slice none 0 0] 33)) wr → wr.cell? ⟨w.heap.size, 0, none⟩ = some (.int .i64 0) ∧ wr.cell? ⟨w.heap.size, 1, none⟩ = some (.slice none 0 0) ∧ wr.frozen? ⟨w.heap.size, 0, none⟩ = false ∧ wr.frozen? ⟨w.heap.size, 1, none⟩ = false) := Lib.hid fun wr hc =>
    ⟨hc.cellS (by simp) (by show ¬ w.heap.size + 1 ≤ w.heap.size; omega), hc.cellS (by simp) (by show ¬ w.heap.size + 1 ≤ w.heap.size; omega), (hc.frozen (p := ⟨w.heap.size, 0, none⟩) (by simp) (by show ¬ w.heap.size + 1 ≤ w.heap.size; omega)).trans (World.frozen?_alloc_new _ _ _ _), (hc.frozen (p := ⟨w.heap.size, 1, none⟩) (by simp) (by show ¬ w.heap.size + 1 ≤ w.heap.size; omega)).trans (World.frozen?_alloc_new _ _ _ _)⟩
  clear hz ha hv
  go_enter Try.func12, Try.ntmps12
  go_wp2
  go_loopw [4, 5, 6] (fun v u q wr => ∃ (i : Nat) (A T : List Int), i ≤ Z.length ∧ q = .int .i64 i ∧ TwoL (w.heap.size + 1) wr v u A T ∧ (Tally A T (Z.take i) ∧ ∀ n ∈ Z.take i, isVal n) ∧ Chg (fun k => w.heap.size + 1 ≤ k) (w.alloc (.cells #[.int .i64 0, .slice none 0 0] 33)) wr) (fun _ _ q _ => Z.length - (intOf q).toNat)
  case atStart => exact ⟨0, [], [], by omega, rfl, ⟨.nil _ _, .nil _ _, (fun g hg => by cases hg)⟩, ⟨Tally.start, by simp⟩, Chg.refl _ _⟩
  case round =>
    obtain ⟨i, A, T, hi, rfl, htw, ⟨hty, hvs⟩, hc⟩ := hrel
    have HVS := Lib.hid hvs
    obtain ⟨va, vl, vc, rfl⟩ := htw.a.shape3
    obtain ⟨ua, ul, uc, rfl⟩ := htw.t.shape3
    have HTW := Lib.hid htw
    have HTY := Lib.hid hty
    have HC := Lib.hid hc
    have hvl : vl = A.length := by obtain ⟨_, _, h⟩ := htw.a.shape; injection h with _ h _
    have hul : ul = T.length := by obtain ⟨_, _, h⟩ := htw.t.shape; injection h with _ h _
    subst hvl hul
    have hAl : A.length ≤ Z.length := by have := hty.le; have := List.length_take_le i Z; omega
    clear htw hty hc hvs
    by_cases hil : i < Z.length
    · have b19 : decide ((i : Int) < (Z.length : Int)) = true := by simp; omega
      obtain ⟨z, hz, q1, z0, z2⟩ := (HZ.out.chg ((HC0.out.trans (HC.out.mono (fun k _ e => by omega))).fresh) (fun _ h => h)).get hil
      have e1 := HA.out (by omega)
      subst e1
      have HX := Lib.hid hz
      have HTT : Hid (Z.take (i + 1) = Z.take i ++ [z]) := Lib.hid (by rw [List.take_add_one, HX.out]; rfl)
      have hgz : g < w.heap.size := HZ.out.lt (by intro e; rw [e] at hil; simp at hil)
      by_cases d1 : z < -1
      · have q9 : decide (z < -1) = true := by simpa using d1
        obtain ⟨r0, r1, r2, r3⟩ := HR0.out wr HC.out
        clear hz
        go_wp2
        obtain ⟨f0, f1, f2⟩ := store2 (.int .i64 0) (.slice none 0 0) r0 r1
        have h4 := ((HC0.out.trans (HC.out.mono (T := fun k => w.heap.size ≤ k) (fun k _ e => by omega))).trans (f2.mono (fun k _ e => by omega))).fresh
        clear f2
        generalize (wr.setCell ⟨w.heap.size, 0, none⟩ (.int .i64 0)).setCell ⟨w.heap.size, 1, none⟩ (.slice none 0 0) = W at *
        exact bodyPost_ret (v := .tuple #[.agg #[.int .i64 0, .slice none 0 0], .int .i64 1]) (by simp [results, Try.results12, go_sem, f0, f1]) rfl ⟨rfl, h4⟩
      · have q8 : decide (z < -1) = false := by simpa using d1
        by_cases d2 : 16777215 < z
        · have q9 : decide (16777215 < z) = true := by simpa using d2
          obtain ⟨r0, r1, r2, r3⟩ := HR0.out wr HC.out
          clear hz
          go_wp2
          obtain ⟨f0, f1, f2⟩ := store2 (.int .i64 0) (.slice none 0 0) r0 r1
          have h4 := ((HC0.out.trans (HC.out.mono (T := fun k => w.heap.size ≤ k) (fun k _ e => by omega))).trans (f2.mono (fun k _ e => by omega))).fresh
          clear f2
          generalize (wr.setCell ⟨w.heap.size, 0, none⟩ (.int .i64 0)).setCell ⟨w.heap.size, 1, none⟩ (.slice none 0 0) = W at *
          exact bodyPost_ret (v := .tuple #[.agg #[.int .i64 0, .slice none 0 0], .int .i64 1]) (by simp [results, Try.results12, go_sem, f0, f1]) rfl ⟨rfl, h4⟩
        have HVN : Hid (∀ n ∈ Z.take (i + 1), isVal n) := Lib.hid (fun n hn => by
          rw [HTT.out] at hn
          rcases List.mem_append.1 hn with hn | hn
          · exact HVS.out n hn
          · rw [List.mem_singleton.1 hn]; exact ⟨by omega, by omega⟩)
        clear hz
        go_wp2
        obtain ⟨wo, rfl⟩ : ∃ wo : World, wo = wr := ⟨_, rfl⟩
        go_loopw [7] (fun q wr => ∃ (k : Nat), k ≤ A.length ∧ q = .int .i64 k ∧ (∀ (j : Nat) y, j < k → A[j]? = some y → y ≠ z) ∧ Chg (fun _ => False) wo wr) (fun q _ => A.length - (intOf q).toNat)
        case atStart => exact ⟨0, by omega, rfl, fun j y h => absurd h (Nat.not_lt_zero _), Chg.refl _ _⟩
        case round =>
          obtain ⟨k, hk, rfl, hb, hcw⟩ := hrel
          have HB := Lib.hid hb
          have HCW := Lib.hid hcw
          have HTR := Lib.hid (HTW.out.chg hcw (fun _ _ _ h => h))
          have q2 := hcw.cellS q1 (fun h => h)
          clear hb hcw
          by_cases hkl : k < A.length
          · obtain ⟨gv, y, -, hle, rfl, hy, c1, -, y0, y1, -, -⟩ := intOwn_get HTR.out.a hkl
            have HY := Lib.hid hy
            have b39 : decide ((k : Int) < (A.length : Int)) = true := by simp; omega
            clear hy
            by_cases hyz : y = z
            · subst hyz
              have hkt : k < T.length := by have := HTY.out.len; omega
              obtain ⟨gu, t, -, hle2, rfl, ht, c2, c3, t0, t1, hBu, -⟩ := intOwn_get HTR.out.t hkt
              have HT := Lib.hid ht
              have b48 : (y != y) = false := by simp
              have b55 : ((k : Int) == (A.length : Int)) = false := by simp; omega
              have HTC := Lib.hid (HTY.out.cnt k y t HY.out ht)
              have HLE : Hid (((Z.take i).count y : Int) ≤ 65536) := Lib.hid (by have := List.count_le_length (a := y) (l := Z.take i); have := List.length_take_le i Z; omega)
              have t2 : t ≤ 65536 := by have := HTC.out; have := HLE.out; omega
              have t3 : 0 ≤ t := by have := HTC.out; omega
              have HTN := Lib.hid (HTY.out.old HY.out ht)
              have HTX := Lib.hid ((HTR.out.chg (S := fun _ => False) (w' := wr.drew) (Chg.refl _ _).drew (fun _ _ _ h => h)).set hkt (x := t + 1) ⟨by omega, by omega⟩)
              have HCX := Lib.hid ((HC.out.trans HCW.out.any).drew.trans ((setCellChg wr.drew gu k (.int .i64 (t + 1))).mono (T := fun j => w.heap.size + 1 ≤ j) (fun j _ e => by omega)))
              clear ht
              go_upto_region 11 with (fail)
              refine wp_region_same (fun w' => w' = wr.drew) (by kernel_rfl) (by kernel_rfl) ?_ ?_
              · rfl
              iterate 15 (refine wpC_read rfl (fun _ _ _ h => h) (fun K hK => ?_); apply Exists.intro; refine ⟨fun _ w' _ hC => ?_, ?_⟩; ((subst hC); go_simp; try with_reducible rfl); (try go_simp); refine hK _ ?_; clear hK K)
              refine wpC_nil ?_
              rintro w' rfl
              go_wp2
              go_roundw
              case rel => exact ⟨i + 1, A, _, by omega, by go_num, HTX.out, ⟨by rw [HTT.out]; exact HTN.out, HVN.out⟩, HCX.out⟩
              case measure => simp [intOf]; omega
            · have b48 : (y != z) = true := by simpa using hyz
              have HB2 : Hid (∀ (j : Nat) x, j < k + 1 → A[j]? = some x → x ≠ z) := Lib.hid (fun j x hj hx => by
                by_cases he : j = k
                · subst he; rw [HY.out] at hx; obtain rfl := Option.some.inj hx; exact hyz
                · exact HB.out j x (by omega) hx)
              clear hyz
              go_upto_region 11 with (fail)
              refine wp_region_same (fun w' => w' = wr.drew) (by kernel_rfl) (by kernel_rfl) ?_ ?_
              · rfl
              iterate 15 (refine wpC_read rfl (fun _ _ _ h => h) (fun K hK => ?_); apply Exists.intro; refine ⟨fun _ w' _ hC => ?_, ?_⟩; ((subst hC); go_simp; try with_reducible rfl); (try go_simp); refine hK _ ?_; clear hK K)
              refine wpC_nil ?_
              rintro w' rfl
              go_wp2
              go_roundw
              case rel => first | exact ⟨k + 1, by omega, by go_num, HB2.out, HCW.out.drew⟩ | ((repeat apply Exists.intro); exact ⟨⟨k + 1, by omega, rfl, HB2.out, HCW.out.drew⟩, by (repeat' apply And.intro) <;> first | rfl | go_num⟩)
              case measure => simp [intOf]; omega
          · obtain rfl : k = A.length := by omega
            have b39 : decide ((A.length : Int) < (A.length : Int)) = false := by simp
            have HNA : Hid (z ∉ A) := Lib.hid (fun hm => by
              obtain ⟨j, hj, he⟩ := List.getElem_of_mem hm
              exact HB.out j z hj (by rw [List.getElem?_eq_getElem hj, he]) rfl)
            have HTN := Lib.hid (HTY.out.new HNA.out)
            have HTLEN := Lib.hid HTY.out.len
            have HOK : Hid (∀ x ∈ [z], intE.ok x) := Lib.hid (by intro x hx; rw [List.mem_singleton] at hx; subst hx; exact ⟨z0, z2⟩)
            have HOK0 : Hid (∀ x ∈ [(0 : Int)], intE.ok x) := Lib.hid (by intro x hx; rw [List.mem_singleton] at hx; subst hx; exact ⟨by omega, by omega⟩)
            obtain ⟨wd, hwd⟩ : ∃ wd, wd = wr.drew := ⟨_, rfl⟩
            have HWD : Hid (Chg (fun _ => False) wr wd) := Lib.hid (by rw [hwd]; exact (Chg.refl _ _).drew)
            have q3 := HWD.out.cellS q2 (fun h => h)
            have HTRD := Lib.hid (HTR.out.chg HWD.out (fun _ _ _ h => h))
            have HTW1 := Lib.hid (HTRD.out.chg ((Chg.refl (fun _ => False) wd).alloc (.cells #[.int .i64 z] 3)) (fun _ _ _ h => h))
            have HCD := Lib.hid ((HC.out.trans HCW.out.any).trans HWD.out.any)
            have HBS : Hid (w.heap.size + 1 ≤ (wd.alloc (.cells #[.int .i64 z] 3)).heap.size) := Lib.hid (by have := HCD.out.size; simp at this ⊢; omega)
            have HWE := Lib.hid hwd
            have hTl2 : T.length ≤ 65536 := by have := HTY.out.len; omega
            clear hwd q2
            go_upto_region 11 with (fail)
            refine wp_region_same (fun w' => w' = wd) (by kernel_rfl) (by kernel_rfl) ?_ ?_
            · exact HWE.out.symm
            iterate 5 (refine wpC_read rfl (fun _ _ _ h => h) (fun K hK => ?_); apply Exists.intro; refine ⟨fun _ w' _ hC => ?_, ?_⟩; ((subst hC); go_simp; try with_reducible rfl); (try go_simp); refine hK _ ?_; clear hK K)
            iterate 9 (refine wpC_skip rfl (fun _ _ _ h => h) (fun K hK => ?_); (try go_simp); refine hK _ ?_; clear hK K)
            (refine wpC_read rfl (fun _ _ _ h => h) (fun K hK => ?_); apply Exists.intro; refine ⟨fun _ w' _ hC => ?_, ?_⟩; ((subst hC); go_simp; try with_reducible rfl); (try go_simp); refine hK _ ?_; clear hK K)
            refine wpC_nil ?_
            rintro w' rfl
            go_wp2_with (first
              | (at_builtin; refine Elt.wpList_append2 intE rfl (.tmp 56) (.tmp 61) 22 22 rfl rfl (w.heap.size + 1) (.slice va A.length vc) A [z] (.slice (some ⟨w'.heap.size, 0, none⟩) 1 1) rfl rfl HTW1.out.a HBS.out (intE.srcLit 1 HOK.out) HOK.out (by simp; omega) ?_; intro v' w1 H1 H2 H3; have HTW2 := Lib.hid (HTW1.out.appA H1.out H3.out.1 H3.out.2); have HTW3 := Lib.hid (HTW2.out.chg ((Chg.refl (fun _ => False) w1).alloc (.cells #[.int .i64 0] 3)) (fun _ _ _ h => h)); have HC2 := Lib.hid ((HCD.out.alloc (.cells #[.int .i64 z] 3)).trans H2.out); have HBS2 : Hid (w.heap.size + 1 ≤ (w1.alloc (.cells #[.int .i64 0] 3)).heap.size) := Lib.hid (by have := HC2.out.size; simp at this ⊢; omega))
              | (at_builtin; refine Elt.wpList_append2 intE rfl (.tmp 63) (.tmp 64) 22 22 rfl rfl (w.heap.size + 1) (.slice ua T.length uc) T [0] (.slice (some ⟨w1.heap.size, 0, none⟩) 1 1) rfl rfl HTW3.out.t HBS2.out (intE.srcLit 1 HOK0.out) HOK0.out (by simp; omega) ?_; intro u' w2 K1 K2 K3; have HTW4 := Lib.hid (HTW3.out.appT K1.out K3.out.1 K3.out.2); have HC3 := Lib.hid ((HC2.out.alloc (.cells #[.int .i64 0] 3)).trans K2.out); obtain ⟨ua', ul', uc', hu'⟩ := K1.out.shape3; subst hu'; obtain ⟨gu, t, hul', hle', hua', ht, c2, c3, -, -, hBu, hgu⟩ := intOwn_get K1.out (k := T.length) (by simp); have ht0 : t = 0 := (by simp at ht; exact ht.symm); subst ht0 hua'; rw [HTLEN.out] at c2 c3; have hAu : A.length < ul' := (by rw [hul']; simp; have := HTLEN.out; omega); have hUC := Lib.hid hul'; have hle3 : ul' ≤ uc' := (by rw [hul']; exact hle'); clear hul' hle' ht))
            have HTX := Lib.hid (HTW4.out.set (k := T.length) (by simp) (x := 1) ⟨by omega, by omega⟩)
            have HCX := Lib.hid (HC3.out.trans ((setCellChg w2 gu T.length (.int .i64 1)).mono (T := fun j => w.heap.size + 1 ≤ j) (fun j _ e => by omega)))
            rw [HTLEN.out] at HCX
            go_roundw
            case rel => exact ⟨i + 1, A ++ [z], (T ++ [0]).set T.length 1, by omega, by go_num, by have := HTX.out; rw [HTLEN.out] at this ⊢; exact this, ⟨by rw [HTT.out]; exact HTN.out, HVN.out⟩, HCX.out⟩
            case measure => simp [intOf]; omega
    · obtain rfl : i = Z.length := by omega
      have h1 := HVS.out
      rw [List.take_length] at h1
      have h2 := HV.out
      rw [noValB_false.2 h1] at h2
      cases h2
end Go.Proofs.Ytkfakkonlnjckaa
