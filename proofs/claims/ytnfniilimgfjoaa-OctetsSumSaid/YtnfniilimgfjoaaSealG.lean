/- Seal and Open by whatever sums: those that are there, those that are not. -/
import Derived.Test.YtnfniilimgfjoaaRefOpen
namespace Go.Proofs.Ytnfniilimgfjoaa
open Go.RowKit

set_option maxRecDepth 100000 in
set_option maxHeartbeats 2000000 in
theorem seal_gen (sv : Value) (S : Nat → Prop) (R : World → Prop) (hR : ∀ w w', R w → Chg (fun _ => False) w w' → R w') (Z : List Int) (a : Option Addr) (g o c : Nat) (w : World) (hof : Calls Try.prog 21 #[sv, .slice a Z.length c] w fun e w' => e = .returned (.int .u32 (ofI Z)) ∧ R w' ∧ Chg S w w') (hz : BytesAt w g o Z) (hgb : Z ≠ [] → ¬ S g) (ha : 0 < Z.length → a = some ⟨g, o, none⟩) (hl : Z.length ≤ 10000) :
    Calls Try.prog 18 #[sv, .slice a Z.length c] w fun e w' => ∃ h, e = .returned (.slice (some ⟨h, 0, none⟩) (sealL Z).length (sealL Z).length) ∧ w.heap.size ≤ h ∧ Row w' h (sealL Z) ∧ R w' ∧ Chg S w w' := by
  have HOF := Lib.hid hof
  have HZ := Lib.hid hz
  have HA := Lib.hid ha
  have HG := Lib.hid hgb
  obtain ⟨r0, r1⟩ := ofI_range Z
  obtain ⟨N, hN⟩ : ∃ N, ofI Z = N := ⟨_, rfl⟩
  rw [hN] at HOF r0 r1
  have HS : Hid (sealL Z = Z ++ fourL N) := Lib.hid (by rw [sealL, hN])
  clear hof hz hgb ha hN
  go_enter Try.func18, Try.ntmps18
  go_wp2_with fail
  refine HOF.out.mono ?_
  rintro e w1 ⟨rfl, hs1, hc1⟩
  have HS1 := Lib.hid hs1
  have HC1 := Lib.hid hc1
  clear hs1 hc1 HOF
  go_wp2_with fail
  refine (four_any N w1 r0 r1).mono ?_
  rintro e w2 ⟨h4, rfl, hh4, hr4, hc2⟩
  have HR4 := Lib.hid hr4
  have HC2 := Lib.hid hc2
  clear hr4 hc2
  go_wp2_with fail
  have HQ := Lib.hid (two_cells w2 (.slice a Z.length c) (.slice (some ⟨h4, 0, none⟩) 4 4) 22)
  have HC3 := Lib.hid ((Chg.refl (fun _ => False) w2).alloc (.cells #[.slice a Z.length c, .slice (some ⟨h4, 0, none⟩) 4 4] 22))
  refine (concat_any Z (fourL N) a g o c h4 w2.heap.size _ (((HZ.out.chg HC1.out HG.out).chg HC2.out (fun _ h => h)).chg HC3.out (fun _ h => h)) HA.out ((HR4.out.chg HC3.out (fun h => h)).bytes (List.prefix_refl _)) (by simp [fourL]) (by omega) (by simp [fourL]) HQ.out.1 HQ.out.2).mono ?_
  rintro e w3 ⟨v3, rfl, ho3, hc3⟩
  obtain ⟨g3, C3, e3, hg3, hR3, hp3, hm3⟩ := ho3.some (by simp [fourL])
  have HC4 := Lib.hid (HC2.out.trans (HC3.out.trans hc3))
  obtain ⟨PL, hPL⟩ : ∃ PL, (Z ++ fourL N).length = PL := ⟨_, rfl⟩
  have HPL : Hid (PL ≤ C3.length) := Lib.hid (by rw [← hPL]; exact hp3.length_le)
  have HP : Hid (PL = (sealL Z).length) := Lib.hid (by rw [HS.out, hPL])
  rw [hPL] at e3
  subst e3
  have HR3 : Hid (Row w3 g3 (sealL Z)) := Lib.hid (by
    rw [HS.out]
    exact ⟨fun k x hk => by have := (hR3.bytes hp3).c k x hk; rw [Nat.zero_add] at this; exact this.1, hR3.z, hR3.lt, fun x hx => hR3.byte x (hp3.subset hx)⟩)
  have hg3' : w.heap.size ≤ g3 := by have h1 := HC1.out.size; have h2 := HC2.out.size; have h3 := HC3.out.size; omega
  clear hR3 hp3 ho3 hc3 hg3 hPL
  go_wp2_with fail
  refine (clip_any w3 g3 _ _ HPL.out).mono ?_
  rintro e w4 ⟨rfl, rfl⟩
  have HF : Hid (R w4 ∧ Chg S w w4) := Lib.hid ⟨hR _ _ HS1.out HC4.out, HC1.out.trans HC4.out.any⟩
  go_wp2
  go_ret
  exact ⟨g3, by rw [← HP.out]; rfl, hg3', HR3.out, HF.out.1, HF.out.2⟩

set_option maxRecDepth 100000 in
set_option maxHeartbeats 4000000 in
theorem open_gen (sv : Value) (S : Nat → Prop) (R : World → Prop) (hR : ∀ w w', R w → Chg (fun _ => False) w w' → R w') (Z : List Int) (A : Nat) (g o c : Nat) (w : World) (hs : R w) (hz : BytesAt w g o Z) (hof : ∀ w', R w' → BytesAt w' g o (Z.take A) → Calls Try.prog 21 #[sv, .slice (some ⟨g, o, none⟩) (Z.take A).length c] w' fun e w'' => e = .returned (.int .u32 (ofI (Z.take A))) ∧ R w'' ∧ Chg S w' w'') (hgb : ¬ S g) (hl : Z.length ≤ 10000) (hA : Z.length = A + 4) (hc : Z.length ≤ c) :
    Calls Try.prog 19 #[sv, .slice (some ⟨g, o, none⟩) Z.length c] w fun e w' => R w' ∧ Chg S w w' ∧ ((Z.drop A = fourL (ofI (Z.take A)) ∧ ∃ v pg, e = .returned (.tuple #[v, .int .i64 0]) ∧ Fresh w w' v (Z.take A) pg) ∨ (Z.drop A ≠ fourL (ofI (Z.take A)) ∧ e = .returned (.tuple #[.slice none 0 0, .int .i64 5]))) := by
  have hTl : (Z.take A).length = A := by rw [List.length_take]; omega
  have hDl : (Z.drop A).length = 4 := by rw [List.length_drop]; omega
  have HZ := Lib.hid hz
  have HB1 : Hid (∀ w', Chg S w w' → BytesAt w' g o (Z.take A)) := Lib.hid (fun w' hc => ⟨fun j x hj => (hz.chg hc (fun _ => hgb)).c j x (by rw [List.getElem?_take_of_lt (by have := (List.getElem?_eq_some_iff.1 hj).1; omega)] at hj; exact hj), fun _ => (hz.chg hc (fun _ => hgb)).lt (by intro e; rw [e] at hA; simp at hA)⟩)
  have HB2 : Hid (∀ w', Chg S w w' → BytesAt w' g (o + A) (Z.drop A)) := Lib.hid (fun w' hc => ⟨fun j x hj => by
    have := (hz.chg hc (fun _ => hgb)).c (A + j) x (by rw [List.getElem?_drop] at hj; exact hj)
    rw [Nat.add_assoc]
    exact this, fun _ => (hz.chg hc (fun _ => hgb)).lt (by intro e; rw [e] at hA; simp at hA)⟩)
  have HOF := Lib.hid hof
  have HS := Lib.hid hs
  obtain ⟨r0, r1⟩ := ofI_range (Z.take A)
  obtain ⟨N, hN⟩ : ∃ N, ofI (Z.take A) = N := ⟨_, rfl⟩
  rw [hN] at r0 r1 ⊢
  rw [hTl, hN] at HOF
  have hi : (Z.length : Int) - 4 = A := by omega
  have hi2 : (A : Int) ≤ (Z.length : Int) := by omega
  have hi3 : (Z.length : Int) ≤ (c : Int) := by omega
  have hi4 : ¬ ((A : Int) < 0) := by omega
  have hi5 : Z.length - A = 4 := by omega
  have hi6 : A ≤ Z.length := by omega
  have hi7 : A ≤ c := by omega
  have hi8 : (A : Int) ≤ (A : Int) + 4 := by omega
  have hi9 : ¬ c = A := by omega
  have HSS : Hid True := Lib.hid trivial
  clear hz hs hN hof
  go_enter Try.func19, Try.ntmps19
  go_upto_region 4 with (fail)
  refine wp_region_held (S := fun _ => True) (by kernel_rfl) ?_
  show wpAnyH _ _ _ _ _ 12 (Array.replicate 12 false) _ w.drew
  (refine held_read (i := 0) rfl (by kernel_rfl) (by kernel_rfl) (by kernel_rfl) (fun _ _ _ _ h => h) rfl HSS.out (fun K hK => ?_); apply Exists.intro; refine ⟨fun w' hC => ?_, ?_⟩; ((skip); go_simp; try with_reducible rfl); (try go_simp); refine hK _ ?_; clear hK K)
  (refine held_read (i := 1) rfl (by kernel_rfl) (by kernel_rfl) (by kernel_rfl) (fun _ _ _ _ h => h) rfl HSS.out (fun K hK => ?_); apply Exists.intro; refine ⟨fun w' hC => ?_, ?_⟩; ((skip); go_simp; try with_reducible rfl); (try go_simp); refine hK _ ?_; clear hK K)
  (refine held_read (i := 2) rfl (by kernel_rfl) (by kernel_rfl) (by kernel_rfl) (fun _ _ _ _ h => h) rfl HSS.out (fun K hK => ?_); apply Exists.intro; refine ⟨fun w' hC => ?_, ?_⟩; ((skip); go_simp; try with_reducible rfl); (try go_simp); refine hK _ ?_; clear hK K)
  (refine held_read (i := 3) rfl (by kernel_rfl) (by kernel_rfl) (by kernel_rfl) (fun _ _ _ _ h => h) rfl HSS.out (fun K hK => ?_); apply Exists.intro; refine ⟨fun w' hC => ?_, ?_⟩; ((skip); go_simp; try with_reducible rfl); (try go_simp); refine hK _ ?_; clear hK K)
  (refine held_read (i := 4) rfl (by kernel_rfl) (by kernel_rfl) (by kernel_rfl) (fun _ _ _ _ h => h) rfl HSS.out (fun K hK => ?_); apply Exists.intro; refine ⟨fun w' hC => ?_, ?_⟩; ((skip); go_simp; try with_reducible rfl); (try go_simp); refine hK _ ?_; clear hK K)
  (refine held_read (i := 5) rfl (by kernel_rfl) (by kernel_rfl) (by kernel_rfl) (fun _ _ _ _ h => h) rfl HSS.out (fun K hK => ?_); apply Exists.intro; refine ⟨fun w' hC => ?_, ?_⟩; ((skip); go_simp; try with_reducible rfl); (try go_simp); refine hK _ ?_; clear hK K)
  (refine held_read (i := 6) rfl (by kernel_rfl) (by kernel_rfl) (by kernel_rfl) (fun _ _ _ _ h => h) rfl HSS.out (fun K hK => ?_); apply Exists.intro; refine ⟨fun w' hC => ?_, ?_⟩; ((skip); go_simp; try with_reducible rfl); (try go_simp); refine hK _ ?_; clear hK K)
  refine held_call (i := 7) (by kernel_rfl) rfl rfl 21 #[sv, .slice (some ⟨g, o, none⟩) A c] (fun v w'' => v = .int .u32 N ∧ R w'' ∧ Chg S w w'') (by go_simp) ?_ ?_
  · refine (HOF.out w.drew (hR _ _ HS.out (Chg.refl (fun _ => False) w).drew) ((HB1.out w (Chg.refl _ _)).chg (Chg.refl (fun _ => False) w).drew (fun _ h => h))).mono ?_
    rintro e w1 ⟨rfl, h1, h2⟩
    exact ⟨_, rfl, trivial, rfl, h1, (Chg.refl _ _).drew.trans h2⟩
  rintro v w1 - ⟨rfl, hs1, hc1⟩ K hK
  have HS1 := Lib.hid hs1
  have HC1 := Lib.hid hc1
  clear hs1 hc1 HOF
  (try go_simp)
  refine hK _ ?_
  clear hK K
  refine held_call (i := 8) (by kernel_rfl) rfl rfl 32 #[.int .u32 N] (fun v w'' => ∃ h4, v = .slice (some ⟨h4, 0, none⟩) 4 4 ∧ Row w'' h4 (fourL N) ∧ Chg (fun _ => False) w1 w'') (by go_simp) ?_ ?_
  · refine (four_any N w1 r0 r1).mono ?_
    rintro e w2 ⟨h4, rfl, _, h1, h2⟩
    exact ⟨_, rfl, trivial, h4, rfl, h1, h2⟩
  rintro v w2 - ⟨h4, rfl, hr4, hc2⟩ K hK
  have HR4 := Lib.hid hr4
  have HC2 := Lib.hid hc2
  clear hr4 hc2
  (try go_simp)
  refine hK _ ?_
  clear hK K
  have HEQ := Lib.hid (equal_any (Z.drop A) (fourL N) (some ⟨g, o + A, none⟩) (some ⟨h4, 0, none⟩) g (o + A) h4 0 (c - A) 4 w2 ((HB2.out w1 HC1.out).chg HC2.out (fun _ h => h)) (fun _ => rfl) (HR4.out.bytes (List.prefix_refl _)) (fun _ => rfl) (by omega))
  rw [hDl] at HEQ
  obtain ⟨B, hB⟩ : ∃ B, decide (Z.drop A = fourL N) = B := ⟨_, rfl⟩
  have HBB := Lib.hid hB
  rw [hB] at HEQ
  clear hB
  refine held_call (i := 9) (by kernel_rfl) rfl rfl 33 #[.slice (some ⟨g, o + A, none⟩) 4 (c - A), .slice (some ⟨h4, 0, none⟩) 4 4] (fun v w'' => v = .bool B ∧ Chg (fun _ => False) w2 w'') (by go_simp) ?_ ?_
  · refine HEQ.out.mono ?_
    rintro e w3 ⟨rfl, h1⟩
    exact ⟨_, rfl, trivial, rfl, h1⟩
  rintro v w3 - ⟨rfl, hc3⟩ K hK
  have HC3 := Lib.hid (HC1.out.trans (HC2.out.trans hc3).any)
  have HS3 := Lib.hid (hR _ _ HS1.out (HC2.out.trans hc3))
  clear hc3 HEQ HC2 HR4 HC1 HS1
  (try go_simp)
  refine hK _ ?_
  clear hK K
  (refine held_one (i := 10) (by kernel_rfl) rfl rfl HSS.out (fun K hK => ?_); apply Exists.intro; refine ⟨?_, ?_⟩; ((skip); go_simp; try with_reducible rfl); (try go_simp); refine hK _ ?_; clear hK K)
  (refine held_one (i := 11) (by kernel_rfl) rfl rfl HSS.out (fun K hK => ?_); apply Exists.intro; refine ⟨?_, ?_⟩; ((skip); go_simp; try with_reducible rfl); (try go_simp); refine hK _ ?_; clear hK K)
  refine wpAnyH_done (by kernel_rfl) ?_ _
  have HCL := Lib.hid (clone_any (Z.take A) (some ⟨g, o, none⟩) g o c w3 (HB1.out w3 HC3.out) (fun _ => rfl) (by omega))
  rw [hTl] at HCL
  cases B with
  | false =>
    go_wp2
    go_ret2
    exact ⟨HS3.out, HC3.out, .inr ⟨of_decide_eq_false HBB.out, rfl⟩⟩
  | true =>
    go_wp2_with fail
    refine HCL.out.mono ?_
    rintro e w4 ⟨v4, rfl, ho4, hc4⟩
    have HO4 := Lib.hid ho4
    have HC4 := Lib.hid hc4
    clear ho4 hc4 HCL
    go_wp2_with fail
    refine (clip_own w w4 v4 (Z.take A) (HO4.out.lower (by have := HC3.out.size; omega))).mono ?_
    rintro e w5 ⟨v5, pg, rfl, rfl, hf⟩
    have HF := Lib.hid hf
    have HC5 := Lib.hid (HC3.out.trans HC4.out.any)
    have HS5 := Lib.hid (hR _ _ HS3.out HC4.out)
    clear hf HC3 HC4 HS3 HO4
    go_wp2
    go_ret2
    exact ⟨HS5.out, HC5.out, .inl ⟨of_decide_eq_true HBB.out, v5, pg, rfl, HF.out⟩⟩
end Go.Proofs.Ytnfniilimgfjoaa
