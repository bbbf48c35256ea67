/- Bytes that were sealed: Open. -/
import Derived.Test.YtnfniilimgfjoaaSeal
import Derived.Test.YtnfniilimgfjoaaHeld
namespace Go.Proofs.Ytnfniilimgfjoaa
open Go.RowKit

/-- A list of bytes that was answered: nil or a block of its own, just as long as it is. -/
structure Fresh (w0 w : World) (v : Value) (X : List Int) (pg : Option Nat) : Prop where
  val : v = .slice (pg.map fun g => ⟨g, 0, none⟩) X.length X.length
  own : ∀ g, pg = some g → w0.heap.size ≤ g ∧ Row w g X
  nil : pg = none → X = []
theorem clip_own (w0 w : World) (v : Value) (X : List Int) (h : Own w w0.heap.size v X) :
    Calls Try.prog 27 #[v] w fun e w' => ∃ v' pg, e = .returned v' ∧ w' = w ∧ Fresh w0 w v' X pg := by
  rcases h with ⟨rfl, rfl⟩ | ⟨g, C, rfl, hg, hR, hp, hm⟩
  · go_enter Try.func27, Try.ntmps27
    go_wp2
    go_ret
    exact ⟨_, none, rfl, rfl, rfl, (fun g hg => by cases hg), fun _ => rfl⟩
  · refine (clip_any w g _ _ hp.length_le).mono fun e w' ⟨he, hw⟩ => ?_
    subst hw
    exact ⟨_, some g, he, rfl, rfl, fun g' hg' => by
      obtain rfl := Option.some.inj hg'
      exact ⟨hg, fun k x hk => by have := (hR.bytes hp).c k x hk; rw [Nat.zero_add] at this; exact this.1, hR.z, hR.lt, fun x hx => hR.byte x (hp.subset hx)⟩, fun h => by cases h⟩

set_option maxRecDepth 100000 in
set_option maxHeartbeats 2000000 in
theorem open_short (sv : Value) (Z : List Int) (a : Option Addr) (c : Nat) (w : World) (hl : Z.length < 4) :
    Calls Try.prog 19 #[sv, .slice a Z.length c] w fun e w' => e = .returned (.tuple #[.slice none 0 0, .int .i64 4]) ∧ w' = w := by
  have h1 : (Z.length : Int) - 4 < 0 := by omega
  go_enter Try.func19, Try.ntmps19
  go_wp2
  go_ret2
  exact ⟨rfl, rfl⟩

set_option maxRecDepth 100000 in
set_option maxHeartbeats 4000000 in
theorem open_long (b : Nat) (Z : List Int) (A : Nat) (g o c : Nat) (w : World) (hs : SumsSt w b) (hz : BytesAt w g o Z) (hgb : g ≠ b) (hl : Z.length ≤ 10000) (hA : Z.length = A + 4) (hc : Z.length ≤ c) :
    Calls Try.prog 19 #[.pointer (some ⟨b, 0, none⟩), .slice (some ⟨g, o, none⟩) Z.length c] w fun e w' => SumsSt w' b ∧ Chg (· = b) w w' ∧ ((Z.drop A = fourL (ofI (Z.take A)) ∧ ∃ v pg, e = .returned (.tuple #[v, .int .i64 0]) ∧ Fresh w w' v (Z.take A) pg) ∨ (Z.drop A ≠ fourL (ofI (Z.take A)) ∧ e = .returned (.tuple #[.slice none 0 0, .int .i64 5]))) := by
  have hTl : (Z.take A).length = A := by rw [List.length_take]; omega
  have hDl : (Z.drop A).length = 4 := by rw [List.length_drop]; omega
  have HZ := Lib.hid hz
  have HB1 : Hid (∀ w', Chg (· = b) w w' → BytesAt w' g o (Z.take A)) := Lib.hid (fun w' hc => ⟨fun j x hj => (hz.chg hc (fun _ => hgb)).c j x (by rw [List.getElem?_take_of_lt (by have := (List.getElem?_eq_some_iff.1 hj).1; omega)] at hj; exact hj), fun _ => (hz.chg hc (fun _ => hgb)).lt (by intro e; rw [e] at hA; simp at hA)⟩)
  have HB2 : Hid (∀ w', Chg (· = b) w w' → BytesAt w' g (o + A) (Z.drop A)) := Lib.hid (fun w' hc => ⟨fun j x hj => by
    have := (hz.chg hc (fun _ => hgb)).c (A + j) x (by rw [List.getElem?_drop] at hj; exact hj)
    rw [Nat.add_assoc]
    exact this, fun _ => (hz.chg hc (fun _ => hgb)).lt (by intro e; rw [e] at hA; simp at hA)⟩)
  have HOF := Lib.hid (fun w' hs' => of_any b (Z.take A) (some ⟨g, o, none⟩) g o c w' hs')
  have HS := Lib.hid hs
  obtain ⟨r0, r1⟩ := ofI_range (Z.take A)
  obtain ⟨N, hN⟩ : ∃ N, ofI (Z.take A) = N := ⟨_, rfl⟩
  rw [hN] at HOF r0 r1 ⊢
  rw [hTl] at HOF
  have hi : (Z.length : Int) - 4 = A := by omega
  have hi2 : (A : Int) ≤ (Z.length : Int) := by omega
  have hi3 : (Z.length : Int) ≤ (c : Int) := by omega
  have hi4 : ¬ ((A : Int) < 0) := by omega
  have hi5 : Z.length - A = 4 := by omega
  have hi6 : A ≤ Z.length := by omega
  have hi7 : A ≤ c := by omega
  have hi8 : (A : Int) ≤ (A : Int) + 4 := by omega
  have hi9 : ¬ c = A := by omega
  have HSS : Hid True := Lib.hid trivial
  clear hz hs hN
  go_enter Try.func19, Try.ntmps19
  go_upto_region 4 with (fail)
  refine wp_region_held (S := fun _ => True) (by kernel_rfl) ?_
  show wpAnyH _ _ _ _ _ 12 (Array.replicate 12 false) _ w.drew
  (refine held_read (i := 0) rfl (by kernel_rfl) (by kernel_rfl) (by kernel_rfl) (fun _ _ _ _ h => h) rfl HSS.out (fun K hK => ?_); apply Exists.intro; refine ⟨fun w' hC => ?_, ?_⟩; ((skip); go_simp; try with_reducible rfl); (try go_simp); refine hK _ ?_; clear hK K)
  (refine held_read (i := 1) rfl (by kernel_rfl) (by kernel_rfl) (by kernel_rfl) (fun _ _ _ _ h => h) rfl HSS.out (fun K hK => ?_); apply Exists.intro; refine ⟨fun w' hC => ?_, ?_⟩; ((skip); go_simp; try with_reducible rfl); (try go_simp); refine hK _ ?_; clear hK K)
  (refine held_read (i := 2) rfl (by kernel_rfl) (by kernel_rfl) (by kernel_rfl) (fun _ _ _ _ h => h) rfl HSS.out (fun K hK => ?_); apply Exists.intro; refine ⟨fun w' hC => ?_, ?_⟩; ((skip); go_simp; try with_reducible rfl); (try go_simp); refine hK _ ?_; clear hK K)
  (refine held_read (i := 3) rfl (by kernel_rfl) (by kernel_rfl) (by kernel_rfl) (fun _ _ _ _ h => h) rfl HSS.out (fun K hK => ?_); apply Exists.intro; refine ⟨fun w' hC => ?_, ?_⟩; ((skip); go_simp; try with_reducible rfl); (try go_simp); refine hK _ ?_; clear hK K)
  (refine held_read (i := 4) rfl (by kernel_rfl) (by kernel_rfl) (by kernel_rfl) (fun _ _ _ _ h => h) rfl HSS.out (fun K hK => ?_); apply Exists.intro; refine ⟨fun w' hC => ?_, ?_⟩; ((skip); go_simp; try with_reducible rfl); (try go_simp); refine hK _ ?_; clear hK K)
  (refine held_read (i := 5) rfl (by kernel_rfl) (by kernel_rfl) (by kernel_rfl) (fun _ _ _ _ h => h) rfl HSS.out (fun K hK => ?_); apply Exists.intro; refine ⟨fun w' hC => ?_, ?_⟩; ((skip); go_simp; try with_reducible rfl); (try go_simp); refine hK _ ?_; clear hK K)
  (refine held_read (i := 6) rfl (by kernel_rfl) (by kernel_rfl) (by kernel_rfl) (fun _ _ _ _ h => h) rfl HSS.out (fun K hK => ?_); apply Exists.intro; refine ⟨fun w' hC => ?_, ?_⟩; ((skip); go_simp; try with_reducible rfl); (try go_simp); refine hK _ ?_; clear hK K)
  refine held_call (i := 7) (by kernel_rfl) rfl rfl 21 #[.pointer (some ⟨b, 0, none⟩), .slice (some ⟨g, o, none⟩) A c] (fun v w'' => v = .int .u32 N ∧ SumsSt w'' b ∧ Chg (· = b) w w'') (by go_simp) ?_ ?_
  · refine (HOF.out w.drew (HS.out.chg (Chg.refl (fun _ => False) w).drew (fun h => h)) ((HB1.out w (Chg.refl _ _)).chg (Chg.refl (fun _ => False) w).drew (fun _ h => h)) (fun _ => hgb) (fun _ => rfl) (by omega)).mono ?_
    rintro e w1 ⟨rfl, h1, h2⟩
    exact ⟨_, rfl, trivial, rfl, h1, (Chg.refl _ _).drew.trans h2⟩
  rintro v w1 - ⟨rfl, hs1, hc1⟩ K hK
  have HS1 := Lib.hid hs1
  have HC1 := Lib.hid hc1
  clear hs1 hc1 HOF
  (try go_simp)
  refine hK _ ?_
  clear hK K
  refine held_call (i := 8) (by kernel_rfl) rfl rfl 32 #[.int .u32 N] (fun v w'' => ∃ h4, v = .slice (some ⟨h4, 0, none⟩) 4 4 ∧ Row w'' h4 (fourL N) ∧ Chg (fun _ => False) w1 w'') (by go_simp) ?_ ?_
  · refine (four_any N w1 r0 r1).mono ?_
    rintro e w2 ⟨h4, rfl, _, h1, h2⟩
    exact ⟨_, rfl, trivial, h4, rfl, h1, h2⟩
  rintro v w2 - ⟨h4, rfl, hr4, hc2⟩ K hK
  have HR4 := Lib.hid hr4
  have HC2 := Lib.hid hc2
  clear hr4 hc2
  (try go_simp)
  refine hK _ ?_
  clear hK K
  have HEQ := Lib.hid (equal_any (Z.drop A) (fourL N) (some ⟨g, o + A, none⟩) (some ⟨h4, 0, none⟩) g (o + A) h4 0 (c - A) 4 w2 ((HB2.out w1 HC1.out).chg HC2.out (fun _ h => h)) (fun _ => rfl) (HR4.out.bytes (List.prefix_refl _)) (fun _ => rfl) (by omega))
  rw [hDl] at HEQ
  obtain ⟨B, hB⟩ : ∃ B, decide (Z.drop A = fourL N) = B := ⟨_, rfl⟩
  have HBB := Lib.hid hB
  rw [hB] at HEQ
  clear hB
  refine held_call (i := 9) (by kernel_rfl) rfl rfl 33 #[.slice (some ⟨g, o + A, none⟩) 4 (c - A), .slice (some ⟨h4, 0, none⟩) 4 4] (fun v w'' => v = .bool B ∧ Chg (fun _ => False) w2 w'') (by go_simp) ?_ ?_
  · refine HEQ.out.mono ?_
    rintro e w3 ⟨rfl, h1⟩
    exact ⟨_, rfl, trivial, rfl, h1⟩
  rintro v w3 - ⟨rfl, hc3⟩ K hK
  have HC3 := Lib.hid (HC1.out.trans (HC2.out.trans hc3).any)
  have HS3 := Lib.hid (HS1.out.chg (HC2.out.trans hc3) (fun h => h))
  clear hc3 HEQ HC2 HR4 HC1 HS1
  (try go_simp)
  refine hK _ ?_
  clear hK K
  (refine held_one (i := 10) (by kernel_rfl) rfl rfl HSS.out (fun K hK => ?_); apply Exists.intro; refine ⟨?_, ?_⟩; ((skip); go_simp; try with_reducible rfl); (try go_simp); refine hK _ ?_; clear hK K)
  (refine held_one (i := 11) (by kernel_rfl) rfl rfl HSS.out (fun K hK => ?_); apply Exists.intro; refine ⟨?_, ?_⟩; ((skip); go_simp; try with_reducible rfl); (try go_simp); refine hK _ ?_; clear hK K)
  refine wpAnyH_done (by kernel_rfl) ?_ _
  have HCL := Lib.hid (clone_any (Z.take A) (some ⟨g, o, none⟩) g o c w3 (HB1.out w3 HC3.out) (fun _ => rfl) (by omega))
  rw [hTl] at HCL
  cases B with
  | false =>
    go_wp2
    go_ret2
    exact ⟨HS3.out, HC3.out, .inr ⟨of_decide_eq_false HBB.out, rfl⟩⟩
  | true =>
    go_wp2_with fail
    refine HCL.out.mono ?_
    rintro e w4 ⟨v4, rfl, ho4, hc4⟩
    have HO4 := Lib.hid ho4
    have HC4 := Lib.hid hc4
    clear ho4 hc4 HCL
    go_wp2_with fail
    refine (clip_own w w4 v4 (Z.take A) (HO4.out.lower (by have := HC3.out.size; omega))).mono ?_
    rintro e w5 ⟨v5, pg, rfl, rfl, hf⟩
    have HF := Lib.hid hf
    have HC5 := Lib.hid (HC3.out.trans HC4.out.any)
    have HS5 := Lib.hid (HS3.out.chg HC4.out (fun h => h))
    clear hf HC3 HC4 HS3 HO4
    go_wp2
    go_ret2
    exact ⟨HS5.out, HC5.out, .inl ⟨of_decide_eq_true HBB.out, v5, pg, rfl, HF.out⟩⟩
end Go.Proofs.Ytnfniilimgfjoaa
