/- The document's Open. -/
import Derived.Test.YtnfniilimgfjoaaRefSeal
import Derived.Test.YtnfniilimgfjoaaStrs
namespace Go.Proofs.Ytnfniilimgfjoaa
open Go.RowKit

theorem seal_iff {Z : List Int} {A : Nat} : sealL (Z.take A) = Z ↔ Z.drop A = fourL (ofI (Z.take A)) ∨ (Z.length < A ∧ sealL (Z.take A) = Z) := by
  by_cases hA : A ≤ Z.length
  · refine ⟨fun h => .inl ?_, fun h => ?_⟩
    · have h1 := congrArg (List.drop A) h
      have hl : (Z.take A).length = A := by rw [List.length_take]; omega
      rw [sealL, List.drop_left' hl] at h1
      exact h1.symm
    · rcases h with h | ⟨h, _⟩
      · rw [sealL, ← h]
        exact List.take_append_drop A Z
      · omega
  · refine ⟨fun h => .inr ⟨by omega, h⟩, fun h => ?_⟩
    rcases h with h | ⟨_, h⟩
    · have h1 := congrArg List.length h
      simp [fourL] at h1
      omega
    · exact h

set_option maxRecDepth 100000 in
set_option maxHeartbeats 2000000 in
theorem refOpen_short (Z : List Int) (a : Option Addr) (c : Nat) (w : World) (hl : Z.length < 4) :
    Calls Try.prog 20 #[.slice a Z.length c] w fun e w' => e = .returned (.tuple #[.slice none 0 0, .int .i64 4]) ∧ w' = w := by
  go_enter Try.func20, Try.ntmps20
  go_wp2
  go_ret2
  exact ⟨rfl, rfl⟩

set_option maxRecDepth 100000 in
set_option maxHeartbeats 4000000 in
theorem refOpen_long (Z : List Int) (A : Nat) (g o c : Nat) (w : World) (hz : BytesAt w g o Z) (hl : Z.length ≤ 100000) (hA : Z.length = A + 4) (hc : Z.length ≤ c) :
    Calls Try.prog 20 #[.slice (some ⟨g, o, none⟩) Z.length c] w fun e w' => Chg (fun _ => False) w w' ∧ ((sealL (Z.take A) = Z ∧ ∃ v, e = .returned (.tuple #[v, .int .i64 0]) ∧ Own w' w.heap.size v (Z.take A)) ∨ (sealL (Z.take A) ≠ Z ∧ e = .returned (.tuple #[.slice none 0 0, .int .i64 5]))) := by
  have hTl : (Z.take A).length = A := by rw [List.length_take]; omega
  have HB1 : Hid (∀ w', Chg (fun _ => False) w w' → BytesAt w' g o (Z.take A)) := Lib.hid (fun w' hc => ⟨fun j x hj => (hz.chg hc (fun _ h => h)).c j x (by rw [List.getElem?_take_of_lt (by have := (List.getElem?_eq_some_iff.1 hj).1; omega)] at hj; exact hj), fun _ => (hz.chg hc (fun _ h => h)).lt (by intro e; rw [e] at hA; simp at hA)⟩)
  have HZ := Lib.hid hz
  have HSE := Lib.hid (fun w' h => refSeal_any (Z.take A) (some ⟨g, o, none⟩) g o c w' h (fun _ => rfl) (by omega))
  have HBY := Lib.hid hz.byte
  rw [hTl] at HSE
  obtain ⟨X, hX⟩ : ∃ X, sealL (Z.take A) = X := ⟨_, rfl⟩
  have hXl : X ≠ [] := by rw [← hX]; simp [sealL, fourL]
  rw [hX] at HSE ⊢
  obtain ⟨sz, hsz⟩ : ∃ s, strOfNums Z = s := ⟨_, rfl⟩
  have HCV : Hid (∀ w', Chg (fun _ => False) w w' → (convert 22 9 (.slice (some ⟨g, o, none⟩) Z.length c)).run Try.prog w' = .ok (.string sz) w') := Lib.hid (fun w' hc => by
    rw [← hsz]
    exact conv8 c (hz.chg hc (fun _ h => h)) (fun _ => rfl))
  have HSZ := Lib.hid hsz
  have hi : (Z.length : Int) - 4 = A := by omega
  have hw1 : IntKind.i64.wrap (A : Int) = A := by rw [IntKind.wrap_i64]; omega
  have hi1 : ¬ ((Z.length : Int) < 4) := by omega
  have hi6 : A ≤ Z.length := by omega
  have hi7 : A ≤ c := by omega
  have hi8 : (A : Int) ≤ (c : Int) := by omega
  have HSS : Hid (Chg (fun _ => False) w w.drew) := Lib.hid (Chg.refl _ _).drew
  have HLA := Lib.hid hA
  clear hz hsz hX hA
  go_enter Try.func20, Try.ntmps20
  go_upto_region 3 with (fail)
  refine wp_region_held (S := Chg (fun _ => False) w) (by kernel_rfl) ?_
  show wpAnyH _ _ _ _ _ 10 (Array.replicate 10 false) _ w.drew
  (refine held_read (i := 0) rfl (by kernel_rfl) (by kernel_rfl) (by kernel_rfl) (fun _ _ _ _ h => h) rfl HSS.out (fun K hK => ?_); apply Exists.intro; refine ⟨fun w' hC => ?_, ?_⟩; ((skip); go_simp; try with_reducible rfl); (try go_simp); refine hK _ ?_; clear hK K)
  (refine held_read (i := 1) rfl (by kernel_rfl) (by kernel_rfl) (by kernel_rfl) (fun _ _ _ _ h => h) rfl HSS.out (fun K hK => ?_); apply Exists.intro; refine ⟨fun w' hC => ?_, ?_⟩; ((skip); go_simp; try with_reducible rfl); (try go_simp); refine hK _ ?_; clear hK K)
  (refine held_read (i := 2) rfl (by kernel_rfl) (by kernel_rfl) (by kernel_rfl) (fun _ _ _ _ h => h) rfl HSS.out (fun K hK => ?_); apply Exists.intro; refine ⟨fun w' hC => ?_, ?_⟩; ((skip); go_simp; try with_reducible rfl); (try go_simp); refine hK _ ?_; clear hK K)
  (refine held_read (i := 3) rfl (by kernel_rfl) (by kernel_rfl) (by kernel_rfl) (fun _ _ _ _ h => h) rfl HSS.out (fun K hK => ?_); apply Exists.intro; refine ⟨fun w' hC => ?_, ?_⟩; ((skip); go_simp; try with_reducible rfl); (try go_simp); refine hK _ ?_; clear hK K)
  (refine held_read (i := 4) rfl (by kernel_rfl) (by kernel_rfl) (by kernel_rfl) (fun _ _ _ _ h => h) rfl HSS.out (fun K hK => ?_); apply Exists.intro; refine ⟨fun w' hC => ?_, ?_⟩; ((skip); go_simp; try with_reducible rfl); (try go_simp); refine hK _ ?_; clear hK K)
  (refine held_read (i := 7) rfl (by kernel_rfl) (by kernel_rfl) (by kernel_rfl) (fun _ _ _ _ h => h) rfl HSS.out (fun K hK => ?_); apply Exists.intro; refine ⟨fun w' hC => ?_, ?_⟩; ((skip); go_simp; try with_reducible rfl); (try go_simp); refine hK _ ?_; clear hK K)
  (refine held_read (i := 8) rfl (by kernel_rfl) (by kernel_rfl) (by kernel_rfl) (fun _ _ _ _ h => h) rfl HSS.out (fun K hK => ?_); apply Exists.intro; refine ⟨fun w' hC => ?_, ?_⟩; ((have q := HCV.out w' hC); go_simp; try with_reducible rfl); (try go_simp); refine hK _ ?_; clear hK K)
  refine held_call (i := 5) (by kernel_rfl) rfl rfl 23 #[.slice (some ⟨g, o, none⟩) A c] (fun v w'' => Own w'' w.heap.size v X) (by go_simp) ?_ ?_
  · refine (HSE.out w.drew (HB1.out w.drew HSS.out)).mono ?_
    rintro e w1 ⟨v, rfl, h1, h2⟩
    exact ⟨_, rfl, HSS.out.trans h2, h1⟩
  rintro v w1 hs1 ho K hK
  have HSS := Lib.hid hs1
  obtain ⟨g1, C1, rfl, hg1, hR1, hp1, hm1⟩ := ho.some hXl
  have hcx := conv8 C1.length (hR1.bytes hp1) (fun _ => rfl)
  obtain ⟨sx, hsx⟩ : ∃ s, strOfNums X = s := ⟨_, rfl⟩
  rw [hsx] at hcx
  have HEQ : Hid (sx.toList = sz.toList ↔ X = Z) := Lib.hid (by
    rw [← hsx, ← HSZ.out]
    refine ⟨fun e => ?_, fun e => by rw [e]⟩
    rw [ByteArray.toList_eq, ByteArray.toList_eq] at e
    exact str_inj (fun a ha => hR1.byte a (hp1.subset ha)) HBY.out (ByteArray.ext (Array.toList_inj.1 e)))
  clear hs1 ho hR1 hp1 hm1 hsx HSE
  (try go_simp)
  refine hK _ ?_
  clear hK K
  by_cases hXZ : X = Z
  · have q6 : sx.toList = sz.toList := HEQ.out.2 hXZ
    have q7 : (sx.toList == sz.toList) = true := by rw [q6]; simp
    have HXZ := Lib.hid hXZ
    clear hXZ HEQ
    (refine held_one (i := 6) (by kernel_rfl) rfl rfl HSS.out (fun K hK => ?_); apply Exists.intro; refine ⟨?_, ?_⟩; ((skip); go_simp; try with_reducible rfl); (try go_simp); refine hK _ ?_; clear hK K)
    (refine held_one (i := 9) (by kernel_rfl) rfl rfl HSS.out (fun K hK => ?_); apply Exists.intro; refine ⟨?_, ?_⟩; ((skip); go_simp; try with_reducible rfl); (try go_simp); refine hK _ ?_; clear hK K)
    refine wpAnyH_done (by kernel_rfl) ?_ _
    have HBB := Lib.hid (fun a ha => HBY.out a (List.mem_of_mem_take (i := A) ha))
    have hs := srcBytes (c := c) (HB1.out w1 HSS.out) (fun _ => rfl)
    rw [hTl] at hs
    have HSR := Lib.hid hs
    clear hs
    go_wp2_with (at_builtin; refine wpList_append8 rfl _ _ 22 rfl w1.heap.size (.slice none 0 0) [] (Z.take A) (.slice (some ⟨g, o, none⟩) A c) rfl rfl (.inl ⟨rfl, rfl⟩) (Nat.le_refl _) (by rw [hTl]; exact HSR.out) HBB.out (by simp; omega) ?_; intro v3 w3 K1 K2 K3)
    go_ret2
    exact ⟨HSS.out.trans K2.out.fresh, .inl ⟨HXZ.out, _, rfl, by have := K1.out.lower HSS.out.size; simpa using this⟩⟩
  · have q6 : ¬ sx.toList = sz.toList := fun e => hXZ (HEQ.out.1 e)
    have q7 : (sx.toList == sz.toList) = false := by rw [beq_eq_false_iff_ne]; exact q6
    have HXZ := Lib.hid hXZ
    clear hXZ HEQ
    (refine held_one (i := 6) (by kernel_rfl) rfl rfl HSS.out (fun K hK => ?_); apply Exists.intro; refine ⟨?_, ?_⟩; ((skip); go_simp; try with_reducible rfl); (try go_simp); refine hK _ ?_; clear hK K)
    (refine held_one (i := 9) (by kernel_rfl) rfl rfl HSS.out (fun K hK => ?_); apply Exists.intro; refine ⟨?_, ?_⟩; ((skip); go_simp; try with_reducible rfl); (try go_simp); refine hK _ ?_; clear hK K)
    refine wpAnyH_done (by kernel_rfl) ?_ _
    go_wp2
    go_ret2
    exact ⟨HSS.out, .inr ⟨HXZ.out, rfl⟩⟩
end Go.Proofs.Ytnfniilimgfjoaa
