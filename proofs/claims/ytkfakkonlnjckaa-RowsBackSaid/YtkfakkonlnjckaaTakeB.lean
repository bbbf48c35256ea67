/- The document's Take. -/
import Derived.Test.YtkfakkonlnjckaaTakeL
import Derived.Test.YtkfakkonlnjckaaStrs
import Derived.Test.YtkfakkonlnjckaaHeld
namespace Go.Proofs.Ytkfakkonlnjckaa
open Go.RowKit

/-- The bytes ahead of k are those that a greater number begins with. -/
def PreOk (k acc : Nat) (Z : List Int) : Prop := ∀ m, (m ≠ 0 ∨ k = 0) → putL (acc + m * 128 ^ k) = Z.take k ++ putL m
theorem PreOk.start (Z : List Int) : PreOk 0 0 Z := fun m _ => by simp
theorem PreOk.next {k acc : Nat} {Z : List Int} {z : Int} (h : PreOk k acc Z) (hz : Z[k]? = some z) (h1 : 128 ≤ z) (h2 : z ≤ 255) : PreOk (k + 1) (acc + z.toNat % 128 * 128 ^ k) Z := fun m hm => by
  have e1 : acc + z.toNat % 128 * 128 ^ k + m * 128 ^ (k + 1) = acc + (z.toNat % 128 + m * 128) * 128 ^ k := by
    rw [Nat.pow_succ, Nat.add_mul, ← Nat.add_assoc, Nat.mul_comm (128 ^ k) 128, Nat.mul_assoc]
  have hm' : m ≠ 0 := by omega
  rw [e1, h _ (.inl (by omega)), List.take_add_one, hz, putL_big (n := z.toNat % 128 + m * 128) (by omega)]
  rw [show (z.toNat % 128 + m * 128) / 128 = m by omega, show (((z.toNat % 128 + m * 128) % 128 + 128 : Nat) : Int) = z by omega]
  simp
theorem putL_end : ∀ (n : Nat) (q : List Int), putL n = q ++ [0] → q = [] := by
  intro n
  induction n using Nat.strongRecOn with
  | _ n ih =>
    intro q h
    by_cases h1 : n < 128
    · rw [putL_small h1] at h
      have := congrArg List.length h
      simp at this
      exact this
    · rw [putL_big (by omega)] at h
      cases q with
      | nil => simp at h; omega
      | cons x q =>
        simp only [List.cons_append, List.cons.injEq] at h
        have hq := ih (n / 128) (by omega) q h.2
        subst hq
        have h0 : putL 0 = [0] := putL_small (by omega)
        have := putL_inj (n / 128) 0 (by rw [h.2, h0]; rfl)
        omega
/-- The last byte: it is the number's own, or a 0 that is none. -/
theorem PreOk.last {k acc : Nat} {Z : List Int} {z : Int} (h : PreOk k acc Z) (hz : Z[k]? = some z) (h0 : 0 ≤ z) (h1 : z < 128) : (putL (acc + z.toNat % 128 * 128 ^ k) = Z.take (k + 1)) ↔ ¬ (z = 0 ∧ 0 < k) := by
  have hmod : z.toNat % 128 = z.toNat := Nat.mod_eq_of_lt (by omega)
  rw [hmod, List.take_add_one, hz]
  by_cases hc : z = 0 ∧ 0 < k
  · obtain ⟨rfl, hk⟩ := hc
    refine ⟨fun e => ?_, fun e => absurd ⟨rfl, hk⟩ e⟩
    have := putL_end _ _ e
    have hl : min k Z.length = 0 := by rw [← List.length_take, this]; rfl
    have := (List.getElem?_eq_some_iff.1 hz).1
    omega
  · refine ⟨fun _ => hc, fun _ => ?_⟩
    rw [h z.toNat (by omega), putL_small (by omega)]
    simp
    omega

set_option maxRecDepth 100000 in
set_option maxHeartbeats 4000000 in
theorem refTake_any (Z : List Int) (a : Option Addr) (g o c : Nat) (w : World) (hz : BytesAt w g o Z) (ha : 0 < Z.length → a = some ⟨g, o, none⟩) (hc : Z.length ≤ c) (hl : Z.length ≤ 100000000) :
    Calls Try.prog 72 #[.slice a Z.length c] w fun e w' => e = .returned (takeV (takeL 0 0 Z)) ∧ Chg (fun _ => False) w w' := by
  have HZ := Lib.hid hz
  have HA := Lib.hid ha
  clear hz ha
  go_enter Try.func72, Try.ntmps72
  go_wp2
  go_loopw [5, 6, 7] (fun q u i wr => ∃ (k acc : Nat), k ≤ Z.length ∧ k ≤ 5 ∧ i = .int .i64 k ∧ q = .int .u64 acc ∧ u = .int .u64 ((128 ^ k : Nat) : Int) ∧ acc < 128 ^ k ∧ takeL 0 0 Z = takeL k acc (Z.drop k) ∧ PreOk k acc Z ∧ Chg (fun _ => False) w wr) (fun _ _ i _ => Z.length - (intOf i).toNat)
  case atStart => exact ⟨0, 0, by omega, by omega, rfl, rfl, rfl, by simp, by simp, PreOk.start Z, Chg.refl _ _⟩
  case round =>
    obtain ⟨k, acc, hk, hk5, rfl, rfl, rfl, hacc, he, hp, hc'⟩ := hrel
    have HE := Lib.hid he
    have HP := Lib.hid hp
    have HC := Lib.hid hc'
    clear he hp hc'
    by_cases hkl : k < Z.length
    · by_cases hk5' : k < 5
      · obtain ⟨z, hz, c1, z0, z1⟩ := (HZ.out.chg HC.out (fun _ h => h)).get (k := k) (by omega)
        have e1 := HA.out (by omega)
        subst e1
        have HZG := Lib.hid hz
        have hU : 128 ^ k ≤ 268435456 := by
          have : 128 ^ k ≤ 128 ^ 4 := Nat.pow_le_pow_right (by omega) (by omega)
          simpa using this
        obtain ⟨U, hU'⟩ : ∃ U : Nat, 128 ^ k = U := ⟨_, rfl⟩
        have HU := Lib.hid hU'
        have HT := Lib.hid (HE.out.trans (takeL_step hz (by omega)))
        have HL := Lib.hid (acc_lt (z := z) hacc)
        rw [hU'] at hacc hU
        have HACC := Lib.hid hacc
        have hm1 : z % 128 * (U : Int) ≤ 127 * U := Int.mul_le_mul_of_nonneg_right (by omega) (by omega)
        have hm0 : 0 ≤ z % 128 * (U : Int) := Int.mul_nonneg (by omega) (by omega)
        obtain ⟨A, hA⟩ : ∃ A : Int, IntKind.u64.wrap ((acc : Int) + z % 128 * (U : Int)) = A := ⟨_, rfl⟩
        have hA3 : A = (acc : Int) + z % 128 * (U : Int) := by
          rw [← hA]
          simp [IntKind.wrap, IntKind.bits, IntKind.signed]
          omega
        have HAV : Hid (A = ((acc + z.toNat % 128 * 128 ^ k : Nat) : Int)) := Lib.hid (by
          rw [hA3, hU', Int.natCast_add, Int.natCast_mul]
          congr 2
          omega)
        have hA0 : 0 ≤ A := by omega
        have hA1 : A ≤ 268435456 * 128 := by omega
        clear hA3
        rw [hU']
        clear hz hU' HE hacc
        by_cases h128 : 128 ≤ z
        · rw [if_pos h128] at HT
          have HN : Hid (PreOk (k + 1) (acc + z.toNat % 128 * 128 ^ k) Z) := Lib.hid (HP.out.next HZG.out h128 z1)
          have HU2 : Hid (((U : Int) * 128) = ((128 ^ (k + 1) : Nat) : Int)) := Lib.hid (by rw [Nat.pow_succ, HU.out]; omega)
          clear HACC HP
          go_wp2
          rw [HAV.out, HU2.out]
          go_roundw
          case rel => exact ⟨k + 1, _, by omega, by omega, by go_num, rfl, rfl, HL.out, HT.out, HN.out, HC.out⟩
          case measure => simp [intOf]; omega
        · rw [if_neg h128] at HT
          have HLAST := Lib.hid (HP.out.last HZG.out z0 (by omega))
          have hb34 : ¬ 127 < z := by omega
          by_cases hmax : 4294967295 < A
          · have HTN : Hid (takeL 0 0 Z = none) := Lib.hid (by rw [HT.out, if_pos (.inr (by have := HAV.out; omega))])
            have hb36 : decide (4294967295 < A) = true := by simpa using hmax
            clear HACC HP HT
            go_upto_region 9 with (fail)
            refine wp_region_same (fun w' => w' = wr.drew) (by kernel_rfl) (by kernel_rfl) ?_ ?_
            · rfl
            iterate 3 (refine wpC_read rfl (fun _ _ _ h => h) (fun K hK => ?_); apply Exists.intro; refine ⟨fun _ w' _ hC => ?_, ?_⟩; ((subst hC); go_simp; try with_reducible rfl); (try go_simp); refine hK _ ?_; clear hK K)
            iterate 10 (refine wpC_skip rfl (fun _ _ _ h => h) (fun K hK => ?_); (try go_simp); refine hK _ ?_; clear hK K)
            (refine wpC_read rfl (fun _ _ _ h => h) (fun K hK => ?_); apply Exists.intro; refine ⟨fun _ w' _ hC => ?_, ?_⟩; ((subst hC); go_simp; try with_reducible rfl); (try go_simp); refine hK _ ?_; clear hK K)
            refine wpC_nil ?_
            rintro w' rfl
            go_wp2
            go_ret3
            exact ⟨by rw [HTN.out]; rfl, HC.out.drew⟩
          · obtain ⟨N, hN⟩ : ∃ N : Nat, A = N := ⟨A.toNat, by omega⟩
            subst hN
            have hN2 : N ≤ 4294967295 := by omega
            have hb36 : decide (4294967295 < (N : Int)) = false := by simp; omega
            have hb37 : ¬ 4294967295 < N := by omega
            have hN3 : (N : Int) % 4294967296 = N := by omega
            have HNV : Hid (N = acc + z.toNat % 128 * 128 ^ k) := Lib.hid (by have := HAV.out; omega)
            have HSS : Hid (Chg (fun _ => False) wr wr.drew) := Lib.hid (Chg.refl _ _).drew
            have htl : (Z.take (k + 1)).length = k + 1 := by rw [List.length_take]; omega
            have HCV : Hid (∀ w', Chg (fun _ => False) wr w' → (convert 55 9 (.slice (some ⟨g, o, none⟩) (k + 1) c)).run Try.prog w' = .ok (.string (strOfNums (Z.take (k + 1)))) w') := Lib.hid (fun w' hc => by
              have hb := HZ.out.chg (HC.out.trans hc) (fun _ h => h)
              have := conv8 (Z := Z.take (k + 1)) c (a := some ⟨g, o, none⟩) (⟨fun j x hj => hb.c j x (by rw [List.getElem?_take_of_lt (by have := (List.getElem?_eq_some_iff.1 hj).1; omega)] at hj; exact hj), fun _ => hb.lt (by intro e; rw [e] at hkl; simp at hkl)⟩ : BytesAt w' g o (Z.take (k + 1))) (fun _ => rfl)
              rw [htl] at this
              exact this)
            obtain ⟨sy, hsy⟩ : ∃ s, strOfNums (Z.take (k + 1)) = s := ⟨_, rfl⟩
            obtain ⟨sx, hsx⟩ : ∃ s, strOfNums ([] ++ putL N) = s := ⟨_, rfl⟩
            have HSX := Lib.hid hsx
            have HB : Hid (∀ a ∈ Z.take (k + 1), Byte a) := Lib.hid (fun a ha => HZ.out.byte a (List.mem_of_mem_take ha))
            rw [hsy] at HCV
            have hw1 : IntKind.i64.wrap ((k : Int) + 1) = (k : Int) + 1 := by rw [IntKind.wrap_i64]; omega
            have hw5 : IntKind.u32.wrap (N : Int) = N := by rw [IntKind.wrap_u32]; omega
            have hw2 : (0 : Int) ≤ (k : Int) + 1 := by omega
            have hw3 : (k : Int) + 1 ≤ (c : Int) := by omega
            have hw4 : ((k : Int) + 1).toNat = k + 1 := by omega
            have HEQ : Hid (sx.toList = sy.toList ↔ ¬ (z = 0 ∧ 0 < k)) := Lib.hid (by
              rw [← HLAST.out, ← HNV.out, ← hsx, ← hsy, List.nil_append]
              refine ⟨fun e => ?_, fun e => by rw [e]⟩
              rw [ByteArray.toList_eq, ByteArray.toList_eq] at e
              exact str_inj (putL_byte N) HB.out (ByteArray.ext (Array.toList_inj.1 e)))
            clear HACC HP hsy hsx
            by_cases h0 : z = 0 ∧ 0 < k
            · have HT2 : Hid (takeL 0 0 Z = none) := Lib.hid (by rw [HT.out, if_pos (.inl h0)])
              have q6 : ¬ sx.toList = sy.toList := fun e => HEQ.out.1 e h0
              have q7 : (sx.toList == sy.toList) = false := by rw [beq_eq_false_iff_ne]; exact q6
              clear h0 HEQ HT
              go_upto_region 9 with (fail)
              refine wp_region_held (S := Chg (fun _ => False) wr) (by kernel_rfl) ?_
              show wpAnyH _ _ _ _ _ 14 (Array.replicate 14 false) _ wr.drew
              (refine held_read (i := 0) rfl (by kernel_rfl) (by kernel_rfl) (by kernel_rfl) (fun _ _ _ _ h => h) rfl HSS.out (fun K hK => ?_); apply Exists.intro; refine ⟨fun w' hC => ?_, ?_⟩; ((skip); go_simp; try with_reducible rfl); (try go_simp); refine hK _ ?_; clear hK K)
              (refine held_read (i := 1) rfl (by kernel_rfl) (by kernel_rfl) (by kernel_rfl) (fun _ _ _ _ h => h) rfl HSS.out (fun K hK => ?_); apply Exists.intro; refine ⟨fun w' hC => ?_, ?_⟩; ((skip); go_simp; try with_reducible rfl); (try go_simp); refine hK _ ?_; clear hK K)
              (refine held_read (i := 2) rfl (by kernel_rfl) (by kernel_rfl) (by kernel_rfl) (fun _ _ _ _ h => h) rfl HSS.out (fun K hK => ?_); apply Exists.intro; refine ⟨fun w' hC => ?_, ?_⟩; ((skip); go_simp; try with_reducible rfl); (try go_simp); refine hK _ ?_; clear hK K)
              (refine held_read (i := 3) rfl (by kernel_rfl) (by kernel_rfl) (by kernel_rfl) (fun _ _ _ _ h => h) rfl HSS.out (fun K hK => ?_); apply Exists.intro; refine ⟨fun w' hC => ?_, ?_⟩; ((skip); go_simp; try with_reducible rfl); (try go_simp); refine hK _ ?_; clear hK K)
              (refine held_read (i := 4) rfl (by kernel_rfl) (by kernel_rfl) (by kernel_rfl) (fun _ _ _ _ h => h) rfl HSS.out (fun K hK => ?_); apply Exists.intro; refine ⟨fun w' hC => ?_, ?_⟩; ((skip); go_simp; try with_reducible rfl); (try go_simp); refine hK _ ?_; clear hK K)
              (refine held_read (i := 7) rfl (by kernel_rfl) (by kernel_rfl) (by kernel_rfl) (fun _ _ _ _ h => h) rfl HSS.out (fun K hK => ?_); apply Exists.intro; refine ⟨fun w' hC => ?_, ?_⟩; ((skip); go_simp; try with_reducible rfl); (try go_simp); refine hK _ ?_; clear hK K)
              (refine held_read (i := 8) rfl (by kernel_rfl) (by kernel_rfl) (by kernel_rfl) (fun _ _ _ _ h => h) rfl HSS.out (fun K hK => ?_); apply Exists.intro; refine ⟨fun w' hC => ?_, ?_⟩; ((skip); go_simp; try with_reducible rfl); (try go_simp); refine hK _ ?_; clear hK K)
              (refine held_read (i := 9) rfl (by kernel_rfl) (by kernel_rfl) (by kernel_rfl) (fun _ _ _ _ h => h) rfl HSS.out (fun K hK => ?_); apply Exists.intro; refine ⟨fun w' hC => ?_, ?_⟩; ((skip); go_simp; try with_reducible rfl); (try go_simp); refine hK _ ?_; clear hK K)
              (refine held_read (i := 10) rfl (by kernel_rfl) (by kernel_rfl) (by kernel_rfl) (fun _ _ _ _ h => h) rfl HSS.out (fun K hK => ?_); apply Exists.intro; refine ⟨fun w' hC => ?_, ?_⟩; ((skip); go_simp; try with_reducible rfl); (try go_simp); refine hK _ ?_; clear hK K)
              (refine held_read (i := 11) rfl (by kernel_rfl) (by kernel_rfl) (by kernel_rfl) (fun _ _ _ _ h => h) rfl HSS.out (fun K hK => ?_); apply Exists.intro; refine ⟨fun w' hC => ?_, ?_⟩; ((have q := HCV.out w' hC); go_simp; try with_reducible rfl); (try go_simp); refine hK _ ?_; clear hK K)
              refine held_call (i := 5) (by kernel_rfl) rfl rfl 54 #[.slice none 0 0, .int .u32 N] (fun v w'' => ∃ h C, v = .slice (some ⟨h, 0, none⟩) ([] ++ putL N).length C ∧ Row w'' h ([] ++ putL N)) (by go_simp) ?_ ?_
              · refine (refPut_any [] N none 0 0 0 wr.drew ⟨fun k a hk => by simp at hk, fun h => (h rfl).elim⟩ (fun h => by simp at h) (by simp) (by omega)).mono ?_
                rintro e w2 ⟨h, C, rfl, _, h2, h3⟩
                exact ⟨_, rfl, HSS.out.trans h3, h, C, rfl, h2⟩
              rintro v w2 hs2 ⟨h, C, rfl, hr⟩ K hK
              have HSS := Lib.hid hs2
              have hcx := conv8 C (hr.bytes (List.prefix_refl _)) (fun _ => rfl)
              rw [HSX.out] at hcx
              obtain ⟨PL, hPL⟩ : ∃ PL, ([] ++ putL N).length = PL := ⟨_, rfl⟩
              rw [hPL] at hcx ⊢
              clear hs2 hr hPL
              (try go_simp)
              refine hK _ ?_
              clear hK K
              (refine held_one (i := 6) (by kernel_rfl) rfl rfl HSS.out (fun K hK => ?_); apply Exists.intro; refine ⟨?_, ?_⟩; ((skip); go_simp; try with_reducible rfl); (try go_simp); refine hK _ ?_; clear hK K)
              (refine held_one (i := 12) (by kernel_rfl) rfl rfl HSS.out (fun K hK => ?_); apply Exists.intro; refine ⟨?_, ?_⟩; ((skip); go_simp; try with_reducible rfl); (try go_simp); refine hK _ ?_; clear hK K)
              (refine held_one (i := 13) (by kernel_rfl) rfl rfl HSS.out (fun K hK => ?_); apply Exists.intro; refine ⟨?_, ?_⟩; ((skip); go_simp; try with_reducible rfl); (try go_simp); refine hK _ ?_; clear hK K)
              refine wpAnyH_done (by kernel_rfl) ?_ _
              go_wp2
              go_ret3
              exact ⟨by rw [HT2.out]; rfl, HC.out.trans HSS.out⟩
            · have HT2 : Hid (takeL 0 0 Z = some (N, k + 1)) := Lib.hid (by rw [HT.out, if_neg (by rintro (h | h); · exact h0 h
                                                                                                   · have := HNV.out; omega), ← HNV.out])
              have q6 : sx.toList = sy.toList := HEQ.out.2 h0
              have q7 : (sx.toList == sy.toList) = true := by rw [q6]; simp
              clear h0 HEQ HT
              go_upto_region 9 with (fail)
              refine wp_region_held (S := Chg (fun _ => False) wr) (by kernel_rfl) ?_
              show wpAnyH _ _ _ _ _ 14 (Array.replicate 14 false) _ wr.drew
              (refine held_read (i := 0) rfl (by kernel_rfl) (by kernel_rfl) (by kernel_rfl) (fun _ _ _ _ h => h) rfl HSS.out (fun K hK => ?_); apply Exists.intro; refine ⟨fun w' hC => ?_, ?_⟩; ((skip); go_simp; try with_reducible rfl); (try go_simp); refine hK _ ?_; clear hK K)
              (refine held_read (i := 1) rfl (by kernel_rfl) (by kernel_rfl) (by kernel_rfl) (fun _ _ _ _ h => h) rfl HSS.out (fun K hK => ?_); apply Exists.intro; refine ⟨fun w' hC => ?_, ?_⟩; ((skip); go_simp; try with_reducible rfl); (try go_simp); refine hK _ ?_; clear hK K)
              (refine held_read (i := 2) rfl (by kernel_rfl) (by kernel_rfl) (by kernel_rfl) (fun _ _ _ _ h => h) rfl HSS.out (fun K hK => ?_); apply Exists.intro; refine ⟨fun w' hC => ?_, ?_⟩; ((skip); go_simp; try with_reducible rfl); (try go_simp); refine hK _ ?_; clear hK K)
              (refine held_read (i := 3) rfl (by kernel_rfl) (by kernel_rfl) (by kernel_rfl) (fun _ _ _ _ h => h) rfl HSS.out (fun K hK => ?_); apply Exists.intro; refine ⟨fun w' hC => ?_, ?_⟩; ((skip); go_simp; try with_reducible rfl); (try go_simp); refine hK _ ?_; clear hK K)
              (refine held_read (i := 4) rfl (by kernel_rfl) (by kernel_rfl) (by kernel_rfl) (fun _ _ _ _ h => h) rfl HSS.out (fun K hK => ?_); apply Exists.intro; refine ⟨fun w' hC => ?_, ?_⟩; ((skip); go_simp; try with_reducible rfl); (try go_simp); refine hK _ ?_; clear hK K)
              (refine held_read (i := 7) rfl (by kernel_rfl) (by kernel_rfl) (by kernel_rfl) (fun _ _ _ _ h => h) rfl HSS.out (fun K hK => ?_); apply Exists.intro; refine ⟨fun w' hC => ?_, ?_⟩; ((skip); go_simp; try with_reducible rfl); (try go_simp); refine hK _ ?_; clear hK K)
              (refine held_read (i := 8) rfl (by kernel_rfl) (by kernel_rfl) (by kernel_rfl) (fun _ _ _ _ h => h) rfl HSS.out (fun K hK => ?_); apply Exists.intro; refine ⟨fun w' hC => ?_, ?_⟩; ((skip); go_simp; try with_reducible rfl); (try go_simp); refine hK _ ?_; clear hK K)
              (refine held_read (i := 9) rfl (by kernel_rfl) (by kernel_rfl) (by kernel_rfl) (fun _ _ _ _ h => h) rfl HSS.out (fun K hK => ?_); apply Exists.intro; refine ⟨fun w' hC => ?_, ?_⟩; ((skip); go_simp; try with_reducible rfl); (try go_simp); refine hK _ ?_; clear hK K)
              (refine held_read (i := 10) rfl (by kernel_rfl) (by kernel_rfl) (by kernel_rfl) (fun _ _ _ _ h => h) rfl HSS.out (fun K hK => ?_); apply Exists.intro; refine ⟨fun w' hC => ?_, ?_⟩; ((skip); go_simp; try with_reducible rfl); (try go_simp); refine hK _ ?_; clear hK K)
              (refine held_read (i := 11) rfl (by kernel_rfl) (by kernel_rfl) (by kernel_rfl) (fun _ _ _ _ h => h) rfl HSS.out (fun K hK => ?_); apply Exists.intro; refine ⟨fun w' hC => ?_, ?_⟩; ((have q := HCV.out w' hC); go_simp; try with_reducible rfl); (try go_simp); refine hK _ ?_; clear hK K)
              refine held_call (i := 5) (by kernel_rfl) rfl rfl 54 #[.slice none 0 0, .int .u32 N] (fun v w'' => ∃ h C, v = .slice (some ⟨h, 0, none⟩) ([] ++ putL N).length C ∧ Row w'' h ([] ++ putL N)) (by go_simp) ?_ ?_
              · refine (refPut_any [] N none 0 0 0 wr.drew ⟨fun k a hk => by simp at hk, fun h => (h rfl).elim⟩ (fun h => by simp at h) (by simp) (by omega)).mono ?_
                rintro e w2 ⟨h, C, rfl, _, h2, h3⟩
                exact ⟨_, rfl, HSS.out.trans h3, h, C, rfl, h2⟩
              rintro v w2 hs2 ⟨h, C, rfl, hr⟩ K hK
              have HSS := Lib.hid hs2
              have hcx := conv8 C (hr.bytes (List.prefix_refl _)) (fun _ => rfl)
              rw [HSX.out] at hcx
              obtain ⟨PL, hPL⟩ : ∃ PL, ([] ++ putL N).length = PL := ⟨_, rfl⟩
              rw [hPL] at hcx ⊢
              clear hs2 hr hPL
              (try go_simp)
              refine hK _ ?_
              clear hK K
              (refine held_one (i := 6) (by kernel_rfl) rfl rfl HSS.out (fun K hK => ?_); apply Exists.intro; refine ⟨?_, ?_⟩; ((skip); go_simp; try with_reducible rfl); (try go_simp); refine hK _ ?_; clear hK K)
              (refine held_one (i := 12) (by kernel_rfl) rfl rfl HSS.out (fun K hK => ?_); apply Exists.intro; refine ⟨?_, ?_⟩; ((skip); go_simp; try with_reducible rfl); (try go_simp); refine hK _ ?_; clear hK K)
              (refine held_one (i := 13) (by kernel_rfl) rfl rfl HSS.out (fun K hK => ?_); apply Exists.intro; refine ⟨?_, ?_⟩; ((skip); go_simp; try with_reducible rfl); (try go_simp); refine hK _ ?_; clear hK K)
              refine wpAnyH_done (by kernel_rfl) ?_ _
              go_wp2
              go_ret3
              exact ⟨by rw [HT2.out]; rfl, HC.out.trans HSS.out⟩
      · have HT : Hid (takeL 0 0 Z = none) := Lib.hid (by rw [HE.out]; exact takeL_end _ _ _ (.inr (by omega)))
        obtain rfl : k = 5 := by omega
        go_wp2
        go_ret3
        exact ⟨by rw [HT.out]; rfl, HC.out⟩
    · have HT : Hid (takeL 0 0 Z = none) := Lib.hid (by rw [HE.out]; exact takeL_end _ _ _ (.inl (List.drop_eq_nil_of_le (by omega))))
      obtain rfl : k = Z.length := by omega
      go_wp2
      go_ret3
      exact ⟨by rw [HT.out]; rfl, HC.out⟩
end Go.Proofs.Ytkfakkonlnjckaa
