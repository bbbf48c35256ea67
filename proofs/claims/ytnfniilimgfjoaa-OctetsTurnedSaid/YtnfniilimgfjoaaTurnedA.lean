/- 'OctetsTurned': its walk. -/
import Derived.Test.YtnfniilimgfjoaaOpenS
import Derived.Test.YtnfniilimgfjoaaCrc
import Derived.Test.YtnfniilimgfjoaaOctLives
import Derived.Test.YtnfniilimgfjoaaBookA
namespace Go.Proofs.Ytnfniilimgfjoaa
open Go.RowKit

theorem sealL_take (Z : List Int) : (sealL Z).take Z.length = Z := by rw [sealL]; exact List.take_left
theorem sealL_drop (Z : List Int) : (sealL Z).drop Z.length = fourL (ofI Z) := by rw [sealL]; exact List.drop_left
theorem turned_law {Z : List Int} (hZ : ∀ a ∈ Z, Byte a) {K : Nat} {x V : Int} (hK : (sealL Z)[K]? = some x) (hV : Byte V) (hne : V ≠ x) :
    ((sealL Z).set K V).drop Z.length ≠ fourL (ofI (((sealL Z).set K V).take Z.length)) := by
  intro h
  by_cases hk : K < Z.length
  · have e1 : (sealL Z).set K V = Z.set K V ++ fourL (ofI Z) := by rw [sealL, List.set_append_left _ _ hk]
    have hl : (Z.set K V).length = Z.length := List.length_set
    rw [e1, ← hl, List.drop_left, List.take_left] at h
    have hz : Z[K]? = some x := by rw [sealL, List.getElem?_append_left hk] at hK; exact hK
    exact ofI_set hZ hz hV hne (fourL_inj h).symm
  · have e1 : (sealL Z).set K V = Z ++ (fourL (ofI Z)).set (K - Z.length) V := by rw [sealL, List.set_append_right _ _ (by omega)]
    rw [e1, List.drop_left, List.take_left] at h
    have hz : (fourL (ofI Z))[K - Z.length]? = some x := by rw [sealL, List.getElem?_append_right (by omega)] at hK; exact hK
    have h2 : ((fourL (ofI Z)).set (K - Z.length) V)[K - Z.length]? = (fourL (ofI Z))[K - Z.length]? := congrArg (fun l : List Int => l[K - Z.length]?) h
    rw [List.getElem?_set_self (List.getElem?_eq_some_iff.1 hz).1, hz] at h2
    exact hne (Option.some.inj h2)

theorem Fresh.bytes {w0 w : World} {v : Value} {X : List Int} {pg : Option Nat} (h : Fresh w0 w v X pg) : ∃ a g, v = .slice a X.length X.length ∧ BytesAt w g 0 X ∧ (0 < X.length → a = some ⟨g, 0, none⟩) ∧ (X ≠ [] → w0.heap.size ≤ g) := by
  cases pg with
  | none =>
    have := h.nil rfl
    subst this
    exact ⟨_, 0, h.val, ⟨fun k a hk => by simp at hk, fun h => (h rfl).elim⟩, fun h => by simp at h, fun h => (h rfl).elim⟩
  | some g =>
    obtain ⟨h1, h2⟩ := h.own g rfl
    exact ⟨_, g, h.val, h2.bytes (List.prefix_refl _), fun _ => rfl, fun _ => h1⟩

set_option maxRecDepth 100000 in
set_option maxHeartbeats 600000 in
theorem turned_any (Z : List Int) (at' by' : Nat) (a : Option Addr) (g o cap : Nat) (w : World) (hat : at' ≤ 65535) (hby : by' ≤ 255) (hz : BytesAt w g o Z) (ha : 0 < Z.length → a = some ⟨g, o, none⟩) (hl : Z.length ≤ 1000) :
    Calls Try.prog 7 #[.slice a Z.length cap, .int .u16 at', .int .u8 by'] w fun e w' => e = .returned (.bool true) ∧ Chg (fun _ => False) w w' := by
  have HZ := Lib.hid hz
  have HA := Lib.hid ha
  have HBZ := Lib.hid hz.byte
  have hzs := zeroSums
  have HS0 : Hid (SumsSt (w.alloc (.cells zerosS 51)) w.heap.size) := Lib.hid ⟨0, _, SumsAt.made w _, .inl rfl⟩
  have HC0 := Lib.hid ((Chg.refl (fun _ => False) w).alloc (.cells zerosS 51))
  have HGB : Hid (Z ≠ [] → g ≠ w.heap.size) := Lib.hid (fun h => by have := hz.lt h; omega)
  clear hz ha
  go_enter Try.func7, Try.ntmps7
  go_wp2_with fail
  refine (seal_any w.heap.size Z a g o cap _ HS0.out (HZ.out.chg HC0.out (fun _ h => h)) HGB.out HA.out (by omega)).mono ?_
  rintro e w1 ⟨h, rfl, hh, hr1, hs1, hc1⟩
  have hslen := sealL_length Z
  obtain ⟨X, hX⟩ : ∃ X, sealL Z = X := ⟨_, rfl⟩
  rw [hX] at hr1 hslen ⊢
  have HX := Lib.hid hX
  have HSL := Lib.hid hslen
  have hX1 : X.length ≤ 1004 := by omega
  clear hslen
  have HR1 := Lib.hid hr1
  have HS1 := Lib.hid hs1
  have HC1 := Lib.hid (HC0.out.any.trans (hc1.mono (T := fun k => w.heap.size ≤ k) (fun k _ e => by omega)))
  have hhb : h ≠ w.heap.size := by have := HC0.out.size; simp at hh; omega
  have hhw : w.heap.size ≤ h := by have := HC0.out.size; simp at hh; omega
  clear hr1 hs1 hc1 hX hzs HC0 HS0 hh
  go_wp2_with fail
  refine (open_long w.heap.size X Z.length h 0 X.length w1 HS1.out (HR1.out.bytes (List.prefix_refl _)) hhb (by omega) HSL.out (Nat.le_refl _)).mono ?_
  rintro e w2 ⟨hs2, hc2, hres⟩
  obtain ⟨_, v2, pg2, rfl, hf2⟩ : X.drop Z.length = fourL (ofI (X.take Z.length)) ∧ ∃ v pg, e = .returned (.tuple #[v, .int .i64 0]) ∧ Fresh w1 w2 v (X.take Z.length) pg := hres.resolve_right (fun h => h.1 (by rw [← HX.out, sealL_take, sealL_drop]))
  have htk : X.take Z.length = Z := by rw [← HX.out]; exact sealL_take Z
  rw [htk] at hf2
  obtain ⟨a2, g2, rfl, hb2, ha2, _⟩ := hf2.bytes
  have HB2 := Lib.hid hb2
  have HA2 := Lib.hid ha2
  have HS2 := Lib.hid hs2
  have HR2 := Lib.hid (HR1.out.chg hc2 (fun e => hhb e))
  have HC2 := Lib.hid (HC1.out.trans (hc2.mono (T := fun k => w.heap.size ≤ k) (fun k _ e => by omega)))
  have HTK := Lib.hid htk
  clear hs2 hc2 hres hf2 hb2 ha2 htk HR1 HS1 HC1
  -- what the strings are
  obtain ⟨sz, hsz⟩ : ∃ s, strOfNums Z = s := ⟨_, rfl⟩
  have k1 : (convert 22 9 (.slice (some ⟨h, 0, none⟩) Z.length X.length)).run Try.prog w2.drew = .ok (.string sz) w2.drew := by
    rw [← hsz]
    exact conv8 X.length ((HR2.out.chg (Chg.refl (fun _ => False) w2).drew (fun h => h)).bytes (by rw [← HX.out]; exact List.prefix_append _ _)) (fun _ => rfl)
  have k2 : (convert 22 9 (.slice a Z.length cap)).run Try.prog w2.drew = .ok (.string sz) w2.drew := by
    rw [← hsz]
    exact conv8 cap (HZ.out.chg (HC2.out.fresh.drew) (fun _ h => h)) HA.out
  have k3 : (convert 22 9 (.slice a2 Z.length Z.length)).run Try.prog w2.drew = .ok (.string sz) w2.drew := by
    rw [← hsz]
    exact conv8 Z.length (HB2.out.chg (Chg.refl (fun _ => False) w2).drew (fun _ h => h)) HA2.out
  have hi1 : (X.length : Int) = (Z.length : Int) + 4 := by have := HSL.out; omega
  have hi2 : Z.length ≤ X.length := by have := HSL.out; omega
  have hi3 : IntKind.i64.wrap ((Z.length : Int) + 4) = (Z.length : Int) + 4 := by rw [IntKind.wrap_i64]; omega
  have hi4 : (Z.length : Int) ≤ (Z.length : Int) + 4 := by omega
  go_upto_region 6 with (fail)
  refine wp_region_same (fun w' => w' = w2.drew) (by kernel_rfl) (by kernel_rfl) ?_ ?_
  · rfl
  iterate 27 (refine wpC_read rfl (fun _ _ _ h => h) (fun K hK => ?_); apply Exists.intro; refine ⟨fun _ w' _ hC => ?_, ?_⟩; ((subst hC); go_simp; try with_reducible rfl); (try go_simp); refine hK _ ?_; clear hK K)
  refine wpC_nil ?_
  rintro wd hwd
  have HWD : Hid (Chg (fun _ => False) w2 wd) := Lib.hid (by rw [hwd]; exact (Chg.refl _ _).drew)
  clear hwd k1 k2 k3
  obtain ⟨K, hKd⟩ : ∃ K : Nat, at' % (Z.length + 4) = K := ⟨_, rfl⟩
  have hK1 : (at' : Int) % ((Z.length : Int) + 4) = (K : Int) := by rw [← hKd]; simp
  have hK2 : K < X.length := by have := HSL.out; rw [this, ← hKd]; exact Nat.mod_lt _ (by omega)
  have hK3 : (K : Int) < (Z.length : Int) + 4 := by omega
  obtain ⟨x, hx⟩ : ∃ x, X[K]? = some x := ⟨_, List.getElem?_eq_getElem hK2⟩
  have HRD := Lib.hid (HR2.out.chg HWD.out (fun h => h))
  have c9 := HRD.out.c K x hx
  have z9 := HRD.out.z K
  have hxb := HRD.out.byte x (List.mem_of_getElem? hx)
  obtain ⟨V, hV⟩ : ∃ V : Int, bits BinOp.xor IntKind.u8 x by' = V := ⟨_, rfl⟩
  have hVb : Byte V := by rw [← hV]; exact bounds_u8 (wf_bits BinOp.xor IntKind.u8 _ _)
  have HV : Hid (V = x ↔ by' = 0) := Lib.hid (by
    obtain ⟨xn, rfl⟩ := Int.eq_ofNat_of_zero_le hxb.1
    have hx2 := hxb.2
    rw [← hV, xor8 xn by' (by omega) (by omega)]
    refine ⟨fun e => ?_, fun e => by subst e; simp⟩
    have e2 : xn ^^^ by' = xn ^^^ 0 := by rw [Nat.xor_zero]; exact_mod_cast e
    exact xor_left e2)
  have HR3 := Lib.hid (HRD.out.set1 hK2 hVb)
  have HS3 := Lib.hid ((HS2.out.chg HWD.out (fun h => h)).chg (setCellChg wd h K (.int .u8 V)) (fun e => hhb e.symm))
  have HC3 := Lib.hid ((HC2.out.trans HWD.out.any).trans ((setCellChg wd h K (.int .u8 V)).mono (T := fun k => w.heap.size ≤ k) (fun k _ e => by omega)))
  have HXK := Lib.hid hx
  have HVB := Lib.hid hVb
  have HOP := Lib.hid (open_long w.heap.size (X.set K V) Z.length h 0 X.length _ HS3.out (HR3.out.bytes (List.prefix_refl _)) hhb (by rw [List.length_set]; omega) (by rw [List.length_set]; exact HSL.out) (by rw [List.length_set]; exact Nat.le_refl _))
  rw [List.length_set] at HOP
  obtain ⟨w3, hw3⟩ : ∃ w3, w3 = wd.setCell ⟨h, K, none⟩ (.int .u8 V) := ⟨_, rfl⟩
  clear hx hxb hVb hKd
  go_wp2_with fail
  rw [← hw3] at HOP HS3 HC3 ⊢
  refine HOP.out.mono ?_
  clear HOP HR3 HRD c9 z9 hw3
  rintro e w4 ⟨hs4, hc4, hres⟩
  have HC4 := Lib.hid (HC3.out.trans (hc4.mono (T := fun k => w.heap.size ≤ k) (fun k _ e => by omega)))
  clear hs4 hc4 HS3 HC3 HC2
  by_cases h0 : by' = 0
  · subst h0
    have hVx : V = x := HV.out.2 rfl
    have hset : X.set K V = X := by
      rw [hVx]
      apply List.ext_getElem?
      intro j
      by_cases he : j = K
      · subst he; rw [List.getElem?_set_self hK2, HXK.out]
      · rw [List.getElem?_set_ne (Ne.symm he)]
    rw [hset, HTK.out] at hres
    obtain ⟨_, v4, pg4, rfl, hf4⟩ := hres.resolve_right (fun h => h.1 (by rw [← HX.out, sealL_drop]))
    obtain ⟨a4, g4, rfl, hb4, ha4, _⟩ := hf4.bytes
    have k1 : (convert 22 9 (.slice a4 Z.length Z.length)).run Try.prog w4 = .ok (.string sz) w4 := by
      rw [← hsz]
      exact conv8 Z.length hb4 ha4
    have k2 : (convert 22 9 (.slice a Z.length cap)).run Try.prog w4 = .ok (.string sz) w4 := by
      rw [← hsz]
      exact conv8 cap (HZ.out.chg HC4.out.fresh (fun _ h => h)) HA.out
    clear hf4 hb4 ha4 hset hVx hV hres
    go_wp2_with fail
    refine (lives_any _).mono ?_
    rintro e w7 ⟨rfl, hc7⟩
    have HC7 := Lib.hid (HC4.out.fresh.trans hc7)
    clear hc7
    go_wp2
    go_ret
    exact ⟨rfl, HC7.out⟩
  · have hb0 : ((by' : Int) == 0) = false := by simp; omega
    have hb1 : ¬ by' = 0 := h0
    obtain ⟨_, rfl⟩ := hres.resolve_left (fun hh => turned_law (Z := Z) HBZ.out (K := K) (x := x) (V := V) (by rw [HX.out]; exact HXK.out) HVB.out (fun e => h0 (HV.out.1 e)) (by rw [HX.out]; exact hh.1))
    clear hV h0 hres
    go_wp2_with fail
    refine (lives_any _).mono ?_
    rintro e w7 ⟨rfl, hc7⟩
    have HC7 := Lib.hid (HC4.out.fresh.trans hc7)
    clear hc7
    go_wp2
    go_ret
    exact ⟨rfl, HC7.out⟩

set_option maxRecDepth 100000 in
set_option maxHeartbeats 2000000 in
theorem turned_long (x y : Int) (a : Option Addr) (k cap : Nat) (w : World) (hl : 1000 < k) :
    Calls Try.prog 7 #[.slice a k cap, .int .u16 x, .int .u8 y] w fun e w' => e = .returned (.bool true) ∧ Chg (fun _ => False) w w' := by
  go_enter Try.func7, Try.ntmps7
  go_wp2_with fail
  refine (lives_any _).mono ?_
  rintro e w7 ⟨rfl, hc7⟩
  have HC7 := Lib.hid hc7
  clear hc7
  go_wp2
  go_ret
  exact ⟨rfl, HC7.out⟩
end Go.Proofs.Ytnfniilimgfjoaa
