/- 'RowsOf': its walk. -/
import Derived.Test.YtkfakkonlnjckaaRowsW
import Derived.Test.YtkfakkonlnjckaaRefOfB
import Derived.Test.YtkfakkonlnjckaaWrapsI
namespace Go.Proofs.Ytkfakkonlnjckaa
open Go.RowKit

set_option maxRecDepth 100000 in
set_option maxHeartbeats 4000000 in
/-- A row is the document's. -/
theorem sameRow_ok (d : Int) (L : List (Int × Int)) (ax ay : Option Addr) (cx cy Bx By : Nat) (w : World) (hx : cellE.In w Bx (ax, L.length, cx) L) (hy : cellR.In w By (ay, L.length, cy) L) (hl : L.length ≤ 1000000000) :
    Calls Try.prog 13 #[.agg #[.int .i64 d, .slice ax L.length cx], .agg #[.int .i64 d, .slice ay L.length cy]] w fun e w' => e = .returned (.bool true) ∧ Chg (fun _ => False) w w' := by
  have HX := Lib.hid hx
  have HY := Lib.hid hy
  have HC0 := Lib.hid (((Chg.refl (fun _ => False) w).alloc (.cells #[.int .i64 d, .slice ax L.length cx] 27)).alloc (.cells #[.int .i64 d, .slice ay L.length cy] 33))
  have HB : Hid (∀ wr, Chg (fun _ => False) ((w.alloc (.cells #[.int .i64 d, .slice ax L.length cx] 27)).alloc (.cells #[.int .i64 d, .slice ay L.length cy] 33)) wr → wr.cell? ⟨w.heap.size, 0, none⟩ = some (.int .i64 d) ∧ wr.cell? ⟨w.heap.size, 1, none⟩ = some (.slice ax L.length cx) ∧ wr.cell? ⟨w.heap.size + 1, 0, none⟩ = some (.int .i64 d) ∧ wr.cell? ⟨w.heap.size + 1, 1, none⟩ = some (.slice ay L.length cy)) := Lib.hid fun wr hc => ⟨hc.cellS (by simp) (fun h => h), hc.cellS (by simp) (fun h => h), hc.cellS (by simp) (fun h => h), hc.cellS (by simp) (fun h => h)⟩
  have q1 : (d != d) = false := by simp
  have b10 : ((L.length : Int) != (L.length : Int)) = false := by simp
  clear hx hy
  go_enter Try.func13, Try.ntmps13
  go_wp2
  go_loopw [5] (fun i wr => ∃ k : Nat, k ≤ L.length ∧ i = .int .i64 k ∧ Chg (fun _ => False) ((w.alloc (.cells #[.int .i64 d, .slice ax L.length cx] 27)).alloc (.cells #[.int .i64 d, .slice ay L.length cy] 33)) wr) (fun i _ => L.length - (intOf i).toNat)
  case atStart => exact ⟨0, by omega, rfl, Chg.refl _ _⟩
  case round =>
    clear q1 b10
    obtain ⟨k, hk, rfl, hc⟩ := hrel
    obtain ⟨b0, b1, b2, b3⟩ := HB.out wr hc
    have HC := Lib.hid hc
    have HCW := Lib.hid (HC0.out.trans hc)
    clear hc
    by_cases hkl : k < L.length
    · have b14 : decide ((k : Int) < (L.length : Int)) = true := by simp; omega
      obtain ⟨p, g, o, u, v, hp, rfl, he, c0, c1, -, -, -⟩ := (HX.out.same HCW.out).get2 rfl hkl
      obtain ⟨rfl, rfl⟩ := pairOf he
      obtain ⟨q, g2, o2, u, v, hq, rfl, he2, c2, c3, -, -, -⟩ := (HY.out.same HCW.out).get2 rfl hkl
      obtain ⟨rfl, rfl⟩ := pairOf he2
      rw [hp] at hq
      obtain rfl := Option.some.inj hq
      obtain ⟨p0, p1⟩ := p
      simp only at c0 c1 c2 c3
      have e0 : (p0 != p0) = false := by simp
      have e1 : (p1 != p1) = false := by simp
      clear hp he he2 hq
      go_upto_region 6 with (fail)
      refine wp_region_same (fun w' => w' = wr.drew) (by kernel_rfl) (by kernel_rfl) ?_ ?_
      · rfl
      iterate 28 (refine wpC_read rfl (fun _ _ _ h => h) (fun K hK => ?_); apply Exists.intro; refine ⟨fun _ w' _ hC => ?_, ?_⟩; ((subst hC); go_simp; try with_reducible rfl); (try go_simp); refine hK _ ?_; clear hK K)
      refine wpC_nil ?_
      rintro w' rfl
      go_wp2
      go_roundw
      case rel => first | exact ⟨k + 1, by omega, by go_num, HC.out.drew⟩ | ((repeat apply Exists.intro); exact ⟨⟨k + 1, by omega, rfl, HC.out.drew⟩, by (repeat' apply And.intro) <;> first | rfl | go_num⟩)
      case measure => simp [intOf]; omega
    · obtain rfl : k = L.length := by omega
      go_wp2
      go_ret
      exact ⟨rfl, HCW.out⟩

/-- What both Ofs answer. -/
def ofD (Z : List Int) : Int := if noValB Z then 0 else usualL Z
def ofL (Z : List Int) : List (Int × Int) := if noValB Z then [] else cellsFrom (usualL Z) 0 Z
def ofE (Z : List Int) : Int := if noValB Z then 1 else 0
theorem ofL_le (Z : List Int) : (ofL Z).length ≤ Z.length := by
  unfold ofL
  split
  · simp
  · exact cellsFrom_le _ _ _
theorem ofD_int (Z : List Int) (h : ∀ n ∈ Z, I.Byte n) : I.Byte (ofD Z) := by
  unfold ofD
  split
  · exact ⟨by omega, by omega⟩
  · rcases usual_usualL Z with ⟨_, h2⟩ | ⟨h1, _⟩
    · rw [h2]; exact ⟨by omega, by omega⟩
    · exact h _ h1
theorem of_all (Z : List Int) (a : Option Addr) (g o c : Nat) (w : World) (hz : I.BytesAt w g o Z) (ha : 0 < Z.length → a = some ⟨g, o, none⟩) (hl : Z.length ≤ 65536) :
    Calls Try.prog 11 #[.slice a Z.length c] w fun e w' => ∃ s, e = .returned (ofV (ofD Z) s (ofE Z)) ∧ cellE.In w' w.heap.size s (ofL Z) ∧ Chg (fun _ => False) w w' := by
  by_cases hv : noValB Z = true
  · rw [show ofD Z = 0 from if_pos hv, show ofL Z = [] from if_pos hv, show ofE Z = 1 from if_pos hv]
    exact (of_bad Z a g o c w hz ha hl hv).mono fun e w' ⟨h1, h2⟩ => ⟨(none, 0, 0), h1, .nil _ _ _, h2⟩
  · rw [show ofD Z = usualL Z from if_neg hv, show ofL Z = cellsFrom (usualL Z) 0 Z from if_neg hv, show ofE Z = 0 from if_neg hv]
    exact of_ok Z a g o c w hz ha hl (by simpa using hv)
theorem refOf_all (Z : List Int) (a : Option Addr) (g o c : Nat) (w : World) (hz : I.BytesAt w g o Z) (ha : 0 < Z.length → a = some ⟨g, o, none⟩) (hl : Z.length ≤ 65536) :
    Calls Try.prog 12 #[.slice a Z.length c] w fun e w' => ∃ s, e = .returned (ofV (ofD Z) s (ofE Z)) ∧ cellR.In w' w.heap.size s (ofL Z) ∧ Chg (fun _ => False) w w' := by
  by_cases hv : noValB Z = true
  · rw [show ofD Z = 0 from if_pos hv, show ofL Z = [] from if_pos hv, show ofE Z = 1 from if_pos hv]
    exact (refOf_bad Z a g o c w hz ha hl hv).mono fun e w' ⟨h1, h2⟩ => ⟨(none, 0, 0), h1, .nil _ _ _, h2⟩
  · rw [show ofD Z = usualL Z from if_neg hv, show ofL Z = cellsFrom (usualL Z) 0 Z from if_neg hv, show ofE Z = 0 from if_neg hv]
    exact refOf_ok Z a g o c w hz ha hl (by simpa using hv)

set_option maxRecDepth 100000 in
set_option maxHeartbeats 4000000 in
theorem rowsOf_any (Z : List Int) (i : Int) (a : Option Addr) (g o cap : Nat) (w : World) (hz : I.BytesAt w g o Z) (ha : 0 < Z.length → a = some ⟨g, o, none⟩) (hl : Z.length ≤ 3000) (hi : I.Byte i) :
    Calls Try.prog 3 #[.slice a Z.length cap, .int .i64 i] w fun e w' => e = .returned (.bool true) ∧ Chg (fun _ => False) w w' := by
  have HZ := Lib.hid hz
  have HA := Lib.hid ha
  obtain ⟨_, _⟩ := hi
  have HLE := Lib.hid (ofL_le Z)
  obtain ⟨D, hD⟩ : ∃ D, ofD Z = D := ⟨_, rfl⟩
  obtain ⟨L, hL⟩ : ∃ L, ofL Z = L := ⟨_, rfl⟩
  obtain ⟨E, hE⟩ : ∃ E, ofE Z = E := ⟨_, rfl⟩
  have HD := Lib.hid hD
  have HL := Lib.hid hL
  have HE := Lib.hid hE
  rw [hL] at HLE
  clear hz ha hD hL hE
  go_enter Try.func3, Try.ntmps3
  go_wp2_with fail
  refine (twinNums_any Z a g o cap w HZ.out HA.out (by omega)).mono ?_
  rintro e w1 ⟨h, rfl, hh, hr1, hc1⟩
  have HR1 := Lib.hid hr1
  have HC1 := Lib.hid hc1
  clear hr1 hc1
  go_wp2_with fail
  refine (of_all Z (some ⟨h, 0, none⟩) h 0 (Z.length + 2) w1 (HR1.out.bytes (List.prefix_append _ _)) (fun _ => rfl) (by omega)).mono ?_
  rintro e w2 ⟨⟨sa, sn, sc⟩, rfl, hin, hc2⟩
  rw [HD.out, HE.out]
  rw [HL.out] at hin
  obtain rfl : sn = L.length := hin.1
  unfold ofV slV
  simp only
  have HIN := Lib.hid hin
  have HC2 := Lib.hid hc2
  clear hin hc2
  go_wp2_with fail
  refine (refOf_all Z a g o cap _ (HZ.out.chg ((HC1.out.trans HC2.out).alloc _) (fun _ h => h)) HA.out (by omega)).mono ?_
  rintro e w3 ⟨⟨ta, tn, tc⟩, rfl, hin, hc3⟩
  rw [HD.out, HE.out]
  rw [HL.out] at hin
  obtain rfl : tn = L.length := hin.1
  unfold ofV slV
  simp only
  have HINR := Lib.hid hin
  have HC3 := Lib.hid (Chg.trans ((Chg.refl (fun _ => False) w2).alloc (.cells #[.int .i64 D, .slice sa L.length sc] 27)) hc3)
  obtain ⟨wa, hwa⟩ : ∃ wa, wa = w3.alloc (.cells #[.int .i64 D, .slice ta L.length tc] 33) := ⟨_, rfl⟩
  have HWA : Hid (Chg (fun _ => False) w3 wa) := Lib.hid (by rw [hwa]; exact (Chg.refl _ _).alloc _)
  have HBX : Hid (∀ wx, Chg (fun _ => False) wa wx → (wx.cell? ⟨w2.heap.size, 0, none⟩ = some (.int .i64 D) ∧ wx.cell? ⟨w2.heap.size, 1, none⟩ = some (.slice sa L.length sc)) ∧ (wx.cell? ⟨w3.heap.size, 0, none⟩ = some (.int .i64 D) ∧ wx.cell? ⟨w3.heap.size, 1, none⟩ = some (.slice ta L.length tc))) := Lib.hid (fun wx hx => by
    have e1 := hc3.trans (HWA.out.trans hx)
    subst hwa
    exact ⟨⟨e1.cellS (by simp) (fun h => h), e1.cellS (by simp) (fun h => h)⟩, ⟨hx.cellS (by simp) (fun h => h), hx.cellS (by simp) (fun h => h)⟩⟩)
  have HWE := Lib.hid hwa
  have HA1 := Lib.hid (HC2.out.trans (HC3.out.trans HWA.out))
  have hL9 : L.length ≤ 1000000000 := by have := HLE.out; omega
  clear hin hc3 hwa
  go_upto_region 6 with (fail)
  rw [← HWE.out]
  have e1 : (E == E) = true := by simp
  refine wp_region_same (fun w' => Chg (fun _ => False) wa w') (by kernel_rfl) (by kernel_rfl) ?_ ?_
  · exact (Chg.refl _ _).drew
  (refine wpC_read rfl (fun _ _ _ h => h) (fun K hK => ?_); apply Exists.intro; refine ⟨fun _ w' _ hC => ?_, ?_⟩; ((skip); go_simp; try with_reducible rfl); (try go_simp); refine hK _ ?_; clear hK K)
  (refine wpC_read rfl (fun _ _ _ h => h) (fun K hK => ?_); apply Exists.intro; refine ⟨fun _ w' _ hC => ?_, ?_⟩; ((skip); go_simp; try with_reducible rfl); (try go_simp); refine hK _ ?_; clear hK K)
  (refine wpC_read rfl (fun _ _ _ h => h) (fun K hK => ?_); apply Exists.intro; refine ⟨fun _ w' _ hC => ?_, ?_⟩; ((skip); go_simp; try with_reducible rfl); (try go_simp); refine hK _ ?_; clear hK K)
  (refine wpC_read rfl (fun _ _ _ h => h) (fun K hK => ?_); apply Exists.intro; refine ⟨fun _ w' _ hC => ?_, ?_⟩; ((skip); go_simp; try with_reducible rfl); (try go_simp); refine hK _ ?_; clear hK K)
  (refine wpC_read rfl (fun _ _ _ h => h) (fun K hK => ?_); apply Exists.intro; refine ⟨fun _ w' _ hC => ?_, ?_⟩; ((obtain ⟨⟨q0, q1⟩, q2, q3⟩ := HBX.out w' hC); go_simp; try with_reducible rfl); (try go_simp); refine hK _ ?_; clear hK K)
  (refine wpC_read rfl (fun _ _ _ h => h) (fun K hK => ?_); apply Exists.intro; refine ⟨fun _ w' _ hC => ?_, ?_⟩; ((obtain ⟨⟨q0, q1⟩, q2, q3⟩ := HBX.out w' hC); go_simp; try with_reducible rfl); (try go_simp); refine hK _ ?_; clear hK K)
  refine wpC_call rfl (Value.bool true )  13  ( #[.agg #[.int .i64 D, .slice sa L.length sc], .agg #[.int .i64 D, .slice ta L.length tc]]) (fun w' => by go_simp) (fun _ w' _ hC => ?_) (fun K hK => ?_)
  · refine (sameRow_ok D L sa ta sc tc _ _ w' (HIN.out.same ((HC3.out.trans HWA.out).trans hC)) (HINR.out.same (HWA.out.trans hC)) hL9).mono ?_
    rintro e w4 ⟨rfl, hc⟩
    exact ⟨rfl, hC.trans hc⟩
  ((try go_simp); refine hK _ ?_; clear hK K)
  (refine wpC_read rfl (fun _ _ _ h => h) (fun K hK => ?_); apply Exists.intro; refine ⟨fun _ w' _ hC => ?_, ?_⟩; ((skip); go_simp; try with_reducible rfl); (try go_simp); refine hK _ ?_; clear hK K)
  (refine wpC_read rfl (fun _ _ _ h => h) (fun K hK => ?_); apply Exists.intro; refine ⟨fun _ w' _ hC => ?_, ?_⟩; ((skip); go_simp; try with_reducible rfl); (try go_simp); refine hK _ ?_; clear hK K)
  (refine wpC_read rfl (fun _ _ _ h => h) (fun K hK => ?_); apply Exists.intro; refine ⟨fun _ w' _ hC => ?_, ?_⟩; ((obtain ⟨⟨q0, q1⟩, q2, q3⟩ := HBX.out w' hC); go_simp; try with_reducible rfl); (try go_simp); refine hK _ ?_; clear hK K)
  (refine wpC_read rfl (fun _ _ _ h => h) (fun K hK => ?_); apply Exists.intro; refine ⟨fun _ w' _ hC => ?_, ?_⟩; ((skip); go_simp; try with_reducible rfl); (try go_simp); refine hK _ ?_; clear hK K)
  refine wpC_call rfl (Value.int .i64 (atRow (D, L) i) )  14  ( #[.agg #[.int .i64 D, .slice sa L.length sc], .int .i64 i]) (fun w' => by go_simp) (fun _ w' _ hC => ?_) (fun K hK => ?_)
  · refine (at_any D L sa sc _ i w' (HIN.out.same ((HC3.out.trans HWA.out).trans hC)) hL9).mono ?_
    rintro e w4 ⟨rfl, hc⟩
    exact ⟨rfl, hC.trans hc⟩
  ((try go_simp); refine hK _ ?_; clear hK K)
  (refine wpC_read rfl (fun _ _ _ h => h) (fun K hK => ?_); apply Exists.intro; refine ⟨fun _ w' _ hC => ?_, ?_⟩; ((obtain ⟨⟨q0, q1⟩, q2, q3⟩ := HBX.out w' hC); go_simp; try with_reducible rfl); (try go_simp); refine hK _ ?_; clear hK K)
  (refine wpC_read rfl (fun _ _ _ h => h) (fun K hK => ?_); apply Exists.intro; refine ⟨fun _ w' _ hC => ?_, ?_⟩; ((skip); go_simp; try with_reducible rfl); (try go_simp); refine hK _ ?_; clear hK K)
  refine wpC_call rfl (Value.int .i64 (atRow (D, L) i) )  15  ( #[.agg #[.int .i64 D, .slice ta L.length tc], .int .i64 i]) (fun w' => by go_simp) (fun _ w' _ hC => ?_) (fun K hK => ?_)
  · refine (refAt_any D L ta tc _ i w' (HINR.out.same (HWA.out.trans hC)) hL9).mono ?_
    rintro e w4 ⟨rfl, hc⟩
    exact ⟨rfl, hC.trans hc⟩
  ((try go_simp); refine hK _ ?_; clear hK K)
  (refine wpC_read rfl (fun _ _ _ h => h) (fun K hK => ?_); apply Exists.intro; refine ⟨fun _ w' _ hC => ?_, ?_⟩; ((skip); go_simp; try with_reducible rfl); (try go_simp); refine hK _ ?_; clear hK K)
  (refine wpC_read rfl (fun _ _ _ h => h) (fun K hK => ?_); apply Exists.intro; refine ⟨fun _ w' _ hC => ?_, ?_⟩; ((skip); go_simp; try with_reducible rfl); (try go_simp); refine hK _ ?_; clear hK K)
  (refine wpC_read rfl (fun _ _ _ h => h) (fun K hK => ?_); apply Exists.intro; refine ⟨fun _ w' _ hC => ?_, ?_⟩; ((skip); go_simp; try with_reducible rfl); (try go_simp); refine hK _ ?_; clear hK K)
  (refine wpC_read rfl (fun _ _ _ h => h) (fun K hK => ?_); apply Exists.intro; refine ⟨fun _ w' _ hC => ?_, ?_⟩; ((skip); go_simp; try with_reducible rfl); (try go_simp); refine hK _ ?_; clear hK K)
  (refine wpC_read rfl (fun _ _ _ h => h) (fun K hK => ?_); apply Exists.intro; refine ⟨fun _ w' _ hC => ?_, ?_⟩; ((skip); go_simp; try with_reducible rfl); (try go_simp); refine hK _ ?_; clear hK K)
  refine wpC_call rfl (Value.bool true )  16  ( #[.slice (some ⟨h, 0, none⟩) Z.length (Z.length + 2), .slice a Z.length cap]) (fun w' => by go_simp) (fun _ w' _ hC => ?_) (fun K hK => ?_)
  · refine (leftNums_any Z Z a h g o cap w' (HR1.out.chg (HA1.out.trans hC) (fun h => h)) (HZ.out.chg (HC1.out.trans (HA1.out.trans hC)) (fun _ h => h)) HA.out (by omega)).mono ?_
    rintro e w4 ⟨rfl, hc⟩
    exact ⟨by simp, hC.trans hc⟩
  ((try go_simp); refine hK _ ?_; clear hK K)
  (refine wpC_read rfl (fun _ _ _ h => h) (fun K hK => ?_); apply Exists.intro; refine ⟨fun _ w' _ hC => ?_, ?_⟩; ((skip); go_simp; try with_reducible rfl); (try go_simp); refine hK _ ?_; clear hK K)
  (refine wpC_read rfl (fun _ _ _ h => h) (fun K hK => ?_); apply Exists.intro; refine ⟨fun _ w' _ hC => ?_, ?_⟩; ((skip); go_simp; try with_reducible rfl); (try go_simp); refine hK _ ?_; clear hK K)
  refine wpC_call rfl (Value.bool true )  9  ( #[]) (fun w' => by go_simp) (fun _ w' _ hC => ?_) (fun K hK => ?_)
  · refine (lives_any w').mono ?_
    rintro e w4 ⟨rfl, hc⟩
    exact ⟨rfl, hC.trans hc⟩
  ((try go_simp); refine hK _ ?_; clear hK K)
  (refine wpC_read rfl (fun _ _ _ h => h) (fun K hK => ?_); apply Exists.intro; refine ⟨fun _ w' _ hC => ?_, ?_⟩; ((skip); go_simp; try with_reducible rfl); (try go_simp); refine hK _ ?_; clear hK K)
  (refine wpC_read rfl (fun _ _ _ h => h) (fun K hK => ?_); apply Exists.intro; refine ⟨fun _ w' _ hC => ?_, ?_⟩; ((skip); go_simp; try with_reducible rfl); (try go_simp); refine hK _ ?_; clear hK K)
  refine wpC_nil ?_
  intro w4 hC4
  have HCF := Lib.hid (HC1.out.trans (HA1.out.trans hC4))
  clear hC4
  go_wp2
  go_ret
  exact ⟨rfl, HCF.out⟩

set_option maxRecDepth 100000 in
theorem rowsOf_long (i : Int) (a : Option Addr) (k cap : Nat) (w : World) (hl : 3000 < k) :
    Calls Try.prog 3 #[.slice a k cap, .int .i64 i] w fun e w' => e = .returned (.bool true) ∧ Chg (fun _ => False) w w' := by
  go_enter Try.func3, Try.ntmps3
  go_wp2_with fail
  refine (lives_any _).mono ?_
  rintro e w7 ⟨rfl, hc7⟩
  have HC7 := Lib.hid hc7
  clear hc7
  go_wp2
  go_ret
  exact ⟨rfl, HC7.out⟩
end Go.Proofs.Ytkfakkonlnjckaa
