/- 'RowsMake': its walk. -/
import Derived.Test.YtkfakkonlnjckaaMakeP
import Derived.Test.YtkfakkonlnjckaaRefPut
import Derived.Test.YtkfakkonlnjckaaWrapsB
import Derived.Test.YtkfakkonlnjckaaRowsV
import Derived.Test.YtkfakkonlnjckaaRowsY
namespace Go.Proofs.Ytkfakkonlnjckaa
open Go.RowKit

theorem sumL_each {LL : List (List Int)} (h : sumL LL ≤ 4000) : LL.length ≤ 4000 ∧ ∀ l ∈ LL, l.length ≤ 4000 := by
  unfold sumL at h
  refine ⟨by omega, fun l hl => ?_⟩
  have key : ∀ (M : List (List Int)), l ∈ M → l.length ≤ (M.map (·.length)).sum := by
    intro M
    induction M with
    | nil => intro h; cases h
    | cons m M ih =>
      intro h
      rw [List.map_cons, List.sum_cons]
      rcases List.mem_cons.1 h with rfl | h
      · omega
      · have := ih h; omega
  have := key LL hl
  omega

set_option maxRecDepth 100000 in
theorem rowsMake_great (W : Int) (z : Value) (LL : List (List Int)) (a : Option Addr) (c B : Nat) (w : World) (h : ListsIn w B (a, LL.length, c) LL) (hn : LL.length ≤ 100000000000000) (hl : ∀ l ∈ LL, l.length ≤ 100000000000000) (hz : z = .agg #[.int .i64 0, .int .i64 0] ∨ ∃ z0 z1, z = .agg #[.int .i64 z0, .int .i64 z1]) (hs : 4000 < sumL LL) :
    Calls Try.prog 4 #[.int .i64 W, .slice a LL.length c, z] w fun e w' => e = .returned (.bool true) ∧ Chg (fun _ => False) w w' := by
  obtain ⟨z0, z1, rfl⟩ : ∃ z0 z1 : Int, z = .agg #[.int .i64 z0, .int .i64 z1] := by
    rcases hz with h | h
    · exact ⟨0, 0, h⟩
    · exact h
  have HL := Lib.hid h
  have HN := Lib.hid hn
  have HLL := Lib.hid hl
  have HF : Hid (decide (4000 < sumL LL) = true) := Lib.hid (by simpa using hs)
  have HC0 := Lib.hid ((Chg.refl (fun _ => False) w).alloc (.cells #[.int .i64 z0, .int .i64 z1] 41))
  clear h hl hn hs
  go_enter Try.func4, Try.ntmps4
  go_wp2_with fail
  refine (great_any LL a c B _ (HL.out.same HC0.out) HN.out HLL.out).mono ?_
  rintro e w1 ⟨rfl, hc1⟩
  rw [HF.out]
  have HC1 := Lib.hid (HC0.out.trans hc1)
  clear hc1
  go_wp2_with fail
  refine (lives_any w1).mono ?_
  rintro e w2 ⟨rfl, hc2⟩
  have HC2 := Lib.hid (HC1.out.trans hc2)
  clear hc2
  go_wp2
  go_ret
  exact ⟨rfl, HC2.out⟩

set_option maxRecDepth 100000 in
set_option maxHeartbeats 16000000 in
theorem rowsMake_any (W z0 z1 : Int) (LL : List (List Int)) (a : Option Addr) (c B : Nat) (w : World) (h : ListsIn w B (a, LL.length, c) LL) (hW : I.Byte W) (hz0 : I.Byte z0) (hz1 : I.Byte z1) (hs : sumL LL ≤ 4000) :
    Calls Try.prog 4 #[.int .i64 W, .slice a LL.length c, .agg #[.int .i64 z0, .int .i64 z1]] w fun e w' => e = .returned (.bool true) ∧ Chg (fun _ => False) w w' := by
  obtain ⟨hn4, hl4⟩ := sumL_each hs
  have HL := Lib.hid h
  have HLL := Lib.hid hl4
  have HSL := Lib.hid hs
  have HW := Lib.hid hW
  have HZ0 := Lib.hid hz0
  have HZ1 := Lib.hid hz1
  have HF : Hid (decide (4000 < sumL LL) = false) := Lib.hid (by simpa using hs)
  have HC0 := Lib.hid ((Chg.refl (fun _ => False) w).alloc (.cells #[.int .i64 z0, .int .i64 z1] 41))
  have HB0 : Hid (∀ wr, Chg (fun _ => False) (w.alloc (.cells #[.int .i64 z0, .int .i64 z1] 41)) wr → wr.cell? ⟨w.heap.size, 0, none⟩ = some (.int .i64 z0) ∧ wr.cell? ⟨w.heap.size, 1, none⟩ = some (.int .i64 z1)) := Lib.hid fun wr hc =>
    ⟨hc.cellS (by simp) (fun h => h), hc.cellS (by simp) (fun h => h)⟩
  clear h hl4 hs hz0 hz1 hW
  go_enter Try.func4, Try.ntmps4
  go_wp2_with fail
  refine (great_any LL a c B _ (HL.out.same HC0.out) (by omega) (fun l hl => by have := HLL.out l hl; omega)).mono ?_
  rintro e w1 ⟨rfl, hc1⟩
  rw [HF.out]
  have HC1 := Lib.hid (HC0.out.trans hc1)
  have HBZ : Hid (∀ wr, Chg (fun _ => False) w1 wr → wr.cell? ⟨w.heap.size, 0, none⟩ = some (.int .i64 z0) ∧ wr.cell? ⟨w.heap.size, 1, none⟩ = some (.int .i64 z1)) := Lib.hid fun wr hc => HB0.out wr (hc1.trans hc)
  have HT0 : Hid (TwinSt w1 w1 (.slice none 0 0) LL []) := Lib.hid ⟨.inl ⟨rfl, by simp [twinX]⟩, by simp, fun j h l hj => by simp at hj, by simp, fun h hh => by simp at hh, Chg.refl _ _⟩
  clear hc1
  go_wp2
  go_loopw [7, 8] (fun v q wr => ∃ (k : Nat) (H : List Nat), k ≤ LL.length ∧ q = .int .i64 k ∧ H.length = k ∧ TwinSt w1 wr v LL H) (fun _ q _ => LL.length - (intOf q).toNat)
  case atStart => exact ⟨0, [], by omega, rfl, rfl, HT0.out⟩
  case round =>
    clear HT0
    obtain ⟨k, H, hk, rfl, hHk, ht⟩ := hrel
    obtain ⟨va, vn, vc, hva⟩ := ht.own.shape3
    subst hva
    have HT := Lib.hid ht
    have HK := Lib.hid hHk
    have HCW := Lib.hid (HC1.out.trans ht.chg.fresh)
    clear ht hHk
    by_cases hkl : k < LL.length
    · have b26 : decide ((k : Int) < (LL.length : Int)) = true := by simp; omega
      obtain ⟨l, g, o, la, lc, gl, ol, hlk, rfl, c0, hlc, hla, hlp, hgw, -⟩ := (HL.out.same HCW.out).get hkl
      have hl4 := HLL.out l (List.mem_of_getElem? hlk)
      have HLK : Hid (LL[H.length]? = some l) := Lib.hid (by rw [HK.out]; exact hlk)
      have HLA := Lib.hid hla
      have HLP : Hid (0 < l.length → la = some ⟨gl, ol, none⟩) := Lib.hid (fun h => (hlp h).1)
      clear hlk hla hlp
      go_wp2_with fail
      refine (twinNums_any l la gl ol lc wr HLA.out HLP.out (by omega)).mono ?_
      rintro e w2 ⟨h, rfl, hh, hr, hc2⟩
      have HR := Lib.hid hr
      have HHW := Lib.hid hh
      have HC2 := Lib.hid hc2
      have HA2 : Hid (Chg (fun _ => False) wr (w2.alloc (.cells #[.slice (some ⟨h, 0, none⟩) l.length (l.length + 2)] 22))) := Lib.hid (hc2.alloc _)
      have HR2 : Hid (I.Row (w2.alloc (.cells #[.slice (some ⟨h, 0, none⟩) l.length (l.length + 2)] 22)) h (l ++ [-77, -77])) := Lib.hid (hr.chg ((Chg.refl (fun _ => False) w2).alloc _) (fun h => h))
      have HO2 := Lib.hid (HT.out.own.chg HA2.out (fun _ _ _ h => h))
      have HB2 : Hid (w1.heap.size ≤ (w2.alloc (.cells #[.slice (some ⟨h, 0, none⟩) l.length (l.length + 2)] 22)).heap.size) := Lib.hid (HT.out.chg.trans HA2.out.any).size
      have HOK : Hid (∀ x ∈ [((some ⟨h, 0, none⟩ : Option Addr), l.length, l.length + 2)], listE.ok x) := Lib.hid (fun x _ => trivial)
      have HLE : Hid ((twinX LL H).length + 1 ≤ 1000000000000) := Lib.hid (by have := HK.out; unfold twinX; rw [List.length_zipWith]; omega)
      clear hh hr hc2 c0
      go_wp2_with (at_builtin; refine Elt.wpList_append2 listE rfl (.tmp 29) (.tmp 35) 40 40 rfl rfl w1.heap.size (.slice va vn vc) (twinX LL H) [((some ⟨h, 0, none⟩ : Option Addr), l.length, l.length + 2)] (.slice (some ⟨w2.heap.size, 0, none⟩) 1 1) rfl rfl HO2.out HB2.out (listE.srcLit 1 HOK.out) HOK.out HLE.out ?_; intro v3 w3 H1 H2 H3; have HTN : Hid (TwinSt w1 w3 v3 LL (H ++ [h])) := Lib.hid (HT.out.add HLK.out HHW.out HR2.out HA2.out H1.out H3.out.1 (H3.out.2.imp id (fun e => ⟨_, e, Nat.le_refl _⟩))); clear H1 H2 H3)
      go_roundw
      case rel => exact ⟨k + 1, H ++ [h], by omega, by go_num, by rw [List.length_append, HK.out]; rfl, HTN.out⟩
      case measure => simp [intOf]; omega
    · obtain rfl : k = LL.length := by omega
      have b26 : decide ((LL.length : Int) < (LL.length : Int)) = false := by simp
      obtain ⟨hvn, hvc, hls⟩ := HT.out.lists HK.out
      subst hvn
      have HLS := Lib.hid hls
      clear hls
      have HMA := Lib.hid (make_all W LL va vc w1.heap.size wr HLS.out (by omega) (fun l hl => by have := HLL.out l hl; omega))
      have HMB := Lib.hid (fun (wx : World) (hx : Chg (fun _ => False) wr wx) => refMake_all W LL a c B wx (HL.out.same (HCW.out.trans hx)) (by omega) (fun l hl => by have := HLL.out l hl; omega))
      have HGOOD : Hid (mkE W LL = 0 → mayL (mkW W LL, mkR W LL, mkO W LL) = true ∧ mkW W LL = W) := Lib.hid (fun h => by
        by_cases hk : mkOk W LL = true
        · obtain ⟨e1, e2, e3, e4⟩ := mk_good hk
          rw [e1, e2, e3]
          simp only [mkOk, Bool.and_eq_true, decide_eq_true_eq] at hk
          exact ⟨makeL_may hk.1.1 hk.1.2 (by omega) hk.2, rfl⟩
        · rw [(mk_bad (by simpa using hk)).2.2.2] at h
          cases h)
      have HWB : Hid (I.Byte (mkW W LL)) := Lib.hid (by unfold mkW; split; exact HW.out; exact ⟨by omega, by omega⟩)
      have HLN : Hid ((mkR W LL).length ≤ 4000 ∧ (mkO W LL).length ≤ 4000 ∧ ∀ r ∈ mkR W LL, r.2.length ≤ 4000) := Lib.hid (by
        unfold mkR mkO
        obtain ⟨q1, q2⟩ := makeL_len LL
        split
        · refine ⟨by omega, by omega, fun r hr => ?_⟩
          obtain ⟨l, hl, rfl⟩ := makeL_rows LL r hr
          exact Nat.le_trans (cellsFrom_le (usualL l) l 0) (HLL.out l hl)
        · exact ⟨by simp, by simp, fun r hr => by cases hr⟩)
      have HNUMS := Lib.hid (Nat.le_trans (mk_nums W (mkW W LL) LL) (show 3 * sumL LL + 3 ≤ 12003 by have := HSL.out; omega))
      have HE01 : Hid (mkE W LL = 0 ∨ mkE W LL = 1) := Lib.hid (by unfold mkE; split; exact .inl rfl; exact .inr rfl)
      obtain ⟨W', hW'⟩ : ∃ x, mkW W LL = x := ⟨_, rfl⟩
      obtain ⟨R, hR⟩ : ∃ x, mkR W LL = x := ⟨_, rfl⟩
      obtain ⟨O, hO⟩ : ∃ x, mkO W LL = x := ⟨_, rfl⟩
      obtain ⟨E, hE⟩ : ∃ x, mkE W LL = x := ⟨_, rfl⟩
      simp only [hW', hR, hO, hE] at HMA HMB HGOOD HWB HLN HE01 HNUMS
      obtain ⟨hRn, hOn, hRc⟩ := HLN.out
      have HRC := Lib.hid hRc
      clear hW' hR hO hE hRc HLN
      go_wp2_with fail
      refine HMA.out.mono ?_
      rintro e w2 ⟨ra, oa, rfl, hr, ho, hc2⟩
      unfold tabV
      have HRA := Lib.hid hr
      have HOA := Lib.hid ho
      have HC2 := Lib.hid hc2
      obtain ⟨wa, hwa⟩ : ∃ x, x = w2.alloc (.cells #[.int .i64 W', .slice ra R.length R.length, .slice oa O.length O.length] 45) := ⟨_, rfl⟩
      have HCA : Hid (Chg (fun _ => False) w2 wa) := Lib.hid (by rw [hwa]; exact (Chg.refl _ _).alloc _)
      have HBA : Hid (∀ wx, Chg (fun _ => False) wa wx → wx.cell? ⟨w2.heap.size, 0, none⟩ = some (.int .i64 W') ∧ wx.cell? ⟨w2.heap.size, 1, none⟩ = some (.slice ra R.length R.length) ∧ wx.cell? ⟨w2.heap.size, 2, none⟩ = some (.slice oa O.length O.length)) := Lib.hid (fun wx hx => by subst hwa; exact ⟨hx.cellS (by simp) (fun h => h), hx.cellS (by simp) (fun h => h), hx.cellS (by simp) (fun h => h)⟩)
      have HWA := Lib.hid hwa
      clear hr ho hc2 hwa HMA
      go_upto_region 9 with (fail)
      rw [← HWA.out]
      go_wp2_with fail
      refine (HMB.out wa (HC2.out.trans HCA.out)).mono ?_
      rintro e w3 ⟨rb, ob, rc, oc, rfl, hr, ho, hc3⟩
      unfold tabV
      have HRB := Lib.hid hr
      have HOB := Lib.hid ho
      have HC3 := Lib.hid hc3
      obtain ⟨wb, hwb⟩ : ∃ x, x = w3.alloc (.cells #[.int .i64 W', .slice rb R.length rc, .slice ob O.length oc] 50) := ⟨_, rfl⟩
      have HCB : Hid (Chg (fun _ => False) w3 wb) := Lib.hid (by rw [hwb]; exact (Chg.refl _ _).alloc _)
      have HBB : Hid (∀ wx, Chg (fun _ => False) wb wx → wx.cell? ⟨w3.heap.size, 0, none⟩ = some (.int .i64 W') ∧ wx.cell? ⟨w3.heap.size, 1, none⟩ = some (.slice rb R.length rc) ∧ wx.cell? ⟨w3.heap.size, 2, none⟩ = some (.slice ob O.length oc)) := Lib.hid (fun wx hx => by subst hwb; exact ⟨hx.cellS (by simp) (fun h => h), hx.cellS (by simp) (fun h => h), hx.cellS (by simp) (fun h => h)⟩)
      have HWBE := Lib.hid hwb
      clear hr ho hc3 hwb HMB
      go_upto_region 10 with (fail)
      rw [← HWBE.out]
      have e1 : (E != E) = false := by simp
      obtain ⟨V, hV⟩ : ∃ x, atTab (W', R, O) z0 z1 = x := ⟨_, rfl⟩
      have e2 : (V != V) = false := by simp
      have HV := Lib.hid hV
      clear hV
      have HBX : Hid (∀ wx, Chg (fun _ => False) wb wx → (wx.cell? ⟨w2.heap.size, 0, none⟩ = some (.int .i64 W') ∧ wx.cell? ⟨w2.heap.size, 1, none⟩ = some (.slice ra R.length R.length) ∧ wx.cell? ⟨w2.heap.size, 2, none⟩ = some (.slice oa O.length O.length)) ∧ (wx.cell? ⟨w3.heap.size, 0, none⟩ = some (.int .i64 W') ∧ wx.cell? ⟨w3.heap.size, 1, none⟩ = some (.slice rb R.length rc) ∧ wx.cell? ⟨w3.heap.size, 2, none⟩ = some (.slice ob O.length oc)) ∧ wx.cell? ⟨w.heap.size, 0, none⟩ = some (.int .i64 z0) ∧ wx.cell? ⟨w.heap.size, 1, none⟩ = some (.int .i64 z1)) := Lib.hid (fun wx hx =>
        ⟨HBA.out wx (HC3.out.trans (HCB.out.trans hx)), HBB.out wx hx, HBZ.out wx (HT.out.chg.fresh.trans (HC2.out.trans (HCA.out.trans (HC3.out.trans (HCB.out.trans hx)))))⟩)
      have HCAB := Lib.hid (HCA.out.trans (HC3.out.trans HCB.out))
      obtain ⟨ga, HOAT, HOAP⟩ : ∃ g, Hid (I.BytesAt w2 g 0 O) ∧ Hid (0 < O.length → oa = some ⟨g, 0, none⟩) := by
        obtain ⟨g, h1, h2⟩ := HOA.out.at
        exact ⟨g, Lib.hid h1, Lib.hid h2⟩
      obtain ⟨gb, HOBT, HOBP⟩ : ∃ g, Hid (I.BytesAt w3 g 0 O) ∧ Hid (0 < O.length → ob = some ⟨g, 0, none⟩) := by
        obtain ⟨g, h1, h2⟩ := HOB.out.at
        exact ⟨g, Lib.hid h1, Lib.hid h2⟩
      have HRCL : Hid (∀ r ∈ R, r.2.length ≤ 1000000000) := Lib.hid (fun r hr => by have := HRC.out r hr; omega)
      refine wp_region_same (fun w' => Chg (fun _ => False) wb w') (by kernel_rfl) (by kernel_rfl) ?_ ?_
      · exact (Chg.refl _ _).drew
      (refine wpC_read rfl (fun _ _ _ h => h) (fun K hK => ?_); apply Exists.intro; refine ⟨fun _ w' _ hC => ?_, ?_⟩; ((skip); go_simp; try with_reducible rfl); (try go_simp); refine hK _ ?_; clear hK K)
      (refine wpC_read rfl (fun _ _ _ h => h) (fun K hK => ?_); apply Exists.intro; refine ⟨fun _ w' _ hC => ?_, ?_⟩; ((skip); go_simp; try with_reducible rfl); (try go_simp); refine hK _ ?_; clear hK K)
      (refine wpC_read rfl (fun _ _ _ h => h) (fun K hK => ?_); apply Exists.intro; refine ⟨fun _ w' _ hC => ?_, ?_⟩; ((skip); go_simp; try with_reducible rfl); (try go_simp); refine hK _ ?_; clear hK K)
      (refine wpC_read rfl (fun _ _ _ h => h) (fun K hK => ?_); apply Exists.intro; refine ⟨fun _ w' _ hC => ?_, ?_⟩; ((skip); go_simp; try with_reducible rfl); (try go_simp); refine hK _ ?_; clear hK K)
      (refine wpC_read rfl (fun _ _ _ h => h) (fun K hK => ?_); apply Exists.intro; refine ⟨fun _ w' _ hC => ?_, ?_⟩; ((obtain ⟨⟨q0, q1, q2⟩, ⟨q3, q4, q5⟩, q6, q7⟩ := HBX.out w' hC); go_simp; try with_reducible rfl); (try go_simp); refine hK _ ?_; clear hK K)
      (refine wpC_read rfl (fun _ _ _ h => h) (fun K hK => ?_); apply Exists.intro; refine ⟨fun _ w' _ hC => ?_, ?_⟩; ((obtain ⟨⟨q0, q1, q2⟩, ⟨q3, q4, q5⟩, q6, q7⟩ := HBX.out w' hC); go_simp; try with_reducible rfl); (try go_simp); refine hK _ ?_; clear hK K)
      refine wpC_call rfl (Value.bool true )  20  ( #[.agg #[.int .i64 W', .slice ra R.length R.length, .slice oa O.length O.length], .agg #[.int .i64 W', .slice rb R.length rc, .slice ob O.length oc]]) (fun w' => by go_simp) (fun _ w' _ hC => ?_) (fun K hK => ?_)
      · refine (same_ok W' R O ra oa rb ob R.length O.length rc oc _ _ ga 0 gb 0 w' (HRA.out.same (HCAB.out.trans hC)) (HRB.out.same (HCB.out.trans hC)) HRCL.out (HOAT.out.chg (HCAB.out.trans hC) (fun _ h => h)) HOAP.out (HOBT.out.chg (HCB.out.trans hC) (fun _ h => h)) HOBP.out (by omega) (by omega)).mono ?_
        rintro e w4 ⟨rfl, hc⟩
        exact ⟨rfl, hC.trans hc⟩
      ((try go_simp); refine hK _ ?_; clear hK K)
      (refine wpC_read rfl (fun _ _ _ h => h) (fun K hK => ?_); apply Exists.intro; refine ⟨fun _ w' _ hC => ?_, ?_⟩; ((skip); go_simp; try with_reducible rfl); (try go_simp); refine hK _ ?_; clear hK K)
      (refine wpC_read rfl (fun _ _ _ h => h) (fun K hK => ?_); apply Exists.intro; refine ⟨fun _ w' _ hC => ?_, ?_⟩; ((skip); go_simp; try with_reducible rfl); (try go_simp); refine hK _ ?_; clear hK K)
      (refine wpC_read rfl (fun _ _ _ h => h) (fun K hK => ?_); apply Exists.intro; refine ⟨fun _ w' _ hC => ?_, ?_⟩; ((skip); go_simp; try with_reducible rfl); (try go_simp); refine hK _ ?_; clear hK K)
      (refine wpC_read rfl (fun _ _ _ h => h) (fun K hK => ?_); apply Exists.intro; refine ⟨fun _ w' _ hC => ?_, ?_⟩; ((obtain ⟨⟨q0, q1, q2⟩, ⟨q3, q4, q5⟩, q6, q7⟩ := HBX.out w' hC); go_simp; try with_reducible rfl); (try go_simp); refine hK _ ?_; clear hK K)
      (refine wpC_read rfl (fun _ _ _ h => h) (fun K hK => ?_); apply Exists.intro; refine ⟨fun _ w' _ hC => ?_, ?_⟩; ((skip); go_simp; try with_reducible rfl); (try go_simp); refine hK _ ?_; clear hK K)
      (refine wpC_read rfl (fun _ _ _ h => h) (fun K hK => ?_); apply Exists.intro; refine ⟨fun _ w' _ hC => ?_, ?_⟩; ((obtain ⟨⟨q0, q1, q2⟩, ⟨q3, q4, q5⟩, q6, q7⟩ := HBX.out w' hC); go_simp; try with_reducible rfl); (try go_simp); refine hK _ ?_; clear hK K)
      (refine wpC_read rfl (fun _ _ _ h => h) (fun K hK => ?_); apply Exists.intro; refine ⟨fun _ w' _ hC => ?_, ?_⟩; ((skip); go_simp; try with_reducible rfl); (try go_simp); refine hK _ ?_; clear hK K)
      (refine wpC_read rfl (fun _ _ _ h => h) (fun K hK => ?_); apply Exists.intro; refine ⟨fun _ w' _ hC => ?_, ?_⟩; ((obtain ⟨⟨q0, q1, q2⟩, ⟨q3, q4, q5⟩, q6, q7⟩ := HBX.out w' hC); go_simp; try with_reducible rfl); (try go_simp); refine hK _ ?_; clear hK K)
      refine wpC_call rfl (Value.int .i64 V )  21  ( #[.agg #[.int .i64 W', .slice ra R.length R.length, .slice oa O.length O.length], .int .i64 z0, .int .i64 z1]) (fun w' => by go_simp) (fun _ w' _ hC => ?_) (fun K hK => ?_)
      · refine (atTab_any W' z0 z1 R O ra oa R.length O.length _ ga 0 w' HWB.out HZ0.out HZ1.out (HRA.out.same (HCAB.out.trans hC)) HRCL.out (HOAT.out.chg (HCAB.out.trans hC) (fun _ h => h)) HOAP.out (by omega)).mono ?_
        rintro e w4 ⟨rfl, hc⟩
        exact ⟨by rw [HV.out], hC.trans hc⟩
      ((try go_simp); refine hK _ ?_; clear hK K)
      (refine wpC_read rfl (fun _ _ _ h => h) (fun K hK => ?_); apply Exists.intro; refine ⟨fun _ w' _ hC => ?_, ?_⟩; ((obtain ⟨⟨q0, q1, q2⟩, ⟨q3, q4, q5⟩, q6, q7⟩ := HBX.out w' hC); go_simp; try with_reducible rfl); (try go_simp); refine hK _ ?_; clear hK K)
      (refine wpC_read rfl (fun _ _ _ h => h) (fun K hK => ?_); apply Exists.intro; refine ⟨fun _ w' _ hC => ?_, ?_⟩; ((skip); go_simp; try with_reducible rfl); (try go_simp); refine hK _ ?_; clear hK K)
      (refine wpC_read rfl (fun _ _ _ h => h) (fun K hK => ?_); apply Exists.intro; refine ⟨fun _ w' _ hC => ?_, ?_⟩; ((obtain ⟨⟨q0, q1, q2⟩, ⟨q3, q4, q5⟩, q6, q7⟩ := HBX.out w' hC); go_simp; try with_reducible rfl); (try go_simp); refine hK _ ?_; clear hK K)
      (refine wpC_read rfl (fun _ _ _ h => h) (fun K hK => ?_); apply Exists.intro; refine ⟨fun _ w' _ hC => ?_, ?_⟩; ((skip); go_simp; try with_reducible rfl); (try go_simp); refine hK _ ?_; clear hK K)
      (refine wpC_read rfl (fun _ _ _ h => h) (fun K hK => ?_); apply Exists.intro; refine ⟨fun _ w' _ hC => ?_, ?_⟩; ((obtain ⟨⟨q0, q1, q2⟩, ⟨q3, q4, q5⟩, q6, q7⟩ := HBX.out w' hC); go_simp; try with_reducible rfl); (try go_simp); refine hK _ ?_; clear hK K)
      refine wpC_call rfl (Value.int .i64 V )  22  ( #[.agg #[.int .i64 W', .slice rb R.length rc, .slice ob O.length oc], .int .i64 z0, .int .i64 z1]) (fun w' => by go_simp) (fun _ w' _ hC => ?_) (fun K hK => ?_)
      · refine (refAtTab_any W' z0 z1 R O rb ob rc oc _ gb 0 w' HWB.out HZ0.out HZ1.out (HRB.out.same (HCB.out.trans hC)) HRCL.out (HOBT.out.chg (HCB.out.trans hC) (fun _ h => h)) HOBP.out (by omega)).mono ?_
        rintro e w4 ⟨rfl, hc⟩
        exact ⟨by rw [HV.out], hC.trans hc⟩
      ((try go_simp); refine hK _ ?_; clear hK K)
      (refine wpC_read rfl (fun _ _ _ h => h) (fun K hK => ?_); apply Exists.intro; refine ⟨fun _ w' _ hC => ?_, ?_⟩; ((skip); go_simp; try with_reducible rfl); (try go_simp); refine hK _ ?_; clear hK K)
      (refine wpC_read rfl (fun _ _ _ h => h) (fun K hK => ?_); apply Exists.intro; refine ⟨fun _ w' _ hC => ?_, ?_⟩; ((skip); go_simp; try with_reducible rfl); (try go_simp); refine hK _ ?_; clear hK K)
      refine wpC_nil ?_
      intro wc hCc
      have HCC := Lib.hid hCc
      clear hCc
      go_wp2
      have HTC := Lib.hid (HC2.out.trans (HCAB.out.trans HCC.out))
      go_loopw [13] (fun q wr => ∃ k : Nat, k ≤ LL.length ∧ q = .int .i64 k ∧ Chg (fun _ => False) wc wr) (fun q _ => LL.length - (intOf q).toNat)
      case atStart => exact ⟨0, by omega, rfl, Chg.refl _ _⟩
      case round =>
        obtain ⟨k, hk, rfl, hcw⟩ := hrel
        have HCK := Lib.hid hcw
        have HTK := Lib.hid (HTC.out.trans hcw)
        clear hcw
        by_cases hkl : k < LL.length
        · have b76 : decide ((k : Int) < (LL.length : Int)) = true := by simp; omega
          obtain ⟨l, h, g1, o1, hlk, -, rfl, c0, hrow⟩ := HT.out.get HK.out hkl
          obtain ⟨l', g, o, la, lc, gl, ol, hlk', rfl, c1, hlc, hla, hlp, hgw, -⟩ := (HL.out.same HCW.out).get hkl
          rw [hlk] at hlk'
          obtain rfl := Option.some.inj hlk'
          have hl4 := HLL.out l (List.mem_of_getElem? hlk)
          have HLA := Lib.hid hla
          have HLP : Hid (0 < l.length → la = some ⟨gl, ol, none⟩) := Lib.hid (fun h => (hlp h).1)
          have HROW := Lib.hid hrow
          have HCE : Hid (∀ wx, Chg (fun _ => False) wr wx → wx.cell? ⟨g1, o1 + k, none⟩ = some (.slice (some ⟨h, 0, none⟩) l.length (l.length + 2)) ∧ wx.cell? ⟨g, o + k, none⟩ = some (.slice la l.length lc)) := Lib.hid (fun wx hx =>
            ⟨(HTK.out.trans hx).cellS c0 (fun h => h), (HTK.out.trans hx).cellS c1 (fun h => h)⟩)
          clear hlk hla hlp hlk' hrow c0 c1
          go_upto_region 15 with (fail)
          refine wp_region_same (fun w' => Chg (fun _ => False) wr w') (by kernel_rfl) (by kernel_rfl) ?_ ?_
          · exact (Chg.refl _ _).drew
          (refine wpC_read rfl (fun _ _ _ h => h) (fun K hK => ?_); apply Exists.intro; refine ⟨fun _ w' _ hC => ?_, ?_⟩; ((skip); go_simp; try with_reducible rfl); (try go_simp); refine hK _ ?_; clear hK K)
          (refine wpC_read rfl (fun _ _ _ h => h) (fun K hK => ?_); apply Exists.intro; refine ⟨fun _ w' _ hC => ?_, ?_⟩; ((skip); go_simp; try with_reducible rfl); (try go_simp); refine hK _ ?_; clear hK K)
          (refine wpC_read rfl (fun _ _ _ h => h) (fun K hK => ?_); apply Exists.intro; refine ⟨fun _ w' _ hC => ?_, ?_⟩; ((skip); go_simp; try with_reducible rfl); (try go_simp); refine hK _ ?_; clear hK K)
          (refine wpC_read rfl (fun _ _ _ h => h) (fun K hK => ?_); apply Exists.intro; refine ⟨fun _ w' _ hC => ?_, ?_⟩; ((obtain ⟨q0, q1⟩ := HCE.out w' hC); go_simp; try with_reducible rfl); (try go_simp); refine hK _ ?_; clear hK K)
          (refine wpC_read rfl (fun _ _ _ h => h) (fun K hK => ?_); apply Exists.intro; refine ⟨fun _ w' _ hC => ?_, ?_⟩; ((skip); go_simp; try with_reducible rfl); (try go_simp); refine hK _ ?_; clear hK K)
          (refine wpC_read rfl (fun _ _ _ h => h) (fun K hK => ?_); apply Exists.intro; refine ⟨fun _ w' _ hC => ?_, ?_⟩; ((skip); go_simp; try with_reducible rfl); (try go_simp); refine hK _ ?_; clear hK K)
          (refine wpC_read rfl (fun _ _ _ h => h) (fun K hK => ?_); apply Exists.intro; refine ⟨fun _ w' _ hC => ?_, ?_⟩; ((skip); go_simp; try with_reducible rfl); (try go_simp); refine hK _ ?_; clear hK K)
          (refine wpC_read rfl (fun _ _ _ h => h) (fun K hK => ?_); apply Exists.intro; refine ⟨fun _ w' _ hC => ?_, ?_⟩; ((obtain ⟨q0, q1⟩ := HCE.out w' hC); go_simp; try with_reducible rfl); (try go_simp); refine hK _ ?_; clear hK K)
          refine wpC_call rfl (Value.bool true )  16  ( #[.slice (some ⟨h, 0, none⟩) l.length (l.length + 2), .slice la l.length lc]) (fun w' => by go_simp) (fun _ w' _ hC => ?_) (fun K hK => ?_)
          · refine (leftNums_any l l la h gl ol lc w' (HROW.out.chg (HTK.out.trans hC) (fun h => h)) (HLA.out.chg (HTK.out.trans hC) (fun _ h => h)) HLP.out (by omega)).mono ?_
            rintro e w4 ⟨rfl, hc⟩
            exact ⟨by simp, hC.trans hc⟩
          ((try go_simp); refine hK _ ?_; clear hK K)
          (refine wpC_read rfl (fun _ _ _ h => h) (fun K hK => ?_); apply Exists.intro; refine ⟨fun _ w' _ hC => ?_, ?_⟩; ((skip); go_simp; try with_reducible rfl); (try go_simp); refine hK _ ?_; clear hK K)
          refine wpC_nil ?_
          intro wd hCd
          have HCD := Lib.hid (HCK.out.trans hCd)
          clear hCd
          go_wp2
          go_roundw
          case rel => exact ⟨k + 1, by omega, by go_num, HCD.out⟩
          case measure => simp [intOf]; omega
        · obtain rfl : k = LL.length := by omega
          have b76 : decide ((LL.length : Int) < (LL.length : Int)) = false := by simp
          rcases HE01.out with rfl | rfl
          · obtain ⟨hmay, hWW⟩ := HGOOD.out rfl
            have HMAY := Lib.hid hmay
            have HNN : Hid ((tabNums (W', R, O)).length ≤ 10000000) := Lib.hid (by have := HNUMS.out; omega)
            obtain ⟨P, hP⟩ : ∃ x, putTab (W', R, O) = x := ⟨_, rfl⟩
            have HPL : Hid (P.length ≤ 1000000000) := Lib.hid (by
              rw [← hP]
              have := bytesOf_len (tabNums (W', R, O)) (tabNums_ok hmay).1
              have := HNN.out
              unfold putTab
              omega)
            have HRAW := Lib.hid (HCAB.out.trans (HCC.out.trans HCK.out))
            have HPUT := Lib.hid (put_ok [] W' R O ra oa none R.length O.length 0 0 0 _ ga 0 wr HWB.out (HRA.out.same HRAW.out) (by omega) HRCL.out (HOAT.out.chg HRAW.out (fun _ h => h)) HOAP.out (by omega) hmay (bytesNil _ _ _) (fun h => absurd h (by simp)) (by simp) HNN.out)
            have HDUT := Lib.hid (fun (wx : World) (hx : Chg (fun _ => False) wr wx) => refPutTab_ok [] W' R O rb ob none rc oc 0 0 0 _ gb 0 wx HWB.out (HRB.out.same (HCB.out.trans (HCC.out.trans (HCK.out.trans hx)))) (by omega) HRCL.out (HOBT.out.chg (HCB.out.trans (HCC.out.trans (HCK.out.trans hx))) (fun _ h => h)) HOBP.out (by omega) hmay (bytesNil _ _ _) (fun h => absurd h (by simp)) (by simp) HNN.out)
            simp only [hP, List.nil_append, List.length_nil] at HPUT HDUT
            clear hmay hWW hP
            obtain ⟨⟨q0, q1, q2⟩, ⟨q3, q4, q5⟩, q6, q7⟩ := HBX.out wr (HCC.out.trans HCK.out)
            go_wp2_with fail
            refine HPUT.out.mono ?_
            rintro e w5 ⟨hp, rfl, hhp, hr5, hc5⟩
            have HRP := Lib.hid hr5
            have HC5 := Lib.hid hc5
            have HHP := Lib.hid hhp
            clear hr5 hc5 hhp q0 q1 q2 q3 q4 q5 q6 q7 HPUT
            obtain ⟨⟨q0, q1, q2⟩, ⟨q3, q4, q5⟩, q6, q7⟩ := HBX.out w5 (HCC.out.trans (HCK.out.trans HC5.out))
            go_wp2_with fail
            refine (HDUT.out w5 HC5.out).mono ?_
            rintro e w6 ⟨vd, rfl, hr6, hc6⟩
            obtain ⟨ad, gd, cd, rfl, had, hadp⟩ := hr6.at
            have HAD := Lib.hid had
            have HADP := Lib.hid hadp
            have HC6 := Lib.hid hc6
            clear hr6 hc6 had hadp q0 q1 q2 q3 q4 q5 q6 q7 HDUT
            go_wp2_with fail
            have HK0 : Hid (BookAt (w6.alloc (.cells #[.slice none 0 0] 61)) (w6.heap.size + 1) w6.heap.size (.slice none 0 0) []) :=
              Lib.hid ⟨by rw [World.cell?_alloc_new]; rfl, World.frozen?_alloc_new _ _ _ _, ⟨rfl, .inl ⟨rfl, rfl⟩⟩, by simp, by omega⟩
            have HCK0 := Lib.hid ((Chg.refl (fun _ => False) w6).alloc (.cells #[.slice none 0 0] 61))
            refine (bookBytes_any (w6.heap.size + 1) w6.heap.size _ [] (putPg hp P.length) _ HK0.out (by simp) rfl rfl).mono ?_
            rintro e w7 ⟨v7, rfl, hk7, hc7⟩
            have HK7 := Lib.hid hk7
            have HC7 := Lib.hid ((HCK0.out.any.trans (hc7.mono (T := fun k => w6.heap.size ≤ k) (fun k _ e => by omega))))
            clear hk7 hc7 HK0 HCK0
            obtain ⟨⟨q0, q1, q2⟩, ⟨q3, q4, q5⟩, q6, q7⟩ := HBX.out w7 (HCC.out.trans (HCK.out.trans (HC5.out.trans (HC6.out.trans HC7.out.fresh))))
            have HNM := Lib.hid (bookNums_any (w6.heap.size + 1) w6.heap.size v7 _ (ofPg oa O) w7 HK7.out (by simp) rfl rfl)
            rw [ofPg_v HOA.out] at HNM
            go_wp2_with fail
            refine HNM.out.mono ?_
            rintro e w8 ⟨v8, rfl, hk8, hc8⟩
            have HC8 := Lib.hid (HC7.out.trans (hc8.mono (T := fun k => w6.heap.size ≤ k) (fun k _ e => by omega)))
            have HK8 : Hid (∃ (v : Value) (Lp : List Page), PagesOf (.b (putPg hp P.length)) (.i (ofPg oa O)) H LL 0 Lp ∧ BookAt w8 (w6.heap.size + 1) w6.heap.size v Lp) := Lib.hid ⟨v8, _, PagesOf.start _ _ _ _, hk8⟩
            clear hk8 hc8 q0 q1 q2 q3 q4 q5 q6 q7 HNM HK7 HC7
            go_wp2
            go_loopw [19] (fun q wr => ∃ k : Nat, k ≤ LL.length ∧ q = .int .i64 k ∧ (∃ (v : Value) (Lp : List Page), PagesOf (.b (putPg hp P.length)) (.i (ofPg oa O)) H LL k Lp ∧ BookAt wr (w6.heap.size + 1) w6.heap.size v Lp) ∧ Chg (fun k => w6.heap.size ≤ k) w6 wr) (fun q _ => LL.length - (intOf q).toNat)
            case atStart => exact ⟨0, by omega, rfl, HK8.out, HC8.out⟩
            case round =>
              clear HK8 HC8
              obtain ⟨k, hk, rfl, ⟨vb, Lp, hpg, hbk⟩, hcw⟩ := hrel
              have HPG := Lib.hid hpg
              have HBK := Lib.hid hbk
              have HCF := Lib.hid hcw
              have HRW := Lib.hid (HCC.out.trans (HCK.out.trans (HC5.out.trans (HC6.out.trans hcw.fresh))))
              clear hpg hbk hcw
              by_cases hkl : k < LL.length
              · have b111 : decide ((k : Int) < (LL.length : Int)) = true := by simp; omega
                obtain ⟨l, h, g1, o1, hlk, hhk, rfl, c0, hrow⟩ := HT.out.get HK.out hkl
                have c1 := (HTC.out.trans (HCK.out.trans (HC5.out.trans (HC6.out.trans HCF.out.fresh)))).cellS c0 (fun h => h)
                have HNEXT := Lib.hid (HPG.out.add hhk hlk)
                have hlen := HPG.out.len
                have HNM := Lib.hid (bookNums_any (w6.heap.size + 1) w6.heap.size vb Lp (twinPg (k + 3) h l) wr HBK.out (by omega) (by rw [hlen]; show ((k + 3 : Nat) : Int) = _; omega) (by rw [hlen]; show -((k + 3 : Nat) : Int) = _; omega))
                clear c0 hrow hlk hhk hlen
                go_wp2_with fail
                refine HNM.out.mono ?_
                rintro e w9 ⟨v9, rfl, hk9, hc9⟩
                have HK9 := Lib.hid hk9
                have HC9 := Lib.hid (HCF.out.trans (hc9.mono (T := fun k => w6.heap.size ≤ k) (fun k _ e => by omega)))
                clear hk9 hc9 c1 HNM
                go_wp2
                go_roundw
                case rel => exact ⟨k + 1, by omega, by go_num, ⟨v9, _, HNEXT.out, HK9.out⟩, HC9.out⟩
                case measure => simp [intOf]; omega
              · obtain rfl : k = LL.length := by omega
                have b111 : decide ((LL.length : Int) < (LL.length : Int)) = false := by simp
                have HAP : Hid (∀ wx, Chg (fun _ => False) wr wx → Calls Try.prog 29 #[.pointer (some ⟨w6.heap.size, 0, none⟩)] wx fun e w' => e = .returned (.bool true) ∧ Chg (fun k => w1.heap.size ≤ k) wx w') := Lib.hid (fun wx hx => by
                  have hsz6 : w5.heap.size ≤ w6.heap.size := HC6.out.size
                  have hszr := (HTC.out.trans HCK.out).size
                  have hszt := HT.out.chg.size
                  have hsz5 := HC5.out.size
                  have hsz2 := HC2.out.size
                  have hszab := (HCAB.out.trans (HCC.out.trans HCK.out)).size
                  have hhp := HHP.out
                  have hrp := HRP.out.lt
                  have hbx := HBK.out.chg hx (fun h => h) (fun _ _ _ h => h)
                  have hlen := HPG.out.len
                  have h6 := HC6.out.trans (HCF.out.fresh.trans hx)
                  by_cases hn : Lp.length ≤ 120
                  · have hof : ∀ g, (Page.i (ofPg oa O)).g = some g → g < w2.heap.size ∧ g ∉ H := by
                      intro g hg
                      rcases HOA.out with ⟨_, rfl⟩ | ⟨g', rfl, h1, h2⟩
                      · cases hg
                      · obtain rfl : g' = g := by injection hg
                        exact ⟨h1.lt, fun hm => by have := (HT.out.out g' hm).2.1; omega⟩
                    have hofge : ∀ g, (Page.i (ofPg oa O)).g = some g → w1.heap.size ≤ g := by
                      intro g hg
                      rcases HOA.out with ⟨_, rfl⟩ | ⟨g', rfl, h1, h2⟩
                      · cases hg
                      · obtain rfl : g' = g := by injection hg
                        omega
                    have hput : ∀ g, (Page.b (putPg hp P.length)).g = some g → g = hp := fun g hg => by injection hg with hg; exact hg.symm
                    have hblk := fun (T : Nat → Prop) => HPG.out.blocks T
                    refine (apart_any (w6.heap.size + 1) w6.heap.size vb Lp wx hbx hn
                      (HPG.out.pages (putPg_st (HRP.out.chg h6 (fun h => h)) rfl (by have := HPL.out; omega)) (ofPg_st (HOA.out.same (HCAB.out.trans (HCC.out.trans (HCK.out.trans (HC5.out.trans h6))))) (by omega)) (fun j h l hj hl => (HT.out.row j h l hj hl).chg (HTC.out.trans (HCK.out.trans (HC5.out.trans h6))) (fun h => h)) (fun l hl => by have := HLL.out l hl; omega) (by omega))
                      (hblk (fun g => g < w6.heap.size) (fun g hg => by rw [hput g hg]; omega) (fun g hg => by have := (hof g hg).1; omega) (fun h hh => by have := (HT.out.out h hh).2.1; omega))
                      (HPG.out.apart HT.out.nodup (fun g hg hg' => by have := (hof g hg').1; rw [hput g hg] at this; omega) (fun g hg hm => by rw [hput g hg] at hm; have := (HT.out.out hp hm).2.1; omega) (fun g hg => (hof g hg).2))).mono ?_
                    rintro e w' ⟨h1, h2⟩
                    refine ⟨h1, h2.mono fun g _ ⟨p, hp', hg⟩ => ?_⟩
                    exact hblk (fun g => w1.heap.size ≤ g) (fun g hg => by rw [hput g hg]; omega) hofge (fun h hh => (HT.out.out h hh).1) p hp' g hg
                  · refine (apart_many (w6.heap.size + 1) w6.heap.size vb Lp wx hbx (by omega) (by omega)).mono ?_
                    rintro e w' ⟨h1, h2⟩
                    exact ⟨h1, h2.any⟩)
                have HSP := Lib.hid (sameBytes_any P P (some ⟨hp, 0, none⟩) ad hp 0 gd 0 P.length cd wr ((HRP.out.chg (HC6.out.trans HCF.out.fresh) (fun h => h)).bytes (List.prefix_refl _)) (fun _ => rfl) (HAD.out.chg HCF.out.fresh (fun _ h => h)) HADP.out (by have := HPL.out; omega))
                have HMY := Lib.hid (fun (wx : World) (hx : Chg (fun _ => False) wr wx) => may_any W' R O ra oa R.length O.length _ ga 0 wx HWB.out (HRA.out.same (HCAB.out.trans (HRW.out.trans hx))) (by omega) HRCL.out (HOAT.out.chg (HCAB.out.trans (HRW.out.trans hx)) (fun _ h => h)) HOAP.out (by omega))
                simp only [HMAY.out] at HMY
                simp only [decide_true] at HSP
                have e3 : ((0 : Int) == 0) = true := by decide
                go_wp2_with fail
                refine HSP.out.mono ?_
                rintro e w7 ⟨rfl, hc7⟩
                have HC7 := Lib.hid hc7
                clear hc7
                obtain ⟨⟨q0, q1, q2⟩, ⟨q3, q4, q5⟩, q6, q7⟩ := HBX.out w7 (HRW.out.trans HC7.out)
                go_wp2_with fail
                refine (HMY.out w7 HC7.out).mono ?_
                rintro e w8 ⟨rfl, hc8⟩
                have HC8 := Lib.hid (HC7.out.trans hc8)
                clear hc8 q0 q1 q2 q3 q4 q5 q6 q7
                go_wp2_with fail
                refine (HAP.out w8 HC8.out).mono ?_
                rintro e w9 ⟨rfl, hc9⟩
                have HC9 := Lib.hid hc9
                clear hc9
                go_wp2_with fail
                refine (lives_any w9).mono ?_
                rintro e w10 ⟨rfl, hc10⟩
                have HEND : Hid (Chg (fun _ => False) w w10) := Lib.hid (HC1.out.trans (((((HT.out.chg.trans (HTC.out.trans (HCK.out.trans (HC5.out.trans (HC6.out.trans (HCF.out.fresh.trans HC8.out))))).any).trans HC9.out).trans hc10.any)).fresh))
                clear hc10
                go_wp2
                go_ret
                exact ⟨rfl, HEND.out⟩
          · have b90 : ((1 : Int) != 0) = true := by decide
            go_wp2_with fail
            refine (lives_any wr).mono ?_
            rintro e w5 ⟨rfl, hc5⟩
            have HCF := Lib.hid (HC1.out.trans (HT.out.chg.fresh.trans (HTK.out.trans hc5)))
            clear hc5
            go_wp2
            go_ret
            exact ⟨rfl, HCF.out⟩
end Go.Proofs.Ytkfakkonlnjckaa
