/- A table's bytes: the document's Put. -/
import Derived.Test.YtkfakkonlnjckaaRefMay
import Derived.Test.YtkfakkonlnjckaaRowsQ
namespace Go.Proofs.Ytkfakkonlnjckaa
open Go.RowKit

/-- A list of numbers being put together. -/
structure NumSt (w0 w : World) (v : Value) (N : List Int) : Prop where
  own : intE.Own w w0.heap.size v N
  chg : Chg (fun k => w0.heap.size ≤ k) w0 w
theorem NumSt.same {w0 w w' : World} {v : Value} {N : List Int} (h : NumSt w0 w v N) (hc : Chg (fun _ => False) w w') : NumSt w0 w' v N :=
  ⟨h.own.chg hc (fun _ _ _ h => h), h.chg.trans hc.any⟩
theorem NumSt.add {w0 w w' : World} {v v' : Value} {N Y : List Int} (h : NumSt w0 w v N) (ho : intE.Own w' w0.heap.size v' (N ++ Y)) (hc : Chg (fun k => w0.heap.size ≤ k) w w') : NumSt w0 w' v' (N ++ Y) := ⟨ho, h.chg.trans hc⟩
/-- A block that is not the list's. -/
structure ApB (w : World) (v : Value) (b : Nat) : Prop where
  lt : b < w.heap.size
  out : v.ownBlock ≠ some b
theorem ApB.next {w w' : World} {v v' : Value} {b : Nat} (h : ApB w v b) (hc : Chg (fun k => v.ownBlock = some k) w w') (hb : v'.ownBlock = v.ownBlock ∨ v'.ownBlock = some w.heap.size) : ApB w' v' b :=
  ⟨Nat.lt_of_lt_of_le h.lt hc.size, fun e => by
    rcases hb with hb | hb
    · rw [hb] at e; exact h.out e
    · rw [hb] at e; have := h.lt; injection e with e; omega⟩
theorem ApB.same {w w' : World} {v : Value} {b : Nat} (h : ApB w v b) (hc : Chg (fun _ => False) w w') : ApB w' v b := ⟨Nat.lt_of_lt_of_le h.lt hc.size, h.out⟩
theorem ApB.keep {w w' : World} {v : Value} {b : Nat} (h : ApB w v b) (hc : Chg (fun k => v.ownBlock = some k) w w') {j : Nat} {u : Value} (hu : w.cell? ⟨b, j, none⟩ = some u) : w'.cell? ⟨b, j, none⟩ = some u := hc.cellS hu h.out

set_option maxRecDepth 100000 in
set_option maxHeartbeats 8000000 in
theorem refPutTab_bad (W : Int) (R : List RowD) (O : List Int) (ra oa ab : Option Addr) (rc oc nb cb B g o : Nat) (w : World) (hW : I.Byte W) (hR : RowsIn cellR rowR w B (ra, R.length, rc) R) (hrl : R.length ≤ 100000000) (hcl : ∀ r ∈ R, r.2.length ≤ 1000000000)
    (hO : I.BytesAt w g o O) (ha : 0 < O.length → oa = some ⟨g, o, none⟩) (hol : O.length ≤ 100000000) (hm : mayL (W, R, O) = false) :
    Calls Try.prog 24 #[.slice ab nb cb, .agg #[.int .i64 W, .slice ra R.length rc, .slice oa O.length oc]] w fun e w' => e = .returned (.tuple #[.slice none 0 0, .int .i64 1]) ∧ Chg (fun _ => False) w w' := by
  have HC0 := Lib.hid ((Chg.refl (fun _ => False) w).alloc (.cells #[.int .i64 W, .slice ra R.length rc, .slice oa O.length oc] 50))
  have HR := Lib.hid hR
  have HO := Lib.hid hO
  have HA := Lib.hid ha
  have HCL := Lib.hid hcl
  have HM := Lib.hid hm
  clear hR hO ha hcl hm
  go_enter Try.func24, Try.ntmps24
  go_wp2_with fail
  refine (refMay_any W R O ra oa rc oc B g o _ hW (HR.out.same HC0.out) hrl HCL.out (HO.out.chg HC0.out (fun _ h => h)) HA.out hol).mono ?_
  rintro e w2 ⟨rfl, hc2⟩
  rw [HM.out]
  have HC2 := Lib.hid (HC0.out.trans hc2)
  clear hc2
  go_wp2
  go_ret2
  exact ⟨rfl, HC2.out⟩

theorem srcInts {w : World} {B : Nat} {v : Value} {N : List Int} (h : intE.Own w B v N) : ∃ a c g, v = .slice a N.length c ∧ I.BytesAt w g 0 N ∧ (0 < N.length → a = some ⟨g, 0, none⟩) ∧ (0 < N.length → B ≤ g ∧ g < w.heap.size) := by
  rcases h with ⟨rfl, rfl⟩ | ⟨g, C, h1, h2, h3, h4, h5⟩
  · exact ⟨none, 0, 0, rfl, ⟨fun k a hk => by simp at hk, fun h => (h rfl).elim⟩, fun h => by simp at h, fun h => by simp at h⟩
  · exact ⟨_, _, g, h1, (intRow.1 h3).bytes h4, fun _ => rfl, fun _ => ⟨h2, h3.lt⟩⟩

set_option maxRecDepth 100000 in
set_option maxHeartbeats 16000000 in
theorem refPutTab_ok (Z : List Int) (W : Int) (R : List RowD) (O : List Int) (ra oa ab : Option Addr) (rc oc cb gb ob B g o : Nat) (w : World) (hW : I.Byte W) (hR : RowsIn cellR rowR w B (ra, R.length, rc) R) (hrl : R.length ≤ 100000000) (hcl : ∀ r ∈ R, r.2.length ≤ 1000000000)
    (hO : I.BytesAt w g o O) (ha : 0 < O.length → oa = some ⟨g, o, none⟩) (hol : O.length ≤ 100000000) (hm : mayL (W, R, O) = true)
    (hb : BytesAt w gb ob Z) (hab : 0 < Z.length → ab = some ⟨gb, ob, none⟩) (hzl : Z.length ≤ 1000000) (hN : (tabNums (W, R, O)).length ≤ 10000000) :
    Calls Try.prog 24 #[.slice ab Z.length cb, .agg #[.int .i64 W, .slice ra R.length rc, .slice oa O.length oc]] w fun e w' => ∃ v, e = .returned (.tuple #[v, .int .i64 0]) ∧ Own w' w.heap.size v (Z ++ putTab (W, R, O)) ∧ Chg (fun _ => False) w w' := by
  have HC0 := Lib.hid ((Chg.refl (fun _ => False) w).alloc (.cells #[.int .i64 W, .slice ra R.length rc, .slice oa O.length oc] 50))
  have HB0 : Hid (∀ wr, Chg (fun _ => False) (w.alloc (.cells #[.int .i64 W, .slice ra R.length rc, .slice oa O.length oc] 50)) wr → wr.cell? ⟨w.heap.size, 0, none⟩ = some (.int .i64 W) ∧ wr.cell? ⟨w.heap.size, 1, none⟩ = some (.slice ra R.length rc) ∧ wr.cell? ⟨w.heap.size, 2, none⟩ = some (.slice oa O.length oc) ∧ w.heap.size < wr.heap.size) := Lib.hid fun wr hc =>
    ⟨hc.cellS (by simp) (fun h => h), hc.cellS (by simp) (fun h => h), hc.cellS (by simp) (fun h => h), by have := hc.size; simp at this; omega⟩
  have HR := Lib.hid hR
  have HO := Lib.hid hO
  have HA := Lib.hid ha
  have HCL := Lib.hid hcl
  have HM := Lib.hid hm
  have HBZ := Lib.hid hb
  have HAB := Lib.hid hab
  have HT := Lib.hid (tabNums_ok hm).1
  have HNL := Lib.hid hN
  have HFB : Hid (∀ r ∈ R, isVal r.1 ∧ ∀ n ∈ rowPut r, 0 ≤ n ∧ n < 4294967296) := Lib.hid (fun r hr => by
    obtain ⟨q1, -, q3, -⟩ := mayL_spec hm
    have := fine_bounds (by omega) (q3 r hr)
    exact ⟨this.1, this.2.2⟩)
  have HRT := Lib.hid (HT.out R.length (by simp [tabNums]))
  have HOT := Lib.hid (HT.out O.length (by simp [tabNums]))
  have HWT := Lib.hid (HT.out W (by simp [tabNums]))
  have HOI : Hid (∀ n ∈ tabNums (W, R, O), I.Byte n) := Lib.hid (fun n hn => by have := HT.out n hn; exact ⟨by omega, by omega⟩)
  clear hR hO ha hcl hm hb hab hN
  go_enter Try.func24, Try.ntmps24
  go_wp2_with fail
  refine (refMay_any W R O ra oa rc oc B g o _ hW (HR.out.same HC0.out) hrl HCL.out (HO.out.chg HC0.out (fun _ h => h)) HA.out hol).mono ?_
  rintro e w2 ⟨rfl, hc2⟩
  rw [HM.out]
  obtain ⟨b0, b1, b2, hb3⟩ := HB0.out w2 hc2
  have HC2 := Lib.hid (HC0.out.trans hc2)
  have HBB : Hid (∀ wr, Chg (fun k => w2.heap.size ≤ k) w2 wr → wr.cell? ⟨w.heap.size, 0, none⟩ = some (.int .i64 W) ∧ wr.cell? ⟨w.heap.size, 1, none⟩ = some (.slice ra R.length rc) ∧ wr.cell? ⟨w.heap.size, 2, none⟩ = some (.slice oa O.length oc)) := Lib.hid fun wr hc =>
    ⟨hc.cellS b0 (by show ¬ w2.heap.size ≤ w.heap.size; omega), hc.cellS b1 (by show ¬ w2.heap.size ≤ w.heap.size; omega), hc.cellS b2 (by show ¬ w2.heap.size ≤ w.heap.size; omega)⟩
  have HS0 : Hid (NumSt w2 (w2.alloc (.cells #[.int .i64 W, .int .i64 R.length] 3)) (.slice (some ⟨w2.heap.size, 0, none⟩) 2 2) ([W, (R.length : Int)] ++ (R.take 0).flatMap rowPut)) := Lib.hid ⟨.inr ⟨w2.heap.size, [W, (R.length : Int)], rfl, Nat.le_refl _, intRow.2 (I.Row.alloc w2 [W, (R.length : Int)] 3 (by
    intro x hx
    rcases List.mem_cons.1 hx with rfl | hx
    · exact ⟨by have := HWT.out; omega, by have := HWT.out; omega⟩
    · rcases List.mem_cons.1 hx with rfl | hx
      · exact ⟨by have := HRT.out; omega, by have := HRT.out; omega⟩
      · cases hx)), by simp, by show (2 : Nat) ≤ maxLen; decide⟩, (Chg.refl _ _).alloc _⟩
  clear hc2 HB0
  go_wp2
  go_loopw [6, 7] (fun v q wr => ∃ k : Nat, k ≤ R.length ∧ q = .int .i64 k ∧ NumSt w2 wr v ([W, (R.length : Int)] ++ (R.take k).flatMap rowPut)) (fun _ q _ => R.length - (intOf q).toNat)
  case atStart => exact ⟨0, by omega, rfl, HS0.out⟩
  case round =>
    clear HS0 b0 b1 b2
    obtain ⟨k, hk, rfl, hs⟩ := hrel
    have HS := Lib.hid hs
    obtain ⟨b0, b1, b2⟩ := HBB.out wr hs.chg
    have HCW := Lib.hid (HC2.out.trans hs.chg.fresh)
    obtain ⟨va, vn, vc, hva⟩ := hs.own.shape3
    subst hva
    clear hs
    by_cases hkl : k < R.length
    · have b26 : decide ((k : Int) < (R.length : Int)) = true := by simp; omega
      obtain ⟨r, g', o', xa, xc, hr, rfl, c0, c1, hrb, hin, -, -⟩ := HR.out.get rfl (fun _ => rfl) hkl
      obtain ⟨rd, rl⟩ := r
      simp only at c0 c1 hin hrb
      have c0 := HCW.out.cellS c0 (fun h => h)
      have c1 := HCW.out.cellS c1 (fun h => h)
      obtain ⟨hv, hrn⟩ := HFB.out _ (List.mem_of_getElem? hr)
      simp only at hv
      have HRN := Lib.hid hrn
      have HRL : Hid (rl.length ≤ 1000000000) := Lib.hid (HCL.out _ (List.mem_of_getElem? hr))
      have HTK : Hid (([W, (R.length : Int)] ++ (R.take (k + 1)).flatMap rowPut) = ([W, (R.length : Int)] ++ (R.take k).flatMap rowPut) ++ rowPut (rd, rl)) := Lib.hid (by rw [List.take_add_one, hr]; simp)
      have HSP := Lib.hid (rowSplit (W := W) (O := O) hr)
      obtain ⟨P, hP⟩ : ∃ P, [W, (R.length : Int)] ++ (R.take k).flatMap rowPut = P := ⟨_, rfl⟩
      have HPL : Hid (P.length + (rowPut (rd, rl)).length ≤ 10000000) := Lib.hid (by
        have h1 := congrArg List.length HSP.out
        have h2 := HNL.out
        have h3 := congrArg List.length hP
        simp only [List.length_append, List.length_cons, List.length_nil] at h1 h3
        omega)
      rw [hP] at HTK HS
      obtain ⟨bb, hbb⟩ : ∃ n, n = wr.heap.size := ⟨_, rfl⟩
      obtain ⟨wb, hwb⟩ : ∃ x, x = wr.alloc (.cells #[.int .i64 rd, .slice xa rl.length xc] 33) := ⟨_, rfl⟩
      have HWRB : Hid (Chg (fun _ => False) wr wb) := Lib.hid (by rw [hwb]; exact (Chg.refl _ _).alloc _)
      have HIN := Lib.hid hin
      have HXX : Hid (wb.cell? ⟨bb, 0, none⟩ = some (.int .i64 rd) ∧ wb.cell? ⟨bb, 1, none⟩ = some (.slice xa rl.length xc)) := Lib.hid (by rw [hwb, hbb]; exact ⟨by simp, by simp⟩)
      have HWB := Lib.hid hwb
      have HBE := Lib.hid hbb
      have HSB := Lib.hid (HS.out.same HWRB.out)
      have HAP : Hid (ApB wb (.slice va vn vc) bb) := Lib.hid ⟨by rw [hwb, hbb]; simp, fun e => by have := (HS.out.own.blk e).2; omega⟩
      have hrl9 := HRL.out
      clear hr hin hrb hwb hrn hP hbb
      go_upto_region 8 with (fail)
      rw [← HWB.out]
      try rw [← HBE.out]
      clear c0 c1 b0 b1 b2
      obtain ⟨x0, x1⟩ := HXX.out
      have HSL := Lib.hid (HSB.out.same ((Chg.refl (fun _ => False) wb).alloc (.cells #[.int .i64 (rd + 1), .int .i64 rl.length] 3)))
      have HAL := Lib.hid (HAP.out.same ((Chg.refl (fun _ => False) wb).alloc (.cells #[.int .i64 (rd + 1), .int .i64 rl.length] 3)))
      have HXL : Hid ((wb.alloc (.cells #[.int .i64 (rd + 1), .int .i64 rl.length] 3)).cell? ⟨bb, 0, none⟩ = some (.int .i64 rd) ∧ (wb.alloc (.cells #[.int .i64 (rd + 1), .int .i64 rl.length] 3)).cell? ⟨bb, 1, none⟩ = some (.slice xa rl.length xc)) := Lib.hid ⟨((Chg.refl (fun _ => False) wb).alloc _).cellS x0 (fun h => h), ((Chg.refl (fun _ => False) wb).alloc _).cellS x1 (fun h => h)⟩
      have HOKI : Hid (∀ x ∈ [rd + 1, (rl.length : Int)], intE.ok x) := Lib.hid (by
        intro x hx
        have := HRN.out x (by simp only [rowPut, List.mem_cons]; rcases List.mem_cons.1 hx with h | h; · exact .inl h
                              · exact .inr (.inl (List.mem_singleton.1 h)))
        exact ⟨by omega, by omega⟩)
      have HBL : Hid (w2.heap.size ≤ (wb.alloc (.cells #[.int .i64 (rd + 1), .int .i64 rl.length] 3)).heap.size) := Lib.hid HSL.out.chg.size
      have HPX : Hid (P.length + 2 ≤ 1000000000000) := Lib.hid (by have := HPL.out; omega)
      go_upto_region 9 with (at_builtin; refine Elt.wpList_append2 intE rfl (.tmp 34) (.tmp 41) 22 22 rfl rfl w2.heap.size (.slice va vn vc) P [rd + 1, (rl.length : Int)] (.slice (some ⟨wb.heap.size, 0, none⟩) 2 2) rfl rfl HSL.out.own HBL.out (intE.srcLit 2 HOKI.out) HOKI.out HPX.out ?_; intro v3 w3 H1 H2 H3)
      obtain ⟨va3, vn3, vc3, hv3⟩ := H1.out.shape3
      subst hv3
      have HS3 := Lib.hid (HSL.out.add H1.out H2.out)
      have HA3 := Lib.hid (HAL.out.next H3.out.1 H3.out.2)
      have HX3 : Hid (w3.cell? ⟨bb, 0, none⟩ = some (.int .i64 rd) ∧ w3.cell? ⟨bb, 1, none⟩ = some (.slice xa rl.length xc)) := Lib.hid ⟨HAL.out.keep H3.out.1 HXL.out.1, HAL.out.keep H3.out.1 HXL.out.2⟩
      have HP0 : Hid (P ++ [rd + 1, (rl.length : Int)] = P ++ ([rd + 1, (rl.length : Int)] ++ cellsPut 0 (rl.take 0))) := Lib.hid (by simp [cellsPut])
      rw [HP0.out] at HS3
      clear x0 x1 HSL HAL HXL HSB HAP HXX HP0 H1 H2 H3 HS
      go_wp2
      go_loopw [6, 9] (fun v q wx => ∃ j : Nat, j ≤ rl.length ∧ q = .int .i64 j ∧ NumSt w2 wx v (P ++ ([rd + 1, (rl.length : Int)] ++ cellsPut 0 (rl.take j))) ∧ ApB wx v bb ∧ (wx.cell? ⟨bb, 0, none⟩ = some (.int .i64 rd) ∧ wx.cell? ⟨bb, 1, none⟩ = some (.slice xa rl.length xc))) (fun _ q _ => rl.length - (intOf q).toNat)
      case atStart => exact ⟨0, by omega, rfl, HS3.out, HA3.out, HX3.out⟩
      case round =>
        clear HS3 HA3 HX3
        obtain ⟨j, hj, rfl, hs, hap, x0, x1⟩ := hrel
        have HS := Lib.hid hs
        have HAP := Lib.hid hap
        have HXX := Lib.hid (And.intro x0 x1)
        have HCX := Lib.hid (HC2.out.trans hs.chg.fresh)
        obtain ⟨va, vn, vc, hva⟩ := hs.own.shape3
        subst hva
        clear hs hap
        by_cases hjl : j < rl.length
        · have b47 : decide ((j : Int) < (rl.length : Int)) = true := by simp; omega
          obtain ⟨p, g5, o5, u, v, hp, rfl, he, c0, c1, hpb, -, -⟩ := (HIN.out.same HCX.out).get2 rfl hjl
          obtain ⟨rfl, rfl⟩ := pairOf he
          obtain ⟨p0, p1⟩ := p
          simp only at c0 c1 hpb
          have HTJ : Hid (cellsPut 0 (rl.take (j + 1)) = cellsPut 0 (rl.take j) ++ [p0 - lastOf 0 (rl.take j), p1 + 1]) := Lib.hid (by rw [List.take_add_one, hp]; exact cellsPut_snoc _ _ _)
          have HCS := Lib.hid (cellSplit (d := rd) hp)
          have hpx := HRN.out (p0 - lastOf 0 (rl.take j)) (by rw [HCS.out]; simp)
          have hpy := HRN.out (p1 + 1) (by rw [HCS.out]; simp)
          have HPX : Hid ((P ++ ([rd + 1, (rl.length : Int)] ++ cellsPut 0 (rl.take j))).length + 2 ≤ 1000000000000) := Lib.hid (by
            have h1 := congrArg List.length HCS.out
            have h2 := HPL.out
            simp only [List.length_append, List.length_cons, List.length_nil] at h1 ⊢
            omega)
          clear hp he
          rcases Nat.eq_zero_or_pos j with h0 | h0
          · have HLA : Hid (p0 - lastOf 0 (rl.take j) = p0) := Lib.hid (by rw [h0]; simp [lastOf])
            rw [HLA.out] at hpx
            have b57 : decide (0 < j) = false := by simp; omega
            clear h0

            have HOKI : Hid (∀ x ∈ [p0, p1 + 1], intE.ok x) := Lib.hid (by
              intro x hx
              rcases List.mem_cons.1 hx with rfl | h
              · exact ⟨by omega, by omega⟩
              · rw [List.mem_singleton.1 h]; exact ⟨by omega, by omega⟩)
            have HSL := Lib.hid (HS.out.same ((Chg.refl (fun _ => False) wr).alloc (.cells #[.int .i64 (p0), .int .i64 (p1 + 1)] 3)))
            have HAL := Lib.hid (HAP.out.same ((Chg.refl (fun _ => False) wr).alloc (.cells #[.int .i64 (p0), .int .i64 (p1 + 1)] 3)))
            have HXL : Hid ((wr.alloc (.cells #[.int .i64 (p0), .int .i64 (p1 + 1)] 3)).cell? ⟨bb, 0, none⟩ = some (.int .i64 rd) ∧ (wr.alloc (.cells #[.int .i64 (p0), .int .i64 (p1 + 1)] 3)).cell? ⟨bb, 1, none⟩ = some (.slice (some ⟨g5, o5, none⟩) rl.length xc)) := Lib.hid ⟨((Chg.refl (fun _ => False) wr).alloc _).cellS x0 (fun h => h), ((Chg.refl (fun _ => False) wr).alloc _).cellS x1 (fun h => h)⟩
            have HBL : Hid (w2.heap.size ≤ (wr.alloc (.cells #[.int .i64 (p0), .int .i64 (p1 + 1)] 3)).heap.size) := Lib.hid HSL.out.chg.size
            go_wp2_with (at_builtin; refine Elt.wpList_append2 intE rfl (.tmp 67) (.tmp 76) 22 22 rfl rfl w2.heap.size (.slice va vn vc) (P ++ ([rd + 1, (rl.length : Int)] ++ cellsPut 0 (rl.take j))) [p0, p1 + 1] (.slice (some ⟨wr.heap.size, 0, none⟩) 2 2) rfl rfl HSL.out.own HBL.out (intE.srcLit 2 HOKI.out) HOKI.out HPX.out ?_; intro v3 w3 H1 H2 H3; obtain ⟨va3, vn3, vc3, hv3⟩ := H1.out.shape3; subst hv3; have HS3 : Hid (NumSt w2 w3 (.slice va3 vn3 vc3) (P ++ ([rd + 1, (rl.length : Int)] ++ cellsPut 0 (rl.take (j + 1))))) := Lib.hid (by have := HSL.out.add H1.out H2.out; rw [HTJ.out, HLA.out, ← List.append_assoc [rd + 1, (rl.length : Int)], ← List.append_assoc P]; exact this); have HA3 := Lib.hid (HAL.out.next H3.out.1 H3.out.2); have HX3 : Hid (w3.cell? ⟨bb, 0, none⟩ = some (.int .i64 rd) ∧ w3.cell? ⟨bb, 1, none⟩ = some (.slice (some ⟨g5, o5, none⟩) rl.length xc)) := Lib.hid ⟨HAL.out.keep H3.out.1 HXL.out.1, HAL.out.keep H3.out.1 HXL.out.2⟩; clear H1 H2 H3)
            go_roundw
            case rel => exact ⟨j + 1, by omega, by go_num, HS3.out, HA3.out, HX3.out⟩
            case measure => simp [intOf]; omega
          · obtain ⟨m, hm⟩ : ∃ m, j = m + 1 := ⟨j - 1, by omega⟩
            obtain ⟨q, g6, o6, u, v, hq, e6, he, d0, d1, hqb, -, -⟩ := (HIN.out.same HCX.out).get2 rfl (show m < rl.length by omega)
            obtain ⟨rfl, rfl⟩ := pairOf he
            injection e6 with e6
            injection e6 with e6 e7
            subst e6 e7
            obtain ⟨q0, q1⟩ := q
            simp only at d0 d1 hqb
            have HLA : Hid (p0 - lastOf 0 (rl.take j) = p0 - q0) := Lib.hid (by rw [hm, List.take_add_one, hq]; simp [lastOf])
            rw [HLA.out] at hpx
            have b57 : decide (0 < j) = true := by simp; omega
            have hjm : wrap64 ((j : Int) - 1) = (m : Int) := by unfold wrap64; omega
            have hml : m < rl.length := by omega
            have hjm2 : (j : Int) - 1 = (m : Int) := by omega
            clear hq he d1 hm h0
            have HOKI : Hid (∀ x ∈ [p0 - q0, p1 + 1], intE.ok x) := Lib.hid (by
              intro x hx
              rcases List.mem_cons.1 hx with rfl | h
              · exact ⟨by omega, by omega⟩
              · rw [List.mem_singleton.1 h]; exact ⟨by omega, by omega⟩)
            have HSL := Lib.hid (HS.out.same ((Chg.refl (fun _ => False) wr).alloc (.cells #[.int .i64 (p0 - q0), .int .i64 (p1 + 1)] 3)))
            have HAL := Lib.hid (HAP.out.same ((Chg.refl (fun _ => False) wr).alloc (.cells #[.int .i64 (p0 - q0), .int .i64 (p1 + 1)] 3)))
            have HXL : Hid ((wr.alloc (.cells #[.int .i64 (p0 - q0), .int .i64 (p1 + 1)] 3)).cell? ⟨bb, 0, none⟩ = some (.int .i64 rd) ∧ (wr.alloc (.cells #[.int .i64 (p0 - q0), .int .i64 (p1 + 1)] 3)).cell? ⟨bb, 1, none⟩ = some (.slice (some ⟨g5, o5, none⟩) rl.length xc)) := Lib.hid ⟨((Chg.refl (fun _ => False) wr).alloc _).cellS x0 (fun h => h), ((Chg.refl (fun _ => False) wr).alloc _).cellS x1 (fun h => h)⟩
            have HBL : Hid (w2.heap.size ≤ (wr.alloc (.cells #[.int .i64 (p0 - q0), .int .i64 (p1 + 1)] 3)).heap.size) := Lib.hid HSL.out.chg.size
            go_wp2_with (at_builtin; refine Elt.wpList_append2 intE rfl (.tmp 67) (.tmp 76) 22 22 rfl rfl w2.heap.size (.slice va vn vc) (P ++ ([rd + 1, (rl.length : Int)] ++ cellsPut 0 (rl.take j))) [p0 - q0, p1 + 1] (.slice (some ⟨wr.heap.size, 0, none⟩) 2 2) rfl rfl HSL.out.own HBL.out (intE.srcLit 2 HOKI.out) HOKI.out HPX.out ?_; intro v3 w3 H1 H2 H3; obtain ⟨va3, vn3, vc3, hv3⟩ := H1.out.shape3; subst hv3; have HS3 : Hid (NumSt w2 w3 (.slice va3 vn3 vc3) (P ++ ([rd + 1, (rl.length : Int)] ++ cellsPut 0 (rl.take (j + 1))))) := Lib.hid (by have := HSL.out.add H1.out H2.out; rw [HTJ.out, HLA.out, ← List.append_assoc [rd + 1, (rl.length : Int)], ← List.append_assoc P]; exact this); have HA3 := Lib.hid (HAL.out.next H3.out.1 H3.out.2); have HX3 : Hid (w3.cell? ⟨bb, 0, none⟩ = some (.int .i64 rd) ∧ w3.cell? ⟨bb, 1, none⟩ = some (.slice (some ⟨g5, o5, none⟩) rl.length xc)) := Lib.hid ⟨HAL.out.keep H3.out.1 HXL.out.1, HAL.out.keep H3.out.1 HXL.out.2⟩; clear H1 H2 H3)
            go_roundw
            case rel => exact ⟨j + 1, by omega, by go_num, HS3.out, HA3.out, HX3.out⟩
            case measure => simp [intOf]; omega
        · obtain rfl : j = rl.length := by omega
          have b47 : decide ((rl.length : Int) < (rl.length : Int)) = false := by simp
          have HSN : Hid (NumSt w2 wr (.slice va vn vc) (([W, (R.length : Int)] ++ (R.take (k + 1)).flatMap rowPut))) := Lib.hid (by rw [HTK.out]; have := HS.out; rw [List.take_length] at this; exact this)
          clear x0 x1
          obtain ⟨x0, x1⟩ := HXX.out
          clear HS HAP HXX HIN
          go_wp2
          go_roundw
          case rel => exact ⟨k + 1, by omega, by go_num, HSN.out⟩
          case measure => simp [intOf]; omega
    · obtain rfl : k = R.length := by omega
      have b26 : decide ((R.length : Int) < (R.length : Int)) = false := by simp
      obtain ⟨P, hP⟩ : ∃ P, [W, (R.length : Int)] ++ R.flatMap rowPut = P := ⟨_, rfl⟩
      have HPT : Hid (P ++ [(O.length : Int)] ++ O = tabNums (W, R, O)) := Lib.hid (by rw [← hP]; simp [tabNums])
      have HSP : Hid (NumSt w2 wr (.slice va vn vc) P) := Lib.hid (by have := HS.out; rw [List.take_length, hP] at this; exact this)
      have HPX : Hid (P.length + 1 + O.length ≤ 10000000) := Lib.hid (by
        have h1 := congrArg List.length HPT.out
        have h2 := HNL.out
        simp only [List.length_append, List.length_cons, List.length_nil] at h1
        omega)
      have HOKI : Hid (∀ x ∈ [(O.length : Int)], intE.ok x) := Lib.hid (by intro x hx; rw [List.mem_singleton] at hx; subst hx; exact ⟨by omega, by omega⟩)
      have HSL := Lib.hid (HSP.out.same ((Chg.refl (fun _ => False) wr).alloc (.cells #[.int .i64 O.length] 3)))
      have HBL : Hid (w2.heap.size ≤ (wr.alloc (.cells #[.int .i64 O.length] 3)).heap.size) := Lib.hid HSL.out.chg.size
      have HPY : Hid (P.length + 1 ≤ 1000000000000) := Lib.hid (by have := HPX.out; omega)
      clear hP HS
      go_upto_region 17 with (at_builtin; refine Elt.wpList_append2 intE rfl (.tmp 78) (.tmp 82) 22 22 rfl rfl w2.heap.size (.slice va vn vc) P [(O.length : Int)] (.slice (some ⟨wr.heap.size, 0, none⟩) 1 1) rfl rfl HSL.out.own HBL.out (intE.srcLit 1 HOKI.out) HOKI.out HPY.out ?_; intro v3 w3 H1 H2 H3; obtain ⟨va3, vn3, vc3, hv3⟩ := H1.out.shape3; subst hv3; have HS3 := Lib.hid (HSL.out.add H1.out H2.out); clear H1 H2 H3)
      have HC3 := Lib.hid (HC2.out.trans HS3.out.chg.fresh)
      clear b0 b1 b2
      obtain ⟨b0, b1, b2⟩ := HBB.out w3 HS3.out.chg
      have HO3 := Lib.hid (HO.out.chg HC3.out (fun _ h => h))
      have HOK4 : Hid (∀ x ∈ O, intE.ok x) := Lib.hid (fun x hx => HOI.out x (by simp [tabNums, hx]))
      have HB4 : Hid (w2.heap.size ≤ w3.heap.size) := Lib.hid HS3.out.chg.size
      have HP4 : Hid ((P ++ [(O.length : Int)]).length + O.length ≤ 1000000000000) := Lib.hid (by have := HPX.out; simp; omega)
      have HSRC : Hid (Src Try.prog intE.sz 22 (.slice oa O.length oc) O.length (intE.encs O) w3) := Lib.hid (by rw [intEncs]; exact I.srcBytes HO3.out HA.out)
      clear HSL HBL
      go_upto_region 18 with (at_builtin; refine Elt.wpList_append2 intE rfl (.tmp 84) (.tmp 86) 22 22 rfl rfl w2.heap.size (.slice va3 vn3 vc3) (P ++ [(O.length : Int)]) O (.slice oa O.length oc) rfl rfl HS3.out.own HB4.out HSRC.out HOK4.out HP4.out ?_; intro v4 w4 H1 H2 H3; have HS4 := Lib.hid (HS3.out.add H1.out H2.out); clear H1 H2 H3)
      have HC4 := Lib.hid (HC2.out.trans HS4.out.chg.fresh)
      rw [HPT.out] at HS4
      obtain ⟨N, hNN⟩ : ∃ N, tabNums (W, R, O) = N := ⟨_, rfl⟩
      have HTB : Hid (Z ++ putTab (W, R, O) = Z ++ bytesOf N) := Lib.hid (by rw [← hNN]; rfl)
      rw [hNN] at HS4 HT HNL
      obtain ⟨na, nc, ng, hv4, hnb, hna, hng⟩ := srcInts HS4.out.own
      subst hv4
      have HNB := Lib.hid hnb
      have HNA := Lib.hid hna
      have HNG := Lib.hid hng
      have HNLT : Hid (0 < N.length → ng < w4.heap.size) := Lib.hid (fun h => (hng h).2)
      have HZ4 := Lib.hid (HBZ.out.chg HC4.out (fun _ h => h))
      have HZS : Hid (Src Try.prog byteE.sz 55 (.slice ab Z.length cb) Z.length (byteE.encs Z) w4) := Lib.hid (by rw [byteEncs]; exact srcBytes HZ4.out HAB.out)
      have HZO : Hid (∀ x ∈ Z, byteE.ok x) := Lib.hid (fun x hx => HBZ.out.byte x hx)
      have HO0 : Hid (byteE.Own w4 w4.heap.size (.slice none 0 0) []) := Lib.hid (.inl ⟨rfl, rfl⟩)
      have HZ9 : Hid (([] : List Int).length + Z.length ≤ 1000000000000) := Lib.hid (by simp; omega)
      have hnl := HNL.out
      clear hnb hna hng hNN HS3 HSRC HPT
      go_upto_region 19 with (at_builtin; refine Elt.wpList_append2 byteE rfl (.const (.slice none 0 0)) (.tmp 88) 55 55 rfl rfl w4.heap.size (.slice none 0 0) [] Z (.slice ab Z.length cb) rfl rfl HO0.out (Nat.le_refl _) HZS.out HZO.out HZ9.out ?_; intro v5 w5 H1 H2 H3; have HQ5 : Hid (byteE.Own w5 w4.heap.size v5 (Z ++ bytesOf (N.take 0)) ∧ Chg (fun k => w4.heap.size ≤ k) w4 w5) := Lib.hid ⟨by have := H1.out; rwa [show Z ++ bytesOf (N.take 0) = [] ++ Z by simp [bytesOf]], H2.out⟩; clear H1 H2 H3)
      clear b0 b1 b2
      go_wp2
      go_loopw [11, 12] (fun v q wr => ∃ k : Nat, k ≤ N.length ∧ q = .int .i64 k ∧ (byteE.Own wr w4.heap.size v (Z ++ bytesOf (N.take k)) ∧ Chg (fun k => w4.heap.size ≤ k) w4 wr)) (fun _ q _ => N.length - (intOf q).toNat)
      case atStart => exact ⟨0, by omega, rfl, HQ5.out⟩
      case round =>
        clear HQ5
        obtain ⟨k, hk, rfl, hq⟩ := hrel
        have HQ := Lib.hid hq
        obtain ⟨va, vn, vc, hva⟩ := hq.1.shape3
        subst hva
        clear hq
        by_cases hkl : k < N.length
        · have b93 : decide ((k : Int) < (N.length : Int)) = true := by simp; omega
          obtain ⟨n, hn, c0, n0, n1⟩ := (HNB.out.chg HQ.out.2 (fun _ h => by have := HNLT.out (by omega); omega)).get hkl
          have e1 := HNA.out (by omega)
          subst e1
          have hnt := HT.out n (List.mem_of_getElem? hn)
          obtain ⟨m, rfl⟩ := Int.eq_ofNat_of_zero_le hnt.1
          have hm : m < 4294967296 := by omega
          have hw5 : IntKind.u32.wrap (m : Int) = m := by rw [IntKind.wrap_u32]; omega
          have HTK : Hid (Z ++ bytesOf (N.take (k + 1)) = Z ++ bytesOf (N.take k) ++ putL m) := Lib.hid (by rw [List.take_add_one, hn]; show Z ++ bytesOf (N.take k ++ [(m : Int)]) = _; rw [bytesOf_snoc, Int.toNat_natCast, List.append_assoc])
          have HLEN : Hid ((Z ++ bytesOf (N.take k)).length ≤ 100000000) := Lib.hid (by
            have := bytesOf_len (N.take k) (fun n hn => HT.out n (List.mem_of_mem_take hn))
            rw [List.length_append]
            rw [List.length_take] at this
            omega)
          rw [Nat.zero_add] at c0
          clear hn hnt
          go_wp2_with fail
          refine (refPut_any [] m none 0 0 0 wr ⟨fun k a hk => by simp at hk, fun h => (h rfl).elim⟩ (fun h => by simp at h) (by simp) hm).mono ?_
          rintro e w6 ⟨h, C, rfl, _, h2, h3⟩
          rw [List.nil_append] at h2 ⊢
          have HR := Lib.hid h2
          have HC6 := Lib.hid h3
          obtain ⟨PL, hPL⟩ : ∃ PL, (putL m).length = PL := ⟨_, rfl⟩
          have HPL := Lib.hid hPL
          rw [hPL]
          have HQ6 : Hid (byteE.Own w6 w4.heap.size (.slice va vn vc) (Z ++ bytesOf (N.take k)) ∧ Chg (fun k => w4.heap.size ≤ k) w4 w6) := Lib.hid ⟨HQ.out.1.chg h3 (fun _ _ _ h => h), HQ.out.2.trans h3.any⟩
          have HB6 : Hid (w4.heap.size ≤ w6.heap.size) := Lib.hid HQ6.out.2.size
          have HS6 : Hid (Src Try.prog byteE.sz 55 (.slice (some ⟨h, 0, none⟩) PL C) (putL m).length (byteE.encs (putL m)) w6) := Lib.hid (by rw [byteEncs, ← HPL.out]; exact srcBytes (HR.out.bytes (List.prefix_refl _)) (fun _ => rfl))
          have HL6 : Hid ((Z ++ bytesOf (N.take k)).length + (putL m).length ≤ 1000000000000) := Lib.hid (by have := HLEN.out; have := putL_len5 hm; omega)
          have HY6 : Hid (∀ x ∈ putL m, byteE.ok x) := Lib.hid (putL_byte m)
          clear h2 h3 hPL c0
          go_wp2_with (at_builtin; refine Elt.wpList_append2 byteE rfl (.tmp 96) (.tmp 102) 55 55 rfl rfl w4.heap.size (.slice va vn vc) (Z ++ bytesOf (N.take k)) (putL m) (.slice (some ⟨h, 0, none⟩) PL C) rfl rfl HQ6.out.1 HB6.out HS6.out HY6.out HL6.out ?_; intro v7 w7 H1 H2 H3; have HQ7 : Hid (byteE.Own w7 w4.heap.size v7 (Z ++ bytesOf (N.take (k + 1))) ∧ Chg (fun k => w4.heap.size ≤ k) w4 w7) := Lib.hid ⟨by rw [HTK.out]; exact H1.out, HQ6.out.2.trans H2.out⟩; clear H1 H2 H3)
          go_roundw
          case rel => exact ⟨k + 1, by omega, by go_num, HQ7.out⟩
          case measure => simp [intOf]; omega
        · obtain rfl : k = N.length := by omega
          have b93 : decide ((N.length : Int) < (N.length : Int)) = false := by simp
          have HQF : Hid (Own wr w.heap.size (.slice va vn vc) (Z ++ putTab (W, R, O)) ∧ Chg (fun _ => False) w wr) := Lib.hid ⟨by rw [HTB.out]; have := HQ.out.1; rw [List.take_length] at this; exact byteOwn.1 (this.lower HC4.out.size), HC4.out.trans HQ.out.2.fresh⟩
          go_wp2
          go_ret2
          exact ⟨_, rfl, HQF.out⟩
end Go.Proofs.Ytkfakkonlnjckaa
