/- May a row be, by its cells: rows' fine. -/
import Derived.Test.YtkfakkonlnjckaaRowsC
namespace Go.Proofs.Ytkfakkonlnjckaa
open Go.RowKit

def valsOf (L : List (Int × Int)) : List Int := L.map (·.2)
theorem valsOf_le (L : List (Int × Int)) (x : Int) : (valsOf L).count x ≤ L.length := Nat.le_trans List.count_le_length (by rw [valsOf, List.length_map]; exact Nat.le_refl _)
theorem valsOf_snoc (L : List (Int × Int)) (x : Int × Int) : valsOf (L ++ [x]) = valsOf L ++ [x.2] := by simp [valsOf]
/-- What has been gone through so far is seldom enough. -/
def SelOf (L : List Int) (left : Lit → Bool) (m d : Int) : Prop := ∀ n ∈ L, left (.int .i64 n) = false → (L.count n : Int) < m ∨ ((L.count n : Int) = m ∧ d ≤ n)
theorem SelOf.next {L : List Int} {left : Lit → Bool} {m d x : Int} (h : SelOf L left m d) (hx : (L.count x : Int) < m ∨ ((L.count x : Int) = m ∧ d ≤ x)) : SelOf L (fun z => left z && !z.sameKey (.int .i64 x)) m d := fun y hy hl => by
  by_cases he : y = x
  · subst he; exact hx
  · refine h y hy ?_
    have hl2 : (left (.int .i64 y) && !(Lit.int .i64 y).sameKey (.int .i64 x)) = false := hl
    rw [Maps.sameKey_ne (by intro e; injection e with _ e; exact he e)] at hl2
    simpa using hl2
theorem fineL_zero (d : Int) (L : List (Int × Int)) : fineL 0 (d, L) = (decide (d = -1) && decide (L = [])) := by simp only [fineL, if_true]
/-- The verdict on a row of a width that is not 0. -/
theorem fineL_pos {W : Nat} (hW : W ≠ 0) (d : Int) (L : List (Int × Int)) : fineL W (d, L) = (fineCells W d (-1) L && (valsOf L).all (fun n => decide (((valsOf L).count n : Int) < (W : Int) - L.length ∨ (((valsOf L).count n : Int) = (W : Int) - L.length ∧ d ≤ n))) && decide (isVal d) && decide (0 < (W : Int) - L.length)) := by
  simp only [fineL, valsOf]
  rw [if_neg hW]
  rfl
theorem fineL_bad {W : Nat} (hW : W ≠ 0) {d : Int} {L : List (Int × Int)} (h : fineCells W d (-1) L = false) : fineL W (d, L) = false := by rw [fineL_pos hW, h]; rfl
theorem fineL_often {W : Nat} (hW : W ≠ 0) {d x : Int} {L : List (Int × Int)} (hx : x ∈ valsOf L) (h : ¬ (((valsOf L).count x : Int) < (W : Int) - L.length ∨ (((valsOf L).count x : Int) = (W : Int) - L.length ∧ d ≤ x))) : fineL W (d, L) = false := by
  rw [fineL_pos hW]
  have : (valsOf L).all (fun n => decide (((valsOf L).count n : Int) < (W : Int) - L.length ∨ (((valsOf L).count n : Int) = (W : Int) - L.length ∧ d ≤ n))) = false := by
    rw [List.all_eq_false]
    exact ⟨x, hx, by simpa using h⟩
  rw [this]
  simp
theorem fineL_good {W : Nat} (hW : W ≠ 0) {d : Int} {L : List (Int × Int)} (h1 : fineCells W d (-1) L = true) {left : Lit → Bool} (h2 : SelOf (valsOf L) left ((W : Int) - L.length) d) (hl : ∀ kl, left kl = false) : fineL W (d, L) = (valB d && decide (0 < (W : Int) - L.length)) := by
  rw [fineL_pos hW, h1]
  have : (valsOf L).all (fun n => decide (((valsOf L).count n : Int) < (W : Int) - L.length ∨ (((valsOf L).count n : Int) = (W : Int) - L.length ∧ d ≤ n))) = true := by
    rw [List.all_eq_true]
    intro n hn
    simpa using h2 n hn (hl _)
  rw [this]
  simp [valB]
theorem fineCells_step {W d last : Int} {L : List (Int × Int)} {k : Nat} {x : Int × Int} (hx : L[k]? = some x) : fineCells W d last (L.drop k) = (decide (last < x.1) && decide (x.1 < W) && valB x.2 && !decide (x.2 = d) && fineCells W d x.1 (L.drop (k + 1))) := by
  have h1 := (List.getElem?_eq_some_iff.1 hx).1
  rw [List.drop_eq_getElem_cons h1, (List.getElem?_eq_some_iff.1 hx).2]
  rfl

set_option maxRecDepth 100000 in
set_option maxHeartbeats 4000000 in
theorem fine_any (W : Nat) (d : Int) (L : List (Int × Int)) (a : Option Addr) (c B : Nat) (w : World) (h : cellE.In w B (a, L.length, c) L) (hl : L.length ≤ 1000000000) (hW : W ≤ 65536) (hd : I.Byte d) :
    Calls Try.prog 57 #[.agg #[.int .i64 d, .slice a L.length c], .int .i64 W] w fun e w' => e = .returned (.bool (fineL W (d, L))) ∧ Chg (fun _ => False) w w' := by
  have HL := Lib.hid h
  obtain ⟨hd0, hd1⟩ := hd
  have hmm := @run_makeMap Try.prog
  have HC0 := Lib.hid ((Chg.refl (fun k => w.heap.size ≤ k) w).alloc (.cells #[.int .i64 d, .slice a L.length c] 27))
  have HB0 : Hid (∀ wr, Chg (fun k => w.heap.size + 1 ≤ k) (w.alloc (.cells #[.int .i64 d, .slice a L.length c] 27)) wr → wr.cell? ⟨w.heap.size, 0, none⟩ = some (.int .i64 d) ∧ wr.cell? ⟨w.heap.size, 1, none⟩ = some (.slice a L.length c)) := Lib.hid fun wr hc => ⟨hc.cellS (by simp) (by show ¬ w.heap.size + 1 ≤ w.heap.size; omega), hc.cellS (by simp) (by show ¬ w.heap.size + 1 ≤ w.heap.size; omega)⟩
  clear h
  by_cases hW0 : W = 0
  · subst hW0
    by_cases hd1 : d = -1
    · subst hd1
      by_cases hL0 : L.length = 0
      · have hL := List.length_eq_zero_iff.1 hL0
        subst hL
        have HV : Hid (fineL 0 (-1, []) = true) := Lib.hid rfl
        go_enter Try.func57, Try.ntmps57
        go_wp2
        go_ret
        exact ⟨by rw [HV.out]; rfl, HC0.out.fresh⟩
      · have HV : Hid (fineL 0 (-1, L) = false) := Lib.hid (by
          rw [fineL_zero]
          have : L ≠ [] := fun e => hL0 (by rw [e]; rfl)
          simp [this])
        have q1 : ((L.length : Int) == 0) = false := beq_eq_false_iff_ne.2 (by omega)
        clear hL0
        go_enter Try.func57, Try.ntmps57
        go_wp2
        go_ret
        exact ⟨by rw [HV.out]; rfl, HC0.out.fresh⟩
    · have HV : Hid (fineL 0 (d, L) = false) := Lib.hid (by
        rw [fineL_zero]
        simp [hd1])
      have q1 : (d == -1) = false := by simpa using hd1
      clear hd1
      go_enter Try.func57, Try.ntmps57
      go_wp2
      go_ret
      exact ⟨by rw [HV.out]; rfl, HC0.out.fresh⟩
  · have HW0 := Lib.hid hW0
    have q0 : ((W : Int) == 0) = false := by simp; omega
    have HM0 := Lib.hid (HC0.out.alloc (.map #[] 0))
    have HM1 := Lib.hid ((Chg.refl (fun k => w.heap.size + 1 ≤ k) (w.alloc (.cells #[.int .i64 d, .slice a L.length c] 27))).alloc (.map #[] 0))
    clear hW0
    go_enter Try.func57, Try.ntmps57
    go_wp2
    go_loopw [6, 32] (fun lv q wr => ∃ (k : Nat) (last : Int) (D : DataW Unit), k ≤ L.length ∧ q = .int .i64 k ∧ lv = .int .i64 last ∧ fineCells W d (-1) L = fineCells W d last (L.drop k) ∧ wr.ownsMap Try.prog 3 (plainElem Try.prog 3) (w.heap.size + 1) k D ∧ Counts D (valsOf (L.take k)) ∧ Chg (fun k => w.heap.size + 1 ≤ k) (w.alloc (.cells #[.int .i64 d, .slice a L.length c] 27)) wr) (fun _ q _ => L.length - (intOf q).toNat)
    case atStart => exact ⟨0, -1, _, by omega, rfl, rfl, by simp, by have := World.ownsMap_made (H := Unit) (w.alloc (.cells #[.int .i64 d, .slice a L.length c] 27)) Try.prog 3 (plainElem Try.prog 3); simpa using this, Counts.start, HM1.out⟩
    case round =>
      clear HM0 HM1
      obtain ⟨k, last, D, hk, rfl, rfl, he, hown, hcnt, hc⟩ := hrel
      have HE := Lib.hid he
      have HOWN := Lib.hid hown
      have HCNT := Lib.hid hcnt
      have HC := Lib.hid hc
      have HCW := Lib.hid (HC0.out.trans (hc.mono (T := fun k => w.heap.size ≤ k) (fun k _ e => by omega)))
      obtain ⟨b0, b1⟩ := HB0.out wr hc
      clear he hown hcnt hc
      by_cases hkl : k < L.length
      · have b33 : decide ((k : Int) < (L.length : Int)) = true := by simp; omega
        obtain ⟨x, g, o, u, v, hx, rfl, hp, c0, c1, hok, -, -⟩ := (HL.out.same HCW.out.fresh).get2 rfl hkl
        obtain ⟨rfl, rfl⟩ := pairOf hp
        obtain ⟨x0, x1⟩ := x
        obtain ⟨⟨p0, p1⟩, ⟨p2, p3⟩⟩ := hok
        simp only at c0 c1 p0 p1 p2 p3
        have HX := Lib.hid hx
        obtain ⟨b2, b3⟩ := HB0.out (wr.alloc (.cells #[.int .i64 x0, .int .i64 x1] 79)) (HC.out.alloc _)
        have HST := Lib.hid (fineCells_step (W := (W : Int)) (d := d) (last := last) hx)
        clear hx hp
        by_cases h1 : last < x0
        · have d1 : decide (x0 ≤ last) = false := by simp; omega
          by_cases h2 : x0 < (W : Int)
          · have d2 : decide ((W : Int) ≤ x0) = false := by simp; omega
            by_cases h3 : valB x1 = true
            · by_cases h4 : x1 = d
              · subst h4
                have d4 : (x1 == x1) = true := by simp
                have HF : Hid (fineL W (x1, L) = false) := Lib.hid (fineL_bad HW0.out (by rw [HE.out, HST.out]; simp))
                go_wp2_with fail
                refine (value_any x1 _).mono ?_
                rintro e w2 ⟨rfl, rfl⟩
                rw [h3]
                go_wp2
                go_ret
                exact ⟨by rw [HF.out]; rfl, (HCW.out.alloc _).fresh⟩
              · have d4 : (x1 == d) = false := by simpa using h4
                have HE2 : Hid (fineCells W d (-1) L = fineCells W d x0 (L.drop (k + 1))) := Lib.hid (by rw [HE.out, HST.out]; simp [h1, h2, h3, h4])
                have HTK : Hid (valsOf (L.take (k + 1)) = valsOf (L.take k) ++ [x1]) := Lib.hid (by rw [List.take_add_one, HX.out]; exact valsOf_snoc _ _)
                have hle : (valsOf (L.take k)).count x1 ≤ k := Nat.le_trans (valsOf_le _ _) (List.length_take_le _ _)
                have HOWA := Lib.hid (HOWN.out.alloc (.cells #[.int .i64 x0, .int .i64 x1] 79))
                have HCA := Lib.hid (HC.out.alloc (.cells #[.int .i64 x0, .int .i64 x1] 79))
                clear HE HST h4
                go_wp2_with fail
                refine (value_any x1 _).mono ?_
                rintro e w2 ⟨rfl, rfl⟩
                rw [h3]
                clear h3
                go_wp2_with (first
                  | (at_lookup; refine wpList_lookup_own_int _ rfl _ _ 116 rfl 3 3 .i64 lawI Try.underlying116 Try.underlying3 (zeroI _) (w.heap.size + 1) k _ rfl HOWA.out _ _ rfl (Maps.keyOf_int_mk Try.underlying3 (wfI p2 p3)) ?_; intro c hat hwc; rw [HCNT.out.at'] at hat; injection hat with hat; injection hat with _ hat; subst hat; clear hwc)
                  | (at_mapUpdate; refine wpList_mapUpdate_own _ rfl _ _ _ 116 rfl 3 3 lawI Try.underlying116 _ (w.heap.size + 1) k _ rfl HOWA.out (by unfold maxLen; omega) _ _ _ rfl rfl (Maps.keyOf_int_mk Try.underlying3 (wfI p2 p3)) _ [] (plainElem_int Try.underlying3 (wfI (by omega) (by omega))) ?_; intro w1 hown1 hgrow1)
                  | fail)
                have HF : Hid (w1.ownsMap Try.prog 3 (plainElem Try.prog 3) (w.heap.size + 1) (k + 1) (D.put (.int .i64 x1) (.lit (.int .i64 (((valsOf (L.take k)).count x1 : Int) + 1)))) ∧ Counts (D.put (.int .i64 x1) (.lit (.int .i64 (((valsOf (L.take k)).count x1 : Int) + 1)))) (valsOf (L.take (k + 1))) ∧ Chg (fun k => w.heap.size + 1 ≤ k) (w.alloc (.cells #[.int .i64 d, .slice (some ⟨g, o, none⟩) L.length c] 27)) w1) := Lib.hid ⟨hown1, by rw [HTK.out]; exact HCNT.out.step x1, HCA.out.grown hgrow1 (fun j hj => by cases hj; exact .inr (Nat.le_refl _))⟩
                clear hown1 hgrow1
                go_roundw
                case rel => exact ⟨k + 1, x0, _, by omega, by go_num, rfl, HE2.out, HF.out⟩
                case measure => simp [intOf]; omega
            · have h3' : valB x1 = false := by simpa using h3
              have HF : Hid (fineL W (d, L) = false) := Lib.hid (fineL_bad HW0.out (by rw [HE.out, HST.out]; simp [h3']))
              clear h3
              go_wp2_with fail
              refine (value_any x1 _).mono ?_
              rintro e w2 ⟨rfl, rfl⟩
              rw [h3']
              clear h3'
              go_wp2
              go_ret
              exact ⟨by rw [HF.out]; rfl, (HCW.out.alloc _).fresh⟩
          · have d2 : decide ((W : Int) ≤ x0) = true := by simp; omega
            have HF : Hid (fineL W (d, L) = false) := Lib.hid (fineL_bad HW0.out (by rw [HE.out, HST.out]; simp [h2]))
            go_wp2
            go_ret
            exact ⟨by rw [HF.out]; rfl, (HCW.out.alloc _).fresh⟩
        · have d1 : decide (x0 ≤ last) = true := by simp; omega
          have HF : Hid (fineL W (d, L) = false) := Lib.hid (fineL_bad HW0.out (by rw [HE.out, HST.out]; simp [h1]))
          go_wp2
          go_ret
          exact ⟨by rw [HF.out]; rfl, (HCW.out.alloc _).fresh⟩
      · obtain rfl : k = L.length := by omega
        have HFC : Hid (fineCells W d (-1) L = true) := Lib.hid (by rw [HE.out, List.drop_length]; rfl)
        have HCN : Hid (Counts D (valsOf L)) := Lib.hid (by have := HCNT.out; rwa [List.take_length] at this)
        have HCLE : Hid (∀ x, ((valsOf L).count x : Int) ≤ 1000000000) := Lib.hid (fun x => by have := valsOf_le L x; omega)
        have HVB : Hid (∀ x ∈ valsOf L, I.Byte x) := Lib.hid (fun x hx => by
          obtain ⟨y, hy, rfl⟩ := List.mem_map.1 hx
          obtain ⟨_, _, g, o, h3, _⟩ := HL.out
          exact (h3.ok y hy).2)
        clear HCNT HE HL
        go_wp2_with (first
          | (at_range; refine wpList_range_own _ rfl _ 116 rfl 3 3 lawI Try.underlying116 _ (w.heap.size + 1) L.length _ rfl HOWN.out ?_; intro w0 hrg0 hg0 hs0)
          | fail)
        go_frame
        have HRG := Lib.hid hrg0
        have HC1 := Lib.hid (HC.out.grown hg0 (fun j hj => by cases hj))
        obtain ⟨wo, rfl⟩ : ∃ wo : World, wo = wr := ⟨_, rfl⟩
        have hsz : w.heap.size + 1 ≤ wo.heap.size := by have := HC.out.size; simpa using this
        clear hrg0 hg0 hs0 HOWN HC b0 b1 HCW
        go_loopw [] (fun wr => ∃ (left : Lit → Bool) (cnt : Nat), wr.ranges Try.prog 3 (plainElem Try.prog 3) (w.heap.size + 1) wo.heap.size L.length D left cnt ∧ SelOf (valsOf L) left ((W : Int) - L.length) d ∧ (∀ x, left (.int .i64 x) = true → x ∈ valsOf L) ∧ Chg (fun k => w.heap.size + 1 ≤ k) (w.alloc (.cells #[.int .i64 d, .slice a L.length c] 27)) wr)
          (fun wr => wr.rangeLeft (w.heap.size + 1) wo.heap.size)
        case atStart => exact ⟨_, _, HRG.out, fun x hx h => by rw [HCN.out.has] at h; simp only [decide_eq_false_iff_not] at h; exact absurd hx h, fun x h => by rw [HCN.out.has] at h; simpa using h, HC1.out⟩
        case round =>
          clear HRG HC1
          obtain ⟨left, cnt, hrg, hsel, hin, hc⟩ := hrel
          have HRG := Lib.hid hrg
          have HS := Lib.hid hsel
          have HIN := Lib.hid hin
          have HC := Lib.hid hc
          obtain ⟨b0, b1⟩ := HB0.out wr hc
          clear hrg hsel hin hc
          go_wp2_with (first
            | (at_next; refine wpList_next_ranges_ii _ rfl _ rfl 3 3 .i64 .i64 lawI Try.underlying3 Try.underlying3 (w.heap.size + 1) wo.heap.size L.length _ _ _ rfl HRG.out ?_ ?_)
            | fail)
          · intro _ hl0
            have HE := Lib.hid (fineL_good HW0.out HFC.out HS.out hl0)
            have HCF := Lib.hid ((HC0.out.trans (HC.out.mono (T := fun k => w.heap.size ≤ k) (fun k _ e => by omega))).fresh)
            clear hl0 HS
            go_wp2_with fail
            refine (value_any d _).mono ?_
            rintro e w2 ⟨rfl, rfl⟩
            by_cases hv : valB d = true
            · rw [hv]
              rw [hv, Bool.true_and] at HE
              by_cases hlt : L.length < W
              · have HT : Hid (fineL W (d, L) = true) := Lib.hid (by rw [HE.out]; simp; omega)
                have d1 : decide (0 < (W : Int) - L.length) = true := by simp; omega
                clear HE
                go_wp2
                go_ret
                exact ⟨by rw [HT.out]; rfl, HCF.out⟩
              · have HT : Hid (fineL W (d, L) = false) := Lib.hid (by rw [HE.out]; simp; omega)
                have d1 : decide (0 < (W : Int) - L.length) = false := by simp; omega
                clear HE
                go_wp2
                go_ret
                exact ⟨by rw [HT.out]; rfl, HCF.out⟩
            · have hv' : valB d = false := by simpa using hv
              rw [hv']
              rw [hv', Bool.false_and] at HE
              clear hv hv'
              go_wp2
              go_ret
              exact ⟨by rw [HE.out]; rfl, HCF.out⟩
          · intro x cv w1 cnt1 hwx hwc hlx hat hrg1 hlt hg1 hs1 hen
            have hxZ := HIN.out x hlx
            have hcc : cv = ((valsOf L).count x : Int) := by
              have := hat (.lit (.int .i64 0))
              rw [HCN.out.at'] at this
              injection this with this
              injection this with _ this
              exact this.symm
            obtain ⟨xb0, xb1⟩ := HVB.out x hxZ
            have hcb : 0 ≤ cv ∧ cv ≤ 1000000000 := by
              have := HCLE.out x
              omega
            obtain ⟨cb0, cb1⟩ := hcb
            have HCC := Lib.hid hcc
            have HXZ := Lib.hid hxZ
            have HRG1 := Lib.hid hrg1
            have HLT := Lib.hid hlt
            have HC1 := Lib.hid (HC.out.grown hg1 (fun j hj => by cases hj; exact .inr hsz))
            have HIN1 : Hid (∀ y, (left (.int .i64 y) && !(Lit.int .i64 y).sameKey (.int .i64 x)) = true → y ∈ valsOf L) := Lib.hid (fun y hy => by simp at hy; exact HIN.out y hy.1)
            have HCF := Lib.hid ((HC0.out.trans (HC1.out.mono (T := fun k => w.heap.size ≤ k) (fun k _ e => by omega))).fresh)
            obtain ⟨b0, b1⟩ := HB0.out w1 HC1.out
            clear hwx hwc hlx hat hrg1 hlt hg1 hs1 hcc hxZ HIN HC
            by_cases h1 : (W : Int) - L.length < cv
            · have d1 : decide ((W : Int) - L.length < cv) = true := by simpa using h1
              have HF : Hid (fineL W (d, L) = false) := Lib.hid (fineL_often HW0.out HXZ.out (by have := HCC.out; omega))
              clear HS
              go_wp2
              go_ret
              exact ⟨by rw [HF.out]; rfl, HCF.out⟩
            · have d1 : decide ((W : Int) - L.length < cv) = false := by simpa using h1
              by_cases h2 : cv = (W : Int) - L.length
              · have d2 : (cv == (W : Int) - L.length) = true := by simpa using h2
                by_cases h3 : x < d
                · have d3 : decide (x < d) = true := by simpa using h3
                  have HF : Hid (fineL W (d, L) = false) := Lib.hid (fineL_often HW0.out HXZ.out (by have := HCC.out; omega))
                  clear HS h2
                  go_wp2
                  go_ret
                  exact ⟨by rw [HF.out]; rfl, HCF.out⟩
                · have d3 : decide (x < d) = false := by simpa using h3
                  have HSN := Lib.hid (HS.out.next (x := x) (.inr ⟨by have := HCC.out; omega, by omega⟩))
                  clear HS h2
                  go_wp2
                  go_roundw
                  case rel => exact ⟨_, cnt1, HRG1.out, HSN.out, HIN1.out, HC1.out⟩
                  case measure => rw [HRG1.out.left_eq, HRG.out.left_eq]; exact HLT.out
              · have d2 : (cv == (W : Int) - L.length) = false := by simpa using h2
                have HSN := Lib.hid (HS.out.next (x := x) (.inl (by have := HCC.out; omega)))
                clear HS h2
                go_wp2
                go_roundw
                case rel => exact ⟨_, cnt1, HRG1.out, HSN.out, HIN1.out, HC1.out⟩
                case measure => rw [HRG1.out.left_eq, HRG.out.left_eq]; exact HLT.out
end Go.Proofs.Ytkfakkonlnjckaa
