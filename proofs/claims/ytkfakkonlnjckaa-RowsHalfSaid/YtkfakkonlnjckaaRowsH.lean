/- 'RowsHalf': its walk. -/
import Derived.Test.YtkfakkonlnjckaaRowsX
import Derived.Deep.Grids
namespace Go.Proofs.Ytkfakkonlnjckaa
open Go.RowKit

/-- The list of the two values. -/
def pick2 (a b : Int) (L : List Bool) : List Int := L.map (fun x => if x then b else a)
theorem pick2_count (a b : Int) (L : List Bool) : (pick2 a b L).count a + (pick2 a b L).count b ≥ L.length := by
  induction L with
  | nil => simp [pick2]
  | cons x L ih =>
    have : pick2 a b (x :: L) = (if x then b else a) :: pick2 a b L := rfl
    rw [this, List.count_cons, List.count_cons, List.length_cons]
    cases x <;> simp <;> omega
theorem pick2_mem {a b n : Int} {L : List Bool} (h : n ∈ pick2 a b L) : n = a ∨ n = b := by
  obtain ⟨x, _, rfl⟩ := List.mem_map.1 h
  cases x
  · exact .inl rfl
  · exact .inr rfl
/-- Where two values stand no row has more cells than half of its width. -/
theorem half_cells (a b : Int) (L : List Bool) (hL : L ≠ []) : 2 * (cellsFrom (usualL (pick2 a b L)) 0 (pick2 a b L)).length ≤ L.length ∧ (usualL (pick2 a b L) = a ∨ usualL (pick2 a b L) = b) := by
  have hlen : (pick2 a b L).length = L.length := by simp [pick2]
  have hc := cellsFrom_length (usualL (pick2 a b L)) (pick2 a b L) 0
  have hp := pick2_count a b L
  rcases usual_usualL (pick2 a b L) with ⟨h, _⟩ | ⟨h1, h2⟩
  · exact absurd (by simpa [pick2] using h) hL
  · refine ⟨?_, pick2_mem h1⟩
    have ha : (pick2 a b L).count a ≤ (pick2 a b L).count (usualL (pick2 a b L)) := by
      by_cases hm : a ∈ pick2 a b L
      · have := h2 a hm; omega
      · rw [List.count_eq_zero.2 hm]; omega
    have hb : (pick2 a b L).count b ≤ (pick2 a b L).count (usualL (pick2 a b L)) := by
      by_cases hm : b ∈ pick2 a b L
      · have := h2 b hm; omega
      · rw [List.count_eq_zero.2 hm]; omega
    omega

def boolE : Elt Bool where
  enc := fun n => [.bool n]
  sz := 1
  bs := 1
  e := 4
  sl := 70
  z := false
  zv := .bool false
  ok := fun _ => True
  pos := by omega
  len := fun _ => rfl
  one := fun a u hu => by
    simp only [List.mem_cons, List.not_mem_nil, or_false] at hu
    subst hu; rfl
  zok := trivial
  info := by kernel_rfl
  zc := rfl
  und := by kernel_rfl
  bsl := by omega

set_option maxRecDepth 100000 in
set_option maxHeartbeats 8000000 in
theorem rowsHalf_any (x y : Int) (L : List Bool) (a : Option Addr) (g o cap : Nat) (w : World) (hx : 0 ≤ x ∧ x ≤ 65535) (hy : 0 ≤ y ∧ y ≤ 65535) (h : boolE.At w g o L) (ha : 0 < L.length → a = some ⟨g, o, none⟩) (hl : L.length ≤ 3000) (h0 : L ≠ []) :
    Calls Try.prog 6 #[.int .u16 x, .int .u16 y, .slice a L.length cap] w fun e w' => e = .returned (.bool true) ∧ Chg (fun _ => False) w w' := by
  have HL := Lib.hid h
  have HA := Lib.hid ha
  obtain ⟨x0, x1⟩ := hx
  obtain ⟨y0, y1⟩ := hy
  have HHC := Lib.hid (half_cells x y L h0)
  have hlp : 0 < L.length := by cases L with
    | nil => exact absurd rfl h0
    | cons b L => simp
  have d1 : ((L.length : Int) == 0) = false := beq_eq_false_iff_ne.2 (by omega)
  clear h ha h0
  go_enter Try.func6, Try.ntmps6
  go_wp2
  go_loopw [7, 8] (fun v i wr => ∃ k : Nat, k ≤ L.length ∧ i = .int .i64 k ∧ intE.Own wr w.heap.size v (pick2 x y (L.take k)) ∧ Chg (fun k => w.heap.size ≤ k) w wr) (fun _ i _ => L.length - (intOf i).toNat)
  case atStart => exact ⟨0, by omega, rfl, .nil _ _, Chg.refl _ _⟩
  case round =>
    obtain ⟨k, hk, rfl, ho, hc⟩ := hrel
    obtain ⟨va, vl, vc, rfl⟩ := ho.shape3
    have HO := Lib.hid ho
    have HC := Lib.hid hc
    have hpl : (pick2 x y (L.take k)).length = k := by simp [pick2]; omega
    have hvl : vl = k := by obtain ⟨_, _, h⟩ := ho.shape; injection h with _ h _; omega
    subst hvl
    have HPL := Lib.hid hpl
    clear ho hc hpl
    by_cases hkl : vl < L.length
    · have b25 : decide ((vl : Int) < (L.length : Int)) = true := by simp; omega
      obtain ⟨b, hb⟩ : ∃ b, L[vl]? = some b := ⟨_, List.getElem?_eq_getElem hkl⟩
      have c0 := (HL.out.chg HC.out.fresh (fun _ h => h)).get hb (i := 0) (u := .bool b) rfl
      have c0 : wr.cell? ⟨g, o + vl, none⟩ = some (.bool b) := by rw [show o + vl = o + (vl * boolE.sz + 0) by rw [show boolE.sz = 1 from rfl]; omega]; exact c0
      have e1 := HA.out (by omega)
      subst e1
      have HTK : Hid (pick2 x y (L.take (vl + 1)) = pick2 x y (L.take vl) ++ [if b then y else x]) := Lib.hid (by rw [List.take_add_one, hb]; simp [pick2])
      have hwx : IntKind.i64.wrap x = x := by rw [IntKind.wrap_i64]; omega
      have hwy : IntKind.i64.wrap y = y := by rw [IntKind.wrap_i64]; omega
      clear hb
      cases b with
      | true =>
        have HOK : Hid (∀ n ∈ [y], intE.ok n) := Lib.hid (by intro n hn; rw [List.mem_singleton] at hn; subst hn; exact ⟨by omega, by omega⟩)
        have HOA := Lib.hid (HO.out.chg ((Chg.refl (fun _ => False) wr).alloc (.cells #[.int .i64 y] 3)) (fun _ _ _ h => h))
        have HBS : Hid (w.heap.size ≤ (wr.alloc (.cells #[.int .i64 y] 3)).heap.size) := Lib.hid (by have := HC.out.size; simp; omega)
        go_wp2_with (at_builtin; refine Elt.wpList_append intE rfl _ _ 22 22 rfl rfl w.heap.size (.slice va vl vc) (pick2 x y (L.take vl)) [y] (.slice (some ⟨wr.heap.size, 0, none⟩) 1 1) rfl rfl HOA.out HBS.out (intE.srcLit 1 HOK.out) HOK.out (by have := HPL.out; simp; omega) ?_; intro v' w1 H1 H2 H3)
        have HF : Hid (intE.Own w1 w.heap.size v' (pick2 x y (L.take (vl + 1))) ∧ Chg (fun k => w.heap.size ≤ k) w w1) := Lib.hid ⟨by rw [HTK.out]; exact H1.out, (HC.out.alloc _).trans H2.out⟩
        go_roundw
        case rel => exact ⟨vl + 1, by omega, by go_num, HF.out.1, HF.out.2⟩
        case measure => simp [intOf]; omega
      | false =>
        have HOK : Hid (∀ n ∈ [x], intE.ok n) := Lib.hid (by intro n hn; rw [List.mem_singleton] at hn; subst hn; exact ⟨by omega, by omega⟩)
        have HOA := Lib.hid (HO.out.chg ((Chg.refl (fun _ => False) wr).alloc (.cells #[.int .i64 x] 3)) (fun _ _ _ h => h))
        have HBS : Hid (w.heap.size ≤ (wr.alloc (.cells #[.int .i64 x] 3)).heap.size) := Lib.hid (by have := HC.out.size; simp; omega)
        go_wp2_with (at_builtin; refine Elt.wpList_append intE rfl _ _ 22 22 rfl rfl w.heap.size (.slice va vl vc) (pick2 x y (L.take vl)) [x] (.slice (some ⟨wr.heap.size, 0, none⟩) 1 1) rfl rfl HOA.out HBS.out (intE.srcLit 1 HOK.out) HOK.out (by have := HPL.out; simp; omega) ?_; intro v' w1 H1 H2 H3)
        have HF : Hid (intE.Own w1 w.heap.size v' (pick2 x y (L.take (vl + 1))) ∧ Chg (fun k => w.heap.size ≤ k) w w1) := Lib.hid ⟨by rw [HTK.out]; exact H1.out, (HC.out.alloc _).trans H2.out⟩
        go_roundw
        case rel => exact ⟨vl + 1, by omega, by go_num, HF.out.1, HF.out.2⟩
        case measure => simp [intOf]; omega
    · obtain rfl : vl = L.length := by omega
      have HTT : Hid (pick2 x y (L.take L.length) = pick2 x y L) := Lib.hid (by rw [List.take_length])
      obtain ⟨P, hP⟩ : ∃ P, pick2 x y L = P := ⟨_, rfl⟩
      have HPV : Hid (∀ n ∈ P, isVal n) := Lib.hid (fun n hn => by rw [← hP] at hn; rcases pick2_mem hn with rfl | rfl <;> exact ⟨by omega, by omega⟩)
      have HNV : Hid (noValB P = false) := Lib.hid (noValB_false.2 HPV.out)
      rw [HTT.out, hP] at HO HPL
      rw [hP] at HHC
      obtain ⟨a', g', c', hv, hle, hat, hpos⟩ := HO.out.at'
      have hpl := HPL.out
      rw [hpl] at hv
      injection hv with e1 e2 e3
      subst e1 e3
      have HAT := Lib.hid (intAt.1 hat)
      have HPO : Hid (0 < P.length → va = some ⟨g', 0, none⟩) := Lib.hid (fun h => (hpos h).1)
      have hof := of_ok P va g' 0 vc wr HAT.out HPO.out (by omega) HNV.out
      rw [hpl] at hof
      have HOF := Lib.hid hof
      obtain ⟨D, hD⟩ : ∃ D, usualL P = D := ⟨_, rfl⟩
      obtain ⟨X, hX⟩ : ∃ X, cellsFrom D 0 P = X := ⟨_, rfl⟩
      rw [hD, hX] at HOF HHC
      have HHR : Hid (∀ (k : Nat) (n : Int), P[k]? = some n → atRow (D, X) k = n) := Lib.hid (fun k n h => by have := atRow_rowL P k n h; unfold rowL at this; rwa [hD, hX] at this)
      have hX2 := HHC.out.1
      have HDD := Lib.hid HHC.out.2
      have d4 : decide ((L.length : Int) < 2 * (X.length : Int)) = false := by simp; omega
      have hwx : IntKind.i64.wrap x = x := by rw [IntKind.wrap_i64]; omega
      have hwy : IntKind.i64.wrap y = y := by rw [IntKind.wrap_i64]; omega
      clear hat hpos hof hD hX hP hpl HO HTT HHC
      go_wp2_with fail
      refine HOF.out.mono ?_
      rintro e w2 ⟨⟨sa, sn, sc⟩, rfl, hin, hc2⟩
      obtain rfl : sn = X.length := hin.1
      unfold ofV slV
      simp only
      have HIN := Lib.hid hin
      obtain ⟨wa, hwa⟩ : ∃ wa, wa = w2.alloc (.cells #[.int .i64 D, .slice sa X.length sc] 27) := ⟨_, rfl⟩
      have HWA : Hid (Chg (fun _ => False) w2 wa) := Lib.hid (by rw [hwa]; exact (Chg.refl _ _).alloc _)
      have HBX : Hid (∀ wx, Chg (fun _ => False) wa wx → wx.cell? ⟨w2.heap.size, 0, none⟩ = some (.int .i64 D) ∧ wx.cell? ⟨w2.heap.size, 1, none⟩ = some (.slice sa X.length sc)) := Lib.hid (fun wx hx => by subst hwa; exact ⟨hx.cellS (by simp) (fun h => h), hx.cellS (by simp) (fun h => h)⟩)
      have HC2 := Lib.hid (hc2.trans HWA.out)
      have HWE := Lib.hid hwa
      clear hin hc2 hwa
      obtain ⟨q0, q1⟩ := HBX.out wa (Chg.refl _ _)
      by_cases hDx : D = x
      · have e0 : (D != x) = false := by simpa using hDx
        have HDX := Lib.hid hDx
        clear hDx
        go_wp2
        rw [← HWE.out]
        go_loopw [12] (fun q wx => ∃ k : Nat, k ≤ L.length ∧ q = .int .i64 k ∧ Chg (fun _ => False) wa wx) (fun q _ => L.length - (intOf q).toNat)
        case atStart => exact ⟨0, by omega, rfl, Chg.refl _ _⟩
        case round =>
          obtain ⟨k, hk, rfl, hc⟩ := hrel
          have HCK := Lib.hid hc
          clear hc
          by_cases hkl : k < L.length
          · have b71 : decide ((k : Int) < (L.length : Int)) = true := by simp; omega
            obtain ⟨n, hn, c1, n0, n1⟩ := (HAT.out.chg (HC2.out.trans HCK.out) (fun _ h => h)).get (k := k) (by rw [HPL.out]; omega)
            rw [Nat.zero_add] at c1
            have e1 := HPO.out (by rw [HPL.out]; omega)
            subst e1
            have HRN := Lib.hid (HHR.out k n hn)
            have e2 : (n != n) = false := by simp
            have HX9 : Hid (X.length ≤ 1000000000) := Lib.hid (by omega)
            clear hn
            go_upto_region 17 with (fail)
            have HC1 := Lib.hid c1
            refine wp_region_same (fun w' => Chg (fun _ => False) wr w') (by kernel_rfl) (by kernel_rfl) ?_ ?_
            · exact (Chg.refl _ _).drew
            (refine wpC_read rfl (fun _ _ _ h => h) (fun K hK => ?_); apply Exists.intro; refine ⟨fun _ w' _ hC => ?_, ?_⟩; ((obtain ⟨q0, q1⟩ := HBX.out w' (HCK.out.trans hC)); go_simp; try with_reducible rfl); (try go_simp); refine hK _ ?_; clear hK K)
            (refine wpC_read rfl (fun _ _ _ h => h) (fun K hK => ?_); apply Exists.intro; refine ⟨fun _ w' _ hC => ?_, ?_⟩; ((skip); go_simp; try with_reducible rfl); (try go_simp); refine hK _ ?_; clear hK K)
            refine wpC_call rfl (Value.int .i64 n )  14  ( #[.agg #[.int .i64 D, .slice sa X.length sc], .int .i64 k]) (fun w' => by go_simp) (fun _ w' _ hC => ?_) (fun K hK => ?_)
            · refine (at_any D X sa sc _ k w' (HIN.out.same (HWA.out.trans (HCK.out.trans hC))) HX9.out).mono ?_
              rintro e w4 ⟨rfl, hc⟩
              exact ⟨by rw [HRN.out], hC.trans hc⟩
            ((try go_simp); refine hK _ ?_; clear hK K)
            (refine wpC_read rfl (fun _ _ _ h => h) (fun K hK => ?_); apply Exists.intro; refine ⟨fun _ w' _ hC => ?_, ?_⟩; ((skip); go_simp; try with_reducible rfl); (try go_simp); refine hK _ ?_; clear hK K)
            (refine wpC_read rfl (fun _ _ _ h => h) (fun K hK => ?_); apply Exists.intro; refine ⟨fun _ w' _ hC => ?_, ?_⟩; ((skip); go_simp; try with_reducible rfl); (try go_simp); refine hK _ ?_; clear hK K)
            (refine wpC_read rfl (fun _ _ _ h => h) (fun K hK => ?_); apply Exists.intro; refine ⟨fun _ w' _ hC => ?_, ?_⟩; ((skip); go_simp; try with_reducible rfl); (try go_simp); refine hK _ ?_; clear hK K)
            (refine wpC_read rfl (fun _ _ _ h => h) (fun K hK => ?_); apply Exists.intro; refine ⟨fun _ w' _ hC => ?_, ?_⟩; ((have q := hC.cellS HC1.out (fun h => h)); go_simp; try with_reducible rfl); (try go_simp); refine hK _ ?_; clear hK K)
            (refine wpC_read rfl (fun _ _ _ h => h) (fun K hK => ?_); apply Exists.intro; refine ⟨fun _ w' _ hC => ?_, ?_⟩; ((skip); go_simp; try with_reducible rfl); (try go_simp); refine hK _ ?_; clear hK K)
            refine wpC_nil ?_
            intro w4 hC4
            have HC4 := Lib.hid (HCK.out.trans hC4)
            clear hC4 c1
            go_wp2
            go_roundw
            case rel => exact ⟨k + 1, by omega, by go_num, HC4.out⟩
            case measure => simp [intOf]; omega
          · obtain rfl : k = L.length := by omega
            go_wp2_with fail
            refine (lives_any _).mono ?_
            rintro e w7 ⟨rfl, hc7⟩
            have HC7 := Lib.hid (HC.out.fresh.trans (HC2.out.trans (HCK.out.trans hc7)))
            clear hc7
            go_wp2
            go_ret
            exact ⟨rfl, HC7.out⟩
      · have e0 : (D != x) = true := by simpa using hDx
        have e1 : (D != y) = false := by have := HDD.out.resolve_left hDx; simpa using this
        clear hDx
        go_wp2
        rw [← HWE.out]
        go_loopw [12] (fun q wx => ∃ k : Nat, k ≤ L.length ∧ q = .int .i64 k ∧ Chg (fun _ => False) wa wx) (fun q _ => L.length - (intOf q).toNat)
        case atStart => exact ⟨0, by omega, rfl, Chg.refl _ _⟩
        case round =>
          obtain ⟨k, hk, rfl, hc⟩ := hrel
          have HCK := Lib.hid hc
          clear hc
          by_cases hkl : k < L.length
          · have b71 : decide ((k : Int) < (L.length : Int)) = true := by simp; omega
            obtain ⟨n, hn, c1, n0, n1⟩ := (HAT.out.chg (HC2.out.trans HCK.out) (fun _ h => h)).get (k := k) (by rw [HPL.out]; omega)
            rw [Nat.zero_add] at c1
            have e1 := HPO.out (by rw [HPL.out]; omega)
            subst e1
            have HRN := Lib.hid (HHR.out k n hn)
            have e2 : (n != n) = false := by simp
            have HX9 : Hid (X.length ≤ 1000000000) := Lib.hid (by omega)
            clear hn
            go_upto_region 17 with (fail)
            have HC1 := Lib.hid c1
            refine wp_region_same (fun w' => Chg (fun _ => False) wr w') (by kernel_rfl) (by kernel_rfl) ?_ ?_
            · exact (Chg.refl _ _).drew
            (refine wpC_read rfl (fun _ _ _ h => h) (fun K hK => ?_); apply Exists.intro; refine ⟨fun _ w' _ hC => ?_, ?_⟩; ((obtain ⟨q0, q1⟩ := HBX.out w' (HCK.out.trans hC)); go_simp; try with_reducible rfl); (try go_simp); refine hK _ ?_; clear hK K)
            (refine wpC_read rfl (fun _ _ _ h => h) (fun K hK => ?_); apply Exists.intro; refine ⟨fun _ w' _ hC => ?_, ?_⟩; ((skip); go_simp; try with_reducible rfl); (try go_simp); refine hK _ ?_; clear hK K)
            refine wpC_call rfl (Value.int .i64 n )  14  ( #[.agg #[.int .i64 D, .slice sa X.length sc], .int .i64 k]) (fun w' => by go_simp) (fun _ w' _ hC => ?_) (fun K hK => ?_)
            · refine (at_any D X sa sc _ k w' (HIN.out.same (HWA.out.trans (HCK.out.trans hC))) HX9.out).mono ?_
              rintro e w4 ⟨rfl, hc⟩
              exact ⟨by rw [HRN.out], hC.trans hc⟩
            ((try go_simp); refine hK _ ?_; clear hK K)
            (refine wpC_read rfl (fun _ _ _ h => h) (fun K hK => ?_); apply Exists.intro; refine ⟨fun _ w' _ hC => ?_, ?_⟩; ((skip); go_simp; try with_reducible rfl); (try go_simp); refine hK _ ?_; clear hK K)
            (refine wpC_read rfl (fun _ _ _ h => h) (fun K hK => ?_); apply Exists.intro; refine ⟨fun _ w' _ hC => ?_, ?_⟩; ((skip); go_simp; try with_reducible rfl); (try go_simp); refine hK _ ?_; clear hK K)
            (refine wpC_read rfl (fun _ _ _ h => h) (fun K hK => ?_); apply Exists.intro; refine ⟨fun _ w' _ hC => ?_, ?_⟩; ((skip); go_simp; try with_reducible rfl); (try go_simp); refine hK _ ?_; clear hK K)
            (refine wpC_read rfl (fun _ _ _ h => h) (fun K hK => ?_); apply Exists.intro; refine ⟨fun _ w' _ hC => ?_, ?_⟩; ((have q := hC.cellS HC1.out (fun h => h)); go_simp; try with_reducible rfl); (try go_simp); refine hK _ ?_; clear hK K)
            (refine wpC_read rfl (fun _ _ _ h => h) (fun K hK => ?_); apply Exists.intro; refine ⟨fun _ w' _ hC => ?_, ?_⟩; ((skip); go_simp; try with_reducible rfl); (try go_simp); refine hK _ ?_; clear hK K)
            refine wpC_nil ?_
            intro w4 hC4
            have HC4 := Lib.hid (HCK.out.trans hC4)
            clear hC4 c1
            go_wp2
            go_roundw
            case rel => exact ⟨k + 1, by omega, by go_num, HC4.out⟩
            case measure => simp [intOf]; omega
          · obtain rfl : k = L.length := by omega
            go_wp2_with fail
            refine (lives_any _).mono ?_
            rintro e w7 ⟨rfl, hc7⟩
            have HC7 := Lib.hid (HC.out.fresh.trans (HC2.out.trans (HCK.out.trans hc7)))
            clear hc7
            go_wp2
            go_ret
            exact ⟨rfl, HC7.out⟩

set_option maxRecDepth 100000 in
theorem rowsHalf_no (x y : Int) (a : Option Addr) (k cap : Nat) (w : World) (hl : 3000 < k ∨ k = 0) :
    Calls Try.prog 6 #[.int .u16 x, .int .u16 y, .slice a k cap] w fun e w' => e = .returned (.bool true) ∧ Chg (fun _ => False) w w' := by
  rcases hl with hl | rfl
  · go_enter Try.func6, Try.ntmps6
    go_wp2_with fail
    refine (lives_any _).mono ?_
    rintro e w7 ⟨rfl, hc7⟩
    have HC7 := Lib.hid hc7
    clear hc7
    go_wp2
    go_ret
    exact ⟨rfl, HC7.out⟩
  · go_enter Try.func6, Try.ntmps6
    go_wp2_with fail
    refine (lives_any _).mono ?_
    rintro e w7 ⟨rfl, hc7⟩
    have HC7 := Lib.hid hc7
    clear hc7
    go_wp2
    go_ret
    exact ⟨rfl, HC7.out⟩
end Go.Proofs.Ytkfakkonlnjckaa
