/- What stands at a place of a row, by the document; two rows compared: the program's and the document's. -/
import Derived.Test.YtkfakkonlnjckaaRowsA
namespace Go.Proofs.Ytkfakkonlnjckaa
open Go.RowKit

theorem pairOf {x : Int × Int} {u v : Value} (h : encPair x = [u, v]) : u = .int .i64 x.1 ∧ v = .int .i64 x.2 := by
  unfold encPair at h
  simp only [List.cons.injEq, and_true] at h
  exact ⟨h.1.symm, h.2.symm⟩

set_option maxRecDepth 100000 in
set_option maxHeartbeats 1000000 in
theorem refAt_any (d : Int) (L : List (Int × Int)) (a : Option Addr) (c B : Nat) (i : Int) (w : World) (h : cellR.In w B (a, L.length, c) L) (hl : L.length ≤ 1000000000) :
    Calls Try.prog 15 #[.agg #[.int .i64 d, .slice a L.length c], .int .i64 i] w fun e w' => e = .returned (.int .i64 (atRow (d, L) i)) ∧ Chg (fun _ => False) w w' := by
  have HL := Lib.hid h
  have HC0 := Lib.hid ((Chg.refl (fun _ => False) w).alloc (.cells #[.int .i64 d, .slice a L.length c] 33))
  clear h
  go_enter Try.func15, Try.ntmps15
  go_wp2
  go_loopw [5] (fun q wr => ∃ k : Nat, k ≤ L.length ∧ q = .int .i64 k ∧ (∀ (j : Nat) y, j < k → L[j]? = some y → (y.1 == i) = false) ∧ Chg (fun _ => False) (w.alloc (.cells #[.int .i64 d, .slice a L.length c] 33)) wr) (fun q _ => L.length - (intOf q).toNat)
  case atStart => exact ⟨0, by omega, rfl, fun j y h => absurd h (Nat.not_lt_zero _), Chg.refl _ _⟩
  case round =>
    obtain ⟨k, hk, rfl, hb, hc⟩ := hrel
    have b0 := hc.cellS (p := ⟨w.heap.size, 0, none⟩) (v := .int .i64 d) (by simp) (fun h => h)
    have b1 := hc.cellS (p := ⟨w.heap.size, 1, none⟩) (v := .slice a L.length c) (by simp) (fun h => h)
    have HB := Lib.hid hb
    have HC := Lib.hid (HC0.out.trans hc)
    have HC1 := Lib.hid hc
    clear hb hc
    by_cases hkl : k < L.length
    · have b9 : decide ((k : Int) < (L.length : Int)) = true := by simp; omega
      obtain ⟨x, g, o, u, v, hx, rfl, he, c0, c1, -, -, -⟩ := (HL.out.same HC.out).get2 rfl hkl
      obtain ⟨rfl, rfl⟩ := pairOf he
      obtain ⟨x0, x1⟩ := x
      have HX := Lib.hid hx
      clear hx he
      by_cases hxi : (x0 == i) = true
      · have HF : Hid (atRow (d, L) i = x1) := Lib.hid (by
          have h2 := idxV_found (p := fun c : Int × Int => c.1 == i) HX.out hxi HB.out
          rcases idx_cases (fun c : Int × Int => c.1 == i) L with ⟨k', x', h1, -, h3, h4, -⟩ | ⟨h3, -⟩
          · rw [h2] at h3
            obtain rfl : k = k' := by omega
            rw [HX.out] at h1
            obtain rfl := Option.some.inj h1
            unfold atRow
            simp only [h4]
          · omega)
        go_wp2
        go_ret
        exact ⟨by rw [HF.out]; rfl, HC.out⟩
      · have hxi' : (x0 == i) = false := by simpa using hxi
        have HB2 : Hid (∀ (j : Nat) y, j < k + 1 → L[j]? = some y → (y.1 == i) = false) := Lib.hid (fun j y hj hy => by
          by_cases he : j = k
          · subst he; rw [HX.out] at hy; obtain rfl := Option.some.inj hy; exact hxi'
          · exact HB.out j y (by omega) hy)
        clear hxi
        go_wp2
        go_roundw
        case rel => exact ⟨k + 1, by omega, by go_num, HB2.out, HC1.out⟩
        case measure => simp [intOf]; omega
    · obtain rfl : k = L.length := by omega
      have HF : Hid (atRow (d, L) i = d) := Lib.hid (by
        have h2 := idxV_none (p := fun c : Int × Int => c.1 == i) HB.out
        rcases idx_cases (fun c : Int × Int => c.1 == i) L with ⟨k', x', h1, -, h3, h4, -⟩ | ⟨-, h4, -⟩
        · omega
        · unfold atRow
          simp only [h4])
      go_wp2
      go_ret
      exact ⟨by rw [HF.out]; rfl, HC.out⟩

set_option maxRecDepth 100000 in
set_option maxHeartbeats 2000000 in
theorem equalCell_any (X Y : List (Int × Int)) (ax ay : Option Addr) (cx cy Bx By : Nat) (w : World) (hx : cellE.In w Bx (ax, X.length, cx) X) (hy : cellE.In w By (ay, Y.length, cy) Y) (hl : X.length ≤ 1000000000) :
    Calls Try.prog 70 #[.slice ax X.length cx, .slice ay Y.length cy] w fun e w' => e = .returned (.bool (decide (X = Y))) ∧ Chg (fun _ => False) w w' := by
  have HX := Lib.hid hx
  have HY := Lib.hid hy
  clear hx hy
  by_cases hxy : X.length = Y.length
  · have b10 : ((X.length : Int) != (Y.length : Int)) = false := by simp [hxy]
    have HXY := Lib.hid hxy
    clear hxy
    go_enter Try.func70, Try.ntmps70
    go_wp2
    go_loopw [13] (fun i wr => ∃ k : Nat, k ≤ X.length ∧ i = .int .i64 k ∧ Chg (fun _ => False) w wr ∧ X.take k = Y.take k) (fun i _ => X.length - (intOf i).toNat)
    case atStart => exact ⟨0, by omega, rfl, Chg.refl _ _, by simp⟩
    case round =>
      obtain ⟨k, hk, rfl, hc, he⟩ := hrel
      have HC := Lib.hid hc
      have HE := Lib.hid he
      clear hc he
      by_cases hkl : k < X.length
      · have b14 : decide ((k : Int) < (X.length : Int)) = true := by simp; omega
        have hkl2 : k < Y.length := by have := HXY.out; omega
        obtain ⟨p, g, o, u, v, hp, rfl, he, c0, c1, -, -, -⟩ := (HX.out.same HC.out).get2 rfl hkl
        obtain ⟨rfl, rfl⟩ := pairOf he
        obtain ⟨q, g2, o2, u, v, hq, rfl, he2, c2, c3, -, -, -⟩ := (HY.out.same HC.out).get2 rfl hkl2
        obtain ⟨rfl, rfl⟩ := pairOf he2
        obtain ⟨p0, p1⟩ := p
        obtain ⟨q0, q1⟩ := q
        have HP := Lib.hid hp
        have HQ := Lib.hid hq
        clear hp hq he he2
        by_cases hpq : (p0, p1) = (q0, q1)
        · injection hpq with h1 h2
          subst h1 h2
          have HT : Hid (X.take (k + 1) = Y.take (k + 1)) := Lib.hid (by rw [List.take_add_one, List.take_add_one, HE.out, HP.out, HQ.out])
          clear HE HP HQ
          go_upto_region 6 with (fail)
          go_still (by kernel_rfl)
          go_wp2
          go_roundw
          case rel => first | exact ⟨k + 1, by omega, by go_num, HC.out.drew, HT.out⟩ | ((repeat apply Exists.intro); exact ⟨⟨k + 1, by omega, rfl, HC.out.drew, HT.out⟩, by (repeat' apply And.intro) <;> first | rfl | go_num⟩)
          case measure => simp [intOf]; omega
        · have HD : Hid (decide (X = Y) = false) := Lib.hid (by
            apply decide_eq_false
            intro h
            rw [h, HQ.out] at HP
            exact hpq (Option.some.inj HP.out).symm)
          have hp3 : ¬ p0 = q0 ∨ (p0 = q0 ∧ ¬ p1 = q1) := by
            by_cases h : p0 = q0
            · exact .inr ⟨h, fun h2 => hpq (by rw [h, h2])⟩
            · exact .inl h
          clear HE HP HQ hpq
          rcases hp3 with hp3 | ⟨hp3, hp4⟩
          · go_upto_region 6 with (fail)
            go_still (by kernel_rfl)
            go_wp2
            go_ret
            exact ⟨by rw [HD.out]; rfl, HC.out.drew⟩
          · subst hp3
            go_upto_region 6 with (fail)
            go_still (by kernel_rfl)
            go_wp2
            go_ret
            exact ⟨by rw [HD.out]; rfl, HC.out.drew⟩
      · obtain rfl : k = X.length := by omega
        have HD : Hid (decide (X = Y) = true) := Lib.hid (by
          have := HE.out
          rw [List.take_length, HXY.out, List.take_length] at this
          simp [this])
        clear HE
        go_wp2
        go_ret
        exact ⟨by rw [HD.out]; rfl, HC.out⟩
  · have b10 : ((X.length : Int) != (Y.length : Int)) = true := by simp; omega
    have HD : Hid (decide (X = Y) = false) := Lib.hid (by
      apply decide_eq_false
      intro h
      exact hxy (by rw [h]))
    go_enter Try.func70, Try.ntmps70
    go_wp2
    go_ret
    exact ⟨by rw [HD.out]; rfl, Chg.refl _ _⟩

def rowEq (r s : RowD) : Bool := decide (r = s)
theorem eqPair (d d2 : Int) (X Y : List (Int × Int)) : rowEq (d, X) (d2, Y) = (decide (d = d2) && decide (X = Y)) := by
  unfold rowEq
  by_cases h : d = d2 <;> by_cases h2 : X = Y <;> simp [h, h2]

set_option maxRecDepth 100000 in
set_option maxHeartbeats 2000000 in
theorem same_row (d d2 : Int) (X Y : List (Int × Int)) (ax ay : Option Addr) (cx cy Bx By : Nat) (w : World) (hx : cellE.In w Bx (ax, X.length, cx) X) (hy : cellE.In w By (ay, Y.length, cy) Y) (hl : X.length ≤ 1000000000) :
    Calls Try.prog 59 #[.agg #[.int .i64 d, .slice ax X.length cx], .agg #[.int .i64 d2, .slice ay Y.length cy]] w fun e w' => e = .returned (.bool (rowEq (d, X) (d2, Y))) ∧ Chg (fun _ => False) w w' := by
  have HX := Lib.hid hx
  have HY := Lib.hid hy
  have HC0 := Lib.hid (((Chg.refl (fun _ => False) w).alloc (.cells #[.int .i64 d, .slice ax X.length cx] 27)).alloc (.cells #[.int .i64 d2, .slice ay Y.length cy] 27))
  have HE := Lib.hid (eqPair d d2 X Y)
  clear hx hy
  by_cases hd : d = d2
  · subst hd
    have q1 : (d == d) = true := by simp
    have HD : Hid (rowEq (d, X) (d, Y) = decide (X = Y)) := Lib.hid (by rw [HE.out]; simp)
    clear HE
    go_enter Try.func59, Try.ntmps59
    go_wp2_with fail
    refine (equalCell_any X Y ax ay cx cy Bx By _ (HX.out.same HC0.out) (HY.out.same HC0.out) hl).mono ?_
    rintro e w2 ⟨rfl, hc2⟩
    rw [← HD.out]
    have HC2 := Lib.hid (HC0.out.trans hc2)
    clear hc2
    obtain ⟨r, hr⟩ : ∃ r, rowEq (d, X) (d, Y) = r := ⟨_, rfl⟩
    rw [hr]
    have HR := Lib.hid hr
    clear hr HD
    go_wp2
    go_ret
    exact ⟨by rw [HR.out]; rfl, HC2.out⟩
  · have q1 : (d == d2) = false := by simpa using hd
    have HD : Hid (rowEq (d, X) (d2, Y) = false) := Lib.hid (by rw [HE.out]; simp [hd])
    clear HE hd
    go_enter Try.func59, Try.ntmps59
    go_wp2
    go_ret
    exact ⟨by rw [HD.out]; rfl, HC0.out⟩

set_option maxRecDepth 100000 in
set_option maxHeartbeats 4000000 in
theorem refSame_any (d d2 : Int) (X Y : List (Int × Int)) (ax ay : Option Addr) (cx cy Bx By : Nat) (w : World) (hx : cellR.In w Bx (ax, X.length, cx) X) (hy : cellR.In w By (ay, Y.length, cy) Y) (hl : X.length ≤ 1000000000) :
    Calls Try.prog 49 #[.agg #[.int .i64 d, .slice ax X.length cx], .agg #[.int .i64 d2, .slice ay Y.length cy]] w fun e w' => e = .returned (.bool (rowEq (d, X) (d2, Y))) ∧ Chg (fun _ => False) w w' := by
  have HX := Lib.hid hx
  have HY := Lib.hid hy
  have HC0 : Hid (Chg (fun _ => False) w ((w.alloc (.cells #[.int .i64 d, .slice ax X.length cx] 33)).alloc (.cells #[.int .i64 d2, .slice ay Y.length cy] 33))) := Lib.hid (((Chg.refl (fun _ => False) w).alloc _).alloc _)
  have HB : Hid (∀ wr, Chg (fun _ => False) ((w.alloc (.cells #[.int .i64 d, .slice ax X.length cx] 33)).alloc (.cells #[.int .i64 d2, .slice ay Y.length cy] 33)) wr → wr.cell? ⟨w.heap.size, 0, none⟩ = some (.int .i64 d) ∧ wr.cell? ⟨w.heap.size, 1, none⟩ = some (.slice ax X.length cx) ∧ wr.cell? ⟨w.heap.size + 1, 0, none⟩ = some (.int .i64 d2) ∧ wr.cell? ⟨w.heap.size + 1, 1, none⟩ = some (.slice ay Y.length cy)) := Lib.hid fun wr hc => ⟨hc.cellS (by simp) (fun h => h), hc.cellS (by simp) (fun h => h), hc.cellS (by simp) (fun h => h), hc.cellS (by simp) (fun h => h)⟩
  have HE := Lib.hid (eqPair d d2 X Y)
  clear hx hy
  by_cases hd : d = d2
  · subst hd
    by_cases hxy : X.length = Y.length
    · have q1 : (d != d) = false := by simp
      have b10 : ((X.length : Int) != (Y.length : Int)) = false := by simp [hxy]
      have HXY := Lib.hid hxy
      clear hxy
      have HD0 : Hid (rowEq (d, X) (d, Y) = decide (X = Y)) := Lib.hid (by rw [HE.out]; simp)
      clear HE
      go_enter Try.func49, Try.ntmps49
      go_wp2
      go_loopw [5] (fun i wr => ∃ k : Nat, k ≤ X.length ∧ i = .int .i64 k ∧ Chg (fun _ => False) ((w.alloc (.cells #[.int .i64 d, .slice ax X.length cx] 33)).alloc (.cells #[.int .i64 d, .slice ay Y.length cy] 33)) wr ∧ X.take k = Y.take k) (fun i _ => X.length - (intOf i).toNat)
      case atStart => exact ⟨0, by omega, rfl, Chg.refl _ _, by simp⟩
      case round =>
        clear q1 b10
        obtain ⟨k, hk, rfl, hc, he⟩ := hrel
        obtain ⟨b0, b1, b2, b3⟩ := HB.out wr hc
        have HC := Lib.hid hc
        have HE := Lib.hid he
        have HCW := Lib.hid (HC0.out.trans hc)
        clear hc he
        by_cases hkl : k < X.length
        · have b14 : decide ((k : Int) < (X.length : Int)) = true := by simp; omega
          have hkl2 : k < Y.length := by have := HXY.out; omega
          obtain ⟨p, g, o, u, v, hp, rfl, he, c0, c1, -, -, -⟩ := (HX.out.same HCW.out).get2 rfl hkl
          obtain ⟨rfl, rfl⟩ := pairOf he
          obtain ⟨q, g2, o2, u, v, hq, rfl, he2, c2, c3, -, -, -⟩ := (HY.out.same HCW.out).get2 rfl hkl2
          obtain ⟨rfl, rfl⟩ := pairOf he2
          obtain ⟨p0, p1⟩ := p
          obtain ⟨q0, q1⟩ := q
          have HP := Lib.hid hp
          have HQ := Lib.hid hq
          clear hp hq he he2
          by_cases hpq : (p0, p1) = (q0, q1)
          · injection hpq with h1 h2
            subst h1 h2
            have HT : Hid (X.take (k + 1) = Y.take (k + 1)) := Lib.hid (by rw [List.take_add_one, List.take_add_one, HE.out, HP.out, HQ.out])
            clear HE HP HQ
            go_upto_region 6 with (fail)
            go_still (by kernel_rfl)
            go_wp2
            go_roundw
            case rel => first | exact ⟨k + 1, by omega, by go_num, HC.out.drew, HT.out⟩ | ((repeat apply Exists.intro); exact ⟨⟨k + 1, by omega, rfl, HC.out.drew, HT.out⟩, by (repeat' apply And.intro) <;> first | rfl | go_num⟩)
            case measure => simp [intOf]; omega
          · have HD : Hid (rowEq (d, X) (d, Y) = false) := Lib.hid (by
              rw [HD0.out]
              apply decide_eq_false
              intro h
              rw [h, HQ.out] at HP
              exact hpq (Option.some.inj HP.out).symm)
            have hp3 : ¬ p0 = q0 ∨ (p0 = q0 ∧ ¬ p1 = q1) := by
              by_cases h : p0 = q0
              · exact .inr ⟨h, fun h2 => hpq (by rw [h, h2])⟩
              · exact .inl h
            clear HE HP HQ hpq HD0
            rcases hp3 with hp3 | ⟨hp3, hp4⟩
            · go_upto_region 6 with (fail)
              go_still (by kernel_rfl)
              go_wp2
              go_ret
              exact ⟨by rw [HD.out]; rfl, HCW.out.drew⟩
            · subst hp3
              go_upto_region 6 with (fail)
              go_still (by kernel_rfl)
              go_wp2
              go_ret
              exact ⟨by rw [HD.out]; rfl, HCW.out.drew⟩
        · obtain rfl : k = X.length := by omega
          have HD : Hid (rowEq (d, X) (d, Y) = true) := Lib.hid (by
            rw [HD0.out]
            have := HE.out
            rw [List.take_length, HXY.out, List.take_length] at this
            simp [this])
          clear HE HD0
          go_wp2
          go_ret
          exact ⟨by rw [HD.out]; rfl, HCW.out⟩
    · have q1 : (d != d) = false := by simp
      have b10 : ((X.length : Int) != (Y.length : Int)) = true := by simp; omega
      have HD : Hid (rowEq (d, X) (d, Y) = false) := Lib.hid (by
        apply decide_eq_false
        intro h
        injection h with _ h
        exact hxy (by rw [h]))
      clear HE
      go_enter Try.func49, Try.ntmps49
      go_wp2
      go_ret
      exact ⟨by rw [HD.out]; rfl, HC0.out⟩
  · have q1 : (d != d2) = true := by simpa using hd
    have HD : Hid (rowEq (d, X) (d2, Y) = false) := Lib.hid (by rw [HE.out]; simp [hd])
    clear HE hd
    go_enter Try.func49, Try.ntmps49
    go_wp2
    go_ret
    exact ⟨by rw [HD.out]; rfl, HC0.out⟩
end Go.Proofs.Ytkfakkonlnjckaa
