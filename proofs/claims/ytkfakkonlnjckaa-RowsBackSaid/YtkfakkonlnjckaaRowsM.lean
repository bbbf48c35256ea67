/- May a table be: the program's May. -/
import Derived.Test.YtkfakkonlnjckaaRowsF
namespace Go.Proofs.Ytkfakkonlnjckaa
open Go.RowKit

/-- Rows are numbered in the order in which they come first. -/
def nextL : Int → Int → List Int → Option Int
  | next, _, [] => some next
  | next, m, i :: l => if i < 0 ∨ next < i ∨ m ≤ i then none else nextL (if i = next then next + 1 else next) m l
theorem nextL_le : ∀ (l : List Int) (next m r : Int), nextL next m l = some r → next ≤ r ∧ r ≤ next + l.length
  | [], next, m, r, h => by
    simp only [nextL, Option.some.injEq] at h
    simp
    omega
  | i :: l, next, m, r, h => by
    simp only [nextL] at h
    split at h
    · cases h
    · have := nextL_le l _ m r h
      simp only [List.length_cons]
      split at this <;> omega
def mayL : TabD → Bool
  | (W, R, O) => decide (0 ≤ W ∧ W ≤ 65536 ∧ O.length ≤ 65536) && decide (nextL 0 R.length O = some (R.length : Int)) && R.all (fineL W.toNat) && decide R.Nodup
theorem mayL_width {W : Int} {R : List RowD} {O : List Int} (h : ¬ (0 ≤ W ∧ W ≤ 65536 ∧ O.length ≤ 65536)) : mayL (W, R, O) = false := by
  simp only [mayL, decide_eq_false h, Bool.false_and]
theorem mayL_next {W : Int} {R : List RowD} {O : List Int} (h : nextL 0 R.length O ≠ some (R.length : Int)) : mayL (W, R, O) = false := by
  simp only [mayL, decide_eq_false h, Bool.false_and, Bool.and_false]
theorem mayL_fine {W : Int} {R : List RowD} {O : List Int} {r : RowD} (hr : r ∈ R) (h : fineL W.toNat r = false) : mayL (W, R, O) = false := by
  have : R.all (fineL W.toNat) = false := by rw [List.all_eq_false]; exact ⟨r, hr, by simp [h]⟩
  simp only [mayL, this, Bool.false_and, Bool.and_false]
theorem mayL_twice {W : Int} {R : List RowD} {O : List Int} (h : ¬ R.Nodup) : mayL (W, R, O) = false := by
  simp only [mayL, decide_eq_false h, Bool.and_false]
theorem mayL_good {W : Int} {R : List RowD} {O : List Int} (h1 : 0 ≤ W ∧ W ≤ 65536 ∧ O.length ≤ 65536) (h3 : ∀ r ∈ R, fineL W.toNat r = true) (h4 : R.Nodup) : mayL (W, R, O) = decide (nextL 0 R.length O = some (R.length : Int)) := by
  have : R.all (fineL W.toNat) = true := List.all_eq_true.2 h3
  simp only [mayL, decide_eq_true h1, this, decide_eq_true h4, Bool.true_and, Bool.and_true]
theorem mayL_spec {W : Int} {R : List RowD} {O : List Int} (h : mayL (W, R, O) = true) : (0 ≤ W ∧ W ≤ 65536 ∧ O.length ≤ 65536) ∧ nextL 0 R.length O = some (R.length : Int) ∧ (∀ r ∈ R, fineL W.toNat r = true) ∧ R.Nodup := by
  simp only [mayL, Bool.and_eq_true, decide_eq_true_eq, List.all_eq_true] at h
  exact ⟨h.1.1.1, h.1.1.2, h.1.2, h.2⟩

/-- One of the rows. -/
theorem RowsIn.get {E : Elt (Int × Int)} {F : Elt (Int × Sl)} {w : World} {B : Nat} {a : Option Addr} {n c : Nat} {R : List RowD} (h : RowsIn E F w B (a, n, c) R) (hz : F.sz = 2) (he : ∀ x, F.enc x = encRow x) {k : Nat} (hk : k < R.length) :
    ∃ (r : RowD) (g o : Nat) (xa : Option Addr) (xc : Nat), R[k]? = some r ∧ a = some ⟨g, o, none⟩ ∧ w.cell? ⟨g, o + k * 2, none⟩ = some (.int .i64 r.1) ∧ w.cell? ⟨g, o + k * 2 + 1, none⟩ = some (.slice xa r.2.length xc) ∧ I.Byte r.1 ∧ E.In w B (xa, r.2.length, xc) r.2 ∧ g < w.heap.size ∧ B ≤ g := by
  obtain ⟨X, h1, h2, h3⟩ := h
  obtain ⟨x, g, o, u, v, hx, ha, hp, c0, c1, -, hB, hg⟩ := h1.get2 hz (show k < X.length by omega)
  have hr : R[k]? = some R[k] := List.getElem?_eq_getElem hk
  obtain ⟨r1, r2, r3⟩ := h3 k x _ hx hr
  rw [he] at hp
  unfold encRow at hp
  simp only [List.cons.injEq, and_true] at hp
  obtain ⟨rfl, rfl⟩ := hp
  obtain ⟨xd, xa, xn, xc⟩ := x
  have hn : xn = R[k].2.length := r3.1
  subst hn
  exact ⟨R[k], g, o, xa, xc, hr, ha, by rw [← r1]; exact c0, c1, r2, r3, hg, hB⟩

set_option maxRecDepth 100000 in
set_option maxHeartbeats 1000000 in
theorem indexRow_any (R : List RowD) (a : Option Addr) (c B B2 : Nat) (d : Int) (L : List (Int × Int)) (ax : Option Addr) (cx : Nat) (w : World) (h : RowsIn cellE rowE w B (a, R.length, c) R) (hx : cellE.In w B2 (ax, L.length, cx) L) (hl : R.length ≤ 1000000000) (hl2 : L.length ≤ 1000000000) :
    Calls Try.prog 67 #[.slice a R.length c, .func (.func 59) #[.agg #[.int .i64 d, .slice ax L.length cx]] #[]] w fun e w' => e = .returned (.int .i64 (idxV (rowEq (d, L)) R)) ∧ Chg (fun _ => False) w w' := by
  have HL := Lib.hid h
  have HX := Lib.hid hx
  clear h hx
  go_enter Try.func67, Try.ntmps67
  go_wp2
  go_loopw [8] (fun q wr => ∃ k : Nat, k ≤ R.length ∧ q = .int .i64 k ∧ (∀ (j : Nat) y, j < k → R[j]? = some y → rowEq (d, L) y = false) ∧ Chg (fun _ => False) w wr) (fun q _ => R.length - (intOf q).toNat)
  case atStart => exact ⟨0, by omega, rfl, fun j y h => absurd h (Nat.not_lt_zero _), Chg.refl _ _⟩
  case round =>
    obtain ⟨k, hk, rfl, hb, hc⟩ := hrel
    have HB := Lib.hid hb
    have HC := Lib.hid hc
    clear hb hc
    by_cases hkl : k < R.length
    · have b9 : decide ((k : Int) < (R.length : Int)) = true := by simp; omega
      obtain ⟨r, g, o, xa, xc, hr, rfl, c0, c1, -, hin, -, -⟩ := (HL.out.same HC.out).get rfl (fun _ => rfl) hkl
      obtain ⟨rd, rc⟩ := r
      simp only at c0 c1 hin
      have HR := Lib.hid hr
      have HIN := Lib.hid hin
      clear hr hin
      by_cases hxi : rowEq (d, L) (rd, rc) = true
      · go_wp2_with fail
        refine (same_row d rd L rc ax xa cx xc B2 B wr (HX.out.same HC.out) HIN.out hl2).mono ?_
        rintro e w2 ⟨rfl, hc2⟩
        rw [hxi]
        have HC2 := Lib.hid (HC.out.trans hc2)
        have HF : Hid (idxV (rowEq (d, L)) R = k) := Lib.hid (idxV_found HR.out hxi HB.out)
        clear hc2 c0 c1
        go_wp2
        go_ret
        exact ⟨by rw [HF.out]; rfl, HC2.out⟩
      · have hxi' : rowEq (d, L) (rd, rc) = false := by simpa using hxi
        have HB2 : Hid (∀ (j : Nat) y, j < k + 1 → R[j]? = some y → rowEq (d, L) y = false) := Lib.hid (fun j y hj hy => by
          by_cases he : j = k
          · subst he; rw [HR.out] at hy; obtain rfl := Option.some.inj hy; exact hxi'
          · exact HB.out j y (by omega) hy)
        go_wp2_with fail
        refine (same_row d rd L rc ax xa cx xc B2 B wr (HX.out.same HC.out) HIN.out hl2).mono ?_
        rintro e w2 ⟨rfl, hc2⟩
        rw [hxi']
        have HC2 := Lib.hid (HC.out.trans hc2)
        clear hc2 c0 c1 hxi hxi'
        go_wp2
        go_roundw
        case rel => exact ⟨k + 1, by omega, by go_num, HB2.out, HC2.out⟩
        case measure => simp [intOf]; omega
    · obtain rfl : k = R.length := by omega
      have HF : Hid (idxV (rowEq (d, L)) R = -1) := Lib.hid (idxV_none HB.out)
      go_wp2
      go_ret
      exact ⟨by rw [HF.out]; rfl, HC.out⟩

def hasRow (r : RowD) (R : List RowD) : Bool := R.any (rowEq r)
theorem hasRow_iff {r : RowD} {R : List RowD} : hasRow r R = true ↔ r ∈ R := by
  simp only [hasRow, rowEq, List.any_eq_true, decide_eq_true_eq]
  exact ⟨fun ⟨x, h1, h2⟩ => h2 ▸ h1, fun h => ⟨r, h, rfl⟩⟩
set_option maxRecDepth 100000 in
theorem containsRow_any (R : List RowD) (a : Option Addr) (c B B2 : Nat) (d : Int) (L : List (Int × Int)) (ax : Option Addr) (cx : Nat) (w : World) (h : RowsIn cellE rowE w B (a, R.length, c) R) (hx : cellE.In w B2 (ax, L.length, cx) L) (hl : R.length ≤ 1000000000) (hl2 : L.length ≤ 1000000000) :
    Calls Try.prog 58 #[.slice a R.length c, .func (.func 59) #[.agg #[.int .i64 d, .slice ax L.length cx]] #[]] w fun e w' => e = .returned (.bool (hasRow (d, L) R)) ∧ Chg (fun _ => False) w w' := by
  have HL := Lib.hid h
  have HX := Lib.hid hx
  clear h hx
  rcases idx_cases (rowEq (d, L)) R with ⟨k, x, -, -, h3, -, h5⟩ | ⟨h3, -, h5⟩
  · have HI := Lib.hid h3
    have HN : Hid (hasRow (d, L) R = true) := Lib.hid h5
    clear h3 h5
    go_enter Try.func58, Try.ntmps58
    go_wp2_with fail
    refine (indexRow_any R a c B B2 d L ax cx _ HL.out HX.out hl hl2).mono ?_
    rintro e w2 ⟨rfl, hc2⟩
    rw [HI.out]
    have HC := Lib.hid hc2
    clear hc2
    go_wp2
    go_ret
    exact ⟨by rw [HN.out]; rfl, HC.out⟩
  · have HI := Lib.hid h3
    have HN : Hid (hasRow (d, L) R = false) := Lib.hid h5
    clear h3 h5
    go_enter Try.func58, Try.ntmps58
    go_wp2_with fail
    refine (indexRow_any R a c B B2 d L ax cx _ HL.out HX.out hl hl2).mono ?_
    rintro e w2 ⟨rfl, hc2⟩
    rw [HI.out]
    have HC := Lib.hid hc2
    clear hc2
    go_wp2
    go_ret
    exact ⟨by rw [HN.out]; rfl, HC.out⟩

/-- The first rows. -/
theorem RowsIn.take {E : Elt (Int × Int)} {F : Elt (Int × Sl)} {w : World} {B : Nat} {a : Option Addr} {n c : Nat} {R : List RowD} (h : RowsIn E F w B (a, n, c) R) {k : Nat} (hk : k ≤ R.length) : RowsIn E F w B (a, (R.take k).length, c) (R.take k) := by
  obtain ⟨X, ⟨h1, h2, g, o, h3, h4⟩, h5, h6⟩ := h
  simp only at h1 h2
  have hX : X = X.take k ++ X.drop k := (List.take_append_drop k X).symm
  refine ⟨X.take k, ⟨?_, ?_, g, o, ⟨fun j u hj => ?_, fun x hx => h3.ok x (List.mem_of_mem_take hx), fun hne => h3.lt (fun e => hne (by rw [e]; simp))⟩, fun hp => h4 (by rw [List.length_take] at hp; omega)⟩, by simp [h5], fun j x r hx hr => ?_⟩
  · simp [h5]
  · show (R.take k).length ≤ c
    rw [List.length_take]; omega
  · refine h3.c j u ?_
    rw [hX, F.encs_append, List.getElem?_append_left (List.getElem?_eq_some_iff.1 hj).1]
    exact hj
  · have hj := (List.getElem?_eq_some_iff.1 hx).1
    rw [List.length_take] at hj
    rw [List.getElem?_take_of_lt (by omega)] at hx hr
    exact h6 j x r hx hr

theorem nextL_step {next m i : Int} {O : List Int} {k : Nat} (hi : O[k]? = some i) : nextL next m (O.drop k) = if i < 0 ∨ next < i ∨ m ≤ i then none else nextL (if i = next then next + 1 else next) m (O.drop (k + 1)) := by
  have h1 := (List.getElem?_eq_some_iff.1 hi).1
  rw [List.drop_eq_getElem_cons h1, (List.getElem?_eq_some_iff.1 hi).2]
  rfl

def FineTo (W : Int) (R : List RowD) (k : Nat) : Prop := (∀ (j : Nat) r, j < k → R[j]? = some r → fineL W.toNat r = true) ∧ (R.take k).Nodup
set_option maxRecDepth 100000 in
set_option maxHeartbeats 8000000 in
theorem may_any (W : Int) (R : List RowD) (O : List Int) (ra oa : Option Addr) (rc oc B g o : Nat) (w : World) (hW : I.Byte W) (hR : RowsIn cellE rowE w B (ra, R.length, rc) R) (hrl : R.length ≤ 100000000) (hcl : ∀ r ∈ R, r.2.length ≤ 1000000000)
    (hO : I.BytesAt w g o O) (ha : 0 < O.length → oa = some ⟨g, o, none⟩) (hol : O.length ≤ 100000000) :
    Calls Try.prog 28 #[.agg #[.int .i64 W, .slice ra R.length rc, .slice oa O.length oc]] w fun e w' => e = .returned (.bool (mayL (W, R, O))) ∧ Chg (fun _ => False) w w' := by
  have HR := Lib.hid hR
  have HO := Lib.hid hO
  have HA := Lib.hid ha
  have HCL := Lib.hid hcl
  obtain ⟨hW0, hW1⟩ := hW
  have hrc : R.length ≤ rc := by obtain ⟨X, h1, h2, _⟩ := hR; have := h1.1; have := h1.2.1; simp only at *; omega
  have HC0 := Lib.hid ((Chg.refl (fun k => w.heap.size ≤ k) w).alloc (.cells #[.int .i64 W, .slice ra R.length rc, .slice oa O.length oc] 45))
  have HB0 : Hid (∀ wr, Chg (fun k => w.heap.size + 1 ≤ k) (w.alloc (.cells #[.int .i64 W, .slice ra R.length rc, .slice oa O.length oc] 45)) wr → wr.cell? ⟨w.heap.size, 0, none⟩ = some (.int .i64 W) ∧ wr.cell? ⟨w.heap.size, 1, none⟩ = some (.slice ra R.length rc) ∧ wr.cell? ⟨w.heap.size, 2, none⟩ = some (.slice oa O.length oc)) := Lib.hid fun wr hc =>
    ⟨hc.cellS (by simp) (by show ¬ w.heap.size + 1 ≤ w.heap.size; omega), hc.cellS (by simp) (by show ¬ w.heap.size + 1 ≤ w.heap.size; omega), hc.cellS (by simp) (by show ¬ w.heap.size + 1 ≤ w.heap.size; omega)⟩
  clear hR hO ha hcl
  by_cases h1 : 0 ≤ W
  · have d1 : decide (W < 0) = false := by simp; omega
    by_cases h2 : W ≤ 65536
    · have d2 : decide (65536 < W) = false := by simp; omega
      by_cases h3 : O.length ≤ 65536
      · have d3 : decide (65536 < (O.length : Int)) = false := by simp; omega
        by_cases h4 : R.length ≤ O.length
        · have d4 : decide ((O.length : Int) < (R.length : Int)) = false := by simp; omega
          go_enter Try.func28, Try.ntmps28
          go_wp2
          go_loopw [3, 34] (fun nv q wr => ∃ (k : Nat) (next : Int), k ≤ O.length ∧ q = .int .i64 k ∧ nv = .int .i64 next ∧ (0 ≤ next ∧ next ≤ k) ∧ nextL 0 R.length O = nextL next R.length (O.drop k) ∧ wr = w.alloc (.cells #[.int .i64 W, .slice ra R.length rc, .slice oa O.length oc] 45)) (fun _ q _ => O.length - (intOf q).toNat)
          case atStart => exact ⟨0, 0, by omega, rfl, rfl, by omega, by simp, rfl⟩
          case round =>
            obtain ⟨k, next, hk, rfl, rfl, ⟨n0, n1⟩, he, rfl⟩ := hrel
            have HE := Lib.hid he
            clear he
            by_cases hkl : k < O.length
            · have b35 : decide ((k : Int) < (O.length : Int)) = true := by simp; omega
              obtain ⟨i, hi, c1, i0, i1⟩ := (HO.out.chg HC0.out.fresh (fun _ h => h)).get hkl
              have e1 := HA.out (by omega)
              subst e1
              have HST := Lib.hid (nextL_step (next := next) (m := R.length) hi)
              clear hi
              by_cases g1 : i < 0
              · have q1 : decide (i < 0) = true := by simpa using g1
                have HF : Hid (mayL (W, R, O) = false) := Lib.hid (mayL_next (by rw [HE.out, HST.out, if_pos (.inl g1)]; simp))
                go_wp2
                go_ret
                exact ⟨by rw [HF.out]; rfl, HC0.out.fresh⟩
              · have q1 : decide (i < 0) = false := by simpa using g1
                by_cases g2 : next < i
                · have q2 : decide (next < i) = true := by simpa using g2
                  have HF : Hid (mayL (W, R, O) = false) := Lib.hid (mayL_next (by rw [HE.out, HST.out, if_pos (.inr (.inl g2))]; simp))
                  go_wp2
                  go_ret
                  exact ⟨by rw [HF.out]; rfl, HC0.out.fresh⟩
                · have q2 : decide (next < i) = false := by simpa using g2
                  by_cases g3 : (R.length : Int) ≤ i
                  · have q3 : decide ((R.length : Int) ≤ i) = true := by simpa using g3
                    have HF : Hid (mayL (W, R, O) = false) := Lib.hid (mayL_next (by rw [HE.out, HST.out, if_pos (.inr (.inr g3))]; simp))
                    go_wp2
                    go_ret
                    exact ⟨by rw [HF.out]; rfl, HC0.out.fresh⟩
                  · have q3 : decide ((R.length : Int) ≤ i) = false := by simpa using g3
                    have HEN : Hid (nextL 0 R.length O = nextL (if i = next then next + 1 else next) R.length (O.drop (k + 1))) := Lib.hid (by rw [HE.out, HST.out, if_neg (by omega)])
                    clear HE HST
                    by_cases g4 : i = next
                    · subst g4
                      rw [if_pos rfl] at HEN
                      have q4 : (i == i) = true := by simp
                      go_wp2
                      go_roundw
                      case rel => exact ⟨k + 1, i + 1, by omega, by go_num, rfl, by omega, HEN.out, by first | rfl | trivial⟩
                      case measure => simp [intOf]; omega
                    · rw [if_neg g4] at HEN
                      have q4 : (i == next) = false := by simpa using g4
                      clear g4
                      go_wp2
                      go_roundw
                      case rel => exact ⟨k + 1, next, by omega, by go_num, rfl, by omega, HEN.out, by first | rfl | trivial⟩
                      case measure => simp [intOf]; omega
            · obtain rfl : k = O.length := by omega
              have HNX : Hid (nextL 0 R.length O = some next) := Lib.hid (by rw [HE.out, List.drop_length]; rfl)
              clear HE
              go_wp2
              go_loopw [59] (fun q wr => ∃ (k : Nat), k ≤ R.length ∧ q = .int .i64 k ∧ FineTo W R k ∧ Chg (fun k => w.heap.size + 1 ≤ k) (w.alloc (.cells #[.int .i64 W, .slice ra R.length rc, .slice oa O.length oc] 45)) wr) (fun q _ => R.length - (intOf q).toNat)
              case atStart => exact ⟨0, by omega, rfl, ⟨fun j r h => absurd h (Nat.not_lt_zero _), by simp⟩, Chg.refl _ _⟩
              case round =>
                obtain ⟨k, hk, rfl, ⟨hfn, hnd⟩, hc⟩ := hrel
                have HFN := Lib.hid hfn
                have HND := Lib.hid hnd
                have HC := Lib.hid hc
                have HCW := Lib.hid ((HC0.out.trans (hc.mono (T := fun k => w.heap.size ≤ k) (fun k _ e => by omega))).fresh)
                obtain ⟨b0, b1, b2⟩ := HB0.out wr hc
                clear hfn hnd hc
                by_cases hkl : k < R.length
                · have b60 : decide ((k : Int) < (R.length : Int)) = true := by simp; omega
                  obtain ⟨r, g', o', xa, xc, hr, rfl, c0, c1, hrb, hin, -, -⟩ := (HR.out.same HCW.out).get rfl (fun _ => rfl) hkl
                  obtain ⟨rd, rl⟩ := r
                  simp only at c0 c1 hin hrb
                  have HRK := Lib.hid hr
                  have HRB := Lib.hid hrb
                  have HIN := Lib.hid hin
                  have HRL := Lib.hid (HCL.out _ (List.mem_of_getElem? hr))
                  obtain ⟨WN, hWN⟩ : ∃ n : Nat, W = n := ⟨W.toNat, by omega⟩
                  subst hWN
                  have HTK : Hid ((R.take k).length = k) := Lib.hid (by rw [List.length_take]; omega)
                  have HFF : Hid (∀ b, fineL WN (rd, rl) = b → fineL (WN : Int).toNat (rd, rl) = b) := Lib.hid (fun b h => h)
                  have HCA := Lib.hid (HC.out.alloc (.cells #[.int .i64 rd, .slice xa rl.length xc] 27))
                  have HCA2 := Lib.hid (HCW.out.alloc (.cells #[.int .i64 rd, .slice xa rl.length xc] 27))
                  clear hr hin hrb
                  obtain ⟨wa, hwa⟩ : ∃ wa, wa = wr.alloc (.cells #[.int .i64 rd, .slice xa rl.length xc] 27) := ⟨_, rfl⟩
                  have HRC : Hid (∀ wx, Chg (fun _ => False) wa wx → wx.cell? ⟨wr.heap.size, 0, none⟩ = some (.int .i64 rd) ∧ wx.cell? ⟨wr.heap.size, 1, none⟩ = some (.slice xa rl.length xc)) := Lib.hid (fun wx hx => by subst hwa; exact ⟨hx.cellS (by simp) (fun h => h), hx.cellS (by simp) (fun h => h)⟩)
                  have HWA := Lib.hid hwa
                  rw [← hwa] at HCA HCA2
                  clear hwa
                  have HCW2 : Hid (Chg (fun _ => False) wr wa) := Lib.hid (by rw [HWA.out]; exact (Chg.refl _ _).alloc _)
                  by_cases hf : fineL WN (rd, rl) = true
                  · by_cases hh : hasRow (rd, rl) (R.take k) = true
                    · have HF : Hid (mayL ((WN : Int), R, O) = false) := Lib.hid (mayL_twice (fun hn => by
                        have hm := hasRow_iff.1 hh
                        obtain ⟨j, hj, he⟩ := List.getElem_of_mem hm
                        rw [List.length_take] at hj
                        rw [List.getElem_take] at he
                        have := (List.getElem?_inj (i := j) (j := k) (by omega) hn).1 (by rw [HRK.out, List.getElem?_eq_getElem (by omega), he])
                        omega))
                      go_upto_region 17 with (fail)
                      rw [← HWA.out]
                      refine wp_region_same (fun w' => Chg (fun _ => False) wa w') (by kernel_rfl) (by kernel_rfl) ?_ ?_
                      · exact (Chg.refl _ _).drew
                      (refine wpC_read rfl (fun _ _ _ h => h) (fun K hK => ?_); apply Exists.intro; refine ⟨fun _ w' _ hC => ?_, ?_⟩; ((obtain ⟨q0, q1⟩ := HRC.out w' hC); go_simp; try with_reducible rfl); (try go_simp); refine hK _ ?_; clear hK K)
                      (refine wpC_read rfl (fun _ _ _ h => h) (fun K hK => ?_); apply Exists.intro; refine ⟨fun _ w' _ hC => ?_, ?_⟩; ((skip); go_simp; try with_reducible rfl); (try go_simp); refine hK _ ?_; clear hK K)
                      (refine wpC_read rfl (fun _ _ _ h => h) (fun K hK => ?_); apply Exists.intro; refine ⟨fun _ w' _ hC => ?_, ?_⟩; ((obtain ⟨q0, q1, q2⟩ := HB0.out w' (HCA.out.trans hC.any)); go_simp; try with_reducible rfl); (try go_simp); refine hK _ ?_; clear hK K)
                      refine wpC_call rfl (Value.bool true )  57  ( #[.agg #[.int .i64 rd, .slice xa rl.length xc], .int .i64 WN]) (fun w' => by go_simp) (fun _ w' _ hC => ?_) (fun K hK => ?_)
                      · refine (fine_any WN rd rl xa xc B w' (HIN.out.same (HCW2.out.trans hC)) HRL.out (by omega) HRB.out).mono ?_
                        rintro e w2 ⟨rfl, hc2⟩
                        exact ⟨by rw [hf], hC.trans hc2⟩
                      ((try go_simp); refine hK _ ?_; clear hK K)
                      (refine wpC_read rfl (fun _ _ _ h => h) (fun K hK => ?_); apply Exists.intro; refine ⟨fun _ w' _ hC => ?_, ?_⟩; ((skip); go_simp; try with_reducible rfl); (try go_simp); refine hK _ ?_; clear hK K)
                      (refine wpC_read rfl (fun _ _ _ h => h) (fun K hK => ?_); apply Exists.intro; refine ⟨fun _ w' _ hC => ?_, ?_⟩; ((skip); go_simp; try with_reducible rfl); (try go_simp); refine hK _ ?_; clear hK K)
                      (refine wpC_read rfl (fun _ _ _ h => h) (fun K hK => ?_); apply Exists.intro; refine ⟨fun _ w' _ hC => ?_, ?_⟩; ((skip); go_simp; try with_reducible rfl); (try go_simp); refine hK _ ?_; clear hK K)
                      (refine wpC_read rfl (fun _ _ _ h => h) (fun K hK => ?_); apply Exists.intro; refine ⟨fun _ w' _ hC => ?_, ?_⟩; ((obtain ⟨q0, q1, q2⟩ := HB0.out w' (HCA.out.trans hC.any)); go_simp; try with_reducible rfl); (try go_simp); refine hK _ ?_; clear hK K)
                      (refine wpC_read rfl (fun _ _ _ h => h) (fun K hK => ?_); apply Exists.intro; refine ⟨fun _ w' _ hC => ?_, ?_⟩; ((skip); go_simp; try with_reducible rfl); (try go_simp); refine hK _ ?_; clear hK K)
                      (refine wpC_read rfl (fun _ _ _ h => h) (fun K hK => ?_); apply Exists.intro; refine ⟨fun _ w' _ hC => ?_, ?_⟩; ((have hkr : k ≤ rc := by omega); go_simp; try with_reducible rfl); (try go_simp); refine hK _ ?_; clear hK K)
                      (refine wpC_read rfl (fun _ _ _ h => h) (fun K hK => ?_); apply Exists.intro; refine ⟨fun _ w' _ hC => ?_, ?_⟩; ((obtain ⟨q0, q1⟩ := HRC.out w' hC); go_simp; try with_reducible rfl); (try go_simp); refine hK _ ?_; clear hK K)
                      (refine wpC_read rfl (fun _ _ _ h => h) (fun K hK => ?_); apply Exists.intro; refine ⟨fun _ w' _ hC => ?_, ?_⟩; ((skip); go_simp; try with_reducible rfl); (try go_simp); refine hK _ ?_; clear hK K)
                      refine wpC_call rfl (Value.bool true )  58  ( #[.slice (some ⟨g', o', none⟩) k rc, .func (.func 59) #[.agg #[.int .i64 rd, .slice xa rl.length xc]] #[]]) (fun w' => by go_simp) (fun _ w' _ hC => ?_) (fun K hK => ?_)
                      · have hct := containsRow_any (R.take k) (some ⟨g', o', none⟩) rc B B rd rl xa xc w' ((HR.out.same (HCA2.out.trans hC)).take (by omega)) (HIN.out.same (HCW2.out.trans hC)) (by rw [HTK.out]; omega) HRL.out
                        rw [HTK.out] at hct
                        refine hct.mono ?_
                        rintro e w2 ⟨rfl, hc2⟩
                        exact ⟨by rw [hh], hC.trans hc2⟩
                      ((try go_simp); refine hK _ ?_; clear hK K)
                      (refine wpC_read rfl (fun _ _ _ h => h) (fun K hK => ?_); apply Exists.intro; refine ⟨fun _ w' _ hC => ?_, ?_⟩; ((skip); go_simp; try with_reducible rfl); (try go_simp); refine hK _ ?_; clear hK K)
                      refine wpC_nil ?_
                      intro w2 hC2
                      have HC2 := Lib.hid hC2
                      clear hC2
                      go_wp2
                      go_ret
                      exact ⟨by rw [HF.out]; rfl, HCA2.out.trans HC2.out⟩
                    · have hh : hasRow (rd, rl) (R.take k) = false := by simpa using hh
                      have HFN2 : Hid (∀ (j : Nat) r, j < k + 1 → R[j]? = some r → fineL (WN : Int).toNat r = true) := Lib.hid (fun j x hj hx => by
                        by_cases he : j = k
                        · subst he; rw [HRK.out] at hx; obtain rfl := Option.some.inj hx; exact hf
                        · exact HFN.out j x (by omega) hx)
                      have HND2 : Hid ((R.take (k + 1)).Nodup) := Lib.hid (by
                        rw [List.take_add_one, HRK.out, List.nodup_append]
                        refine ⟨HND.out, by simp, fun a ha b hb => ?_⟩
                        simp at hb
                        subst hb
                        intro e
                        subst e
                        rw [hasRow_iff.2 ha] at hh
                        cases hh)
                      go_upto_region 17 with (fail)
                      rw [← HWA.out]
                      refine wp_region_same (fun w' => Chg (fun _ => False) wa w') (by kernel_rfl) (by kernel_rfl) ?_ ?_
                      · exact (Chg.refl _ _).drew
                      (refine wpC_read rfl (fun _ _ _ h => h) (fun K hK => ?_); apply Exists.intro; refine ⟨fun _ w' _ hC => ?_, ?_⟩; ((obtain ⟨q0, q1⟩ := HRC.out w' hC); go_simp; try with_reducible rfl); (try go_simp); refine hK _ ?_; clear hK K)
                      (refine wpC_read rfl (fun _ _ _ h => h) (fun K hK => ?_); apply Exists.intro; refine ⟨fun _ w' _ hC => ?_, ?_⟩; ((skip); go_simp; try with_reducible rfl); (try go_simp); refine hK _ ?_; clear hK K)
                      (refine wpC_read rfl (fun _ _ _ h => h) (fun K hK => ?_); apply Exists.intro; refine ⟨fun _ w' _ hC => ?_, ?_⟩; ((obtain ⟨q0, q1, q2⟩ := HB0.out w' (HCA.out.trans hC.any)); go_simp; try with_reducible rfl); (try go_simp); refine hK _ ?_; clear hK K)
                      refine wpC_call rfl (Value.bool true )  57  ( #[.agg #[.int .i64 rd, .slice xa rl.length xc], .int .i64 WN]) (fun w' => by go_simp) (fun _ w' _ hC => ?_) (fun K hK => ?_)
                      · refine (fine_any WN rd rl xa xc B w' (HIN.out.same (HCW2.out.trans hC)) HRL.out (by omega) HRB.out).mono ?_
                        rintro e w2 ⟨rfl, hc2⟩
                        exact ⟨by rw [hf], hC.trans hc2⟩
                      ((try go_simp); refine hK _ ?_; clear hK K)
                      (refine wpC_read rfl (fun _ _ _ h => h) (fun K hK => ?_); apply Exists.intro; refine ⟨fun _ w' _ hC => ?_, ?_⟩; ((skip); go_simp; try with_reducible rfl); (try go_simp); refine hK _ ?_; clear hK K)
                      (refine wpC_read rfl (fun _ _ _ h => h) (fun K hK => ?_); apply Exists.intro; refine ⟨fun _ w' _ hC => ?_, ?_⟩; ((skip); go_simp; try with_reducible rfl); (try go_simp); refine hK _ ?_; clear hK K)
                      (refine wpC_read rfl (fun _ _ _ h => h) (fun K hK => ?_); apply Exists.intro; refine ⟨fun _ w' _ hC => ?_, ?_⟩; ((skip); go_simp; try with_reducible rfl); (try go_simp); refine hK _ ?_; clear hK K)
                      (refine wpC_read rfl (fun _ _ _ h => h) (fun K hK => ?_); apply Exists.intro; refine ⟨fun _ w' _ hC => ?_, ?_⟩; ((obtain ⟨q0, q1, q2⟩ := HB0.out w' (HCA.out.trans hC.any)); go_simp; try with_reducible rfl); (try go_simp); refine hK _ ?_; clear hK K)
                      (refine wpC_read rfl (fun _ _ _ h => h) (fun K hK => ?_); apply Exists.intro; refine ⟨fun _ w' _ hC => ?_, ?_⟩; ((skip); go_simp; try with_reducible rfl); (try go_simp); refine hK _ ?_; clear hK K)
                      (refine wpC_read rfl (fun _ _ _ h => h) (fun K hK => ?_); apply Exists.intro; refine ⟨fun _ w' _ hC => ?_, ?_⟩; ((have hkr : k ≤ rc := by omega); go_simp; try with_reducible rfl); (try go_simp); refine hK _ ?_; clear hK K)
                      (refine wpC_read rfl (fun _ _ _ h => h) (fun K hK => ?_); apply Exists.intro; refine ⟨fun _ w' _ hC => ?_, ?_⟩; ((obtain ⟨q0, q1⟩ := HRC.out w' hC); go_simp; try with_reducible rfl); (try go_simp); refine hK _ ?_; clear hK K)
                      (refine wpC_read rfl (fun _ _ _ h => h) (fun K hK => ?_); apply Exists.intro; refine ⟨fun _ w' _ hC => ?_, ?_⟩; ((skip); go_simp; try with_reducible rfl); (try go_simp); refine hK _ ?_; clear hK K)
                      refine wpC_call rfl (Value.bool false )  58  ( #[.slice (some ⟨g', o', none⟩) k rc, .func (.func 59) #[.agg #[.int .i64 rd, .slice xa rl.length xc]] #[]]) (fun w' => by go_simp) (fun _ w' _ hC => ?_) (fun K hK => ?_)
                      · have hct := containsRow_any (R.take k) (some ⟨g', o', none⟩) rc B B rd rl xa xc w' ((HR.out.same (HCA2.out.trans hC)).take (by omega)) (HIN.out.same (HCW2.out.trans hC)) (by rw [HTK.out]; omega) HRL.out
                        rw [HTK.out] at hct
                        refine hct.mono ?_
                        rintro e w2 ⟨rfl, hc2⟩
                        exact ⟨by rw [hh], hC.trans hc2⟩
                      ((try go_simp); refine hK _ ?_; clear hK K)
                      (refine wpC_read rfl (fun _ _ _ h => h) (fun K hK => ?_); apply Exists.intro; refine ⟨fun _ w' _ hC => ?_, ?_⟩; ((skip); go_simp; try with_reducible rfl); (try go_simp); refine hK _ ?_; clear hK K)
                      refine wpC_nil ?_
                      intro w2 hC2
                      have HC2 := Lib.hid hC2
                      clear hC2
                      have HC3 := Lib.hid (HCA.out.trans HC2.out.any)
                      clear hf hh
                      go_wp2
                      go_roundw
                      case rel => first | exact ⟨k + 1, by omega, by go_num, ⟨HFN2.out, HND2.out⟩, HC3.out⟩ | ((repeat apply Exists.intro); exact ⟨⟨k + 1, by omega, rfl, ⟨HFN2.out, HND2.out⟩, HC3.out⟩, by (repeat' apply And.intro) <;> first | rfl | go_num⟩)
                      case measure => simp [intOf]; omega
                  · have hf : fineL WN (rd, rl) = false := by simpa using hf
                    have HF : Hid (mayL ((WN : Int), R, O) = false) := Lib.hid (mayL_fine (List.mem_of_getElem? HRK.out) hf)
                    go_upto_region 17 with (fail)
                    rw [← HWA.out]
                    refine wp_region_same (fun w' => Chg (fun _ => False) wa w') (by kernel_rfl) (by kernel_rfl) ?_ ?_
                    · exact (Chg.refl _ _).drew
                    (refine wpC_read rfl (fun _ _ _ h => h) (fun K hK => ?_); apply Exists.intro; refine ⟨fun _ w' _ hC => ?_, ?_⟩; ((obtain ⟨q0, q1⟩ := HRC.out w' hC); go_simp; try with_reducible rfl); (try go_simp); refine hK _ ?_; clear hK K)
                    (refine wpC_read rfl (fun _ _ _ h => h) (fun K hK => ?_); apply Exists.intro; refine ⟨fun _ w' _ hC => ?_, ?_⟩; ((skip); go_simp; try with_reducible rfl); (try go_simp); refine hK _ ?_; clear hK K)
                    (refine wpC_read rfl (fun _ _ _ h => h) (fun K hK => ?_); apply Exists.intro; refine ⟨fun _ w' _ hC => ?_, ?_⟩; ((obtain ⟨q0, q1, q2⟩ := HB0.out w' (HCA.out.trans hC.any)); go_simp; try with_reducible rfl); (try go_simp); refine hK _ ?_; clear hK K)
                    refine wpC_call rfl (Value.bool false )  57  ( #[.agg #[.int .i64 rd, .slice xa rl.length xc], .int .i64 WN]) (fun w' => by go_simp) (fun _ w' _ hC => ?_) (fun K hK => ?_)
                    · refine (fine_any WN rd rl xa xc B w' (HIN.out.same (HCW2.out.trans hC)) HRL.out (by omega) HRB.out).mono ?_
                      rintro e w2 ⟨rfl, hc2⟩
                      exact ⟨by rw [hf], hC.trans hc2⟩
                    ((try go_simp); refine hK _ ?_; clear hK K)
                    (refine wpC_read rfl (fun _ _ _ h => h) (fun K hK => ?_); apply Exists.intro; refine ⟨fun _ w' _ hC => ?_, ?_⟩; ((skip); go_simp; try with_reducible rfl); (try go_simp); refine hK _ ?_; clear hK K)
                    (refine wpC_read rfl (fun _ _ _ h => h) (fun K hK => ?_); apply Exists.intro; refine ⟨fun _ w' _ hC => ?_, ?_⟩; ((skip); go_simp; try with_reducible rfl); (try go_simp); refine hK _ ?_; clear hK K)
                    iterate 7 (refine wpC_skip rfl (fun _ _ _ h => h) (fun K hK => ?_); (try go_simp); refine hK _ ?_; clear hK K)
                    (refine wpC_read rfl (fun _ _ _ h => h) (fun K hK => ?_); apply Exists.intro; refine ⟨fun _ w' _ hC => ?_, ?_⟩; ((skip); go_simp; try with_reducible rfl); (try go_simp); refine hK _ ?_; clear hK K)
                    refine wpC_nil ?_
                    intro w2 hC2
                    have HC2 := Lib.hid hC2
                    clear hC2
                    go_wp2
                    go_ret
                    exact ⟨by rw [HF.out]; rfl, HCA2.out.trans HC2.out⟩
                · obtain rfl : k = R.length := by omega
                  have HMG : Hid (mayL (W, R, O) = decide (nextL 0 R.length O = some (R.length : Int))) := Lib.hid (mayL_good ⟨h1, h2, h3⟩ (fun r hr => by
                    obtain ⟨j, hj, he⟩ := List.getElem_of_mem hr
                    exact HFN.out j r hj (by rw [List.getElem?_eq_getElem hj, he])) (by have := HND.out; rwa [List.take_length] at this))
                  by_cases hnx : next = (R.length : Int)
                  · have HF : Hid (mayL (W, R, O) = true) := Lib.hid (by rw [HMG.out, HNX.out, hnx]; simp)
                    have q1 : (next == (R.length : Int)) = true := by simpa using hnx
                    clear hnx HMG HNX
                    go_wp2
                    go_ret
                    exact ⟨by rw [HF.out]; rfl, HCW.out⟩
                  · have HF : Hid (mayL (W, R, O) = false) := Lib.hid (by rw [HMG.out, HNX.out]; simpa using hnx)
                    have q1 : (next == (R.length : Int)) = false := by simpa using hnx
                    clear hnx HMG HNX
                    go_wp2
                    go_ret
                    exact ⟨by rw [HF.out]; rfl, HCW.out⟩
        · have d4 : decide ((O.length : Int) < (R.length : Int)) = true := by simp; omega
          have HF : Hid (mayL (W, R, O) = false) := Lib.hid (mayL_next (fun e => by have := nextL_le O 0 R.length _ e; omega))
          go_enter Try.func28, Try.ntmps28
          go_wp2
          go_ret
          exact ⟨by rw [HF.out]; rfl, HC0.out.fresh⟩
      · have d3 : decide (65536 < (O.length : Int)) = true := by simp; omega
        have HF : Hid (mayL (W, R, O) = false) := Lib.hid (mayL_width (by omega))
        go_enter Try.func28, Try.ntmps28
        go_wp2
        go_ret
        exact ⟨by rw [HF.out]; rfl, HC0.out.fresh⟩
    · have d2 : decide (65536 < W) = true := by simp; omega
      have HF : Hid (mayL (W, R, O) = false) := Lib.hid (mayL_width (by omega))
      go_enter Try.func28, Try.ntmps28
      go_wp2
      go_ret
      exact ⟨by rw [HF.out]; rfl, HC0.out.fresh⟩
  · have d1 : decide (W < 0) = true := by simp; omega
    have HF : Hid (mayL (W, R, O) = false) := Lib.hid (mayL_width (by omega))
    go_enter Try.func28, Try.ntmps28
    go_wp2
    go_ret
    exact ⟨by rw [HF.out]; rfl, HC0.out.fresh⟩
end Go.Proofs.Ytkfakkonlnjckaa
