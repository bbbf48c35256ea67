/- Which range holds a rune, and where a list's number is first so: by whatever predicate handed in. A table's step: the program's and the document's. Do ranges rise apart: the program's. May a table be: the program's May. May a table be: the program's May, its walk. -/
import Derived.Test.YtodohgckncnipaaGA1
import Derived.Handy
import Derived.Shelf.Abstract
/- Which range holds a rune, and where a list's number is first so: by whatever predicate handed in. -/
namespace Go.Proofs.Ytodohgckncnipaa
open Go.RowKit

/-- A predicate on ints, as a function value. -/
def GivesI (f : FuncId) (lb : Array Value) (p : Int → Bool) (w : World) : Prop := ∀ (x : Int) (w' : World), I.Byte x → Chg (fun _ => False) w w' →
  Calls Try.prog f (#[.int .i64 x] ++ lb) w' fun e w'' => e = .returned (.bool (p x)) ∧ Chg (fun _ => False) w' w''

set_option maxRecDepth 100000 in
set_option maxHeartbeats 1000000 in
theorem indexInt_any (f : FuncId) (lb : Array Value) (p : Int → Bool) (Z : List Int) (a : Option Addr) (c B : Nat) (w : World) (eg : ∀ args w, (callFunc f args).run Try.prog w = .ok (.enter f args) w) (h : intE.In w B (a, Z.length, c) Z) (hp : GivesI f lb p w) (hl : Z.length ≤ 1000000000) :
    Calls Try.prog 64 #[.slice a Z.length c, .func (.func f) #[] lb] w fun e w' => e = .returned (.int .i64 (idxV p Z)) ∧ Chg (fun _ => False) w w' := by
  have HL := Lib.hid h
  have HP := Lib.hid hp
  clear h hp
  go_enter Try.func64, Try.ntmps64
  go_wp2
  go_loopw [8] (fun q wr => ∃ k : Nat, k ≤ Z.length ∧ q = .int .i64 k ∧ (∀ (j : Nat) y, j < k → Z[j]? = some y → p y = false) ∧ Chg (fun _ => False) w wr) (fun q _ => Z.length - (intOf q).toNat)
  case atStart => exact ⟨0, by omega, rfl, fun j y h => absurd h (Nat.not_lt_zero _), Chg.refl _ _⟩
  case round =>
    obtain ⟨k, hk, rfl, hb, hc⟩ := hrel
    have HB := Lib.hid hb
    have HC := Lib.hid hc
    clear hb hc
    by_cases hkl : k < Z.length
    · have b9 : decide ((k : Int) < (Z.length : Int)) = true := by simp; omega
      obtain ⟨x, g, o, hx, rfl, c0, x0, x1, -, -⟩ := (HL.out.same HC.out).getI hkl
      have HX := Lib.hid hx
      clear hx
      have hcall := HP.out x wr ⟨x0, x1⟩ HC.out
      cases hxi : p x with
      | true =>
        rw [hxi] at hcall
        have HF : Hid (idxV p Z = k) := Lib.hid (idxV_found HX.out hxi HB.out)
        have HCALL := Lib.hid hcall
        clear hcall hxi
        go_wp2_with fail
        refine HCALL.out.mono ?_
        rintro e w2 ⟨rfl, hc2⟩
        have HC2 := Lib.hid (HC.out.trans hc2)
        clear hc2 c0
        go_wp2
        go_ret
        exact ⟨by rw [HF.out]; rfl, HC2.out⟩
      | false =>
        rw [hxi] at hcall
        have HB2 : Hid (∀ (j : Nat) y, j < k + 1 → Z[j]? = some y → p y = false) := Lib.hid (fun j y hj hy => by
          by_cases he : j = k
          · subst he; rw [HX.out] at hy; obtain rfl := Option.some.inj hy; exact hxi
          · exact HB.out j y (by omega) hy)
        have HCALL := Lib.hid hcall
        clear hcall hxi
        go_wp2_with fail
        refine HCALL.out.mono ?_
        rintro e w2 ⟨rfl, hc2⟩
        have HC2 := Lib.hid (HC.out.trans hc2)
        clear hc2 c0
        go_wp2
        go_roundw
        case rel => exact ⟨k + 1, by omega, by go_num, HB2.out, HC2.out⟩
        case measure => simp [intOf]; omega
    · obtain rfl : k = Z.length := by omega
      have HF : Hid (idxV p Z = -1) := Lib.hid (idxV_none HB.out)
      go_wp2
      go_ret
      exact ⟨by rw [HF.out]; rfl, HC.out⟩

set_option maxRecDepth 100000 in
theorem containsI_any (f : FuncId) (lb : Array Value) (p : Int → Bool) (Z : List Int) (a : Option Addr) (c B : Nat) (w : World) (eg : ∀ args w, (callFunc f args).run Try.prog w = .ok (.enter f args) w) (h : intE.In w B (a, Z.length, c) Z) (hp : GivesI f lb p w) (hl : Z.length ≤ 1000000000) :
    Calls Try.prog 30 #[.slice a Z.length c, .func (.func f) #[] lb] w fun e w' => e = .returned (.bool (Z.any p)) ∧ Chg (fun _ => False) w w' := by
  have HL := Lib.hid h
  have HP := Lib.hid hp
  clear h hp
  rcases idx_cases p Z with ⟨k, x, -, -, h3, -, h5⟩ | ⟨h3, -, h5⟩
  all_goals
    have HI := Lib.hid h3
    have HN := Lib.hid h5
    clear h3 h5
    go_enter Try.func30, Try.ntmps30
    go_wp2_with fail
    refine (indexInt_any f lb p Z a c B _ eg HL.out HP.out hl).mono ?_
    rintro e w2 ⟨rfl, hc2⟩
    rw [HI.out]
    have HC := Lib.hid hc2
    clear hc2
    go_wp2
    go_ret
    exact ⟨by rw [HN.out]; rfl, HC.out⟩

/-- Is a number among them? -/
def hasB (x : Int) (Z : List Int) : Bool := Z.any (fun y => x == y)
theorem hasB_contains (x : Int) (Z : List Int) : hasB x Z = Z.contains x := by
  unfold hasB
  rw [List.any_beq]

set_option maxRecDepth 100000 in
set_option maxHeartbeats 1000000 in
theorem index_any (v : Int) (Z : List Int) (a : Option Addr) (c B : Nat) (w : World) (h : intE.In w B (a, Z.length, c) Z) (hl : Z.length ≤ 1000000000) :
    Calls Try.prog 71 #[.slice a Z.length c, .int .i64 v] w fun e w' => e = .returned (.int .i64 (idxV (fun y => v == y) Z)) ∧ Chg (fun _ => False) w w' := by
  have HL := Lib.hid h
  clear h
  go_enter Try.func71, Try.ntmps71
  go_wp2
  go_loopw [8] (fun q wr => ∃ k : Nat, k ≤ Z.length ∧ q = .int .i64 k ∧ (∀ (j : Nat) y, j < k → Z[j]? = some y → (v == y) = false) ∧ Chg (fun _ => False) w wr) (fun q _ => Z.length - (intOf q).toNat)
  case atStart => exact ⟨0, by omega, rfl, fun j y h => absurd h (Nat.not_lt_zero _), Chg.refl _ _⟩
  case round =>
    obtain ⟨k, hk, rfl, hb, hc⟩ := hrel
    have HB := Lib.hid hb
    have HC := Lib.hid hc
    clear hb hc
    by_cases hkl : k < Z.length
    · have b9 : decide ((k : Int) < (Z.length : Int)) = true := by simp; omega
      obtain ⟨x, g, o, hx, rfl, c0, x0, x1, -, -⟩ := (HL.out.same HC.out).getI hkl
      have HX := Lib.hid hx
      clear hx
      cases hxi : (v == x) with
      | true =>
        have HF : Hid (idxV (fun y => v == y) Z = k) := Lib.hid (idxV_found (p := fun y => v == y) HX.out hxi HB.out)
        go_wp2
        go_ret
        exact ⟨by rw [HF.out]; rfl, HC.out⟩
      | false =>
        have HB2 : Hid (∀ (j : Nat) y, j < k + 1 → Z[j]? = some y → (v == y) = false) := Lib.hid (fun j y hj hy => by
          by_cases he : j = k
          · subst he; rw [HX.out] at hy; obtain rfl := Option.some.inj hy; exact hxi
          · exact HB.out j y (by omega) hy)
        go_wp2
        go_roundw
        case rel => exact ⟨k + 1, by omega, by go_num, HB2.out, HC.out⟩
        case measure => simp [intOf]; omega
    · obtain rfl : k = Z.length := by omega
      have HF : Hid (idxV (fun y => v == y) Z = -1) := Lib.hid (idxV_none (p := fun y => v == y) HB.out)
      go_wp2
      go_ret
      exact ⟨by rw [HF.out]; rfl, HC.out⟩
set_option maxRecDepth 100000 in
theorem contains_any (v : Int) (Z : List Int) (a : Option Addr) (c B : Nat) (w : World) (h : intE.In w B (a, Z.length, c) Z) (hl : Z.length ≤ 1000000000) :
    Calls Try.prog 51 #[.slice a Z.length c, .int .i64 v] w fun e w' => e = .returned (.bool (hasB v Z)) ∧ Chg (fun _ => False) w w' := by
  have HL := Lib.hid h
  clear h
  rcases idx_cases (fun y => v == y) Z with ⟨k, x, -, -, h3, -, h5⟩ | ⟨h3, -, h5⟩
  all_goals
    have HI := Lib.hid h3
    have HN : Hid (hasB v Z = _) := Lib.hid h5
    clear h3 h5
    go_enter Try.func51, Try.ntmps51
    go_wp2_with fail
    refine (index_any v Z a c B _ HL.out hl).mono ?_
    rintro e w2 ⟨rfl, hc2⟩
    rw [HI.out]
    have HC := Lib.hid hc2
    clear hc2
    go_wp2
    go_ret
    exact ⟨by rw [HN.out]; rfl, HC.out⟩

/-! ### ranges -/
theorem holdB_any (x y i : Int) (p : Nat) (w : World) (hp : w.cell? ⟨p, 0, none⟩ = some (.int .i32 i)) :
    Calls Try.prog 73 #[.agg #[.int .i32 x, .int .i32 y], .pointer (some ⟨p, 0, none⟩)] w fun e w' => e = .returned (.bool (holdB i (x, y))) ∧ Chg (fun _ => False) w w' := by
  have hp2 : (w.alloc (.cells #[.int .i32 x, .int .i32 y] 54)).cell? ⟨p, 0, none⟩ = some (.int .i32 i) := ((Chg.refl (fun _ => False) w).alloc _).cellS hp (fun h => h)
  by_cases h1 : x ≤ i
  · by_cases h2 : i ≤ y
    all_goals
      have HF : Hid (holdB i (x, y) = decide (i ≤ y)) := Lib.hid (by simp [holdB, h1])
      go_enter Try.func73, Try.ntmps73
      go_wp2
      go_ret
      exact ⟨by rw [HF.out]; simp [h2], (Chg.refl _ _).alloc _⟩
  · have HF : Hid (holdB i (x, y) = false) := Lib.hid (by simp [holdB, h1])
    have q1 : decide (x ≤ i) = false := by simpa using h1
    go_enter Try.func73, Try.ntmps73
    go_wp2
    go_ret
    exact ⟨by rw [HF.out]; rfl, (Chg.refl _ _).alloc _⟩

set_option maxRecDepth 100000 in
set_option maxHeartbeats 1000000 in
theorem indexRange_any (L : List (Int × Int)) (a : Option Addr) (c B p : Nat) (i : Int) (w : World) (h : rngE.In w B (a, L.length, c) L) (hp : w.cell? ⟨p, 0, none⟩ = some (.int .i32 i)) (hl : L.length ≤ 1000000000) :
    Calls Try.prog 72 #[.slice a L.length c, .func (.func 73) #[] #[.pointer (some ⟨p, 0, none⟩)]] w fun e w' => e = .returned (.int .i64 (classL L i)) ∧ Chg (fun _ => False) w w' := by
  have HL := Lib.hid h
  have HP : Hid (∀ w', Chg (fun _ => False) w w' → w'.cell? ⟨p, 0, none⟩ = some (.int .i32 i)) := Lib.hid fun w' hc => hc.cellS hp (fun h => h)
  clear h hp
  go_enter Try.func72, Try.ntmps72
  go_wp2
  go_loopw [8] (fun q wr => ∃ k : Nat, k ≤ L.length ∧ q = .int .i64 k ∧ (∀ (j : Nat) y, j < k → L[j]? = some y → holdB i y = false) ∧ Chg (fun _ => False) w wr) (fun q _ => L.length - (intOf q).toNat)
  case atStart => exact ⟨0, by omega, rfl, fun j y h => absurd h (Nat.not_lt_zero _), Chg.refl _ _⟩
  case round =>
    obtain ⟨k, hk, rfl, hb, hc⟩ := hrel
    have HB := Lib.hid hb
    have HC := Lib.hid hc
    clear hb hc
    by_cases hkl : k < L.length
    · have b9 : decide ((k : Int) < (L.length : Int)) = true := by simp; omega
      obtain ⟨x, y, g, o, hx, rfl, c0, c1, -, -, -, -⟩ := (HL.out.same HC.out).getR hkl
      have HX := Lib.hid hx
      clear hx
      cases hxi : holdB i (x, y) with
      | true =>
        have HF : Hid (classL L i = k) := Lib.hid (idxV_found HX.out hxi HB.out)
        go_wp2_with fail
        refine (holdB_any x y i p wr (HP.out wr HC.out)).mono ?_
        rintro e w2 ⟨rfl, hc2⟩
        rw [hxi]
        have HC2 := Lib.hid (HC.out.trans hc2)
        clear hc2 c0 c1 hxi
        go_wp2
        go_ret
        exact ⟨by rw [HF.out]; rfl, HC2.out⟩
      | false =>
        have HB2 : Hid (∀ (j : Nat) y, j < k + 1 → L[j]? = some y → holdB i y = false) := Lib.hid (fun j z hj hz => by
          by_cases he : j = k
          · subst he; rw [HX.out] at hz; obtain rfl := Option.some.inj hz; exact hxi
          · exact HB.out j z (by omega) hz)
        go_wp2_with fail
        refine (holdB_any x y i p wr (HP.out wr HC.out)).mono ?_
        rintro e w2 ⟨rfl, hc2⟩
        rw [hxi]
        have HC2 := Lib.hid (HC.out.trans hc2)
        clear hc2 c0 c1 hxi
        go_wp2
        go_roundw
        case rel => exact ⟨k + 1, by omega, by go_num, HB2.out, HC2.out⟩
        case measure => simp [intOf]; omega
    · obtain rfl : k = L.length := by omega
      have HF : Hid (classL L i = -1) := Lib.hid (idxV_none HB.out)
      go_wp2
      go_ret
      exact ⟨by rw [HF.out]; rfl, HC.out⟩

set_option maxRecDepth 100000 in
theorem class_any (L : List (Int × Int)) (a : Option Addr) (c B : Nat) (i : Int) (w : World) (h : rngE.In w B (a, L.length, c) L) (hl : L.length ≤ 1000000000) :
    Calls Try.prog 56 #[.slice a L.length c, .int .i32 i] w fun e w' => e = .returned (.int .i64 (classL L i)) ∧ Chg (fun _ => False) w w' := by
  have HL := Lib.hid h
  clear h
  go_enter Try.func56, Try.ntmps56
  go_wp2_with fail
  refine (indexRange_any L a c B _ i _ (HL.out.same ((Chg.refl _ _).alloc _)) (by simp) hl).mono ?_
  rintro e w2 ⟨rfl, hc2⟩
  have HC := Lib.hid (((Chg.refl _ w).alloc _).trans hc2)
  clear hc2
  go_wp2
  go_ret
  exact ⟨rfl, HC.out⟩

end Go.Proofs.Ytodohgckncnipaa
/- A table's step: the program's and the document's. -/
namespace Go.Proofs.Ytodohgckncnipaa
open Go.RowKit

/-- How a step goes. -/
theorem stepT_cases (t : TabD) (st x : Int) :
    (classL t.r x < 0 ∧ stepT t st x = -1) ∨ (0 ≤ classL t.r x ∧ (t.c.length : Int) ≤ classL t.r x ∧ stepT t st x = -1) ∨
    (0 ≤ classL t.r x ∧ classL t.r x < t.c.length ∧ st < 0 ∧ stepT t st x = -1) ∨ (0 ≤ classL t.r x ∧ classL t.r x < t.c.length ∧ 0 ≤ st ∧ (t.n.length : Int) ≤ st ∧ stepT t st x = -1) ∨
    ∃ (i s : Nat) (c : Int) (l : List Int), classL t.r x = i ∧ i < t.c.length ∧ st = s ∧ s < t.n.length ∧ t.c[i]? = some c ∧ t.n[s]? = some l ∧
      ((c < 0 ∧ stepT t st x = -1) ∨ (0 ≤ c ∧ (l.length : Int) ≤ c ∧ stepT t st x = -1) ∨ ∃ (k : Nat) (y : Int), c = k ∧ k < l.length ∧ l[k]? = some y ∧ stepT t st x = y) := by
  unfold stepT
  by_cases h1 : classL t.r x < 0
  · exact .inl ⟨h1, by rw [if_pos (.inl h1)]⟩
  · by_cases h2 : (t.c.length : Int) ≤ classL t.r x
    · exact .inr (.inl ⟨by omega, h2, by rw [if_pos (.inr (.inl h2))]⟩)
    · by_cases h3 : st < 0
      · exact .inr (.inr (.inl ⟨by omega, by omega, h3, by rw [if_pos (.inr (.inr (.inl h3)))]⟩))
      · by_cases h4 : (t.n.length : Int) ≤ st
        · exact .inr (.inr (.inr (.inl ⟨by omega, by omega, by omega, h4, by rw [if_pos (.inr (.inr (.inr h4)))]⟩)))
        · refine .inr (.inr (.inr (.inr ?_)))
          obtain ⟨i, hi⟩ : ∃ i : Nat, classL t.r x = i := ⟨(classL t.r x).toNat, by omega⟩
          obtain ⟨s, rfl⟩ : ∃ s : Nat, st = s := ⟨st.toNat, by omega⟩
          rw [hi] at h2 ⊢
          have hil : i < t.c.length := by omega
          have hsl : s < t.n.length := by omega
          have e1 : t.c.getD i 0 = t.c[i] := by rw [List.getD_eq_getElem?_getD, List.getElem?_eq_getElem hil]; rfl
          have e2 : t.n.getD s [] = t.n[s] := by rw [List.getD_eq_getElem?_getD, List.getElem?_eq_getElem hsl]; rfl
          refine ⟨i, s, t.c[i], t.n[s], rfl, hil, rfl, hsl, List.getElem?_eq_getElem hil, List.getElem?_eq_getElem hsl, ?_⟩
          rw [if_neg (by omega)]
          simp only [Int.toNat_natCast, e1, e2]
          by_cases h5 : t.c[i] < 0
          · exact .inl ⟨h5, by rw [if_pos (.inl h5)]⟩
          · by_cases h6 : (t.n[s].length : Int) ≤ t.c[i]
            · exact .inr (.inl ⟨by omega, h6, by rw [if_pos (.inr h6)]⟩)
            · obtain ⟨k, hk⟩ : ∃ k : Nat, t.c[i] = k := ⟨t.c[i].toNat, by omega⟩
              refine .inr (.inr ⟨k, t.n[s][k]'(by omega), hk, by omega, List.getElem?_eq_getElem (by omega), ?_⟩)
              rw [if_neg (by omega), hk, Int.toNat_natCast, List.getD_eq_getElem?_getD, List.getElem?_eq_getElem (by omega)]
              rfl

/-- Lists are no longer than memory holds. -/
structure Fair (t : TabD) : Prop where
  r : t.r.length ≤ 1000000000
  c : t.c.length ≤ 1000000000
  n : t.n.length ≤ 1000000000
  e : t.e.length ≤ 1000000000
  l : ∀ l ∈ t.n, l.length ≤ 1000000000

set_option maxRecDepth 100000 in
set_option maxHeartbeats 4000000 in
theorem step_any (t : TabD) (rs cs ns es : Sl) (B : Nat) (st x : Int) (w : World) (h : TabIn w B rs cs ns es t) (hf : Fair t) (hst : I.Byte st) :
    Calls Try.prog 24 #[tabV rs cs ns es, .int .i64 st, .int .i32 x] w fun e w' => e = .returned (.int .i64 (stepT t st x)) ∧ Chg (fun _ => False) w w' := by
  obtain ⟨ra, rn, rc⟩ := rs
  obtain ⟨ca, cn, cc⟩ := cs
  obtain ⟨na, nn, nc⟩ := ns
  obtain ⟨ea, en, ec⟩ := es
  obtain ⟨hR, hC, hN, hE⟩ := h
  obtain ⟨fr, fc, fn, -, fl⟩ := hf
  obtain ⟨rfl, hr1⟩ := hR.len
  obtain ⟨rfl, hc1⟩ := hC.len
  obtain ⟨rfl, hn1⟩ := hN.len
  obtain ⟨wt, hwt⟩ : ∃ x, x = w.alloc (.cells #[.slice ra t.r.length rc, .slice ca t.c.length cc, .slice na t.n.length nc, .slice ea en ec] 26) := ⟨_, rfl⟩
  have HCT : Hid (Chg (fun _ => False) w wt) := Lib.hid (by rw [hwt]; exact (Chg.refl _ _).alloc _)
  have HBX : Hid (∀ wx, Chg (fun _ => False) wt wx → wx.cell? ⟨w.heap.size, 0, none⟩ = some (.slice ra t.r.length rc) ∧ wx.cell? ⟨w.heap.size, 1, none⟩ = some (.slice ca t.c.length cc) ∧ wx.cell? ⟨w.heap.size, 2, none⟩ = some (.slice na t.n.length nc)) := Lib.hid (fun wx hx => by
    subst hwt
    obtain ⟨k0, k1, k2, _⟩ := (tabBox w (ra, t.r.length, rc) (ca, t.c.length, cc) (na, t.n.length, nc) (ea, en, ec) 26).chg hx (fun h => h)
    exact ⟨k0, k1, k2⟩)
  have HWT := Lib.hid hwt
  have HR := Lib.hid hR
  have HC := Lib.hid hC
  have HN := Lib.hid hN
  have HL := Lib.hid fl
  clear hR hC hN hE fl hwt
  show Calls Try.prog 24 #[.agg #[.slice ra t.r.length rc, .slice ca t.c.length cc, .slice na t.n.length nc, .slice ea en ec], .int .i64 st, .int .i32 x] w _
  obtain ⟨hs0, hs1⟩ := hst
  obtain ⟨q0, q1, q2⟩ := HBX.out wt (Chg.refl _ _)
  obtain ⟨cl, hcl⟩ : ∃ v, classL t.r x = v := ⟨_, rfl⟩
  have hcb := classL_lt t.r x
  have hcase := stepT_cases t st x
  rw [hcl] at hcase hcb
  have HCL := Lib.hid hcl
  clear hcl
  rcases hcase with ⟨h1, h2⟩ | ⟨h1, h2, h3⟩ | ⟨h1, h2, h3, h4⟩ | ⟨h1, h2, h3, h4, h5⟩ | ⟨i, s, cv, l, rfl, h2, rfl, h4, h5, h6, h7⟩
  · have HS := Lib.hid h2
    have d1 : decide (cl < 0) = true := by simpa using h1
    clear h2
    go_enter Try.func24, Try.ntmps24
    go_upto_region 1 with (fail)
    rw [← HWT.out]
    go_wp2_with fail
    refine (class_any t.r ra rc B x wt (HR.out.same HCT.out) fr).mono ?_
    rintro e w1 ⟨rfl, h1c⟩
    rw [HCL.out]
    have HC1 := Lib.hid h1c
    clear h1c q0 q1 q2
    obtain ⟨q0, q1, q2⟩ := HBX.out w1 HC1.out
    go_wp2
    go_ret
    exact ⟨by rw [HS.out]; rfl, HCT.out.trans HC1.out⟩
  · have HS := Lib.hid h3
    have d1 : decide (cl < 0) = false := by simp <;> omega
    have d2 : decide ((t.c.length : Int) ≤ cl) = true := by simpa using h2
    clear h3
    go_enter Try.func24, Try.ntmps24
    go_upto_region 1 with (fail)
    rw [← HWT.out]
    go_wp2_with fail
    refine (class_any t.r ra rc B x wt (HR.out.same HCT.out) fr).mono ?_
    rintro e w1 ⟨rfl, h1c⟩
    rw [HCL.out]
    have HC1 := Lib.hid h1c
    clear h1c q0 q1 q2
    obtain ⟨q0, q1, q2⟩ := HBX.out w1 HC1.out
    go_wp2
    go_ret
    exact ⟨by rw [HS.out]; rfl, HCT.out.trans HC1.out⟩
  · have HS := Lib.hid h4
    have d1 : decide (cl < 0) = false := by simp <;> omega
    have d2 : decide ((t.c.length : Int) ≤ cl) = false := by simp; omega
    have d3 : decide (st < 0) = true := by simpa using h3
    clear h4
    go_enter Try.func24, Try.ntmps24
    go_upto_region 1 with (fail)
    rw [← HWT.out]
    go_wp2_with fail
    refine (class_any t.r ra rc B x wt (HR.out.same HCT.out) fr).mono ?_
    rintro e w1 ⟨rfl, h1c⟩
    rw [HCL.out]
    have HC1 := Lib.hid h1c
    clear h1c q0 q1 q2
    obtain ⟨q0, q1, q2⟩ := HBX.out w1 HC1.out
    go_wp2
    go_ret
    exact ⟨by rw [HS.out]; rfl, HCT.out.trans HC1.out⟩
  · have HS := Lib.hid h5
    have d1 : decide (cl < 0) = false := by simp <;> omega
    have d2 : decide ((t.c.length : Int) ≤ cl) = false := by simp; omega
    have d3 : decide (st < 0) = false := by simp <;> omega
    have d4 : decide ((t.n.length : Int) ≤ st) = true := by simpa using h4
    clear h5
    go_enter Try.func24, Try.ntmps24
    go_upto_region 1 with (fail)
    rw [← HWT.out]
    go_wp2_with fail
    refine (class_any t.r ra rc B x wt (HR.out.same HCT.out) fr).mono ?_
    rintro e w1 ⟨rfl, h1c⟩
    rw [HCL.out]
    have HC1 := Lib.hid h1c
    clear h1c q0 q1 q2
    obtain ⟨q0, q1, q2⟩ := HBX.out w1 HC1.out
    go_wp2
    go_ret
    exact ⟨by rw [HS.out]; rfl, HCT.out.trans HC1.out⟩
  · have d1 : decide ((i : Int) < 0) = false := by simp <;> omega
    have d2 : decide ((t.c.length : Int) ≤ (i : Int)) = false := by simp; omega
    have d2' : decide (t.c.length ≤ i) = false := by simp; omega
    have d3 : decide ((s : Int) < 0) = false := by simp <;> omega
    have d4 : decide ((t.n.length : Int) ≤ (s : Int)) = false := by simp; omega
    have d4' : decide (t.n.length ≤ s) = false := by simp; omega
    have HCV := Lib.hid h5
    have HLV := Lib.hid h6
    have HRES := Lib.hid h7
    have hll := HL.out l (List.mem_of_getElem? h6)
    clear h5 h6 h7
    rcases HRES.out with ⟨g1, g2⟩ | ⟨g1, g2, g3⟩ | ⟨k, y, rfl, g2, g3, g4⟩
    · have HS := Lib.hid g2
      have d5 : decide (cv < 0) = true := by simpa using g1
      clear g2
      go_enter Try.func24, Try.ntmps24
      go_upto_region 1 with (fail)
      rw [← HWT.out]
      go_wp2_with fail
      refine (class_any t.r ra rc B x wt (HR.out.same HCT.out) fr).mono ?_
      rintro e w1 ⟨rfl, h1c⟩
      rw [HCL.out]
      have HC1 := Lib.hid h1c
      clear h1c q0 q1 q2
      obtain ⟨q0, q1, q2⟩ := HBX.out w1 HC1.out
      obtain ⟨cv', gc, oc, hcv, rfl, c0, cv0, cv1, -, -⟩ := (HC.out.same (HCT.out.trans HC1.out)).getI (show i < t.c.length by omega)
      rw [HCV.out] at hcv
      obtain rfl := Option.some.inj hcv
      go_wp2
      go_ret
      exact ⟨by rw [HS.out]; rfl, HCT.out.trans HC1.out⟩
    · have HS := Lib.hid g3
      have d5 : decide (cv < 0) = false := by simp <;> omega
      have d6 : decide ((l.length : Int) ≤ cv) = true := by simpa using g2
      clear g3
      go_enter Try.func24, Try.ntmps24
      go_upto_region 1 with (fail)
      rw [← HWT.out]
      go_wp2_with fail
      refine (class_any t.r ra rc B x wt (HR.out.same HCT.out) fr).mono ?_
      rintro e w1 ⟨rfl, h1c⟩
      rw [HCL.out]
      have HC1 := Lib.hid h1c
      clear h1c q0 q1 q2
      obtain ⟨q0, q1, q2⟩ := HBX.out w1 HC1.out
      obtain ⟨cv', gc, oc, hcv, rfl, c0, cv0, cv1, -, -⟩ := (HC.out.same (HCT.out.trans HC1.out)).getI (show i < t.c.length by omega)
      rw [HCV.out] at hcv
      obtain rfl := Option.some.inj hcv
      obtain ⟨l', gn, on, la, lc, gl, ol, hlv, rfl, n0, hlc, hlb, hla, -, -⟩ := (HN.out.same (HCT.out.trans HC1.out)).get (show s < t.n.length by omega)
      rw [HLV.out] at hlv
      obtain rfl := Option.some.inj hlv
      clear hlb hla
      go_wp2
      go_ret
      exact ⟨by rw [HS.out]; rfl, HCT.out.trans HC1.out⟩
    · have HS := Lib.hid g4
      have HY := Lib.hid g3
      have d5 : decide ((k : Int) < 0) = false := by simp <;> omega
      have d6 : decide ((l.length : Int) ≤ (k : Int)) = false := by simp; omega
      have d6' : decide (l.length ≤ k) = false := by simp; omega
      clear g4 g3
      go_enter Try.func24, Try.ntmps24
      go_upto_region 1 with (fail)
      rw [← HWT.out]
      go_wp2_with fail
      refine (class_any t.r ra rc B x wt (HR.out.same HCT.out) fr).mono ?_
      rintro e w1 ⟨rfl, h1c⟩
      rw [HCL.out]
      have HC1 := Lib.hid h1c
      clear h1c q0 q1 q2
      obtain ⟨q0, q1, q2⟩ := HBX.out w1 HC1.out
      obtain ⟨cv', gc, oc, hcv, rfl, c0, cv0, cv1, -, -⟩ := (HC.out.same (HCT.out.trans HC1.out)).getI (show i < t.c.length by omega)
      rw [HCV.out] at hcv
      obtain rfl := Option.some.inj hcv
      obtain ⟨l', gn, on, la, lc, gl, ol, hlv, rfl, n0, hlc, hlb, hla, -, -⟩ := (HN.out.same (HCT.out.trans HC1.out)).get (show s < t.n.length by omega)
      rw [HLV.out] at hlv
      obtain rfl := Option.some.inj hlv
      obtain ⟨rfl, -⟩ := hla (by omega)
      have y0 := (hlb.c k y HY.out).1
      clear hlb
      go_wp2
      go_ret
      exact ⟨by rw [HS.out]; rfl, HCT.out.trans HC1.out⟩
end Go.Proofs.Ytodohgckncnipaa
/- Do ranges rise apart: the program's. -/
namespace Go.Proofs.Ytodohgckncnipaa
open Go.RowKit

theorem apOk_bad {R : List (Int × Int)} {k : Nat} {x y : Int} (h : R[k]? = some (x, y)) (hb : y < x) : apOk R k = false := by
  unfold apOk
  rw [List.getD_eq_getElem?_getD, h]
  simp only [Option.getD_some]
  rw [decide_eq_false (by omega)]
  rfl
theorem apOk_zero {R : List (Int × Int)} {x y : Int} (h : R[0]? = some (x, y)) (hb : x ≤ y) : apOk R 0 = true := by
  unfold apOk
  rw [List.getD_eq_getElem?_getD, h]
  simp only [Option.getD_some]
  rw [decide_eq_true hb]
  rfl
theorem apOk_succ {R : List (Int × Int)} {k : Nat} {x y x' y' : Int} (h : R[k + 1]? = some (x, y)) (h' : R[k]? = some (x', y')) (hb : x ≤ y) : apOk R (k + 1) = decide (y' < x) := by
  unfold apOk
  rw [List.getD_eq_getElem?_getD, List.getD_eq_getElem?_getD, h, Nat.add_sub_cancel, h']
  simp only [Option.getD_some]
  rw [decide_eq_true hb, decide_eq_false (show ¬ k + 1 = 0 by omega)]
  simp

set_option maxRecDepth 100000 in
set_option maxHeartbeats 4000000 in
theorem apart_rng (R : List (Int × Int)) (a : Option Addr) (c B : Nat) (w : World) (h : rngE.In w B (a, R.length, c) R) (hl : R.length ≤ 1000000000) :
    Calls Try.prog 50 #[.slice a R.length c] w fun e w' => e = .returned (.bool (apartB R)) ∧ Chg (fun _ => False) w w' := by
  have HL := Lib.hid h
  clear h
  go_enter Try.func50, Try.ntmps50
  go_wp2
  go_loopw [7] (fun q wr => ∃ k : Nat, k ≤ R.length ∧ q = .int .i64 k ∧ (∀ j, j < k → apOk R j = true) ∧ Chg (fun _ => False) w wr) (fun q _ => R.length - (intOf q).toNat)
  case atStart => exact ⟨0, by omega, rfl, fun j h => absurd h (Nat.not_lt_zero _), Chg.refl _ _⟩
  case round =>
    obtain ⟨k, hk, rfl, hb, hc⟩ := hrel
    have HB := Lib.hid hb
    have HC := Lib.hid hc
    clear hb hc
    by_cases hkl : k < R.length
    · have b9 : decide ((k : Int) < (R.length : Int)) = true := by simp; omega
      obtain ⟨x, y, g, o, hx, rfl, c0, c1, hx32, hy32, hB, hg⟩ := (HL.out.same HC.out).getR hkl
      have HX := Lib.hid hx
      obtain ⟨wa, hwa⟩ : ∃ v, v = (wr.alloc (.cells #[.int .i32 x, .int .i32 y] 54)) := ⟨_, rfl⟩
      have p0 : wa.cell? ⟨wr.heap.size, 0, none⟩ = some (.int .i32 x) := by rw [hwa, World.cell?_alloc_new]; rfl
      have p1 : wa.cell? ⟨wr.heap.size, 1, none⟩ = some (.int .i32 y) := by rw [hwa, World.cell?_alloc_new]; rfl
      have HCA : Hid (Chg (fun _ => False) w wa) := Lib.hid (by rw [hwa]; exact HC.out.alloc _)
      have HP : Hid (∀ wx, Chg (fun _ => False) wa wx → wx.cell? ⟨wr.heap.size, 0, none⟩ = some (.int .i32 x) ∧ wx.cell? ⟨wr.heap.size, 1, none⟩ = some (.int .i32 y)) := Lib.hid (fun wx hx => ⟨hx.cellS p0 (fun h => h), hx.cellS p1 (fun h => h)⟩)
      have HWA := Lib.hid hwa
      clear p0 p1
      clear hx hwa
      by_cases h1 : y < x
      · have d1 : decide (y < x) = true := by simpa using h1
        have HF : Hid (apartB R = false) := Lib.hid (apartB_false hkl (apOk_bad HX.out h1))
        go_upto_region 4 with (fail)
        rw [← HWA.out]
        clear c0 c1
        refine wp_region_same (fun w' => Chg (fun _ => False) wa w') (by kernel_rfl) (by kernel_rfl) ?_ ?_
        · exact (Chg.refl _ _).drew
        (refine wpC_read rfl (fun _ _ _ h => h) (fun K hK => ?_); apply Exists.intro; refine ⟨fun _ w' _ hC => ?_, ?_⟩; ((skip); go_simp; try with_reducible rfl); (try go_simp); refine hK _ ?_; clear hK K); (refine wpC_read rfl (fun _ _ _ h => h) (fun K hK => ?_); apply Exists.intro; refine ⟨fun _ w' _ hC => ?_, ?_⟩; ((obtain ⟨p0, p1⟩ := HP.out w' hC; (try have c3 := hC.cellS HC3.out (fun h => h)); (try have e4 := HE.out); (try have e5 := HW.out)); go_simp; try with_reducible rfl); (try go_simp); refine hK _ ?_; clear hK K); (refine wpC_read rfl (fun _ _ _ h => h) (fun K hK => ?_); apply Exists.intro; refine ⟨fun _ w' _ hC => ?_, ?_⟩; ((skip); go_simp; try with_reducible rfl); (try go_simp); refine hK _ ?_; clear hK K); (refine wpC_read rfl (fun _ _ _ h => h) (fun K hK => ?_); apply Exists.intro; refine ⟨fun _ w' _ hC => ?_, ?_⟩; ((obtain ⟨p0, p1⟩ := HP.out w' hC; (try have c3 := hC.cellS HC3.out (fun h => h)); (try have e4 := HE.out); (try have e5 := HW.out)); go_simp; try with_reducible rfl); (try go_simp); refine hK _ ?_; clear hK K); (refine wpC_read rfl (fun _ _ _ h => h) (fun K hK => ?_); apply Exists.intro; refine ⟨fun _ w' _ hC => ?_, ?_⟩; ((skip); go_simp; try with_reducible rfl); (try go_simp); refine hK _ ?_; clear hK K); (refine wpC_read rfl (fun _ _ _ h => h) (fun K hK => ?_); apply Exists.intro; refine ⟨fun _ w' _ hC => ?_, ?_⟩; ((skip); go_simp; try with_reducible rfl); (try go_simp); refine hK _ ?_; clear hK K); (refine wpC_skip rfl (fun _ _ _ h => h) (fun K hK => ?_); (try go_simp); refine hK _ ?_; clear hK K); (refine wpC_skip rfl (fun _ _ _ h => h) (fun K hK => ?_); (try go_simp); refine hK _ ?_; clear hK K); (refine wpC_skip rfl (fun _ _ _ h => h) (fun K hK => ?_); (try go_simp); refine hK _ ?_; clear hK K); (refine wpC_skip rfl (fun _ _ _ h => h) (fun K hK => ?_); (try go_simp); refine hK _ ?_; clear hK K); (refine wpC_skip rfl (fun _ _ _ h => h) (fun K hK => ?_); (try go_simp); refine hK _ ?_; clear hK K); (refine wpC_skip rfl (fun _ _ _ h => h) (fun K hK => ?_); (try go_simp); refine hK _ ?_; clear hK K); (refine wpC_skip rfl (fun _ _ _ h => h) (fun K hK => ?_); (try go_simp); refine hK _ ?_; clear hK K); (refine wpC_skip rfl (fun _ _ _ h => h) (fun K hK => ?_); (try go_simp); refine hK _ ?_; clear hK K); (refine wpC_skip rfl (fun _ _ _ h => h) (fun K hK => ?_); (try go_simp); refine hK _ ?_; clear hK K); (refine wpC_skip rfl (fun _ _ _ h => h) (fun K hK => ?_); (try go_simp); refine hK _ ?_; clear hK K); (refine wpC_skip rfl (fun _ _ _ h => h) (fun K hK => ?_); (try go_simp); refine hK _ ?_; clear hK K); (refine wpC_skip rfl (fun _ _ _ h => h) (fun K hK => ?_); (try go_simp); refine hK _ ?_; clear hK K); (refine wpC_skip rfl (fun _ _ _ h => h) (fun K hK => ?_); (try go_simp); refine hK _ ?_; clear hK K); (refine wpC_read rfl (fun _ _ _ h => h) (fun K hK => ?_); apply Exists.intro; refine ⟨fun _ w' _ hC => ?_, ?_⟩; ((skip); go_simp; try with_reducible rfl); (try go_simp); refine hK _ ?_; clear hK K)
        refine wpC_nil ?_
        intro w2 hC2
        have HC2 := Lib.hid (HCA.out.trans hC2)
        clear hC2
        go_wp2
        go_ret
        exact ⟨by rw [HF.out]; rfl, HC2.out⟩
      · have d1 : decide (y < x) = false := by simpa using h1
        by_cases hk0 : k = 0
        · have HK : Hid (∀ j, j < k + 1 → apOk R j = true) := Lib.hid (fun j hj => by
            obtain rfl : j = k := by omega
            have h3 := HX.out
            subst hk0
            exact apOk_zero h3 (by omega))
          have d2 : decide (0 < (k : Int)) = false := by simp; omega
          have d3 : decide (0 < k) = false := by simp; omega
          clear hk0
          go_upto_region 4 with (fail)
          rw [← HWA.out]
          clear c0 c1
          refine wp_region_same (fun w' => Chg (fun _ => False) wa w') (by kernel_rfl) (by kernel_rfl) ?_ ?_
          · exact (Chg.refl _ _).drew
          (refine wpC_read rfl (fun _ _ _ h => h) (fun K hK => ?_); apply Exists.intro; refine ⟨fun _ w' _ hC => ?_, ?_⟩; ((skip); go_simp; try with_reducible rfl); (try go_simp); refine hK _ ?_; clear hK K); (refine wpC_read rfl (fun _ _ _ h => h) (fun K hK => ?_); apply Exists.intro; refine ⟨fun _ w' _ hC => ?_, ?_⟩; ((obtain ⟨p0, p1⟩ := HP.out w' hC; (try have c3 := hC.cellS HC3.out (fun h => h)); (try have e4 := HE.out); (try have e5 := HW.out)); go_simp; try with_reducible rfl); (try go_simp); refine hK _ ?_; clear hK K); (refine wpC_read rfl (fun _ _ _ h => h) (fun K hK => ?_); apply Exists.intro; refine ⟨fun _ w' _ hC => ?_, ?_⟩; ((skip); go_simp; try with_reducible rfl); (try go_simp); refine hK _ ?_; clear hK K); (refine wpC_read rfl (fun _ _ _ h => h) (fun K hK => ?_); apply Exists.intro; refine ⟨fun _ w' _ hC => ?_, ?_⟩; ((obtain ⟨p0, p1⟩ := HP.out w' hC; (try have c3 := hC.cellS HC3.out (fun h => h)); (try have e4 := HE.out); (try have e5 := HW.out)); go_simp; try with_reducible rfl); (try go_simp); refine hK _ ?_; clear hK K); (refine wpC_read rfl (fun _ _ _ h => h) (fun K hK => ?_); apply Exists.intro; refine ⟨fun _ w' _ hC => ?_, ?_⟩; ((skip); go_simp; try with_reducible rfl); (try go_simp); refine hK _ ?_; clear hK K); (refine wpC_read rfl (fun _ _ _ h => h) (fun K hK => ?_); apply Exists.intro; refine ⟨fun _ w' _ hC => ?_, ?_⟩; ((skip); go_simp; try with_reducible rfl); (try go_simp); refine hK _ ?_; clear hK K); (refine wpC_read rfl (fun _ _ _ h => h) (fun K hK => ?_); apply Exists.intro; refine ⟨fun _ w' _ hC => ?_, ?_⟩; ((skip); go_simp; try with_reducible rfl); (try go_simp); refine hK _ ?_; clear hK K); (refine wpC_read rfl (fun _ _ _ h => h) (fun K hK => ?_); apply Exists.intro; refine ⟨fun _ w' _ hC => ?_, ?_⟩; ((skip); go_simp; try with_reducible rfl); (try go_simp); refine hK _ ?_; clear hK K); (refine wpC_read rfl (fun _ _ _ h => h) (fun K hK => ?_); apply Exists.intro; refine ⟨fun _ w' _ hC => ?_, ?_⟩; ((skip); go_simp; try with_reducible rfl); (try go_simp); refine hK _ ?_; clear hK K); (refine wpC_skip rfl (fun _ _ _ h => h) (fun K hK => ?_); (try go_simp); refine hK _ ?_; clear hK K); (refine wpC_skip rfl (fun _ _ _ h => h) (fun K hK => ?_); (try go_simp); refine hK _ ?_; clear hK K); (refine wpC_skip rfl (fun _ _ _ h => h) (fun K hK => ?_); (try go_simp); refine hK _ ?_; clear hK K); (refine wpC_skip rfl (fun _ _ _ h => h) (fun K hK => ?_); (try go_simp); refine hK _ ?_; clear hK K); (refine wpC_skip rfl (fun _ _ _ h => h) (fun K hK => ?_); (try go_simp); refine hK _ ?_; clear hK K); (refine wpC_skip rfl (fun _ _ _ h => h) (fun K hK => ?_); (try go_simp); refine hK _ ?_; clear hK K); (refine wpC_skip rfl (fun _ _ _ h => h) (fun K hK => ?_); (try go_simp); refine hK _ ?_; clear hK K); (refine wpC_skip rfl (fun _ _ _ h => h) (fun K hK => ?_); (try go_simp); refine hK _ ?_; clear hK K); (refine wpC_skip rfl (fun _ _ _ h => h) (fun K hK => ?_); (try go_simp); refine hK _ ?_; clear hK K); (refine wpC_read rfl (fun _ _ _ h => h) (fun K hK => ?_); apply Exists.intro; refine ⟨fun _ w' _ hC => ?_, ?_⟩; ((skip); go_simp; try with_reducible rfl); (try go_simp); refine hK _ ?_; clear hK K); (refine wpC_read rfl (fun _ _ _ h => h) (fun K hK => ?_); apply Exists.intro; refine ⟨fun _ w' _ hC => ?_, ?_⟩; ((skip); go_simp; try with_reducible rfl); (try go_simp); refine hK _ ?_; clear hK K)
          refine wpC_nil ?_
          intro w2 hC2
          have HC2 := Lib.hid (HCA.out.trans hC2)
          clear hC2
          go_wp2
          go_roundw
          case rel => exact ⟨k + 1, by omega, by go_num, HK.out, HC2.out⟩
          case measure => simp [intOf]; omega
        · obtain ⟨m, hm⟩ : ∃ m, k = m + 1 := ⟨k - 1, by omega⟩
          obtain ⟨x', y', g', o', hx', ha', c2, c3, -, hy', -, -⟩ := (HL.out.same HCA.out).getR (show m < R.length by omega)
          injection ha' with ha'
          injection ha' with e1 e2
          subst e1 e2
          have d2 : decide (0 < (k : Int)) = true := by simp; omega
          have d3 : decide (0 < k) = true := by simp; omega
          have e4 : (k : Int) - 1 = (m : Int) := by omega
          have hml : m < R.length := by omega
          have hm1 : (1 : Int) ≤ k := by omega
          have HM := Lib.hid hm
          have HE := Lib.hid e4
          have HW : Hid (IntKind.i64.wrap (m : Int) = m) := Lib.hid (IntWalk.i64_in _ (by omega))
          have HAP : Hid (apOk R k = decide (y' < x)) := Lib.hid (by have := HX.out; rw [hm] at this ⊢; exact apOk_succ this hx' (by omega))
          have HC3 := Lib.hid c3
          clear hx' hm e4 c2 c3
          by_cases h2 : x ≤ y'
          · have d4 : decide (x ≤ y') = true := by simpa using h2
            have HF : Hid (apartB R = false) := Lib.hid (apartB_false hkl (by rw [HAP.out]; simpa using h2))
            go_upto_region 4 with (fail)
            rw [← HWA.out]
            clear c0 c1
            refine wp_region_same (fun w' => Chg (fun _ => False) wa w') (by kernel_rfl) (by kernel_rfl) ?_ ?_
            · exact (Chg.refl _ _).drew
            (refine wpC_read rfl (fun _ _ _ h => h) (fun K hK => ?_); apply Exists.intro; refine ⟨fun _ w' _ hC => ?_, ?_⟩; ((skip); go_simp; try with_reducible rfl); (try go_simp); refine hK _ ?_; clear hK K); (refine wpC_read rfl (fun _ _ _ h => h) (fun K hK => ?_); apply Exists.intro; refine ⟨fun _ w' _ hC => ?_, ?_⟩; ((obtain ⟨p0, p1⟩ := HP.out w' hC; (try have c3 := hC.cellS HC3.out (fun h => h)); (try have e4 := HE.out); (try have e5 := HW.out)); go_simp; try with_reducible rfl); (try go_simp); refine hK _ ?_; clear hK K); (refine wpC_read rfl (fun _ _ _ h => h) (fun K hK => ?_); apply Exists.intro; refine ⟨fun _ w' _ hC => ?_, ?_⟩; ((skip); go_simp; try with_reducible rfl); (try go_simp); refine hK _ ?_; clear hK K); (refine wpC_read rfl (fun _ _ _ h => h) (fun K hK => ?_); apply Exists.intro; refine ⟨fun _ w' _ hC => ?_, ?_⟩; ((obtain ⟨p0, p1⟩ := HP.out w' hC; (try have c3 := hC.cellS HC3.out (fun h => h)); (try have e4 := HE.out); (try have e5 := HW.out)); go_simp; try with_reducible rfl); (try go_simp); refine hK _ ?_; clear hK K); (refine wpC_read rfl (fun _ _ _ h => h) (fun K hK => ?_); apply Exists.intro; refine ⟨fun _ w' _ hC => ?_, ?_⟩; ((skip); go_simp; try with_reducible rfl); (try go_simp); refine hK _ ?_; clear hK K); (refine wpC_read rfl (fun _ _ _ h => h) (fun K hK => ?_); apply Exists.intro; refine ⟨fun _ w' _ hC => ?_, ?_⟩; ((skip); go_simp; try with_reducible rfl); (try go_simp); refine hK _ ?_; clear hK K); (refine wpC_read rfl (fun _ _ _ h => h) (fun K hK => ?_); apply Exists.intro; refine ⟨fun _ w' _ hC => ?_, ?_⟩; ((skip); go_simp; try with_reducible rfl); (try go_simp); refine hK _ ?_; clear hK K); (refine wpC_read rfl (fun _ _ _ h => h) (fun K hK => ?_); apply Exists.intro; refine ⟨fun _ w' _ hC => ?_, ?_⟩; ((skip); go_simp; try with_reducible rfl); (try go_simp); refine hK _ ?_; clear hK K); (refine wpC_read rfl (fun _ _ _ h => h) (fun K hK => ?_); apply Exists.intro; refine ⟨fun _ w' _ hC => ?_, ?_⟩; ((skip); go_simp; try with_reducible rfl); (try go_simp); refine hK _ ?_; clear hK K); (refine wpC_read rfl (fun _ _ _ h => h) (fun K hK => ?_); apply Exists.intro; refine ⟨fun _ w' _ hC => ?_, ?_⟩; ((skip); go_simp; try with_reducible rfl); (try go_simp); refine hK _ ?_; clear hK K); (refine wpC_read rfl (fun _ _ _ h => h) (fun K hK => ?_); apply Exists.intro; refine ⟨fun _ w' _ hC => ?_, ?_⟩; ((obtain ⟨p0, p1⟩ := HP.out w' hC; (try have c3 := hC.cellS HC3.out (fun h => h)); (try have e4 := HE.out); (try have e5 := HW.out)); go_simp; try with_reducible rfl); (try go_simp); refine hK _ ?_; clear hK K); (refine wpC_read rfl (fun _ _ _ h => h) (fun K hK => ?_); apply Exists.intro; refine ⟨fun _ w' _ hC => ?_, ?_⟩; ((skip); go_simp; try with_reducible rfl); (try go_simp); refine hK _ ?_; clear hK K); (refine wpC_read rfl (fun _ _ _ h => h) (fun K hK => ?_); apply Exists.intro; refine ⟨fun _ w' _ hC => ?_, ?_⟩; ((skip); go_simp; try with_reducible rfl); (try go_simp); refine hK _ ?_; clear hK K); (refine wpC_read rfl (fun _ _ _ h => h) (fun K hK => ?_); apply Exists.intro; refine ⟨fun _ w' _ hC => ?_, ?_⟩; ((obtain ⟨p0, p1⟩ := HP.out w' hC; (try have c3 := hC.cellS HC3.out (fun h => h)); (try have e4 := HE.out); (try have e5 := HW.out)); go_simp; try with_reducible rfl); (try go_simp); refine hK _ ?_; clear hK K); (refine wpC_read rfl (fun _ _ _ h => h) (fun K hK => ?_); apply Exists.intro; refine ⟨fun _ w' _ hC => ?_, ?_⟩; ((obtain ⟨p0, p1⟩ := HP.out w' hC; (try have c3 := hC.cellS HC3.out (fun h => h)); (try have e4 := HE.out); (try have e5 := HW.out)); go_simp; try with_reducible rfl); (try go_simp); refine hK _ ?_; clear hK K); (refine wpC_read rfl (fun _ _ _ h => h) (fun K hK => ?_); apply Exists.intro; refine ⟨fun _ w' _ hC => ?_, ?_⟩; ((obtain ⟨p0, p1⟩ := HP.out w' hC; (try have c3 := hC.cellS HC3.out (fun h => h)); (try have e4 := HE.out); (try have e5 := HW.out)); go_simp; try with_reducible rfl); (try go_simp); refine hK _ ?_; clear hK K); (refine wpC_read rfl (fun _ _ _ h => h) (fun K hK => ?_); apply Exists.intro; refine ⟨fun _ w' _ hC => ?_, ?_⟩; ((obtain ⟨p0, p1⟩ := HP.out w' hC; (try have c3 := hC.cellS HC3.out (fun h => h)); (try have e4 := HE.out); (try have e5 := HW.out)); go_simp; try with_reducible rfl); (try go_simp); refine hK _ ?_; clear hK K); (refine wpC_read rfl (fun _ _ _ h => h) (fun K hK => ?_); apply Exists.intro; refine ⟨fun _ w' _ hC => ?_, ?_⟩; ((skip); go_simp; try with_reducible rfl); (try go_simp); refine hK _ ?_; clear hK K); (refine wpC_read rfl (fun _ _ _ h => h) (fun K hK => ?_); apply Exists.intro; refine ⟨fun _ w' _ hC => ?_, ?_⟩; ((skip); go_simp; try with_reducible rfl); (try go_simp); refine hK _ ?_; clear hK K); (refine wpC_read rfl (fun _ _ _ h => h) (fun K hK => ?_); apply Exists.intro; refine ⟨fun _ w' _ hC => ?_, ?_⟩; ((skip); go_simp; try with_reducible rfl); (try go_simp); refine hK _ ?_; clear hK K)
            refine wpC_nil ?_
            intro w2 hC2
            have HC2 := Lib.hid (HCA.out.trans hC2)
            clear hC2
            go_wp2
            go_ret
            exact ⟨by rw [HF.out]; rfl, HC2.out⟩
          · have d4 : decide (x ≤ y') = false := by simpa using h2
            have HK : Hid (∀ j, j < k + 1 → apOk R j = true) := Lib.hid (fun j hj => by
              by_cases he : j = k
              · rw [he, HAP.out]; simp; omega
              · exact HB.out j (by omega))
            go_upto_region 4 with (fail)
            rw [← HWA.out]
            clear c0 c1
            refine wp_region_same (fun w' => Chg (fun _ => False) wa w') (by kernel_rfl) (by kernel_rfl) ?_ ?_
            · exact (Chg.refl _ _).drew
            (refine wpC_read rfl (fun _ _ _ h => h) (fun K hK => ?_); apply Exists.intro; refine ⟨fun _ w' _ hC => ?_, ?_⟩; ((skip); go_simp; try with_reducible rfl); (try go_simp); refine hK _ ?_; clear hK K); (refine wpC_read rfl (fun _ _ _ h => h) (fun K hK => ?_); apply Exists.intro; refine ⟨fun _ w' _ hC => ?_, ?_⟩; ((obtain ⟨p0, p1⟩ := HP.out w' hC; (try have c3 := hC.cellS HC3.out (fun h => h)); (try have e4 := HE.out); (try have e5 := HW.out)); go_simp; try with_reducible rfl); (try go_simp); refine hK _ ?_; clear hK K); (refine wpC_read rfl (fun _ _ _ h => h) (fun K hK => ?_); apply Exists.intro; refine ⟨fun _ w' _ hC => ?_, ?_⟩; ((skip); go_simp; try with_reducible rfl); (try go_simp); refine hK _ ?_; clear hK K); (refine wpC_read rfl (fun _ _ _ h => h) (fun K hK => ?_); apply Exists.intro; refine ⟨fun _ w' _ hC => ?_, ?_⟩; ((obtain ⟨p0, p1⟩ := HP.out w' hC; (try have c3 := hC.cellS HC3.out (fun h => h)); (try have e4 := HE.out); (try have e5 := HW.out)); go_simp; try with_reducible rfl); (try go_simp); refine hK _ ?_; clear hK K); (refine wpC_read rfl (fun _ _ _ h => h) (fun K hK => ?_); apply Exists.intro; refine ⟨fun _ w' _ hC => ?_, ?_⟩; ((skip); go_simp; try with_reducible rfl); (try go_simp); refine hK _ ?_; clear hK K); (refine wpC_read rfl (fun _ _ _ h => h) (fun K hK => ?_); apply Exists.intro; refine ⟨fun _ w' _ hC => ?_, ?_⟩; ((skip); go_simp; try with_reducible rfl); (try go_simp); refine hK _ ?_; clear hK K); (refine wpC_read rfl (fun _ _ _ h => h) (fun K hK => ?_); apply Exists.intro; refine ⟨fun _ w' _ hC => ?_, ?_⟩; ((skip); go_simp; try with_reducible rfl); (try go_simp); refine hK _ ?_; clear hK K); (refine wpC_read rfl (fun _ _ _ h => h) (fun K hK => ?_); apply Exists.intro; refine ⟨fun _ w' _ hC => ?_, ?_⟩; ((skip); go_simp; try with_reducible rfl); (try go_simp); refine hK _ ?_; clear hK K); (refine wpC_read rfl (fun _ _ _ h => h) (fun K hK => ?_); apply Exists.intro; refine ⟨fun _ w' _ hC => ?_, ?_⟩; ((skip); go_simp; try with_reducible rfl); (try go_simp); refine hK _ ?_; clear hK K); (refine wpC_read rfl (fun _ _ _ h => h) (fun K hK => ?_); apply Exists.intro; refine ⟨fun _ w' _ hC => ?_, ?_⟩; ((skip); go_simp; try with_reducible rfl); (try go_simp); refine hK _ ?_; clear hK K); (refine wpC_read rfl (fun _ _ _ h => h) (fun K hK => ?_); apply Exists.intro; refine ⟨fun _ w' _ hC => ?_, ?_⟩; ((obtain ⟨p0, p1⟩ := HP.out w' hC; (try have c3 := hC.cellS HC3.out (fun h => h)); (try have e4 := HE.out); (try have e5 := HW.out)); go_simp; try with_reducible rfl); (try go_simp); refine hK _ ?_; clear hK K); (refine wpC_read rfl (fun _ _ _ h => h) (fun K hK => ?_); apply Exists.intro; refine ⟨fun _ w' _ hC => ?_, ?_⟩; ((skip); go_simp; try with_reducible rfl); (try go_simp); refine hK _ ?_; clear hK K); (refine wpC_read rfl (fun _ _ _ h => h) (fun K hK => ?_); apply Exists.intro; refine ⟨fun _ w' _ hC => ?_, ?_⟩; ((skip); go_simp; try with_reducible rfl); (try go_simp); refine hK _ ?_; clear hK K); (refine wpC_read rfl (fun _ _ _ h => h) (fun K hK => ?_); apply Exists.intro; refine ⟨fun _ w' _ hC => ?_, ?_⟩; ((obtain ⟨p0, p1⟩ := HP.out w' hC; (try have c3 := hC.cellS HC3.out (fun h => h)); (try have e4 := HE.out); (try have e5 := HW.out)); go_simp; try with_reducible rfl); (try go_simp); refine hK _ ?_; clear hK K); (refine wpC_read rfl (fun _ _ _ h => h) (fun K hK => ?_); apply Exists.intro; refine ⟨fun _ w' _ hC => ?_, ?_⟩; ((obtain ⟨p0, p1⟩ := HP.out w' hC; (try have c3 := hC.cellS HC3.out (fun h => h)); (try have e4 := HE.out); (try have e5 := HW.out)); go_simp; try with_reducible rfl); (try go_simp); refine hK _ ?_; clear hK K); (refine wpC_read rfl (fun _ _ _ h => h) (fun K hK => ?_); apply Exists.intro; refine ⟨fun _ w' _ hC => ?_, ?_⟩; ((obtain ⟨p0, p1⟩ := HP.out w' hC; (try have c3 := hC.cellS HC3.out (fun h => h)); (try have e4 := HE.out); (try have e5 := HW.out)); go_simp; try with_reducible rfl); (try go_simp); refine hK _ ?_; clear hK K); (refine wpC_read rfl (fun _ _ _ h => h) (fun K hK => ?_); apply Exists.intro; refine ⟨fun _ w' _ hC => ?_, ?_⟩; ((obtain ⟨p0, p1⟩ := HP.out w' hC; (try have c3 := hC.cellS HC3.out (fun h => h)); (try have e4 := HE.out); (try have e5 := HW.out)); go_simp; try with_reducible rfl); (try go_simp); refine hK _ ?_; clear hK K); (refine wpC_read rfl (fun _ _ _ h => h) (fun K hK => ?_); apply Exists.intro; refine ⟨fun _ w' _ hC => ?_, ?_⟩; ((skip); go_simp; try with_reducible rfl); (try go_simp); refine hK _ ?_; clear hK K); (refine wpC_read rfl (fun _ _ _ h => h) (fun K hK => ?_); apply Exists.intro; refine ⟨fun _ w' _ hC => ?_, ?_⟩; ((skip); go_simp; try with_reducible rfl); (try go_simp); refine hK _ ?_; clear hK K); (refine wpC_read rfl (fun _ _ _ h => h) (fun K hK => ?_); apply Exists.intro; refine ⟨fun _ w' _ hC => ?_, ?_⟩; ((skip); go_simp; try with_reducible rfl); (try go_simp); refine hK _ ?_; clear hK K)
            refine wpC_nil ?_
            intro w2 hC2
            have HC2 := Lib.hid (HCA.out.trans hC2)
            clear hC2
            go_wp2
            go_roundw
            case rel => exact ⟨k + 1, by omega, by go_num, HK.out, HC2.out⟩
            case measure => simp [intOf]; omega
    · obtain rfl : k = R.length := by omega
      have HF : Hid (apartB R = true) := Lib.hid (apartB_true HB.out)
      go_wp2
      go_ret
      exact ⟨by rw [HF.out]; rfl, HC.out⟩
end Go.Proofs.Ytodohgckncnipaa
/- May a table be: the program's May. -/
namespace Go.Proofs.Ytodohgckncnipaa
open Go.RowKit

/-- A predicate on lists of ints, as a function value. -/
def GivesL (f : FuncId) (lb : Array Value) (p : List Int → Bool) (B : Nat) (w : World) : Prop := ∀ (l : List Int) (a : Option Addr) (c : Nat) (w' : World), intE.In w' B (a, l.length, c) l → l.length ≤ 1000000000 → Chg (fun _ => False) w w' →
  Calls Try.prog f (#[.slice a l.length c] ++ lb) w' fun e w'' => e = .returned (.bool (p l)) ∧ Chg (fun _ => False) w' w''
theorem ListsIn.getIn {w : World} {B : Nat} {a : Option Addr} {n c : Nat} {LL : List (List Int)} (h : ListsIn w B (a, n, c) LL) {k : Nat} (hk : k < LL.length) :
    ∃ (l : List Int) (g o : Nat) (la : Option Addr) (lc : Nat), LL[k]? = some l ∧ a = some ⟨g, o, none⟩ ∧ w.cell? ⟨g, o + k, none⟩ = some (.slice la l.length lc) ∧ intE.In w B (la, l.length, lc) l ∧ g < w.heap.size ∧ B ≤ g := by
  obtain ⟨l, g, o, la, lc, gl, ol, h1, h2, h3, h4, h5, h6, h7, h8⟩ := h.get hk
  exact ⟨l, g, o, la, lc, h1, h2, h3, ⟨rfl, h4, gl, ol, intAt.2 h5, h6⟩, h7, h8⟩

set_option maxRecDepth 100000 in
set_option maxHeartbeats 1000000 in
theorem indexList_any (f : FuncId) (lb : Array Value) (p : List Int → Bool) (LL : List (List Int)) (a : Option Addr) (c B : Nat) (w : World) (eg : ∀ args w, (callFunc f args).run Try.prog w = .ok (.enter f args) w) (h : ListsIn w B (a, LL.length, c) LL) (hp : GivesL f lb p B w) (hl : LL.length ≤ 1000000000) (hll : ∀ l ∈ LL, l.length ≤ 1000000000) :
    Calls Try.prog 32 #[.slice a LL.length c, .func (.func f) #[] lb] w fun e w' => e = .returned (.int .i64 (idxV p LL)) ∧ Chg (fun _ => False) w w' := by
  have HL := Lib.hid h
  have HP := Lib.hid hp
  have HLL := Lib.hid hll
  clear h hp hll
  go_enter Try.func32, Try.ntmps32
  go_wp2
  go_loopw [8] (fun q wr => ∃ k : Nat, k ≤ LL.length ∧ q = .int .i64 k ∧ (∀ (j : Nat) y, j < k → LL[j]? = some y → p y = false) ∧ Chg (fun _ => False) w wr) (fun q _ => LL.length - (intOf q).toNat)
  case atStart => exact ⟨0, by omega, rfl, fun j y h => absurd h (Nat.not_lt_zero _), Chg.refl _ _⟩
  case round =>
    obtain ⟨k, hk, rfl, hb, hc⟩ := hrel
    have HB := Lib.hid hb
    have HC := Lib.hid hc
    clear hb hc
    by_cases hkl : k < LL.length
    · have b9 : decide ((k : Int) < (LL.length : Int)) = true := by simp; omega
      obtain ⟨x, g, o, la, lc, hx, rfl, c0, hin, -, -⟩ := (HL.out.same HC.out).getIn hkl
      have HX := Lib.hid hx
      have hcall := HP.out x la lc wr hin (HLL.out x (List.mem_of_getElem? hx)) HC.out
      clear hx hin
      cases hxi : p x with
      | true =>
        rw [hxi] at hcall
        have HF : Hid (idxV p LL = k) := Lib.hid (idxV_found HX.out hxi HB.out)
        have HCALL := Lib.hid hcall
        clear hcall hxi
        go_wp2_with fail
        refine HCALL.out.mono ?_
        rintro e w2 ⟨rfl, hc2⟩
        have HC2 := Lib.hid (HC.out.trans hc2)
        clear hc2 c0
        go_wp2
        go_ret
        exact ⟨by rw [HF.out]; rfl, HC2.out⟩
      | false =>
        rw [hxi] at hcall
        have HB2 : Hid (∀ (j : Nat) y, j < k + 1 → LL[j]? = some y → p y = false) := Lib.hid (fun j y hj hy => by
          by_cases he : j = k
          · subst he; rw [HX.out] at hy; obtain rfl := Option.some.inj hy; exact hxi
          · exact HB.out j y (by omega) hy)
        have HCALL := Lib.hid hcall
        clear hcall hxi
        go_wp2_with fail
        refine HCALL.out.mono ?_
        rintro e w2 ⟨rfl, hc2⟩
        have HC2 := Lib.hid (HC.out.trans hc2)
        clear hc2 c0
        go_wp2
        go_roundw
        case rel => exact ⟨k + 1, by omega, by go_num, HB2.out, HC2.out⟩
        case measure => simp [intOf]; omega
    · obtain rfl : k = LL.length := by omega
      have HF : Hid (idxV p LL = -1) := Lib.hid (idxV_none HB.out)
      go_wp2
      go_ret
      exact ⟨by rw [HF.out]; rfl, HC.out⟩
set_option maxRecDepth 100000 in
theorem containsL_any (f : FuncId) (lb : Array Value) (p : List Int → Bool) (LL : List (List Int)) (a : Option Addr) (c B : Nat) (w : World) (eg : ∀ args w, (callFunc f args).run Try.prog w = .ok (.enter f args) w) (h : ListsIn w B (a, LL.length, c) LL) (hp : GivesL f lb p B w) (hl : LL.length ≤ 1000000000) (hll : ∀ l ∈ LL, l.length ≤ 1000000000) :
    Calls Try.prog 53 #[.slice a LL.length c, .func (.func f) #[] lb] w fun e w' => e = .returned (.bool (LL.any p)) ∧ Chg (fun _ => False) w w' := by
  have HL := Lib.hid h
  have HP := Lib.hid hp
  have HLL := Lib.hid hll
  clear h hp hll
  rcases idx_cases p LL with ⟨k, x, -, -, h3, -, h5⟩ | ⟨h3, -, h5⟩
  all_goals
    have HI := Lib.hid h3
    have HN := Lib.hid h5
    clear h3 h5
    go_enter Try.func53, Try.ntmps53
    go_wp2_with fail
    refine (indexList_any f lb p LL a c B _ eg HL.out HP.out hl HLL.out).mono ?_
    rintro e w2 ⟨rfl, hc2⟩
    rw [HI.out]
    have HC := Lib.hid hc2
    clear hc2
    go_wp2
    go_ret
    exact ⟨by rw [HN.out]; rfl, HC.out⟩

/-! ### the predicates -/
def badEnd (e : Int) : Bool := decide (e < -1)
def badTo (n : Nat) (s : Int) : Bool := decide (s < -1) || decide ((n : Int) ≤ s)
def badRow (cols : Int) (n : Nat) (l : List Int) : Bool := !decide ((l.length : Int) = cols) || l.any (badTo n)
theorem badRow_eq (cols : Int) (n : Nat) (l : List Int) : badRow cols n l = !rowB cols n l := by
  have h : (!l.all (inB (-1) n)) = l.any (badTo n) := by
    rw [List.not_all_eq_any_not]
    congr 1
    funext s
    unfold inB badTo
    by_cases h1 : s < -1 <;> by_cases h2 : (n : Int) ≤ s
    all_goals simp [h1, h2]
    all_goals omega
  unfold badRow rowB
  rw [Bool.not_and, h]
theorem gives_end (w : World) : GivesI 52 #[] badEnd w := by
  intro x w' hx hc
  show Calls Try.prog 52 #[.int .i64 x] w' _
  go_enter Try.func52, Try.ntmps52
  go_wp2
  go_ret
  exact ⟨rfl, Chg.refl _ _⟩
theorem gives_to (b n : Nat) (na : Option Addr) (nc : Nat) (w : World) (h : w.cell? ⟨b, 2, none⟩ = some (.slice na n nc)) : GivesI 55 #[.pointer (some ⟨b, 0, none⟩)] (badTo n) w := by
  intro x w' hx hc
  have h2 := hc.cellS h (fun h => h)
  show Calls Try.prog 55 #[.int .i64 x, .pointer (some ⟨b, 0, none⟩)] w' _
  by_cases h1 : x < -1
  · have HF : Hid (badTo n x = true) := Lib.hid (by simp [badTo, h1])
    have d1 : decide (x < -1) = true := by simpa using h1
    go_enter Try.func55, Try.ntmps55
    go_wp2
    go_ret
    exact ⟨by rw [HF.out]; rfl, Chg.refl _ _⟩
  · have HF : Hid (badTo n x = decide ((n : Int) ≤ x)) := Lib.hid (by simp [badTo, h1])
    have d1 : decide (x < -1) = false := by simpa using h1
    go_enter Try.func55, Try.ntmps55
    go_wp2
    go_ret
    exact ⟨by rw [HF.out]; rfl, Chg.refl _ _⟩
set_option maxRecDepth 100000 in
theorem gives_row (p b n B : Nat) (cols : Int) (na : Option Addr) (nc : Nat) (w : World) (h0 : w.cell? ⟨p, 0, none⟩ = some (.int .i64 cols)) (h : w.cell? ⟨b, 2, none⟩ = some (.slice na n nc)) : GivesL 54 #[.pointer (some ⟨p, 0, none⟩), .pointer (some ⟨b, 0, none⟩)] (badRow cols n) B w := by
  intro l a c w' hin hl hc
  have h1 := hc.cellS h0 (fun h => h)
  have h2 := hc.cellS h (fun h => h)
  have eg := enters_of Try.func55 (by kernel_rfl) rfl
  have HI := Lib.hid hin
  have HG := Lib.hid (gives_to b n na nc w' h2)
  clear hin h2 h h0
  show Calls Try.prog 54 #[.slice a l.length c, .pointer (some ⟨p, 0, none⟩), .pointer (some ⟨b, 0, none⟩)] w' _
  by_cases hcl : (l.length : Int) = cols
  · have HF : Hid (badRow cols n l = l.any (badTo n)) := Lib.hid (by simp [badRow, hcl])
    have d1 : ((l.length : Int) != cols) = false := by simpa using hcl
    clear hcl
    go_enter Try.func54, Try.ntmps54
    go_wp2_with fail
    refine (containsI_any _ _ (badTo n) l a c B _ eg HI.out HG.out hl).mono ?_
    rintro e w2 ⟨rfl, hc2⟩
    have HC := Lib.hid hc2
    clear hc2
    go_wp2
    go_ret
    exact ⟨by rw [HF.out]; rfl, HC.out⟩
  · have HF : Hid (badRow cols n l = true) := Lib.hid (by simp [badRow, hcl])
    have d1 : ((l.length : Int) != cols) = true := by simpa using hcl
    clear hcl
    go_enter Try.func54, Try.ntmps54
    go_wp2
    go_ret
    exact ⟨by rw [HF.out]; rfl, Chg.refl _ _⟩

/-! ### May -/
theorem mayT_ends {t : TabD} (h : t.e.any badEnd = true) : mayT t = false := mayT_no (fun hm => by
  rw [List.any_eq_true] at h
  obtain ⟨e, h1, h2⟩ := h
  have := hm.eb e h1
  simp [badEnd] at h2
  omega)
theorem mayT_good {t : TabD} (h1 : apartB t.r = true) (h2 : t.c.length = t.r.length) (h3 : 0 < t.n.length) (h4 : t.e.length = t.n.length) (h5 : ∀ c ∈ t.c, 0 ≤ c ∧ c < t.c.length) (h6 : fillB t.c = true) (h7 : t.e.any badEnd = false) :
    mayT t = !t.n.any (badRow (colsL t.c) t.n.length) := by
  have e : t.n.all (rowB (colsL t.c) t.n.length) = !t.n.any (badRow (colsL t.c) t.n.length) := by
    rw [List.not_any_eq_all_not]
    congr 1
    funext l
    rw [badRow_eq, Bool.not_not]
  have e2 : t.e.all (fun e => decide (-1 ≤ e)) = true := by
    rw [List.all_eq_true]
    intro x hx
    rw [List.any_eq_false] at h7
    have := h7 x hx
    simp [badEnd] at this
    simpa using this
  have e3 : t.c.all (inB 0 t.c.length) = true := by
    rw [List.all_eq_true]
    intro x hx
    have := h5 x hx
    simp [inB]
    exact this
  unfold mayT
  rw [h1, e3, h6, e2, e, decide_eq_true (show t.c.length = t.r.length ∧ 0 < t.n.length ∧ t.e.length = t.n.length from ⟨h2, h3, h4⟩)]
  simp
theorem fillB_true {C : List Int} (h : ∀ j : Nat, (j : Int) < colsL C → hasB j C = true) : fillB C = true := by
  unfold fillB
  rw [List.all_eq_true]
  intro j hj
  rw [← hasB_contains]
  exact h j (by have := List.mem_range.1 hj; omega)
theorem fillB_false {C : List Int} {j : Nat} (hj : (j : Int) < colsL C) (h : hasB j C = false) : fillB C = false := by
  unfold fillB
  rw [List.all_eq_false]
  exact ⟨j, List.mem_range.2 (by omega), by rw [← hasB_contains, h]; simp⟩

/-- Where May is: the table's block, the columns' cell. -/
def MayW (w : World) (b : Nat) (rs cs ns es : Sl) (v : Int) (wr : World) : Prop :=
  (wr.cell? ⟨w.heap.size, 0, none⟩ = some (slV rs) ∧ wr.cell? ⟨w.heap.size, 1, none⟩ = some (slV cs) ∧ wr.cell? ⟨w.heap.size, 2, none⟩ = some (slV ns) ∧ wr.cell? ⟨w.heap.size, 3, none⟩ = some (slV es)) ∧ (wr.cell? ⟨b, 0, none⟩ = some (.int .i64 v) ∧ wr.frozen? ⟨b, 0, none⟩ = false) ∧ Chg (fun _ => False) w wr ∧ w.heap.size < b
theorem MayW.chg {w wr wx : World} {b : Nat} {rs cs ns es : Sl} {v : Int} (h : MayW w b rs cs ns es v wr) (hc : Chg (fun _ => False) wr wx) : MayW w b rs cs ns es v wx := by
  obtain ⟨⟨h0, h1, h2, h3⟩, ⟨h4, h5⟩, h6, h7⟩ := h
  exact ⟨⟨hc.cellS h0 (fun h => h), hc.cellS h1 (fun h => h), hc.cellS h2 (fun h => h), hc.cellS h3 (fun h => h)⟩, ⟨hc.cellS h4 (fun h => h), (hc.frozen (p := ⟨b, 0, none⟩) (World.block_lt_of_cell? _ _ h4) (fun h => h)).trans h5⟩, h6.trans hc, h7⟩
theorem MayW.set {w wr : World} {b : Nat} {rs cs ns es : Sl} {v : Int} (h : MayW w b rs cs ns es v wr) (v' : Int) : MayW w b rs cs ns es v' (wr.setCell ⟨b, 0, none⟩ (.int .i64 v')) := by
  obtain ⟨⟨h0, h1, h2, h3⟩, ⟨h4, h5⟩, h6, h7⟩ := h
  have hs := setCellChg wr b 0 (.int .i64 v')
  exact ⟨⟨hs.cellS h0 (by simp only; omega), hs.cellS h1 (by simp only; omega), hs.cellS h2 (by simp only; omega), hs.cellS h3 (by simp only; omega)⟩, ⟨World.cell?_setCell_same _ _ _ h4, (World.frozen?_setCell _ _ _ _).trans h5⟩, (h6.any.trans (hs.mono (T := fun k => w.heap.size ≤ k) (fun k _ e => by omega))).fresh, h7⟩
end Go.Proofs.Ytodohgckncnipaa
/- May a table be: the program's May, its walk. -/
namespace Go.Proofs.Ytodohgckncnipaa
open Go.RowKit

set_option maxRecDepth 100000 in
set_option maxHeartbeats 8000000 in
theorem may_any (t : TabD) (rs cs ns es : Sl) (B : Nat) (w : World) (h : TabIn w B rs cs ns es t) (hf : Fair t) :
    Calls Try.prog 18 #[tabV rs cs ns es] w fun e w' => e = .returned (.bool (mayT t)) ∧ Chg (fun _ => False) w w' := by
  obtain ⟨ra, rn, rc⟩ := rs
  obtain ⟨ca, cn, cc⟩ := cs
  obtain ⟨na, nn, nc⟩ := ns
  obtain ⟨ea, en, ec⟩ := es
  obtain ⟨hR, hC, hN, hE⟩ := h
  obtain ⟨fr, fc, fn, fe, fl⟩ := hf
  obtain ⟨rfl, hr1⟩ := hR.len
  obtain ⟨rfl, hc1⟩ := hC.len
  obtain ⟨rfl, hn1⟩ := hN.len
  obtain ⟨rfl, he1⟩ := hE.len
  have HR := Lib.hid hR
  have HC := Lib.hid hC
  have HN := Lib.hid hN
  have HE := Lib.hid hE
  have HL := Lib.hid fl
  have HT0 : Hid (∀ wx, Chg (fun _ => False) (w.alloc (.cells #[.slice ra t.r.length rc, .slice ca t.c.length cc, .slice na t.n.length nc, .slice ea t.e.length ec] 26)) wx → wx.cell? ⟨w.heap.size, 0, none⟩ = some (.slice ra t.r.length rc) ∧ wx.cell? ⟨w.heap.size, 1, none⟩ = some (.slice ca t.c.length cc) ∧ wx.cell? ⟨w.heap.size, 2, none⟩ = some (.slice na t.n.length nc) ∧ wx.cell? ⟨w.heap.size, 3, none⟩ = some (.slice ea t.e.length ec)) :=
    Lib.hid (fun wx hx => (tabBox w (ra, t.r.length, rc) (ca, t.c.length, cc) (na, t.n.length, nc) (ea, t.e.length, ec) 26).chg hx (fun h => h))
  clear hR hC hN hE fl
  show Calls Try.prog 18 #[.agg #[.slice ra t.r.length rc, .slice ca t.c.length cc, .slice na t.n.length nc, .slice ea t.e.length ec]] w _
  cases hap : apartB t.r with
  | false =>
    have HF : Hid (mayT t = false) := Lib.hid (mayT_no (fun hm => by rw [hm.ap] at hap; cases hap))
    have HAP := Lib.hid hap
    clear hap
    go_enter Try.func18, Try.ntmps18
    go_wp2_with fail
    refine (apart_rng t.r ra rc B _ (HR.out.same ((Chg.refl _ _).alloc _)) fr).mono ?_
    rintro e w1 ⟨rfl, h1c⟩
    rw [HAP.out]
    have HC1 := Lib.hid (((Chg.refl _ w).alloc _).trans h1c)
    clear h1c
    go_wp2
    go_ret
    exact ⟨by rw [HF.out]; rfl, HC1.out⟩
  | true =>
    have HAP := Lib.hid hap
    clear hap
    by_cases g1 : t.c.length = t.r.length
    · by_cases g2 : 0 < t.n.length
      · by_cases g3 : t.e.length = t.n.length
        · have d1 : ((t.c.length : Int) != (t.r.length : Int)) = false := by simp [g1]
          have d2 : decide ((t.n.length : Int) < 1) = false := decide_eq_false (by omega)
          have d3 : ((t.e.length : Int) != (t.n.length : Int)) = false := by simp [g3]
          have d2' : decide (t.n.length < 1) = false := decide_eq_false (by omega)
          have HG1 := Lib.hid g1
          have HG3 := Lib.hid g3
          clear g1 g3
          go_enter Try.func18, Try.ntmps18
          go_wp2_with fail
          refine (apart_rng t.r ra rc B _ (HR.out.same ((Chg.refl _ _).alloc _)) fr).mono ?_
          rintro e w1 ⟨rfl, h1c⟩
          rw [HAP.out]
          have HC1 := Lib.hid (((Chg.refl _ w).alloc _).trans h1c)
          obtain ⟨q0, q1, q2, q3⟩ := HT0.out w1 h1c
          have HQ := Lib.hid (HT0.out w1 h1c)
          have hlt : w.heap.size < w1.heap.size := by have := h1c.size; simp at this; omega
          clear h1c
          have HM0 : Hid (MayW w w1.heap.size (ra, t.r.length, rc) (ca, t.c.length, cc) (na, t.n.length, nc) (ea, t.e.length, ec) (colsL (t.c.take 0)) (w1.alloc (.cells #[.int .i64 0] 3))) := Lib.hid (by
            have ha := (Chg.refl (fun _ => False) w1).alloc (.cells #[.int .i64 0] 3)
            exact ⟨⟨ha.cellS HQ.out.1 (fun h => h), ha.cellS HQ.out.2.1 (fun h => h), ha.cellS HQ.out.2.2.1 (fun h => h), ha.cellS HQ.out.2.2.2 (fun h => h)⟩, ⟨by simp [colsL], World.frozen?_alloc_new _ _ _ _⟩, HC1.out.alloc _, hlt⟩)
          obtain ⟨⟨y0, y1, y2, y3⟩, -, -, -⟩ := HM0.out
          unfold slV at y0 y1 y2 y3
          simp only at y0 y1 y2 y3
          go_wp2
          clear y0 y1 y2 y3
          go_loopw [38] (fun q wr => ∃ k : Nat, k ≤ t.c.length ∧ q = .int .i64 k ∧ (∀ (j : Nat) c, j < k → t.c[j]? = some c → 0 ≤ c ∧ c < t.c.length) ∧ MayW w w1.heap.size (ra, t.r.length, rc) (ca, t.c.length, cc) (na, t.n.length, nc) (ea, t.e.length, ec) (colsL (t.c.take k)) wr) (fun q _ => t.c.length - (intOf q).toNat)
          case atStart => exact ⟨0, by omega, rfl, fun j y h => absurd h (Nat.not_lt_zero _), HM0.out⟩
          case round =>
            clear HM0
            obtain ⟨k, hk, rfl, hb, hm⟩ := hrel
            have HB := Lib.hid hb
            have HM := Lib.hid hm
            obtain ⟨⟨q0, q1, q2, q3⟩, ⟨m0, m1⟩, hcw, -⟩ := hm
            unfold slV at q0 q1 q2 q3
            simp only at q0 q1 q2 q3
            have HCW := Lib.hid hcw
            clear hb hcw
            obtain ⟨v, hv⟩ : ∃ x, colsL (t.c.take k) = x := ⟨_, rfl⟩
            rw [hv] at m0
            have HV := Lib.hid hv
            by_cases hkl : k < t.c.length
            · have b9 : decide ((k : Int) < (t.c.length : Int)) = true := by simp; omega
              obtain ⟨c, g, o, hx, rfl, c0, x0, x1, -, -⟩ := (HC.out.same HCW.out).getI hkl
              have HX := Lib.hid hx
              clear hx hv
              by_cases h1 : c < 0
              · have d5 : decide (c < 0) = true := by simpa using h1
                have HF : Hid (mayT t = false) := Lib.hid (mayT_no (fun hm => by have := hm.cb c (List.mem_of_getElem? HX.out); omega))
                go_wp2
                go_ret
                exact ⟨by rw [HF.out]; rfl, HCW.out⟩
              · have d5 : decide (c < 0) = false := by simpa using h1
                by_cases h2 : (t.c.length : Int) ≤ c
                · have d6 : decide ((t.c.length : Int) ≤ c) = true := by simpa using h2
                  have HF : Hid (mayT t = false) := Lib.hid (mayT_no (fun hm => by have := hm.cb c (List.mem_of_getElem? HX.out); omega))
                  go_wp2
                  go_ret
                  exact ⟨by rw [HF.out]; rfl, HCW.out⟩
                · have d6 : decide ((t.c.length : Int) ≤ c) = false := by simpa using h2
                  have HB2 : Hid (∀ (j : Nat) c, j < k + 1 → t.c[j]? = some c → 0 ≤ c ∧ c < t.c.length) := Lib.hid (fun j y hj hy => by
                    by_cases he : j = k
                    · subst he; rw [HX.out] at hy; obtain rfl := Option.some.inj hy; omega
                    · exact HB.out j y (by omega) hy)
                  have HNV : Hid (colsL (t.c.take (k + 1)) = max v (c + 1)) := Lib.hid (by rw [colsL_take HX.out, HV.out])
                  have HM2 : Hid (MayW w w1.heap.size (ra, t.r.length, rc) (some ⟨g, o, none⟩, t.c.length, cc) (na, t.n.length, nc) (ea, t.e.length, ec) (colsL (t.c.take (k + 1))) (wr.setCell ⟨w1.heap.size, 0, none⟩ (.int .i64 (if v < c + 1 then c + 1 else v)))) := Lib.hid (by
                    rw [HNV.out, show max v (c + 1) = if v < c + 1 then c + 1 else v by split <;> omega]
                    exact HM.out.set _)
                  clear HM
                  go_wp2
                  go_roundw
                  case rel => exact ⟨k + 1, by omega, by go_num, HB2.out, HM2.out⟩
                  case measure => simp [intOf]; omega
            · obtain rfl : k = t.c.length := by omega
              rw [List.take_length] at HV
              have HM3 := HM
              rw [List.take_length, HV.out] at HM3
              have HCB : Hid (∀ c ∈ t.c, 0 ≤ c ∧ c < t.c.length) := Lib.hid (fun c hc => by
                obtain ⟨j, hj⟩ := List.getElem?_of_mem hc
                exact HB.out j c (List.getElem?_eq_some_iff.1 hj).1 hj)
              have hv0 : 0 ≤ v := by rw [← HV.out]; exact colsL_nonneg _
              have hv1 : v ≤ t.c.length := by rw [← HV.out]; exact colsL_le (by omega) (fun c hc => (HCB.out c hc).2)
              clear hv HM HB
              go_wp2
              go_loopw [57] (fun q wr => ∃ k : Nat, (k : Int) ≤ v ∧ q = .int .i64 k ∧ (∀ (j : Nat), j < k → hasB j t.c = true) ∧ MayW w w1.heap.size (ra, t.r.length, rc) (ca, t.c.length, cc) (na, t.n.length, nc) (ea, t.e.length, ec) v wr) (fun q _ => v.toNat - (intOf q).toNat)
              case atStart => exact ⟨0, by omega, rfl, fun j h => absurd h (Nat.not_lt_zero _), HM3.out⟩
              case round =>
                clear HM3 q0 q1 q2 q3 m0 m1 HCW
                obtain ⟨k, hk, rfl, hb, hm⟩ := hrel
                have HB := Lib.hid hb
                have HM := Lib.hid hm
                obtain ⟨⟨q0, q1, q2, q3⟩, ⟨m0, m1⟩, hcw, -⟩ := hm
                unfold slV at q0 q1 q2 q3
                simp only at q0 q1 q2 q3
                have HCW := Lib.hid hcw
                clear hb hcw
                by_cases hkl : (k : Int) < v
                · have b9 : decide ((k : Int) < v) = true := by simpa using hkl
                  cases hh : hasB k t.c with
                  | true =>
                    have HB2 : Hid (∀ (j : Nat), j < k + 1 → hasB j t.c = true) := Lib.hid (fun j hj => by
                      by_cases he : j = k
                      · subst he; exact hh
                      · exact HB.out j (by omega))
                    have HH := Lib.hid hh
                    clear hh
                    go_wp2_with fail
                    refine (contains_any k t.c ca cc B wr (HC.out.same HCW.out) fc).mono ?_
                    rintro e w2 ⟨rfl, h2c⟩
                    rw [HH.out]
                    have HM2 := Lib.hid (HM.out.chg h2c)
                    clear h2c HM
                    go_wp2
                    go_roundw
                    case rel => exact ⟨k + 1, by omega, by go_num, HB2.out, HM2.out⟩
                    case measure => simp [intOf]; omega
                  | false =>
                    have HF : Hid (mayT t = false) := Lib.hid (mayT_no (fun hm => by
                      have h1 := hm.fill
                      rw [fillB_false (j := k) (by rw [HV.out]; exact hkl) hh] at h1
                      cases h1))
                    have HH := Lib.hid hh
                    clear hh
                    go_wp2_with fail
                    refine (contains_any k t.c ca cc B wr (HC.out.same HCW.out) fc).mono ?_
                    rintro e w2 ⟨rfl, h2c⟩
                    rw [HH.out]
                    have HC2 := Lib.hid (HCW.out.trans h2c)
                    clear h2c
                    go_wp2
                    go_ret
                    exact ⟨by rw [HF.out]; rfl, HC2.out⟩
                · obtain rfl : (k : Int) = v := by omega
                  have b9 : decide ((k : Int) < (k : Int)) = false := by simp
                  have HFI : Hid (fillB t.c = true) := Lib.hid (fillB_true (fun j hj => HB.out j (by rw [HV.out] at hj; omega)))
                  have eg := enters_of Try.func52 (by kernel_rfl) rfl
                  go_wp2_with fail
                  refine (containsI_any _ _ badEnd t.e ea ec B wr eg (HE.out.same HCW.out) (gives_end wr) fe).mono ?_
                  rintro e w2 ⟨rfl, h2c⟩
                  have HM2 := Lib.hid (HM.out.chg h2c)
                  have HC2 := Lib.hid (HCW.out.trans h2c)
                  clear h2c HM HCW eg q0 q1 q2 q3 m0 m1
                  cases he : t.e.any badEnd with
                  | true =>
                    have HF : Hid (mayT t = false) := Lib.hid (mayT_ends he)
                    clear he
                    go_wp2
                    go_ret
                    exact ⟨by rw [HF.out]; rfl, HC2.out⟩
                  | false =>
                    have HF : Hid (mayT t = !t.n.any (badRow (k : Int) t.n.length)) := Lib.hid (by
                      have := mayT_good HAP.out HG1.out g2 HG3.out HCB.out HFI.out he
                      rw [HV.out] at this
                      exact this)
                    clear he
                    obtain ⟨⟨q0, q1, q2, q3⟩, ⟨m0, m1⟩, -, -⟩ := HM2.out
                    unfold slV at q0 q1 q2 q3
                    simp only at q0 q1 q2 q3
                    have eg := enters_of Try.func54 (by kernel_rfl) rfl
                    have HG := Lib.hid (gives_row w1.heap.size w.heap.size t.n.length B k na nc w2 m0 q2)
                    go_wp2_with fail
                    refine (containsL_any _ _ (badRow (k : Int) t.n.length) t.n na nc B w2 eg (HN.out.same HC2.out) HG.out fn HL.out).mono ?_
                    rintro e w3 ⟨rfl, h3c⟩
                    have HC3 := Lib.hid (HC2.out.trans h3c)
                    clear h3c eg
                    cases hb : t.n.any (badRow (k : Int) t.n.length) with
                    | true =>
                      rw [hb] at HF
                      go_wp2
                      go_ret
                      exact ⟨by rw [HF.out]; rfl, HC3.out⟩
                    | false =>
                      rw [hb] at HF
                      go_wp2
                      go_ret
                      exact ⟨by rw [HF.out]; rfl, HC3.out⟩
        · have d1 : ((t.c.length : Int) != (t.r.length : Int)) = false := by simp [g1]
          have d2 : decide ((t.n.length : Int) < 1) = false := decide_eq_false (by omega)
          have d2' : decide (t.n.length < 1) = false := decide_eq_false (by omega)
          have d3 : ((t.e.length : Int) != (t.n.length : Int)) = true := by simp; omega
          have HG1 := Lib.hid g1
          clear g1
          have HF : Hid (mayT t = false) := Lib.hid (mayT_no (fun hm => g3 hm.el))
          go_enter Try.func18, Try.ntmps18
          go_wp2_with fail
          refine (apart_rng t.r ra rc B _ (HR.out.same ((Chg.refl _ _).alloc _)) fr).mono ?_
          rintro e w1 ⟨rfl, h1c⟩
          rw [HAP.out]
          have HC1 := Lib.hid (((Chg.refl _ w).alloc _).trans h1c)
          obtain ⟨q0, q1, q2, q3⟩ := HT0.out w1 h1c
          clear h1c
          go_wp2
          go_ret
          exact ⟨by rw [HF.out]; rfl, HC1.out⟩
      · have d1 : ((t.c.length : Int) != (t.r.length : Int)) = false := by simp [g1]
        have d2 : decide ((t.n.length : Int) < 1) = true := decide_eq_true (by omega)
        have d2' : decide (t.n.length < 1) = true := decide_eq_true (by omega)
        have HG1 := Lib.hid g1
        clear g1
        have HF : Hid (mayT t = false) := Lib.hid (mayT_no (fun hm => g2 hm.nl))
        go_enter Try.func18, Try.ntmps18
        go_wp2_with fail
        refine (apart_rng t.r ra rc B _ (HR.out.same ((Chg.refl _ _).alloc _)) fr).mono ?_
        rintro e w1 ⟨rfl, h1c⟩
        rw [HAP.out]
        have HC1 := Lib.hid (((Chg.refl _ w).alloc _).trans h1c)
        obtain ⟨q0, q1, q2, q3⟩ := HT0.out w1 h1c
        clear h1c
        go_wp2
        go_ret
        exact ⟨by rw [HF.out]; rfl, HC1.out⟩
    · have d1 : ((t.c.length : Int) != (t.r.length : Int)) = true := by simp; omega
      have HF : Hid (mayT t = false) := Lib.hid (mayT_no (fun hm => g1 hm.cl))
      go_enter Try.func18, Try.ntmps18
      go_wp2_with fail
      refine (apart_rng t.r ra rc B _ (HR.out.same ((Chg.refl _ _).alloc _)) fr).mono ?_
      rintro e w1 ⟨rfl, h1c⟩
      rw [HAP.out]
      have HC1 := Lib.hid (((Chg.refl _ w).alloc _).trans h1c)
      obtain ⟨q0, q1, q2, q3⟩ := HT0.out w1 h1c
      clear h1c
      go_wp2
      go_ret
      exact ⟨by rw [HF.out]; rfl, HC1.out⟩
end Go.Proofs.Ytodohgckncnipaa
