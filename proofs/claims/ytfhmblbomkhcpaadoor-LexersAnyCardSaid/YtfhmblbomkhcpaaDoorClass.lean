/- Which range holds a rune, and where a list's number is first so: by whatever predicate handed in. -/
import Derived.Test.YtfhmblbomkhcpaaDoorElts
import Derived.Handy
namespace Go.Proofs.YtfhmblbomkhcpaaDoor
open Go.RowKit

/-- A predicate on ints, as a function value. -/
def GivesI (f : FuncId) (lb : Array Value) (p : Int → Bool) (w : World) : Prop := ∀ (x : Int) (w' : World), I.Byte x → Chg (fun _ => False) w w' →
  Calls Tryd.prog f (#[.int .i64 x] ++ lb) w' fun e w'' => e = .returned (.bool (p x)) ∧ Chg (fun _ => False) w' w''

set_option maxRecDepth 100000 in
set_option maxHeartbeats 1000000 in
theorem indexInt_any (f : FuncId) (lb : Array Value) (p : Int → Bool) (Z : List Int) (a : Option Addr) (c B : Nat) (w : World) (eg : ∀ args w, (callFunc f args).run Tryd.prog w = .ok (.enter f args) w) (h : intE.In w B (a, Z.length, c) Z) (hp : GivesI f lb p w) (hl : Z.length ≤ 1000000000) :
    Calls Tryd.prog 52 #[.slice a Z.length c, .func (.func f) #[] lb] w fun e w' => e = .returned (.int .i64 (idxV p Z)) ∧ Chg (fun _ => False) w w' := by
  have HL := Lib.hid h
  have HP := Lib.hid hp
  clear h hp
  go_enter Tryd.func52, Tryd.ntmps52
  go_wp2
  go_loopw [8] (fun q wr => ∃ k : Nat, k ≤ Z.length ∧ q = .int .i64 k ∧ (∀ (j : Nat) y, j < k → Z[j]? = some y → p y = false) ∧ Chg (fun _ => False) w wr) (fun q _ => Z.length - (intOf q).toNat)
  case atStart => exact ⟨0, by omega, rfl, fun j y h => absurd h (Nat.not_lt_zero _), Chg.refl _ _⟩
  case round =>
    obtain ⟨k, hk, rfl, hb, hc⟩ := hrel
    have HB := Lib.hid hb
    have HC := Lib.hid hc
    clear hb hc
    by_cases hkl : k < Z.length
    · have b9 : decide ((k : Int) < (Z.length : Int)) = true := by simp; omega
      obtain ⟨x, g, o, hx, rfl, c0, x0, x1, -, -⟩ := (HL.out.same HC.out).getI hkl
      have HX := Lib.hid hx
      clear hx
      have hcall := HP.out x wr ⟨x0, x1⟩ HC.out
      cases hxi : p x with
      | true =>
        rw [hxi] at hcall
        have HF : Hid (idxV p Z = k) := Lib.hid (idxV_found HX.out hxi HB.out)
        have HCALL := Lib.hid hcall
        clear hcall hxi
        go_wp2_with fail
        refine HCALL.out.mono ?_
        rintro e w2 ⟨rfl, hc2⟩
        have HC2 := Lib.hid (HC.out.trans hc2)
        clear hc2 c0
        go_wp2
        go_ret
        exact ⟨by rw [HF.out]; rfl, HC2.out⟩
      | false =>
        rw [hxi] at hcall
        have HB2 : Hid (∀ (j : Nat) y, j < k + 1 → Z[j]? = some y → p y = false) := Lib.hid (fun j y hj hy => by
          by_cases he : j = k
          · subst he; rw [HX.out] at hy; obtain rfl := Option.some.inj hy; exact hxi
          · exact HB.out j y (by omega) hy)
        have HCALL := Lib.hid hcall
        clear hcall hxi
        go_wp2_with fail
        refine HCALL.out.mono ?_
        rintro e w2 ⟨rfl, hc2⟩
        have HC2 := Lib.hid (HC.out.trans hc2)
        clear hc2 c0
        go_wp2
        go_roundw
        case rel => exact ⟨k + 1, by omega, by go_num, HB2.out, HC2.out⟩
        case measure => simp [intOf]; omega
    · obtain rfl : k = Z.length := by omega
      have HF : Hid (idxV p Z = -1) := Lib.hid (idxV_none HB.out)
      go_wp2
      go_ret
      exact ⟨by rw [HF.out]; rfl, HC.out⟩

set_option maxRecDepth 100000 in
theorem containsI_any (f : FuncId) (lb : Array Value) (p : Int → Bool) (Z : List Int) (a : Option Addr) (c B : Nat) (w : World) (eg : ∀ args w, (callFunc f args).run Tryd.prog w = .ok (.enter f args) w) (h : intE.In w B (a, Z.length, c) Z) (hp : GivesI f lb p w) (hl : Z.length ≤ 1000000000) :
    Calls Tryd.prog 26 #[.slice a Z.length c, .func (.func f) #[] lb] w fun e w' => e = .returned (.bool (Z.any p)) ∧ Chg (fun _ => False) w w' := by
  have HL := Lib.hid h
  have HP := Lib.hid hp
  clear h hp
  rcases idx_cases p Z with ⟨k, x, -, -, h3, -, h5⟩ | ⟨h3, -, h5⟩
  all_goals
    have HI := Lib.hid h3
    have HN := Lib.hid h5
    clear h3 h5
    go_enter Tryd.func26, Tryd.ntmps26
    go_wp2_with fail
    refine (indexInt_any f lb p Z a c B _ eg HL.out HP.out hl).mono ?_
    rintro e w2 ⟨rfl, hc2⟩
    rw [HI.out]
    have HC := Lib.hid hc2
    clear hc2
    go_wp2
    go_ret
    exact ⟨by rw [HN.out]; rfl, HC.out⟩

/-- Is a number among them? -/
def hasB (x : Int) (Z : List Int) : Bool := Z.any (fun y => x == y)
theorem hasB_contains (x : Int) (Z : List Int) : hasB x Z = Z.contains x := by
  unfold hasB
  rw [List.any_beq]

set_option maxRecDepth 100000 in
set_option maxHeartbeats 1000000 in
theorem index_any (v : Int) (Z : List Int) (a : Option Addr) (c B : Nat) (w : World) (h : intE.In w B (a, Z.length, c) Z) (hl : Z.length ≤ 1000000000) :
    Calls Tryd.prog 59 #[.slice a Z.length c, .int .i64 v] w fun e w' => e = .returned (.int .i64 (idxV (fun y => v == y) Z)) ∧ Chg (fun _ => False) w w' := by
  have HL := Lib.hid h
  clear h
  go_enter Tryd.func59, Tryd.ntmps59
  go_wp2
  go_loopw [8] (fun q wr => ∃ k : Nat, k ≤ Z.length ∧ q = .int .i64 k ∧ (∀ (j : Nat) y, j < k → Z[j]? = some y → (v == y) = false) ∧ Chg (fun _ => False) w wr) (fun q _ => Z.length - (intOf q).toNat)
  case atStart => exact ⟨0, by omega, rfl, fun j y h => absurd h (Nat.not_lt_zero _), Chg.refl _ _⟩
  case round =>
    obtain ⟨k, hk, rfl, hb, hc⟩ := hrel
    have HB := Lib.hid hb
    have HC := Lib.hid hc
    clear hb hc
    by_cases hkl : k < Z.length
    · have b9 : decide ((k : Int) < (Z.length : Int)) = true := by simp; omega
      obtain ⟨x, g, o, hx, rfl, c0, x0, x1, -, -⟩ := (HL.out.same HC.out).getI hkl
      have HX := Lib.hid hx
      clear hx
      cases hxi : (v == x) with
      | true =>
        have HF : Hid (idxV (fun y => v == y) Z = k) := Lib.hid (idxV_found (p := fun y => v == y) HX.out hxi HB.out)
        go_wp2
        go_ret
        exact ⟨by rw [HF.out]; rfl, HC.out⟩
      | false =>
        have HB2 : Hid (∀ (j : Nat) y, j < k + 1 → Z[j]? = some y → (v == y) = false) := Lib.hid (fun j y hj hy => by
          by_cases he : j = k
          · subst he; rw [HX.out] at hy; obtain rfl := Option.some.inj hy; exact hxi
          · exact HB.out j y (by omega) hy)
        go_wp2
        go_roundw
        case rel => exact ⟨k + 1, by omega, by go_num, HB2.out, HC.out⟩
        case measure => simp [intOf]; omega
    · obtain rfl : k = Z.length := by omega
      have HF : Hid (idxV (fun y => v == y) Z = -1) := Lib.hid (idxV_none (p := fun y => v == y) HB.out)
      go_wp2
      go_ret
      exact ⟨by rw [HF.out]; rfl, HC.out⟩
set_option maxRecDepth 100000 in
theorem contains_any (v : Int) (Z : List Int) (a : Option Addr) (c B : Nat) (w : World) (h : intE.In w B (a, Z.length, c) Z) (hl : Z.length ≤ 1000000000) :
    Calls Tryd.prog 44 #[.slice a Z.length c, .int .i64 v] w fun e w' => e = .returned (.bool (hasB v Z)) ∧ Chg (fun _ => False) w w' := by
  have HL := Lib.hid h
  clear h
  rcases idx_cases (fun y => v == y) Z with ⟨k, x, -, -, h3, -, h5⟩ | ⟨h3, -, h5⟩
  all_goals
    have HI := Lib.hid h3
    have HN : Hid (hasB v Z = _) := Lib.hid h5
    clear h3 h5
    go_enter Tryd.func44, Tryd.ntmps44
    go_wp2_with fail
    refine (index_any v Z a c B _ HL.out hl).mono ?_
    rintro e w2 ⟨rfl, hc2⟩
    rw [HI.out]
    have HC := Lib.hid hc2
    clear hc2
    go_wp2
    go_ret
    exact ⟨by rw [HN.out]; rfl, HC.out⟩

/-! ### ranges -/
theorem holdB_any (x y i : Int) (p : Nat) (w : World) (hp : w.cell? ⟨p, 0, none⟩ = some (.int .i32 i)) :
    Calls Tryd.prog 64 #[.agg #[.int .i32 x, .int .i32 y], .pointer (some ⟨p, 0, none⟩)] w fun e w' => e = .returned (.bool (holdB i (x, y))) ∧ Chg (fun _ => False) w w' := by
  have hp2 : (w.alloc (.cells #[.int .i32 x, .int .i32 y] 63)).cell? ⟨p, 0, none⟩ = some (.int .i32 i) := ((Chg.refl (fun _ => False) w).alloc _).cellS hp (fun h => h)
  by_cases h1 : x ≤ i
  · by_cases h2 : i ≤ y
    all_goals
      have HF : Hid (holdB i (x, y) = decide (i ≤ y)) := Lib.hid (by simp [holdB, h1])
      go_enter Tryd.func64, Tryd.ntmps64
      go_wp2
      go_ret
      exact ⟨by rw [HF.out]; simp [h2], (Chg.refl _ _).alloc _⟩
  · have HF : Hid (holdB i (x, y) = false) := Lib.hid (by simp [holdB, h1])
    have q1 : decide (x ≤ i) = false := by simpa using h1
    go_enter Tryd.func64, Tryd.ntmps64
    go_wp2
    go_ret
    exact ⟨by rw [HF.out]; rfl, (Chg.refl _ _).alloc _⟩

set_option maxRecDepth 100000 in
set_option maxHeartbeats 1000000 in
theorem indexRange_any (L : List (Int × Int)) (a : Option Addr) (c B p : Nat) (i : Int) (w : World) (h : rngE.In w B (a, L.length, c) L) (hp : w.cell? ⟨p, 0, none⟩ = some (.int .i32 i)) (hl : L.length ≤ 1000000000) :
    Calls Tryd.prog 63 #[.slice a L.length c, .func (.func 64) #[] #[.pointer (some ⟨p, 0, none⟩)]] w fun e w' => e = .returned (.int .i64 (classL L i)) ∧ Chg (fun _ => False) w w' := by
  have HL := Lib.hid h
  have HP : Hid (∀ w', Chg (fun _ => False) w w' → w'.cell? ⟨p, 0, none⟩ = some (.int .i32 i)) := Lib.hid fun w' hc => hc.cellS hp (fun h => h)
  clear h hp
  go_enter Tryd.func63, Tryd.ntmps63
  go_wp2
  go_loopw [8] (fun q wr => ∃ k : Nat, k ≤ L.length ∧ q = .int .i64 k ∧ (∀ (j : Nat) y, j < k → L[j]? = some y → holdB i y = false) ∧ Chg (fun _ => False) w wr) (fun q _ => L.length - (intOf q).toNat)
  case atStart => exact ⟨0, by omega, rfl, fun j y h => absurd h (Nat.not_lt_zero _), Chg.refl _ _⟩
  case round =>
    obtain ⟨k, hk, rfl, hb, hc⟩ := hrel
    have HB := Lib.hid hb
    have HC := Lib.hid hc
    clear hb hc
    by_cases hkl : k < L.length
    · have b9 : decide ((k : Int) < (L.length : Int)) = true := by simp; omega
      obtain ⟨x, y, g, o, hx, rfl, c0, c1, -, -, -, -⟩ := (HL.out.same HC.out).getR hkl
      have HX := Lib.hid hx
      clear hx
      cases hxi : holdB i (x, y) with
      | true =>
        have HF : Hid (classL L i = k) := Lib.hid (idxV_found HX.out hxi HB.out)
        go_wp2_with fail
        refine (holdB_any x y i p wr (HP.out wr HC.out)).mono ?_
        rintro e w2 ⟨rfl, hc2⟩
        rw [hxi]
        have HC2 := Lib.hid (HC.out.trans hc2)
        clear hc2 c0 c1 hxi
        go_wp2
        go_ret
        exact ⟨by rw [HF.out]; rfl, HC2.out⟩
      | false =>
        have HB2 : Hid (∀ (j : Nat) y, j < k + 1 → L[j]? = some y → holdB i y = false) := Lib.hid (fun j z hj hz => by
          by_cases he : j = k
          · subst he; rw [HX.out] at hz; obtain rfl := Option.some.inj hz; exact hxi
          · exact HB.out j z (by omega) hz)
        go_wp2_with fail
        refine (holdB_any x y i p wr (HP.out wr HC.out)).mono ?_
        rintro e w2 ⟨rfl, hc2⟩
        rw [hxi]
        have HC2 := Lib.hid (HC.out.trans hc2)
        clear hc2 c0 c1 hxi
        go_wp2
        go_roundw
        case rel => exact ⟨k + 1, by omega, by go_num, HB2.out, HC2.out⟩
        case measure => simp [intOf]; omega
    · obtain rfl : k = L.length := by omega
      have HF : Hid (classL L i = -1) := Lib.hid (idxV_none HB.out)
      go_wp2
      go_ret
      exact ⟨by rw [HF.out]; rfl, HC.out⟩

set_option maxRecDepth 100000 in
theorem class_any (L : List (Int × Int)) (a : Option Addr) (c B : Nat) (i : Int) (w : World) (h : rngE.In w B (a, L.length, c) L) (hl : L.length ≤ 1000000000) :
    Calls Tryd.prog 56 #[.slice a L.length c, .int .i32 i] w fun e w' => e = .returned (.int .i64 (classL L i)) ∧ Chg (fun _ => False) w w' := by
  have HL := Lib.hid h
  clear h
  go_enter Tryd.func56, Tryd.ntmps56
  go_wp2_with fail
  refine (indexRange_any L a c B _ i _ (HL.out.same ((Chg.refl _ _).alloc _)) (by simp) hl).mono ?_
  rintro e w2 ⟨rfl, hc2⟩
  have HC := Lib.hid (((Chg.refl _ w).alloc _).trans hc2)
  clear hc2
  go_wp2
  go_ret
  exact ⟨rfl, HC.out⟩

set_option maxRecDepth 100000 in
set_option maxHeartbeats 1000000 in
theorem refClass_any (L : List (Int × Int)) (a : Option Addr) (c B : Nat) (i : Int) (w : World) (h : rngE.In w B (a, L.length, c) L) (hl : L.length ≤ 1000000000) :
    Calls Tryd.prog 58 #[.slice a L.length c, .int .i32 i] w fun e w' => e = .returned (.int .i64 (classL L i)) ∧ Chg (fun _ => False) w w' := by
  have HL := Lib.hid h
  clear h
  go_enter Tryd.func58, Tryd.ntmps58
  go_wp2
  go_loopw [5] (fun q wr => ∃ k : Nat, k ≤ L.length ∧ q = .int .i64 k ∧ (∀ (j : Nat) y, j < k → L[j]? = some y → holdB i y = false) ∧ Chg (fun _ => False) w wr) (fun q _ => L.length - (intOf q).toNat)
  case atStart => exact ⟨0, by omega, rfl, fun j y h => absurd h (Nat.not_lt_zero _), Chg.refl _ _⟩
  case round =>
    obtain ⟨k, hk, rfl, hb, hc⟩ := hrel
    have HB := Lib.hid hb
    have HC := Lib.hid hc
    clear hb hc
    by_cases hkl : k < L.length
    · have b9 : decide ((k : Int) < (L.length : Int)) = true := by simp; omega
      obtain ⟨x, y, g, o, hx, rfl, c0, c1, -, -, -, -⟩ := (HL.out.same HC.out).getR hkl
      have HX := Lib.hid hx
      clear hx
      have HB2 : Hid (holdB i (x, y) = false → ∀ (j : Nat) y, j < k + 1 → L[j]? = some y → holdB i y = false) := Lib.hid (fun hxi j z hj hz => by
          by_cases he : j = k
          · subst he; rw [HX.out] at hz; obtain rfl := Option.some.inj hz; exact hxi
          · exact HB.out j z (by omega) hz)
      by_cases h1 : x ≤ i
      · by_cases h2 : i ≤ y
        · have HF : Hid (classL L i = k) := Lib.hid (idxV_found HX.out (by simp [holdB, h1, h2]) HB.out)
          go_wp2
          go_ret
          exact ⟨by rw [HF.out]; rfl, HC.out⟩
        · have HN : Hid (holdB i (x, y) = false) := Lib.hid (by simp [holdB, h2])
          have q2 : decide (i ≤ y) = false := by simpa using h2
          go_wp2
          go_roundw
          case rel => exact ⟨k + 1, by omega, by go_num, HB2.out HN.out, HC.out⟩
          case measure => simp [intOf]; omega
      · have HN : Hid (holdB i (x, y) = false) := Lib.hid (by simp [holdB, h1])
        have q2 : decide (x ≤ i) = false := by simpa using h1
        go_wp2
        go_roundw
        case rel => exact ⟨k + 1, by omega, by go_num, HB2.out HN.out, HC.out⟩
        case measure => simp [intOf]; omega
    · obtain rfl : k = L.length := by omega
      have HF : Hid (classL L i = -1) := Lib.hid (idxV_none HB.out)
      go_wp2
      go_ret
      exact ⟨by rw [HF.out]; rfl, HC.out⟩
end Go.Proofs.YtfhmblbomkhcpaaDoor
