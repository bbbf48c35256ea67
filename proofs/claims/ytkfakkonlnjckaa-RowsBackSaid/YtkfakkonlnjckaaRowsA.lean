/- What stands at a place of a row: the program's and the document's. -/
import Derived.Test.YtkfakkonlnjckaaRowsE
namespace Go.Proofs.Ytkfakkonlnjckaa
open Go.RowKit

/-- The first place where p holds, or -1. -/
def idxV {α : Type} (p : α → Bool) (L : List α) : Int := if L.findIdx p < L.length then (L.findIdx p : Int) else -1
theorem idxV_found {α : Type} {p : α → Bool} {L : List α} {k : Nat} {x : α} (hx : L[k]? = some x) (hp : p x = true) (hb : ∀ (j : Nat) (y : α), j < k → L[j]? = some y → p y = false) : idxV p L = k := by
  have hk := (List.getElem?_eq_some_iff.1 hx).1
  have he : L.findIdx p = k := (List.findIdx_eq hk).2 ⟨by rw [(List.getElem?_eq_some_iff.1 hx).2]; exact hp, fun j hj => hb j _ hj (List.getElem?_eq_getElem (by omega))⟩
  unfold idxV
  rw [he, if_pos hk]
theorem idxV_none {α : Type} {p : α → Bool} {L : List α} (hb : ∀ (j : Nat) (y : α), j < L.length → L[j]? = some y → p y = false) : idxV p L = -1 := by
  have : ¬ L.findIdx p < L.length := by
    rw [List.findIdx_lt_length]
    rintro ⟨x, hx, hp⟩
    obtain ⟨j, hj, rfl⟩ := List.getElem_of_mem hx
    rw [hb j _ hj (List.getElem?_eq_getElem hj)] at hp
    cases hp
  unfold idxV
  rw [if_neg this]
theorem idx_cases {α : Type} (p : α → Bool) : ∀ L : List α, (∃ (k : Nat) (x : α), L[k]? = some x ∧ p x = true ∧ idxV p L = k ∧ L.find? p = some x ∧ L.any p = true) ∨ (idxV p L = -1 ∧ L.find? p = none ∧ L.any p = false)
  | [] => .inr ⟨rfl, rfl, rfl⟩
  | x :: L => by
    by_cases hx : p x = true
    · exact .inl ⟨0, x, rfl, hx, idxV_found (k := 0) (x := x) rfl hx (fun j y h => absurd h (Nat.not_lt_zero _)), by simp [hx], by simp [hx]⟩
    · have hx' : p x = false := by simpa using hx
      rcases idx_cases p L with ⟨k, y, h1, h2, h3, h4, h5⟩ | ⟨h1, h2, h3⟩
      · refine .inl ⟨k + 1, y, by simpa using h1, h2, ?_, by simp [hx', h4], by simp only [List.any_cons, hx', h5, Bool.false_or]⟩
        unfold idxV at h3 ⊢
        simp only [List.findIdx_cons, hx', cond_false, List.length_cons]
        split at h3
        · rw [if_pos (by omega)]; omega
        · omega
      · refine .inr ⟨?_, by simp [hx', h2], by simp only [List.any_cons, hx', h3, Bool.false_or]⟩
        unfold idxV at h1 ⊢
        simp only [List.findIdx_cons, hx', cond_false, List.length_cons]
        split at h1
        · omega
        · rw [if_neg (by omega)]

theorem atFn_any (x y i : Int) (p : Nat) (w : World) (hp : w.cell? ⟨p, 0, none⟩ = some (.int .i64 i)) :
    Calls Try.prog 44 #[.agg #[.int .i64 x, .int .i64 y], .pointer (some ⟨p, 0, none⟩)] w fun e w' => e = .returned (.bool (x == i)) ∧ Chg (fun _ => False) w w' := by
  have hp2 : (w.alloc (.cells #[.int .i64 x, .int .i64 y] 79)).cell? ⟨p, 0, none⟩ = some (.int .i64 i) := ((Chg.refl (fun _ => False) w).alloc _).cellS hp (fun h => h)
  go_enter Try.func44, Try.ntmps44
  go_wp2
  go_ret
  exact ⟨rfl, (Chg.refl _ _).alloc _⟩

set_option maxRecDepth 100000 in
set_option maxHeartbeats 1000000 in
theorem indexCell_any (L : List (Int × Int)) (a : Option Addr) (c B p : Nat) (i : Int) (w : World) (h : cellE.In w B (a, L.length, c) L) (hp : w.cell? ⟨p, 0, none⟩ = some (.int .i64 i)) (hl : L.length ≤ 1000000000) :
    Calls Try.prog 43 #[.slice a L.length c, .func (.func 44) #[] #[.pointer (some ⟨p, 0, none⟩)]] w fun e w' => e = .returned (.int .i64 (idxV (fun c => c.1 == i) L)) ∧ Chg (fun _ => False) w w' := by
  have HL := Lib.hid h
  have HP : Hid (∀ w', Chg (fun _ => False) w w' → w'.cell? ⟨p, 0, none⟩ = some (.int .i64 i)) := Lib.hid fun w' hc => hc.cellS hp (fun h => h)
  clear h hp
  go_enter Try.func43, Try.ntmps43
  go_wp2
  go_loopw [8] (fun q wr => ∃ k : Nat, k ≤ L.length ∧ q = .int .i64 k ∧ (∀ (j : Nat) y, j < k → L[j]? = some y → (y.1 == i) = false) ∧ Chg (fun _ => False) w wr) (fun q _ => L.length - (intOf q).toNat)
  case atStart => exact ⟨0, by omega, rfl, fun j y h => absurd h (Nat.not_lt_zero _), Chg.refl _ _⟩
  case round =>
    obtain ⟨k, hk, rfl, hb, hc⟩ := hrel
    have HB := Lib.hid hb
    have HC := Lib.hid hc
    clear hb hc
    by_cases hkl : k < L.length
    · have b9 : decide ((k : Int) < (L.length : Int)) = true := by simp; omega
      obtain ⟨x, g, o, u, v, hx, rfl, he, c0, c1, -, -, -⟩ := (HL.out.same HC.out).get2 rfl hkl
      obtain ⟨x0, x1⟩ := x
      have HX := Lib.hid hx
      change encPair (x0, x1) = [u, v] at he
      unfold encPair at he
      simp only [List.cons.injEq, and_true] at he
      obtain ⟨rfl, rfl⟩ := he
      clear hx
      by_cases hxi : (x0 == i) = true
      · go_wp2_with fail
        refine (atFn_any x0 x1 i p wr (HP.out wr HC.out)).mono ?_
        rintro e w2 ⟨rfl, hc2⟩
        rw [hxi]
        have HC2 := Lib.hid (HC.out.trans hc2)
        have HF : Hid (idxV (fun c => c.1 == i) L = k) := Lib.hid (idxV_found HX.out hxi HB.out)
        clear hc2 c0 c1
        go_wp2
        go_ret
        exact ⟨by rw [HF.out]; rfl, HC2.out⟩
      · have hxi' : (x0 == i) = false := by simpa using hxi
        have HB2 : Hid (∀ (j : Nat) y, j < k + 1 → L[j]? = some y → (y.1 == i) = false) := Lib.hid (fun j y hj hy => by
          by_cases he : j = k
          · subst he; rw [HX.out] at hy; obtain rfl := Option.some.inj hy; exact hxi'
          · exact HB.out j y (by omega) hy)
        go_wp2_with fail
        refine (atFn_any x0 x1 i p wr (HP.out wr HC.out)).mono ?_
        rintro e w2 ⟨rfl, hc2⟩
        rw [hxi']
        have HC2 := Lib.hid (HC.out.trans hc2)
        clear hc2 c0 c1
        go_wp2
        go_roundw
        case rel => exact ⟨k + 1, by omega, by go_num, HB2.out, HC2.out⟩
        case measure => simp [intOf]; omega
    · obtain rfl : k = L.length := by omega
      have HF : Hid (idxV (fun c => c.1 == i) L = -1) := Lib.hid (idxV_none HB.out)
      go_wp2
      go_ret
      exact ⟨by rw [HF.out]; rfl, HC.out⟩

set_option maxRecDepth 100000 in
set_option maxHeartbeats 1000000 in
theorem at_any (d : Int) (L : List (Int × Int)) (a : Option Addr) (c B : Nat) (i : Int) (w : World) (h : cellE.In w B (a, L.length, c) L) (hl : L.length ≤ 1000000000) :
    Calls Try.prog 14 #[.agg #[.int .i64 d, .slice a L.length c], .int .i64 i] w fun e w' => e = .returned (.int .i64 (atRow (d, L) i)) ∧ Chg (fun _ => False) w w' := by
  have HL := Lib.hid h
  have hlc : L.length ≤ c := h.2.1
  clear h
  rcases idx_cases (fun c : Int × Int => c.1 == i) L with ⟨k, x, h1, h2, h3, h4, -⟩ | ⟨h3, h4, -⟩
  · have HI := Lib.hid h3
    have hk := (List.getElem?_eq_some_iff.1 h1).1
    have HA : Hid (atRow (d, L) i = x.2) := Lib.hid (by unfold atRow; simp only [h4])
    have HX := Lib.hid h1
    clear h1 h2 h3 h4
    go_enter Try.func14, Try.ntmps14
    go_wp2_with fail
    refine (indexCell_any L a c B _ i _ (HL.out.same (((Chg.refl _ _).alloc _).alloc _)) (by simp) hl).mono ?_
    rintro e w2 ⟨rfl, hc2⟩
    rw [HI.out]
    have b0 := hc2.cellS (p := ⟨w.heap.size, 0, none⟩) (v := .int .i64 d) (by simp) (fun h => h)
    have b1 := hc2.cellS (p := ⟨w.heap.size, 1, none⟩) (v := .slice a L.length c) (by simp) (fun h => h)
    have HC2 := Lib.hid (Chg.trans (((Chg.refl _ w).alloc _).alloc _) hc2)
    obtain ⟨y, g, o, u, v, hy, rfl, he, c0, c1, -, -, -⟩ := (HL.out.same HC2.out).get2 rfl hk
    rw [HX.out] at hy
    obtain rfl := Option.some.inj hy
    change encPair (x.1, x.2) = [u, v] at he
    unfold encPair at he
    simp only [List.cons.injEq, and_true] at he
    obtain ⟨rfl, rfl⟩ := he
    clear hy hc2
    go_wp2
    go_ret
    exact ⟨by rw [HA.out]; rfl, HC2.out⟩
  · have HI := Lib.hid h3
    have HA : Hid (atRow (d, L) i = d) := Lib.hid (by unfold atRow; simp only [h4])
    clear h3 h4
    go_enter Try.func14, Try.ntmps14
    go_wp2_with fail
    refine (indexCell_any L a c B _ i _ (HL.out.same (((Chg.refl _ _).alloc _).alloc _)) (by simp) hl).mono ?_
    rintro e w2 ⟨rfl, hc2⟩
    rw [HI.out]
    have b0 := hc2.cellS (p := ⟨w.heap.size, 0, none⟩) (v := .int .i64 d) (by simp) (fun h => h)
    have HC2 := Lib.hid (Chg.trans (((Chg.refl _ w).alloc _).alloc _) hc2)
    clear hc2
    go_wp2
    go_ret
    exact ⟨by rw [HA.out]; rfl, HC2.out⟩
end Go.Proofs.Ytkfakkonlnjckaa
