/- May a table be: the program's May. -/
import Derived.Test.YtfhmblbomkhcpaaDoorApt
import Derived.Shelf.Abstract
namespace Go.Proofs.YtfhmblbomkhcpaaDoor
open Go.RowKit

/-- A predicate on lists of ints, as a function value. -/
def GivesL (f : FuncId) (lb : Array Value) (p : List Int → Bool) (B : Nat) (w : World) : Prop := ∀ (l : List Int) (a : Option Addr) (c : Nat) (w' : World), intE.In w' B (a, l.length, c) l → l.length ≤ 1000000000 → Chg (fun _ => False) w w' →
  Calls Tryd.prog f (#[.slice a l.length c] ++ lb) w' fun e w'' => e = .returned (.bool (p l)) ∧ Chg (fun _ => False) w' w''
theorem ListsIn.getIn {w : World} {B : Nat} {a : Option Addr} {n c : Nat} {LL : List (List Int)} (h : ListsIn w B (a, n, c) LL) {k : Nat} (hk : k < LL.length) :
    ∃ (l : List Int) (g o : Nat) (la : Option Addr) (lc : Nat), LL[k]? = some l ∧ a = some ⟨g, o, none⟩ ∧ w.cell? ⟨g, o + k, none⟩ = some (.slice la l.length lc) ∧ intE.In w B (la, l.length, lc) l ∧ g < w.heap.size ∧ B ≤ g := by
  obtain ⟨l, g, o, la, lc, gl, ol, h1, h2, h3, h4, h5, h6, h7, h8⟩ := h.get hk
  exact ⟨l, g, o, la, lc, h1, h2, h3, ⟨rfl, h4, gl, ol, intAt.2 h5, h6⟩, h7, h8⟩

set_option maxRecDepth 100000 in
set_option maxHeartbeats 1000000 in
theorem indexList_any (f : FuncId) (lb : Array Value) (p : List Int → Bool) (LL : List (List Int)) (a : Option Addr) (c B : Nat) (w : World) (eg : ∀ args w, (callFunc f args).run Tryd.prog w = .ok (.enter f args) w) (h : ListsIn w B (a, LL.length, c) LL) (hp : GivesL f lb p B w) (hl : LL.length ≤ 1000000000) (hll : ∀ l ∈ LL, l.length ≤ 1000000000) :
    Calls Tryd.prog 60 #[.slice a LL.length c, .func (.func f) #[] lb] w fun e w' => e = .returned (.int .i64 (idxV p LL)) ∧ Chg (fun _ => False) w w' := by
  have HL := Lib.hid h
  have HP := Lib.hid hp
  have HLL := Lib.hid hll
  clear h hp hll
  go_enter Tryd.func60, Tryd.ntmps60
  go_wp2
  go_loopw [8] (fun q wr => ∃ k : Nat, k ≤ LL.length ∧ q = .int .i64 k ∧ (∀ (j : Nat) y, j < k → LL[j]? = some y → p y = false) ∧ Chg (fun _ => False) w wr) (fun q _ => LL.length - (intOf q).toNat)
  case atStart => exact ⟨0, by omega, rfl, fun j y h => absurd h (Nat.not_lt_zero _), Chg.refl _ _⟩
  case round =>
    obtain ⟨k, hk, rfl, hb, hc⟩ := hrel
    have HB := Lib.hid hb
    have HC := Lib.hid hc
    clear hb hc
    by_cases hkl : k < LL.length
    · have b9 : decide ((k : Int) < (LL.length : Int)) = true := by simp; omega
      obtain ⟨x, g, o, la, lc, hx, rfl, c0, hin, -, -⟩ := (HL.out.same HC.out).getIn hkl
      have HX := Lib.hid hx
      have hcall := HP.out x la lc wr hin (HLL.out x (List.mem_of_getElem? hx)) HC.out
      clear hx hin
      cases hxi : p x with
      | true =>
        rw [hxi] at hcall
        have HF : Hid (idxV p LL = k) := Lib.hid (idxV_found HX.out hxi HB.out)
        have HCALL := Lib.hid hcall
        clear hcall hxi
        go_wp2_with fail
        refine HCALL.out.mono ?_
        rintro e w2 ⟨rfl, hc2⟩
        have HC2 := Lib.hid (HC.out.trans hc2)
        clear hc2 c0
        go_wp2
        go_ret
        exact ⟨by rw [HF.out]; rfl, HC2.out⟩
      | false =>
        rw [hxi] at hcall
        have HB2 : Hid (∀ (j : Nat) y, j < k + 1 → LL[j]? = some y → p y = false) := Lib.hid (fun j y hj hy => by
          by_cases he : j = k
          · subst he; rw [HX.out] at hy; obtain rfl := Option.some.inj hy; exact hxi
          · exact HB.out j y (by omega) hy)
        have HCALL := Lib.hid hcall
        clear hcall hxi
        go_wp2_with fail
        refine HCALL.out.mono ?_
        rintro e w2 ⟨rfl, hc2⟩
        have HC2 := Lib.hid (HC.out.trans hc2)
        clear hc2 c0
        go_wp2
        go_roundw
        case rel => exact ⟨k + 1, by omega, by go_num, HB2.out, HC2.out⟩
        case measure => simp [intOf]; omega
    · obtain rfl : k = LL.length := by omega
      have HF : Hid (idxV p LL = -1) := Lib.hid (idxV_none HB.out)
      go_wp2
      go_ret
      exact ⟨by rw [HF.out]; rfl, HC.out⟩
set_option maxRecDepth 100000 in
theorem containsL_any (f : FuncId) (lb : Array Value) (p : List Int → Bool) (LL : List (List Int)) (a : Option Addr) (c B : Nat) (w : World) (eg : ∀ args w, (callFunc f args).run Tryd.prog w = .ok (.enter f args) w) (h : ListsIn w B (a, LL.length, c) LL) (hp : GivesL f lb p B w) (hl : LL.length ≤ 1000000000) (hll : ∀ l ∈ LL, l.length ≤ 1000000000) :
    Calls Tryd.prog 46 #[.slice a LL.length c, .func (.func f) #[] lb] w fun e w' => e = .returned (.bool (LL.any p)) ∧ Chg (fun _ => False) w w' := by
  have HL := Lib.hid h
  have HP := Lib.hid hp
  have HLL := Lib.hid hll
  clear h hp hll
  rcases idx_cases p LL with ⟨k, x, -, -, h3, -, h5⟩ | ⟨h3, -, h5⟩
  all_goals
    have HI := Lib.hid h3
    have HN := Lib.hid h5
    clear h3 h5
    go_enter Tryd.func46, Tryd.ntmps46
    go_wp2_with fail
    refine (indexList_any f lb p LL a c B _ eg HL.out HP.out hl HLL.out).mono ?_
    rintro e w2 ⟨rfl, hc2⟩
    rw [HI.out]
    have HC := Lib.hid hc2
    clear hc2
    go_wp2
    go_ret
    exact ⟨by rw [HN.out]; rfl, HC.out⟩

/-! ### the predicates -/
def badEnd (e : Int) : Bool := decide (e < -1)
def badTo (n : Nat) (s : Int) : Bool := decide (s < -1) || decide ((n : Int) ≤ s)
def badRow (cols : Int) (n : Nat) (l : List Int) : Bool := !decide ((l.length : Int) = cols) || l.any (badTo n)
theorem badRow_eq (cols : Int) (n : Nat) (l : List Int) : badRow cols n l = !rowB cols n l := by
  have h : (!l.all (inB (-1) n)) = l.any (badTo n) := by
    rw [List.not_all_eq_any_not]
    congr 1
    funext s
    unfold inB badTo
    by_cases h1 : s < -1 <;> by_cases h2 : (n : Int) ≤ s
    all_goals simp [h1, h2]
    all_goals omega
  unfold badRow rowB
  rw [Bool.not_and, h]
theorem gives_end (w : World) : GivesI 45 #[] badEnd w := by
  intro x w' hx hc
  show Calls Tryd.prog 45 #[.int .i64 x] w' _
  go_enter Tryd.func45, Tryd.ntmps45
  go_wp2
  go_ret
  exact ⟨rfl, Chg.refl _ _⟩
theorem gives_to (b n : Nat) (na : Option Addr) (nc : Nat) (w : World) (h : w.cell? ⟨b, 2, none⟩ = some (.slice na n nc)) : GivesI 48 #[.pointer (some ⟨b, 0, none⟩)] (badTo n) w := by
  intro x w' hx hc
  have h2 := hc.cellS h (fun h => h)
  show Calls Tryd.prog 48 #[.int .i64 x, .pointer (some ⟨b, 0, none⟩)] w' _
  by_cases h1 : x < -1
  · have HF : Hid (badTo n x = true) := Lib.hid (by simp [badTo, h1])
    have d1 : decide (x < -1) = true := by simpa using h1
    go_enter Tryd.func48, Tryd.ntmps48
    go_wp2
    go_ret
    exact ⟨by rw [HF.out]; rfl, Chg.refl _ _⟩
  · have HF : Hid (badTo n x = decide ((n : Int) ≤ x)) := Lib.hid (by simp [badTo, h1])
    have d1 : decide (x < -1) = false := by simpa using h1
    go_enter Tryd.func48, Tryd.ntmps48
    go_wp2
    go_ret
    exact ⟨by rw [HF.out]; rfl, Chg.refl _ _⟩
set_option maxRecDepth 100000 in
theorem gives_row (p b n B : Nat) (cols : Int) (na : Option Addr) (nc : Nat) (w : World) (h0 : w.cell? ⟨p, 0, none⟩ = some (.int .i64 cols)) (h : w.cell? ⟨b, 2, none⟩ = some (.slice na n nc)) : GivesL 47 #[.pointer (some ⟨p, 0, none⟩), .pointer (some ⟨b, 0, none⟩)] (badRow cols n) B w := by
  intro l a c w' hin hl hc
  have h1 := hc.cellS h0 (fun h => h)
  have h2 := hc.cellS h (fun h => h)
  have eg := enters_of Tryd.func48 (by kernel_rfl) rfl
  have HI := Lib.hid hin
  have HG := Lib.hid (gives_to b n na nc w' h2)
  clear hin h2 h h0
  show Calls Tryd.prog 47 #[.slice a l.length c, .pointer (some ⟨p, 0, none⟩), .pointer (some ⟨b, 0, none⟩)] w' _
  by_cases hcl : (l.length : Int) = cols
  · have HF : Hid (badRow cols n l = l.any (badTo n)) := Lib.hid (by simp [badRow, hcl])
    have d1 : ((l.length : Int) != cols) = false := by simpa using hcl
    clear hcl
    go_enter Tryd.func47, Tryd.ntmps47
    go_wp2_with fail
    refine (containsI_any _ _ (badTo n) l a c B _ eg HI.out HG.out hl).mono ?_
    rintro e w2 ⟨rfl, hc2⟩
    have HC := Lib.hid hc2
    clear hc2
    go_wp2
    go_ret
    exact ⟨by rw [HF.out]; rfl, HC.out⟩
  · have HF : Hid (badRow cols n l = true) := Lib.hid (by simp [badRow, hcl])
    have d1 : ((l.length : Int) != cols) = true := by simpa using hcl
    clear hcl
    go_enter Tryd.func47, Tryd.ntmps47
    go_wp2
    go_ret
    exact ⟨by rw [HF.out]; rfl, Chg.refl _ _⟩

/-! ### May -/
theorem mayT_ends {t : TabD} (h : t.e.any badEnd = true) : mayT t = false := mayT_no (fun hm => by
  rw [List.any_eq_true] at h
  obtain ⟨e, h1, h2⟩ := h
  have := hm.eb e h1
  simp [badEnd] at h2
  omega)
theorem mayT_good {t : TabD} (h1 : apartB t.r = true) (h2 : t.c.length = t.r.length) (h3 : 0 < t.n.length) (h4 : t.e.length = t.n.length) (h5 : ∀ c ∈ t.c, 0 ≤ c ∧ c < t.c.length) (h6 : fillB t.c = true) (h7 : t.e.any badEnd = false) :
    mayT t = !t.n.any (badRow (colsL t.c) t.n.length) := by
  have e : t.n.all (rowB (colsL t.c) t.n.length) = !t.n.any (badRow (colsL t.c) t.n.length) := by
    rw [List.not_any_eq_all_not]
    congr 1
    funext l
    rw [badRow_eq, Bool.not_not]
  have e2 : t.e.all (fun e => decide (-1 ≤ e)) = true := by
    rw [List.all_eq_true]
    intro x hx
    rw [List.any_eq_false] at h7
    have := h7 x hx
    simp [badEnd] at this
    simpa using this
  have e3 : t.c.all (inB 0 t.c.length) = true := by
    rw [List.all_eq_true]
    intro x hx
    have := h5 x hx
    simp [inB]
    exact this
  unfold mayT
  rw [h1, e3, h6, e2, e, decide_eq_true (show t.c.length = t.r.length ∧ 0 < t.n.length ∧ t.e.length = t.n.length from ⟨h2, h3, h4⟩)]
  simp
theorem fillB_true {C : List Int} (h : ∀ j : Nat, (j : Int) < colsL C → hasB j C = true) : fillB C = true := by
  unfold fillB
  rw [List.all_eq_true]
  intro j hj
  rw [← hasB_contains]
  exact h j (by have := List.mem_range.1 hj; omega)
theorem fillB_false {C : List Int} {j : Nat} (hj : (j : Int) < colsL C) (h : hasB j C = false) : fillB C = false := by
  unfold fillB
  rw [List.all_eq_false]
  exact ⟨j, List.mem_range.2 (by omega), by rw [← hasB_contains, h]; simp⟩

/-- Where May is: the table's block, the columns' cell. -/
def MayW (w : World) (b : Nat) (rs cs ns es : Sl) (v : Int) (wr : World) : Prop :=
  (wr.cell? ⟨w.heap.size, 0, none⟩ = some (slV rs) ∧ wr.cell? ⟨w.heap.size, 1, none⟩ = some (slV cs) ∧ wr.cell? ⟨w.heap.size, 2, none⟩ = some (slV ns) ∧ wr.cell? ⟨w.heap.size, 3, none⟩ = some (slV es)) ∧ (wr.cell? ⟨b, 0, none⟩ = some (.int .i64 v) ∧ wr.frozen? ⟨b, 0, none⟩ = false) ∧ Chg (fun _ => False) w wr ∧ w.heap.size < b
theorem MayW.chg {w wr wx : World} {b : Nat} {rs cs ns es : Sl} {v : Int} (h : MayW w b rs cs ns es v wr) (hc : Chg (fun _ => False) wr wx) : MayW w b rs cs ns es v wx := by
  obtain ⟨⟨h0, h1, h2, h3⟩, ⟨h4, h5⟩, h6, h7⟩ := h
  exact ⟨⟨hc.cellS h0 (fun h => h), hc.cellS h1 (fun h => h), hc.cellS h2 (fun h => h), hc.cellS h3 (fun h => h)⟩, ⟨hc.cellS h4 (fun h => h), (hc.frozen (p := ⟨b, 0, none⟩) (World.block_lt_of_cell? _ _ h4) (fun h => h)).trans h5⟩, h6.trans hc, h7⟩
theorem MayW.set {w wr : World} {b : Nat} {rs cs ns es : Sl} {v : Int} (h : MayW w b rs cs ns es v wr) (v' : Int) : MayW w b rs cs ns es v' (wr.setCell ⟨b, 0, none⟩ (.int .i64 v')) := by
  obtain ⟨⟨h0, h1, h2, h3⟩, ⟨h4, h5⟩, h6, h7⟩ := h
  have hs := setCellChg wr b 0 (.int .i64 v')
  exact ⟨⟨hs.cellS h0 (by simp only; omega), hs.cellS h1 (by simp only; omega), hs.cellS h2 (by simp only; omega), hs.cellS h3 (by simp only; omega)⟩, ⟨World.cell?_setCell_same _ _ _ h4, (World.frozen?_setCell _ _ _ _).trans h5⟩, (h6.any.trans (hs.mono (T := fun k => w.heap.size ≤ k) (fun k _ e => by omega))).fresh, h7⟩
end Go.Proofs.YtfhmblbomkhcpaaDoor
