/- Pages of a book: lists of ints that are written over, each with a mark of its own. Does a page stand as it was written? Pages of a book: lists of ranges that are written over. A row of one's own whose element is set. A page of ranges is written over. What stands behind a page of ranges is written over. Does a page of ranges stand as it was written? A book of pages of ranges and of ints. The lists of a table, in a book: harbingerlaw09.Lists. The lists of a table as pages of a book: of a table of one's own, of a twin. -/
import Derived.Test.YtodohgckncnipaaGA1
import Derived.Test.YtodohgckncnipaaGB1
import Derived.Test.YtodohgckncnipaaGA9
import Derived.Handy
import Derived.Maps.AppendAt
/- Pages of a book: lists of ints that are written over, each with a mark of its own. -/
namespace Go.Proofs.Ytodohgckncnipaa.I
open Go.RowKit

/-- A page: its block, length, room, marks. -/
structure Pg where
  g : Option Nat
  len : Nat
  cap : Nat
  mark : Int
  behind : Int
def Pg.v (p : Pg) : Value := .slice (p.g.map fun g => ⟨g, 0, none⟩) p.len p.cap
def Pg.row (p : Pg) : Value := .agg #[p.v, .int .i64 p.mark, .int .i64 p.behind]
/-- How far it is: 1: written over; 2: what stands behind it too. -/
structure PageSt (w : World) (p : Pg) (s : Nat) : Prop where
  len : p.len ≤ p.cap
  none : p.g = none → p.cap = 0
  max : p.cap ≤ 9223372036854775807
  mark : Byte p.mark
  behind : Byte p.behind
  row : ∀ g, p.g = some g → ∃ C : List Int, Row w g C ∧ C.length = p.cap ∧ (1 ≤ s → ∀ k, k < p.len → C[k]? = some p.mark) ∧ (2 ≤ s → ∀ k, p.len ≤ k → k < p.cap → C[k]? = some p.behind)
theorem PageSt.chg {S : Nat → Prop} {w w' : World} {p : Pg} {s : Nat} (h : PageSt w p s) (hc : Chg S w w') (hs : ∀ g, p.g = some g → ¬ S g) : PageSt w' p s :=
  ⟨h.len, h.none, h.max, h.mark, h.behind, fun g hg => by
    obtain ⟨C, h1, h2⟩ := h.row g hg
    exact ⟨C, h1.chg hc (hs g hg), h2⟩⟩

/-- A row of one's own whose cell k is set. -/
theorem Row.set1 {w : World} {g : Nat} {C : List Int} (h : Row w g C) {k : Nat} (hk : k < C.length) {v : Int} (hv : Byte v) : Row (w.setCell ⟨g, k, none⟩ (.int .i64 v)) g (C.set k v) := by
  refine ⟨fun j a hj => ?_, fun j => (World.frozen?_setCell _ _ _ _).trans (h.z j), Nat.lt_of_lt_of_le h.lt (setCellChg _ _ _ _).size, fun a ha => ?_⟩
  · by_cases he : j = k
    · subst he
      rw [List.getElem?_set_self hk] at hj
      obtain rfl := Option.some.inj hj
      exact World.cell?_setCell_same _ _ _ (h.c j _ (List.getElem?_eq_getElem hk))
    · rw [List.getElem?_set_ne (Ne.symm he)] at hj
      rw [World.cell?_setCell_other _ _ _ _ (by intro e; injection e with _ e; exact he e.symm)]
      exact h.c j a hj
  · rcases List.mem_or_eq_of_mem_set ha with h1 | rfl
    · exact h.byte a h1
    · exact hv

theorem boxPage (w : World) (v : Value) (m bh : Int) (e : TypeId) :
    (w.alloc (.cells #[v, .int .i64 m, .int .i64 bh] e)).cell? ⟨w.heap.size, 0, none⟩ = some v ∧ (w.alloc (.cells #[v, .int .i64 m, .int .i64 bh] e)).cell? ⟨w.heap.size, 1, none⟩ = some (.int .i64 m) ∧ (w.alloc (.cells #[v, .int .i64 m, .int .i64 bh] e)).cell? ⟨w.heap.size, 2, none⟩ = some (.int .i64 bh) := by
  refine ⟨?_, ?_, ?_⟩ <;> · rw [World.cell?_alloc_new]; rfl

set_option maxRecDepth 100000 in
set_option maxHeartbeats 2000000 in
theorem write_any (p : Pg) (w : World) (h : PageSt w p 0) (hlt : ∀ g, p.g = some g → g < w.heap.size) :
    Calls Try.prog 94 #[p.row] w fun e w' => e = .returned (.tuple #[]) ∧ PageSt w' p 1 ∧ Chg (fun x => p.g = some x) w w' := by
  obtain ⟨pg, len, cap, m, bh⟩ := p
  have hmax : cap ≤ 9223372036854775807 := h.max
  have hlen : len ≤ cap := h.len
  have HNONE : Hid (pg = none → cap = 0) := Lib.hid h.none
  have HM : Hid (Byte m) := Lib.hid h.mark
  have HBH : Hid (Byte bh) := Lib.hid h.behind
  have HLT : Hid (∀ g, pg = some g → g < w.heap.size) := Lib.hid hlt
  have HROW : Hid (∀ g, pg = some g → ∃ C : List Int, Row w g C ∧ C.length = cap) := Lib.hid fun g hg => by
    obtain ⟨C, h1, h2, _⟩ := h.row g hg
    exact ⟨C, h1, h2⟩
  obtain ⟨v, hv⟩ : ∃ v : Value, v = .slice (pg.map fun g => ⟨g, 0, none⟩) len cap := ⟨_, rfl⟩
  have HV := Lib.hid hv
  have HBX := Lib.hid (boxPage w v m bh 100)
  have HC0 := Lib.hid ((Chg.refl (fun x => pg = some x ∨ w.heap.size ≤ x) w).alloc (.cells #[v, .int .i64 m, .int .i64 bh] 100))
  clear h hlt
  show Calls Try.prog 94 #[.agg #[.slice (pg.map fun g => ⟨g, 0, none⟩) len cap, .int .i64 m, .int .i64 bh]] w _
  rw [← hv]
  clear hv
  go_enter Try.func94, Try.ntmps94
  go_wp2
  go_loopw [2] (fun i wr => ∃ k : Nat, k ≤ len ∧ i = .int .i64 k ∧ (wr.cell? ⟨w.heap.size, 0, none⟩ = some v ∧ wr.cell? ⟨w.heap.size, 1, none⟩ = some (.int .i64 m)) ∧ (∀ g, pg = some g → ∃ C : List Int, Row wr g C ∧ C.length = cap ∧ ∀ j, j < k → C[j]? = some m) ∧ Chg (fun x => pg = some x ∨ w.heap.size ≤ x) w wr) (fun i _ => len - (intOf i).toNat)
  case atStart =>
    refine ⟨0, by omega, rfl, ⟨HBX.out.1, HBX.out.2.1⟩, fun g hg => ?_, HC0.out⟩
    obtain ⟨C, h1, h2⟩ := HROW.out g hg
    exact ⟨C, h1.chg ((Chg.refl (fun _ => False) _).alloc _) (fun h => h), h2, fun j hj => absurd hj (Nat.not_lt_zero _)⟩
  case round =>
    clear HBX HC0 HROW
    obtain ⟨k, hk, rfl, ⟨b0, b1⟩, hrow, hc⟩ := hrel
    have HC := Lib.hid hc
    rw [HV.out] at b0
    clear hc
    by_cases hkl : k < len
    · cases pg with
      | none => exact absurd (HNONE.out rfl) (by omega)
      | some g =>
        obtain ⟨C, hR, hCl, hCm⟩ := hrow g rfl
        obtain ⟨y, hy⟩ : ∃ y, C[k]? = some y := ⟨_, List.getElem?_eq_getElem (by omega)⟩
        have hcell := hR.c k y hy
        clear hy
        have hzz := hR.z k
        have HR := Lib.hid (hR.set1 (k := k) (by omega) HM.out)
        have HX : Hid (((wr.setCell ⟨g, k, none⟩ (.int .i64 m)).cell? ⟨w.heap.size, 0, none⟩ = some v ∧ (wr.setCell ⟨g, k, none⟩ (.int .i64 m)).cell? ⟨w.heap.size, 1, none⟩ = some (.int .i64 m)) ∧ (∀ j, j < k + 1 → (C.set k m)[j]? = some m) ∧ Chg (fun x => some g = some x ∨ w.heap.size ≤ x) w (wr.setCell ⟨g, k, none⟩ (.int .i64 m))) := Lib.hid (by
          have hlt := HLT.out g rfl
          refine ⟨⟨?_, ?_⟩, fun j hj => ?_, HC.out.trans ((setCellChg wr g k _).mono (fun x _ e => .inl (by rw [e])))⟩
          · rw [World.cell?_setCell_other _ _ _ _ (by intro e; injection e with e; omega), HV.out]; exact b0
          · rw [World.cell?_setCell_other _ _ _ _ (by intro e; injection e with e; omega)]; exact b1
          · by_cases he : j = k
            · subst he; rw [List.getElem?_set_self (by omega)]
            · rw [List.getElem?_set_ne (Ne.symm he)]; exact hCm j (by omega))
        have hb7 : decide ((k : Int) < (len : Int)) = true := by simp; omega
        have HCL : Hid ((C.set k m).length = cap) := Lib.hid (by rw [List.length_set]; exact hCl)
        clear hR hCm hrow HC hCl
        simp only [Option.map_some] at b0
        go_wp2
        go_roundw
        case rel => exact ⟨k + 1, by omega, by go_num, HX.out.1, (fun g' hg' => by obtain rfl := Option.some.inj hg'; exact ⟨_, HR.out, HCL.out, HX.out.2.1⟩), HX.out.2.2⟩
        case measure => simp [intOf]; omega
    · obtain rfl : k = len := by omega
      have HX : Hid (PageSt wr ⟨pg, k, cap, m, bh⟩ 1) := Lib.hid ⟨hlen, HNONE.out, hmax, HM.out, HBH.out, fun g hg => by
        obtain ⟨C, h1, h2, h3⟩ := hrow g hg
        exact ⟨C, h1, h2, fun _ => h3, fun h => absurd h (by omega)⟩⟩
      have HC2 : Hid (Chg (fun x => pg = some x) w wr) := Lib.hid (HC.out.mono (fun x hx e => e.resolve_right (by omega)))
      clear hrow HC
      go_wp2
      go_end0
      exact ⟨rfl, HX.out, HC2.out⟩

set_option maxRecDepth 100000 in
set_option maxHeartbeats 2000000 in
theorem behind_any (p : Pg) (w : World) (h : PageSt w p 1) (hlt : ∀ g, p.g = some g → g < w.heap.size) :
    Calls Try.prog 95 #[p.row] w fun e w' => e = .returned (.tuple #[]) ∧ PageSt w' p 2 ∧ Chg (fun x => p.g = some x) w w' := by
  obtain ⟨pg, len, cap, m, bh⟩ := p
  have hmax : cap ≤ 9223372036854775807 := h.max
  have hlen : len ≤ cap := h.len
  have HNONE : Hid (pg = none → cap = 0) := Lib.hid h.none
  have HM : Hid (Byte m) := Lib.hid h.mark
  have HBH : Hid (Byte bh) := Lib.hid h.behind
  have HLT : Hid (∀ g, pg = some g → g < w.heap.size) := Lib.hid hlt
  have HROW : Hid (∀ g, pg = some g → ∃ C : List Int, Row w g C ∧ C.length = cap ∧ ∀ k, k < len → C[k]? = some m) := Lib.hid fun g hg => by
    obtain ⟨C, h1, h2, h3, _⟩ := h.row g hg
    exact ⟨C, h1, h2, h3 (Nat.le_refl _)⟩
  have HC0 := Lib.hid ((Chg.refl (fun x => pg = some x ∨ w.heap.size ≤ x) w).alloc (.cells #[.slice (pg.map fun g => ⟨g, 0, none⟩) len cap, .int .i64 m, .int .i64 bh] 100))
  have HBX := Lib.hid (boxPage w (.slice (pg.map fun g => ⟨g, 0, none⟩) len cap) m bh 100)
  clear h hlt
  show Calls Try.prog 95 #[.agg #[.slice (pg.map fun g => ⟨g, 0, none⟩) len cap, .int .i64 m, .int .i64 bh]] w _
  cases pg with
  | none =>
    obtain rfl : cap = 0 := HNONE.out rfl
    obtain rfl : len = 0 := by omega
    go_enter Try.func95, Try.ntmps95
    go_wp2
    go_loopw [3] (fun i wr => i = .int .i64 0 ∧ Chg (fun x => none = some x ∨ w.heap.size ≤ x) w wr) (fun i _ => 0)
    case atStart => exact ⟨rfl, HC0.out⟩
    case round =>
      obtain ⟨rfl, hc⟩ := hrel
      have HC := Lib.hid hc
      clear hc
      go_wp2
      go_end0
      exact ⟨rfl, ⟨Nat.le_refl _, fun _ => rfl, by simp, HM.out, HBH.out, fun g hg => by cases hg⟩, HC.out.mono (fun x hx e => e.resolve_right (by omega))⟩
  | some g =>
    go_enter Try.func95, Try.ntmps95
    go_wp2
    go_loopw [3] (fun i wr => ∃ k : Nat, len ≤ k ∧ k ≤ cap ∧ i = .int .i64 k ∧ wr.cell? ⟨w.heap.size, 2, none⟩ = some (.int .i64 bh) ∧ (∃ C : List Int, Row wr g C ∧ C.length = cap ∧ (∀ j, j < len → C[j]? = some m) ∧ ∀ j, len ≤ j → j < k → C[j]? = some bh) ∧ Chg (fun x => some g = some x ∨ w.heap.size ≤ x) w wr) (fun i _ => cap - (intOf i).toNat)
    case atStart =>
      obtain ⟨C, h1, h2, h3⟩ := HROW.out g rfl
      exact ⟨len, Nat.le_refl _, hlen, rfl, HBX.out.2.2, ⟨C, h1.chg ((Chg.refl (fun _ => False) _).alloc _) (fun h => h), h2, h3, fun j hj hk => absurd hk (by omega)⟩, HC0.out⟩
    case round =>
      clear HBX HC0 HROW
      obtain ⟨k, hk0, hk, rfl, b2, ⟨C, hR, hCl, hCm, hCb⟩, hc⟩ := hrel
      have HC := Lib.hid hc
      clear hc
      by_cases hkl : k < cap
      · obtain ⟨y, hy⟩ : ∃ y, C[k]? = some y := ⟨_, List.getElem?_eq_getElem (by omega)⟩
        have hcell := hR.c k y hy
        clear hy
        have hzz := hR.z k
        have HR := Lib.hid (hR.set1 (k := k) (by omega) HBH.out)
        have HX : Hid ((wr.setCell ⟨g, k, none⟩ (.int .i64 bh)).cell? ⟨w.heap.size, 2, none⟩ = some (.int .i64 bh) ∧ (∀ j, j < len → (C.set k bh)[j]? = some m) ∧ (∀ j, len ≤ j → j < k + 1 → (C.set k bh)[j]? = some bh) ∧ Chg (fun x => some g = some x ∨ w.heap.size ≤ x) w (wr.setCell ⟨g, k, none⟩ (.int .i64 bh))) := Lib.hid (by
          have hlt := HLT.out g rfl
          refine ⟨?_, fun j hj => ?_, fun j hj hjk => ?_, HC.out.trans ((setCellChg wr g k _).mono (fun x _ e => .inl (by rw [e])))⟩
          · rw [World.cell?_setCell_other _ _ _ _ (by intro e; injection e with e; omega)]; exact b2
          · rw [List.getElem?_set_ne (by omega)]; exact hCm j hj
          · by_cases he : j = k
            · subst he; rw [List.getElem?_set_self (by omega)]
            · rw [List.getElem?_set_ne (Ne.symm he)]; exact hCb j hj (by omega))
        have hb7 : decide ((k : Int) < (cap : Int)) = true := by simp; omega
        have HCL : Hid ((C.set k bh).length = cap) := Lib.hid (by rw [List.length_set]; exact hCl)
        clear hR hCm hCb HC hCl
        go_wp2
        go_roundw
        case rel => exact ⟨k + 1, by omega, by omega, by go_num, HX.out.1, ⟨_, HR.out, HCL.out, HX.out.2.1, HX.out.2.2.1⟩, HX.out.2.2.2⟩
        case measure => simp [intOf]; omega
      · obtain rfl : k = cap := by omega
        have HX : Hid (PageSt wr ⟨some g, len, k, m, bh⟩ 2) := Lib.hid ⟨hlen, HNONE.out, hmax, HM.out, HBH.out, fun g' hg => by
          obtain rfl := Option.some.inj hg
          exact ⟨C, hR, hCl, fun _ => hCm, fun _ => hCb⟩⟩
        have HC2 : Hid (Chg (fun x => some g = some x) w wr) := Lib.hid (HC.out.mono (fun x hx e => e.resolve_right (by omega)))
        clear hR hCm hCb HC hCl
        go_wp2
        go_end0
        exact ⟨rfl, HX.out, HC2.out⟩

end Go.Proofs.Ytodohgckncnipaa.I
/- Does a page stand as it was written? -/
namespace Go.Proofs.Ytodohgckncnipaa.I
open Go.RowKit

set_option maxRecDepth 100000 in
set_option maxHeartbeats 1000000 in
theorem stands_any (p : Pg) (w : World) (h : PageSt w p 2) (hlt : ∀ g, p.g = some g → g < w.heap.size) :
    Calls Try.prog 93 #[p.row] w fun e w' => e = .returned (.bool true) ∧ Chg (fun _ => False) w w' := by
  obtain ⟨pg, len, cap, m, bh⟩ := p
  have hmax : cap ≤ 9223372036854775807 := h.max
  have hlen : len ≤ cap := h.len
  have HNONE : Hid (pg = none → cap = 0) := Lib.hid h.none
  have HROW : Hid (∀ g, pg = some g → ∃ C : List Int, Row w g C ∧ C.length = cap ∧ (∀ k, k < len → C[k]? = some m) ∧ ∀ k, len ≤ k → k < cap → C[k]? = some bh) := Lib.hid fun g hg => by
    obtain ⟨C, h1, h2, h3, h4⟩ := h.row g hg
    exact ⟨C, h1, h2, h3 (by omega), h4 (by omega)⟩
  have HC0 := Lib.hid ((Chg.refl (fun _ => False) w).alloc (.cells #[.slice (pg.map fun g => ⟨g, 0, none⟩) len cap, .int .i64 m, .int .i64 bh] 100))
  have HBX := Lib.hid (boxPage w (.slice (pg.map fun g => ⟨g, 0, none⟩) len cap) m bh 100)
  clear h hlt
  show Calls Try.prog 93 #[.agg #[.slice (pg.map fun g => ⟨g, 0, none⟩) len cap, .int .i64 m, .int .i64 bh]] w _
  cases pg with
  | none =>
    obtain rfl : cap = 0 := HNONE.out rfl
    obtain rfl : len = 0 := by omega
    go_enter Try.func93, Try.ntmps93
    go_wp2
    go_loopw [4] (fun i wr => i = .int .i64 0 ∧ Chg (fun _ => False) w wr) (fun i _ => 0)
    case atStart => exact ⟨rfl, HC0.out⟩
    case round =>
      obtain ⟨rfl, hc⟩ := hrel
      have HC := Lib.hid hc
      clear hc
      go_wp2
      go_ret
      exact ⟨rfl, HC.out⟩
  | some g =>
    obtain ⟨C, hR, hCl, hCm, hCb⟩ := HROW.out g rfl
    have HR := Lib.hid hR
    have HCM := Lib.hid hCm
    have HCB := Lib.hid hCb
    clear hR hCm hCb hCl HROW HNONE
    go_enter Try.func93, Try.ntmps93
    go_wp2
    go_loopw [4] (fun i wr => ∃ k : Nat, k ≤ cap ∧ i = .int .i64 k ∧ (wr.cell? ⟨w.heap.size, 0, none⟩ = some (.slice (some ⟨g, 0, none⟩) len cap) ∧ wr.cell? ⟨w.heap.size, 1, none⟩ = some (.int .i64 m) ∧ wr.cell? ⟨w.heap.size, 2, none⟩ = some (.int .i64 bh)) ∧ Chg (fun _ => False) w wr) (fun i _ => cap - (intOf i).toNat)
    case atStart => exact ⟨0, by omega, rfl, HBX.out, HC0.out⟩
    case round =>
      clear HBX HC0
      obtain ⟨k, hk, rfl, ⟨b0, b1, b2⟩, hc⟩ := hrel
      have HC := Lib.hid hc
      clear hc
      by_cases hkl : k < cap
      · have hb14 : decide ((k : Int) < (cap : Int)) = true := by simp; omega
        by_cases hkn : k < len
        · have hcell := (HR.out.chg HC.out (fun h => h)).c k m (HCM.out k hkn)
          have hb21 : decide ((k : Int) < (len : Int)) = true := by simp; omega
          have hb36 : ¬ len ≤ k := by omega
          have HBB : Hid (wr.drew.cell? ⟨w.heap.size, 0, none⟩ = some (.slice (some ⟨g, 0, none⟩) len cap) ∧ wr.drew.cell? ⟨w.heap.size, 1, none⟩ = some (.int .i64 m) ∧ wr.drew.cell? ⟨w.heap.size, 2, none⟩ = some (.int .i64 bh)) := Lib.hid (by simp only [World.cell?_drew]; exact ⟨b0, b1, b2⟩)
          go_upto_region 5 with (fail)
          refine wp_region_same (fun w' => w' = wr.drew) (by kernel_rfl) (by kernel_rfl) ?_ ?_
          · rfl
          iterate 21 (refine wpC_read rfl (fun _ _ _ h => h) (fun K hK => ?_); apply Exists.intro; refine ⟨fun _ w' _ hC => ?_, ?_⟩; ((subst hC); go_simp; try with_reducible rfl); (try go_simp); refine hK _ ?_; clear hK K)
          iterate 7 (refine wpC_skip rfl (fun _ _ _ h => h) (fun K hK => ?_); (try go_simp); refine hK _ ?_; clear hK K)
          iterate 2 (refine wpC_read rfl (fun _ _ _ h => h) (fun K hK => ?_); apply Exists.intro; refine ⟨fun _ w' _ hC => ?_, ?_⟩; ((subst hC); go_simp; try with_reducible rfl); (try go_simp); refine hK _ ?_; clear hK K)
          refine wpC_nil ?_
          rintro w' rfl
          go_wp2
          go_roundw
          case rel => first | exact ⟨k + 1, by omega, by go_num, HBB.out, HC.out.drew⟩ | ((repeat apply Exists.intro); exact ⟨⟨k + 1, by omega, rfl, HBB.out, HC.out.drew⟩, rfl⟩)
          case measure => simp [intOf]; omega
        · have hcell := (HR.out.chg HC.out (fun h => h)).c k bh (HCB.out k (by omega) hkl)
          have hb21 : decide ((k : Int) < (len : Int)) = false := by simp; omega
          have hb36 : len ≤ k := by omega
          have HBB : Hid (wr.drew.cell? ⟨w.heap.size, 0, none⟩ = some (.slice (some ⟨g, 0, none⟩) len cap) ∧ wr.drew.cell? ⟨w.heap.size, 1, none⟩ = some (.int .i64 m) ∧ wr.drew.cell? ⟨w.heap.size, 2, none⟩ = some (.int .i64 bh)) := Lib.hid (by simp only [World.cell?_drew]; exact ⟨b0, b1, b2⟩)
          go_upto_region 5 with (fail)
          refine wp_region_same (fun w' => w' = wr.drew) (by kernel_rfl) (by kernel_rfl) ?_ ?_
          · rfl
          iterate 6 (refine wpC_read rfl (fun _ _ _ h => h) (fun K hK => ?_); apply Exists.intro; refine ⟨fun _ w' _ hC => ?_, ?_⟩; ((subst hC); go_simp; try with_reducible rfl); (try go_simp); refine hK _ ?_; clear hK K)
          iterate 7 (refine wpC_skip rfl (fun _ _ _ h => h) (fun K hK => ?_); (try go_simp); refine hK _ ?_; clear hK K)
          iterate 17 (refine wpC_read rfl (fun _ _ _ h => h) (fun K hK => ?_); apply Exists.intro; refine ⟨fun _ w' _ hC => ?_, ?_⟩; ((subst hC); go_simp; try with_reducible rfl); (try go_simp); refine hK _ ?_; clear hK K)
          refine wpC_nil ?_
          rintro w' rfl
          go_wp2
          go_roundw
          case rel => first | exact ⟨k + 1, by omega, by go_num, HBB.out, HC.out.drew⟩ | ((repeat apply Exists.intro); exact ⟨⟨k + 1, by omega, rfl, HBB.out, HC.out.drew⟩, rfl⟩)
          case measure => simp [intOf]; omega
      · obtain rfl : k = cap := by omega
        clear HR HCM HCB
        go_wp2
        go_ret
        exact ⟨rfl, HC.out⟩
end Go.Proofs.Ytodohgckncnipaa.I
/- Pages of a book: lists of ranges that are written over. A row of one's own whose element is set. -/
namespace Go.Proofs.Ytodohgckncnipaa
open Go.RowKit

section
variable {α : Type} {E : Elt α}
/-- Y is laid over R1. -/
theorem Elt.Row.over {w : World} {g : Nat} {X Y R1 R2 : List α} (h : E.Row w g (X ++ (R1 ++ R2))) (hR1 : R1.length = Y.length) (hY : ∀ a ∈ Y, E.ok a) :
    E.Row (w.setCells g (X.length * E.sz) (E.encs Y)) g (X ++ Y ++ R2) := by
  have e1 : (E.encs R1).length = (E.encs Y).length := by rw [E.encs_length, E.encs_length, hR1]
  have e2 : (E.encs X).length = X.length * E.sz := E.encs_length X
  refine ⟨fun k a hk => ?_, fun j => (World.frozen?_setCells _ _ _ _ _).trans (h.z j), Nat.lt_of_lt_of_le h.lt (setCellsChg _ _ _ _).size, fun a ha => ?_⟩
  · have hin : ∀ j, j < (E.encs Y).length → (w.cell? ⟨g, X.length * E.sz + j, none⟩).isSome = true := fun j hj => by
      have hj' : X.length * E.sz + j < (E.encs (X ++ (R1 ++ R2))).length := by rw [E.encs_append, E.encs_append, List.length_append, List.length_append]; omega
      rw [h.c (X.length * E.sz + j) _ (List.getElem?_eq_getElem hj')]
      rfl
    rw [E.encs_append, E.encs_append] at hk
    by_cases h1 : k < X.length * E.sz
    · rw [World.cell?_setCells_out g (E.encs Y) (X.length * E.sz) w ⟨g, k, none⟩ (fun _ _ => .inl h1)]
      refine h.c k a ?_
      rw [List.append_assoc, List.getElem?_append_left (by omega)] at hk
      rw [E.encs_append, List.getElem?_append_left (by omega)]
      exact hk
    · by_cases h2 : k < X.length * E.sz + (E.encs Y).length
      · obtain ⟨j, rfl⟩ : ∃ j, k = X.length * E.sz + j := ⟨k - X.length * E.sz, by omega⟩
        rw [World.cell?_setCells_in g (E.encs Y) (X.length * E.sz) w hin j (by omega)]
        rw [List.append_assoc, List.getElem?_append_right (by omega), e2, Nat.add_sub_cancel_left, List.getElem?_append_left (by omega)] at hk
        have := (List.getElem?_eq_some_iff.1 hk).2
        simp [this]
      · rw [World.cell?_setCells_out g (E.encs Y) (X.length * E.sz) w ⟨g, k, none⟩ (fun _ _ => .inr (by show X.length * E.sz + (E.encs Y).length ≤ k; omega))]
        refine h.c k a ?_
        rw [List.getElem?_append_right (by rw [List.length_append]; omega)] at hk
        rw [E.encs_append, E.encs_append, ← List.append_assoc, List.getElem?_append_right (by rw [List.length_append]; omega), ← hk, List.length_append, List.length_append, e1]
  · simp only [List.mem_append] at ha
    rcases ha with (ha | ha) | ha
    · exact h.ok a (by simp [ha])
    · exact hY a ha
    · exact h.ok a (by simp [ha])
/-- One element is set. -/
theorem Elt.Row.set {w : World} {g : Nat} {C : List α} (h : E.Row w g C) {k : Nat} (hk : k < C.length) {x : α} (hx : E.ok x) : E.Row (w.setCells g (k * E.sz) (E.enc x)) g (C.set k x) := by
  have e : C = C.take k ++ ([C[k]] ++ C.drop (k + 1)) := by
    rw [List.singleton_append, ← List.drop_eq_getElem_cons hk, List.take_append_drop]
  have hl : (C.take k).length = k := by rw [List.length_take]; omega
  rw [e] at h
  have := Elt.Row.over (Y := [x]) h rfl (fun a ha => by rw [List.mem_singleton] at ha; rw [ha]; exact hx)
  rw [hl] at this
  have e2 : C.set k x = C.take k ++ [x] ++ C.drop (k + 1) := by
    rw [List.set_eq_take_append_cons_drop, if_pos hk, List.append_assoc, List.singleton_append]
  have e3 : E.encs [x] = E.enc x := by unfold Elt.encs; simp
  rw [e2, ← e3]
  exact this
end
/-- A page of ranges: its block, length, room, marks. -/
structure PgR where
  g : Option Nat
  len : Nat
  cap : Nat
  mark : (Int × Int)
  behind : (Int × Int)
def PgR.v (p : PgR) : Value := .slice (p.g.map fun g => ⟨g, 0, none⟩) p.len p.cap
def PgR.row (p : PgR) : Value := .agg #[p.v, .int .i32 p.mark.1, .int .i32 p.mark.2, .int .i32 p.behind.1, .int .i32 p.behind.2]
/-- How far it is: 1: written over; 2: what stands behind it too. -/
structure PageRSt (w : World) (p : PgR) (s : Nat) : Prop where
  len : p.len ≤ p.cap
  none : p.g = none → p.cap = 0
  max : p.cap ≤ 9223372036854775807
  mok : okRng p.mark
  bok : okRng p.behind
  row : ∀ g, p.g = some g → ∃ C : List (Int × Int), rngE.Row w g C ∧ C.length = p.cap ∧ (1 ≤ s → ∀ k, k < p.len → C[k]? = some p.mark) ∧ (2 ≤ s → ∀ k, p.len ≤ k → k < p.cap → C[k]? = some p.behind)
theorem PageRSt.chg {S : Nat → Prop} {w w' : World} {p : PgR} {s : Nat} (h : PageRSt w p s) (hc : Chg S w w') (hs : ∀ g, p.g = some g → ¬ S g) : PageRSt w' p s :=
  ⟨h.len, h.none, h.max, h.mok, h.bok, fun g hg => by
    obtain ⟨C, h1, h2⟩ := h.row g hg
    exact ⟨C, h1.chg hc (hs g hg), h2⟩⟩
/-- One range is set, cell by cell. -/
theorem rngSet {w : World} {g : Nat} {C : List (Int × Int)} (h : rngE.Row w g C) {k : Nat} (hk : k < C.length) (m : Int × Int) (hm : okRng m) :
    rngE.Row ((w.setCell ⟨g, k * 2, none⟩ (.int .i32 m.1)).setCell ⟨g, k * 2 + 1, none⟩ (.int .i32 m.2)) g (C.set k m) ∧ Chg (fun x => x = g) w ((w.setCell ⟨g, k * 2, none⟩ (.int .i32 m.1)).setCell ⟨g, k * 2 + 1, none⟩ (.int .i32 m.2)) :=
  ⟨Elt.Row.set h hk (x := m) hm, (setCellChg _ _ _ _).trans (setCellChg _ _ _ _)⟩
end Go.Proofs.Ytodohgckncnipaa
/- A page of ranges is written over. -/
namespace Go.Proofs.Ytodohgckncnipaa
open Go.RowKit

set_option maxRecDepth 100000 in
set_option maxHeartbeats 2000000 in
theorem writeR_any (p : PgR) (w : World) (h : PageRSt w p 0) (hlt : ∀ g, p.g = some g → g < w.heap.size) :
    Calls Try.prog 91 #[p.row] w fun e w' => e = .returned (.tuple #[]) ∧ PageRSt w' p 1 ∧ Chg (fun x => p.g = some x) w w' := by
  obtain ⟨pg, len, cap, ⟨m0, m1⟩, ⟨h0, h1⟩⟩ := p
  have hmax : cap ≤ 9223372036854775807 := h.max
  have HOK : Hid (okRng (m0, m1) ∧ okRng (h0, h1)) := Lib.hid ⟨h.mok, h.bok⟩
  have hlen : len ≤ cap := h.len
  have HNONE : Hid (pg = none → cap = 0) := Lib.hid h.none
  have HLT : Hid (∀ g, pg = some g → g < w.heap.size) := Lib.hid hlt
  have HROW : Hid (∀ g, pg = some g → ∃ C : List (Int × Int), rngE.Row w g C ∧ C.length = cap) := Lib.hid fun g hg => by
    obtain ⟨C, h1, h2, _⟩ := h.row g hg
    exact ⟨C, h1, h2⟩
  obtain ⟨v, hv⟩ : ∃ v : Value, v = .slice (pg.map fun g => ⟨g, 0, none⟩) len cap := ⟨_, rfl⟩
  have HV := Lib.hid hv
  obtain ⟨wa, hwa⟩ : ∃ x, x = w.alloc (.cells #[v, .int .i32 m0, .int .i32 m1, .int .i32 h0, .int .i32 h1] 98) := ⟨_, rfl⟩
  have HBX : Hid (wa.cell? ⟨w.heap.size, 0, none⟩ = some v ∧ wa.cell? ⟨w.heap.size, 1, none⟩ = some (.int .i32 m0) ∧ wa.cell? ⟨w.heap.size, 2, none⟩ = some (.int .i32 m1)) := Lib.hid (by
    rw [hwa]
    refine ⟨?_, ?_, ?_⟩ <;> · rw [World.cell?_alloc_new]; rfl)
  have HC0 : Hid (Chg (fun x => pg = some x ∨ w.heap.size ≤ x) w wa) := Lib.hid (by rw [hwa]; exact (Chg.refl _ w).alloc _)
  have HCF : Hid (Chg (fun _ => False) w wa) := Lib.hid (by rw [hwa]; exact (Chg.refl _ w).alloc _)
  have HWA := Lib.hid hwa
  clear h hlt hwa
  show Calls Try.prog 91 #[.agg #[.slice (pg.map fun g => ⟨g, 0, none⟩) len cap, .int .i32 m0, .int .i32 m1, .int .i32 h0, .int .i32 h1]] w _
  rw [← hv]
  clear hv
  go_enter Try.func91, Try.ntmps91
  go_upto_region 1 with (fail)
  rw [← HWA.out]
  go_wp2
  go_loopw [2] (fun i wr => ∃ k : Nat, k ≤ len ∧ i = .int .i64 k ∧ (wr.cell? ⟨w.heap.size, 0, none⟩ = some v ∧ wr.cell? ⟨w.heap.size, 1, none⟩ = some (.int .i32 m0) ∧ wr.cell? ⟨w.heap.size, 2, none⟩ = some (.int .i32 m1)) ∧ (∀ g, pg = some g → ∃ C : List (Int × Int), rngE.Row wr g C ∧ C.length = cap ∧ ∀ j, j < k → C[j]? = some (m0, m1)) ∧ Chg (fun x => pg = some x ∨ w.heap.size ≤ x) w wr) (fun i _ => len - (intOf i).toNat)
  case atStart =>
    refine ⟨0, by omega, rfl, HBX.out, fun g hg => ?_, HC0.out⟩
    obtain ⟨C, h1, h2⟩ := HROW.out g hg
    exact ⟨C, h1.chg HCF.out (fun h => h), h2, fun j hj => absurd hj (Nat.not_lt_zero _)⟩
  case round =>
    clear HBX HC0 HROW
    obtain ⟨k, hk, rfl, ⟨b0, b1, b2⟩, hrow, hc⟩ := hrel
    have HC := Lib.hid hc
    rw [HV.out] at b0
    clear hc
    by_cases hkl : k < len
    · cases pg with
      | none => exact absurd (HNONE.out rfl) (by omega)
      | some g =>
        obtain ⟨C, hR, hCl, hCm⟩ := hrow g rfl
        obtain ⟨y, hy⟩ : ∃ y, C[k]? = some y := ⟨_, List.getElem?_eq_getElem (by omega)⟩
        have c0 : wr.cell? ⟨g, k * 2, none⟩ = some (.int .i32 y.1) := hR.cell hy (i := 0) rfl (by show _ = k * 2 + 0; omega)
        have c1 : wr.cell? ⟨g, k * 2 + 1, none⟩ = some (.int .i32 y.2) := hR.cell hy (i := 1) rfl (by show _ = k * 2 + 1; omega)
        have z0 := hR.z (k * 2)
        have z1 := hR.z (k * 2 + 1)
        have hset := rngSet hR (k := k) (by omega) (m0, m1) HOK.out.1
        simp only at hset
        have HLG := HLT.out g rfl
        have hne : ∀ {j : Nat} {u : Value}, wr.cell? ⟨w.heap.size, j, none⟩ = some u → ((wr.setCell ⟨g, k * 2, none⟩ (.int .i32 m0)).setCell ⟨g, k * 2 + 1, none⟩ (.int .i32 m1)).cell? ⟨w.heap.size, j, none⟩ = some u := fun hu => hset.2.cellS hu (fun e => by have e2 : w.heap.size = g := e; omega)
        have HX := Lib.hid (show _ ∧ _ ∧ _ from ⟨show _ = some v from (hne b0).trans (by rw [HV.out]), hne b1, hne b2⟩)
        have HR := Lib.hid hset.1
        have HCW := Lib.hid (HC.out.trans (hset.2.mono (fun x _ e => .inl (by rw [e]))))
        have HM : Hid (∀ j, j < k + 1 → (C.set k (m0, m1))[j]? = some (m0, m1)) := Lib.hid (fun j hj => by
          by_cases he : j = k
          · subst he; rw [List.getElem?_set_self (by omega)]
          · rw [List.getElem?_set_ne (Ne.symm he)]; exact hCm j (by omega))
        have HCL : Hid ((C.set k (m0, m1)).length = cap) := Lib.hid (by rw [List.length_set]; exact hCl)
        have hb7 : decide ((k : Int) < (len : Int)) = true := by simp; omega
        clear hR hCm hrow HC hCl hset hne hy
        simp only [Option.map_some] at b0
        go_wp2
        go_roundw
        case rel => exact ⟨k + 1, by omega, by go_num, HX.out, (fun g' hg' => by obtain rfl := Option.some.inj hg'; exact ⟨_, HR.out, HCL.out, HM.out⟩), HCW.out⟩
        case measure => simp [intOf]; omega
    · obtain rfl : k = len := by omega
      have HX : Hid (PageRSt wr ⟨pg, k, cap, (m0, m1), (h0, h1)⟩ 1) := Lib.hid ⟨hlen, HNONE.out, hmax, HOK.out.1, HOK.out.2, fun g hg => by
        obtain ⟨C, h1, h2, h3⟩ := hrow g hg
        exact ⟨C, h1, h2, fun _ => h3, fun h => absurd h (by omega)⟩⟩
      have HC2 : Hid (Chg (fun x => pg = some x) w wr) := Lib.hid (HC.out.mono (fun x hx e => e.resolve_right (by omega)))
      clear hrow HC
      go_wp2
      go_end0
      exact ⟨rfl, HX.out, HC2.out⟩
end Go.Proofs.Ytodohgckncnipaa
/- What stands behind a page of ranges is written over. -/
namespace Go.Proofs.Ytodohgckncnipaa
open Go.RowKit

set_option maxRecDepth 100000 in
set_option maxHeartbeats 2000000 in
theorem behindR_any (p : PgR) (w : World) (h : PageRSt w p 1) (hlt : ∀ g, p.g = some g → g < w.heap.size) :
    Calls Try.prog 92 #[p.row] w fun e w' => e = .returned (.tuple #[]) ∧ PageRSt w' p 2 ∧ Chg (fun x => p.g = some x) w w' := by
  obtain ⟨pg, len, cap, ⟨m0, m1⟩, ⟨h0, h1⟩⟩ := p
  have hmax : cap ≤ 9223372036854775807 := h.max
  have HOK : Hid (okRng (m0, m1) ∧ okRng (h0, h1)) := Lib.hid ⟨h.mok, h.bok⟩
  have hlen : len ≤ cap := h.len
  have HNONE : Hid (pg = none → cap = 0) := Lib.hid h.none
  have HLT : Hid (∀ g, pg = some g → g < w.heap.size) := Lib.hid hlt
  have HROW : Hid (∀ g, pg = some g → ∃ C : List (Int × Int), rngE.Row w g C ∧ C.length = cap ∧ ∀ k, k < len → C[k]? = some (m0, m1)) := Lib.hid fun g hg => by
    obtain ⟨C, h1, h2, h3, _⟩ := h.row g hg
    exact ⟨C, h1, h2, h3 (Nat.le_refl _)⟩
  obtain ⟨wa, hwa⟩ : ∃ x, x = w.alloc (.cells #[.slice (pg.map fun g => ⟨g, 0, none⟩) len cap, .int .i32 m0, .int .i32 m1, .int .i32 h0, .int .i32 h1] 98) := ⟨_, rfl⟩
  have HBX : Hid (wa.cell? ⟨w.heap.size, 0, none⟩ = some (.slice (pg.map fun g => ⟨g, 0, none⟩) len cap) ∧ wa.cell? ⟨w.heap.size, 3, none⟩ = some (.int .i32 h0) ∧ wa.cell? ⟨w.heap.size, 4, none⟩ = some (.int .i32 h1)) := Lib.hid (by
    rw [hwa]
    refine ⟨?_, ?_, ?_⟩ <;> · rw [World.cell?_alloc_new]; rfl)
  have HC0 : Hid (Chg (fun x => pg = some x ∨ w.heap.size ≤ x) w wa) := Lib.hid (by rw [hwa]; exact (Chg.refl _ w).alloc _)
  have HCF : Hid (Chg (fun _ => False) w wa) := Lib.hid (by rw [hwa]; exact (Chg.refl _ w).alloc _)
  have HWA := Lib.hid hwa
  clear h hlt hwa
  show Calls Try.prog 92 #[.agg #[.slice (pg.map fun g => ⟨g, 0, none⟩) len cap, .int .i32 m0, .int .i32 m1, .int .i32 h0, .int .i32 h1]] w _
  cases pg with
  | none =>
    obtain rfl : cap = 0 := HNONE.out rfl
    obtain rfl : len = 0 := by omega
    obtain ⟨b0, -⟩ := HBX.out
    simp only [Option.map_none] at b0
    have hwa := HWA.out
    simp only [Option.map_none] at hwa
    have HWA := Lib.hid hwa
    clear hwa
    go_enter Try.func92, Try.ntmps92
    go_upto_region 1 with (fail)
    rw [← HWA.out]
    go_wp2
    go_loopw [3] (fun i wr => i = .int .i64 0 ∧ Chg (fun x => none = some x ∨ w.heap.size ≤ x) w wr) (fun i _ => 0)
    case atStart => exact ⟨rfl, HC0.out⟩
    case round =>
      obtain ⟨rfl, hc⟩ := hrel
      have HC := Lib.hid hc
      clear hc
      go_wp2
      go_end0
      exact ⟨rfl, ⟨Nat.le_refl _, fun _ => rfl, by simp, HOK.out.1, HOK.out.2, fun g hg => by cases hg⟩, HC.out.mono (fun x hx e => e.resolve_right (by omega))⟩
  | some g =>
    obtain ⟨b0, -⟩ := HBX.out
    simp only [Option.map_some] at b0
    have hwa := HWA.out
    simp only [Option.map_some] at hwa
    have HWA := Lib.hid hwa
    clear hwa
    go_enter Try.func92, Try.ntmps92
    go_upto_region 1 with (fail)
    rw [← HWA.out]
    go_wp2
    clear b0
    go_loopw [3] (fun i wr => ∃ k : Nat, len ≤ k ∧ k ≤ cap ∧ i = .int .i64 k ∧ (wr.cell? ⟨w.heap.size, 3, none⟩ = some (.int .i32 h0) ∧ wr.cell? ⟨w.heap.size, 4, none⟩ = some (.int .i32 h1)) ∧ (∃ C : List (Int × Int), rngE.Row wr g C ∧ C.length = cap ∧ (∀ j, j < len → C[j]? = some (m0, m1)) ∧ ∀ j, len ≤ j → j < k → C[j]? = some (h0, h1)) ∧ Chg (fun x => some g = some x ∨ w.heap.size ≤ x) w wr) (fun i _ => cap - (intOf i).toNat)
    case atStart =>
      obtain ⟨C, h1, h2, h3⟩ := HROW.out g rfl
      exact ⟨len, Nat.le_refl _, hlen, rfl, HBX.out.2, ⟨C, h1.chg HCF.out (fun h => h), h2, h3, fun j hj hk => absurd hk (by omega)⟩, HC0.out⟩
    case round =>
      clear HBX HC0 HROW
      obtain ⟨k, hk0, hk, rfl, ⟨b4, b5⟩, ⟨C, hR, hCl, hCm, hCb⟩, hc⟩ := hrel
      have HC := Lib.hid hc
      clear hc
      by_cases hkl : k < cap
      · obtain ⟨y, hy⟩ : ∃ y, C[k]? = some y := ⟨_, List.getElem?_eq_getElem (by omega)⟩
        have c0 : wr.cell? ⟨g, k * 2, none⟩ = some (.int .i32 y.1) := hR.cell hy (i := 0) rfl (by show _ = k * 2 + 0; omega)
        have c1 : wr.cell? ⟨g, k * 2 + 1, none⟩ = some (.int .i32 y.2) := hR.cell hy (i := 1) rfl (by show _ = k * 2 + 1; omega)
        have z0 := hR.z (k * 2)
        have z1 := hR.z (k * 2 + 1)
        have hset := rngSet hR (k := k) (by omega) (h0, h1) HOK.out.2
        simp only at hset
        have HLG := HLT.out g rfl
        have hne : ∀ {j : Nat} {u : Value}, wr.cell? ⟨w.heap.size, j, none⟩ = some u → ((wr.setCell ⟨g, k * 2, none⟩ (.int .i32 h0)).setCell ⟨g, k * 2 + 1, none⟩ (.int .i32 h1)).cell? ⟨w.heap.size, j, none⟩ = some u := fun hu => hset.2.cellS hu (fun e => by have e2 : w.heap.size = g := e; omega)
        have HX := Lib.hid (show _ ∧ _ from ⟨hne b4, hne b5⟩)
        have HR := Lib.hid hset.1
        have HCW := Lib.hid (HC.out.trans (hset.2.mono (fun x _ e => .inl (by rw [e]))))
        have HM : Hid (∀ j, j < len → (C.set k (h0, h1))[j]? = some (m0, m1)) := Lib.hid (fun j hj => by
          rw [List.getElem?_set_ne (by omega)]; exact hCm j hj)
        have HB : Hid (∀ j, len ≤ j → j < k + 1 → (C.set k (h0, h1))[j]? = some (h0, h1)) := Lib.hid (fun j hj hjk => by
          by_cases he : j = k
          · subst he; rw [List.getElem?_set_self (by omega)]
          · rw [List.getElem?_set_ne (Ne.symm he)]; exact hCb j hj (by omega))
        have hb7 : decide ((k : Int) < (cap : Int)) = true := by simp; omega
        have HCL : Hid ((C.set k (h0, h1)).length = cap) := Lib.hid (by rw [List.length_set]; exact hCl)
        clear hR hCm hCb HC hCl hset hne hy
        go_wp2
        go_roundw
        case rel => exact ⟨k + 1, by omega, by omega, by go_num, HX.out, ⟨_, HR.out, HCL.out, HM.out, HB.out⟩, HCW.out⟩
        case measure => simp [intOf]; omega
      · obtain rfl : k = cap := by omega
        have HX : Hid (PageRSt wr ⟨some g, len, k, (m0, m1), (h0, h1)⟩ 2) := Lib.hid ⟨hlen, HNONE.out, hmax, HOK.out.1, HOK.out.2, fun g' hg => by
          obtain rfl := Option.some.inj hg
          exact ⟨C, hR, hCl, fun _ => hCm, fun _ => hCb⟩⟩
        have HC2 : Hid (Chg (fun x => some g = some x) w wr) := Lib.hid (HC.out.mono (fun x hx e => e.resolve_right (by omega)))
        clear hR hCm hCb HC hCl
        go_wp2
        go_end0
        exact ⟨rfl, HX.out, HC2.out⟩
end Go.Proofs.Ytodohgckncnipaa
/- Does a page of ranges stand as it was written? -/
namespace Go.Proofs.Ytodohgckncnipaa
open Go.RowKit

set_option maxRecDepth 100000 in
set_option maxHeartbeats 2000000 in
theorem standsR_any (p : PgR) (w : World) (h : PageRSt w p 2) (hlt : ∀ g, p.g = some g → g < w.heap.size) :
    Calls Try.prog 90 #[p.row] w fun e w' => e = .returned (.bool true) ∧ Chg (fun _ => False) w w' := by
  obtain ⟨pg, len, cap, ⟨m0, m1⟩, ⟨h0, h1⟩⟩ := p
  have hmax : cap ≤ 9223372036854775807 := h.max
  have HOK : Hid (okRng (m0, m1) ∧ okRng (h0, h1)) := Lib.hid ⟨h.mok, h.bok⟩
  have hlen : len ≤ cap := h.len
  have HNONE : Hid (pg = none → cap = 0) := Lib.hid h.none
  have HROW : Hid (∀ g, pg = some g → ∃ C : List (Int × Int), rngE.Row w g C ∧ C.length = cap ∧ (∀ k, k < len → C[k]? = some (m0, m1)) ∧ ∀ k, len ≤ k → k < cap → C[k]? = some (h0, h1)) := Lib.hid fun g hg => by
    obtain ⟨C, h1, h2, h3, h4⟩ := h.row g hg
    exact ⟨C, h1, h2, h3 (by omega), h4 (by omega)⟩
  obtain ⟨v, hv⟩ : ∃ v : Value, v = .slice (pg.map fun g => ⟨g, 0, none⟩) len cap := ⟨_, rfl⟩
  obtain ⟨wa, hwa⟩ : ∃ x, x = w.alloc (.cells #[v, .int .i32 m0, .int .i32 m1, .int .i32 h0, .int .i32 h1] 98) := ⟨_, rfl⟩
  have HBX : Hid (wa.cell? ⟨w.heap.size, 0, none⟩ = some v ∧ wa.cell? ⟨w.heap.size, 1, none⟩ = some (.int .i32 m0) ∧ wa.cell? ⟨w.heap.size, 2, none⟩ = some (.int .i32 m1) ∧ wa.cell? ⟨w.heap.size, 3, none⟩ = some (.int .i32 h0) ∧ wa.cell? ⟨w.heap.size, 4, none⟩ = some (.int .i32 h1)) := Lib.hid (by
    rw [hwa]
    refine ⟨?_, ?_, ?_, ?_, ?_⟩ <;> · rw [World.cell?_alloc_new]; rfl)
  have HC0 : Hid (Chg (fun _ => False) w wa) := Lib.hid (by rw [hwa]; exact (Chg.refl _ w).alloc _)
  clear h hlt
  show Calls Try.prog 90 #[.agg #[.slice (pg.map fun g => ⟨g, 0, none⟩) len cap, .int .i32 m0, .int .i32 m1, .int .i32 h0, .int .i32 h1]] w _
  rw [← hv]
  cases pg with
  | none =>
    obtain rfl : cap = 0 := HNONE.out rfl
    obtain rfl : len = 0 := by omega
    simp only [Option.map_none] at hv
    subst hv
    have HWA := Lib.hid hwa
    obtain ⟨b0, -⟩ := HBX.out
    clear hwa
    go_enter Try.func90, Try.ntmps90
    go_upto_region 1 with (fail)
    rw [← HWA.out]
    go_wp2
    go_loopw [4] (fun i wr => i = .int .i64 0 ∧ Chg (fun _ => False) w wr) (fun i _ => 0)
    case atStart => exact ⟨rfl, HC0.out⟩
    case round =>
      obtain ⟨rfl, hc⟩ := hrel
      have HC := Lib.hid hc
      clear hc
      go_wp2
      go_ret
      exact ⟨rfl, HC.out⟩
  | some g =>
    obtain ⟨C, hR, hCl, hCm, hCb⟩ := HROW.out g rfl
    have HR := Lib.hid hR
    have HCM := Lib.hid hCm
    have HCB := Lib.hid hCb
    simp only [Option.map_some] at hv
    subst hv
    have HWA := Lib.hid hwa
    obtain ⟨b0, -⟩ := HBX.out
    clear hR hCm hCb hCl HROW HNONE hwa
    go_enter Try.func90, Try.ntmps90
    go_upto_region 1 with (fail)
    rw [← HWA.out]
    go_wp2
    clear b0
    go_loopw [4] (fun i wr => ∃ k : Nat, k ≤ cap ∧ i = .int .i64 k ∧ Chg (fun _ => False) wa wr) (fun i _ => cap - (intOf i).toNat)
    case atStart => exact ⟨0, by omega, rfl, Chg.refl _ _⟩
    case round =>
      obtain ⟨k, hk, rfl, hc⟩ := hrel
      have HC := Lib.hid hc
      have HCW := Lib.hid (HC0.out.trans hc)
      clear hc
      by_cases hkl : k < cap
      · have hb14 : decide ((k : Int) < (cap : Int)) = true := by simp; omega
        by_cases hkn : k < len
        · have hr := HR.out.chg HCW.out (fun h => h)
          have c0 : wr.cell? ⟨g, k * 2, none⟩ = some (.int .i32 m0) := hr.cell (HCM.out k hkn) (i := 0) rfl (by show _ = k * 2 + 0; omega)
          have c1 : wr.cell? ⟨g, k * 2 + 1, none⟩ = some (.int .i32 m1) := hr.cell (HCM.out k hkn) (i := 1) rfl (by show _ = k * 2 + 1; omega)
          have HK := Lib.hid (show _ ∧ _ from ⟨c0, c1⟩)
          have hb21 : decide ((k : Int) < (len : Int)) = true := by simp; omega
          have hb36 : ¬ len ≤ k := by omega
          clear hr c0 c1
          go_upto_region 5 with (fail)
          refine wp_region_same (fun w' => Chg (fun _ => False) wr w') (by kernel_rfl) (by kernel_rfl) ?_ ?_
          · exact (Chg.refl _ _).drew
          (refine wpC_read rfl (fun _ _ _ h => h) (fun K hK => ?_); apply Exists.intro; refine ⟨fun _ w' _ hC => ?_, ?_⟩; ((skip); go_simp; try with_reducible rfl); (try go_simp); refine hK _ ?_; clear hK K); (refine wpC_read rfl (fun _ _ _ h => h) (fun K hK => ?_); apply Exists.intro; refine ⟨fun _ w' _ hC => ?_, ?_⟩; ((skip); go_simp; try with_reducible rfl); (try go_simp); refine hK _ ?_; clear hK K); (refine wpC_read rfl (fun _ _ _ h => h) (fun K hK => ?_); apply Exists.intro; refine ⟨fun _ w' _ hC => ?_, ?_⟩; ((obtain ⟨b0, b1, b2, b3, b4⟩ := HBX.out; have b0 := (HC.out.trans hC).cellS b0 (fun h => h); have b1 := (HC.out.trans hC).cellS b1 (fun h => h); have b2 := (HC.out.trans hC).cellS b2 (fun h => h); have c0 := hC.cellS HK.out.1 (fun h => h); have c1 := hC.cellS HK.out.2 (fun h => h)); go_simp; try with_reducible rfl); (try go_simp); refine hK _ ?_; clear hK K); (refine wpC_read rfl (fun _ _ _ h => h) (fun K hK => ?_); apply Exists.intro; refine ⟨fun _ w' _ hC => ?_, ?_⟩; ((skip); go_simp; try with_reducible rfl); (try go_simp); refine hK _ ?_; clear hK K); (refine wpC_read rfl (fun _ _ _ h => h) (fun K hK => ?_); apply Exists.intro; refine ⟨fun _ w' _ hC => ?_, ?_⟩; ((skip); go_simp; try with_reducible rfl); (try go_simp); refine hK _ ?_; clear hK K); (refine wpC_read rfl (fun _ _ _ h => h) (fun K hK => ?_); apply Exists.intro; refine ⟨fun _ w' _ hC => ?_, ?_⟩; ((skip); go_simp; try with_reducible rfl); (try go_simp); refine hK _ ?_; clear hK K); (refine wpC_read rfl (fun _ _ _ h => h) (fun K hK => ?_); apply Exists.intro; refine ⟨fun _ w' _ hC => ?_, ?_⟩; ((skip); go_simp; try with_reducible rfl); (try go_simp); refine hK _ ?_; clear hK K); (refine wpC_read rfl (fun _ _ _ h => h) (fun K hK => ?_); apply Exists.intro; refine ⟨fun _ w' _ hC => ?_, ?_⟩; ((skip); go_simp; try with_reducible rfl); (try go_simp); refine hK _ ?_; clear hK K); (refine wpC_read rfl (fun _ _ _ h => h) (fun K hK => ?_); apply Exists.intro; refine ⟨fun _ w' _ hC => ?_, ?_⟩; ((skip); go_simp; try with_reducible rfl); (try go_simp); refine hK _ ?_; clear hK K); (refine wpC_read rfl (fun _ _ _ h => h) (fun K hK => ?_); apply Exists.intro; refine ⟨fun _ w' _ hC => ?_, ?_⟩; ((obtain ⟨b0, b1, b2, b3, b4⟩ := HBX.out; have b0 := (HC.out.trans hC).cellS b0 (fun h => h); have b1 := (HC.out.trans hC).cellS b1 (fun h => h); have b2 := (HC.out.trans hC).cellS b2 (fun h => h); have c0 := hC.cellS HK.out.1 (fun h => h); have c1 := hC.cellS HK.out.2 (fun h => h)); go_simp; try with_reducible rfl); (try go_simp); refine hK _ ?_; clear hK K); (refine wpC_read rfl (fun _ _ _ h => h) (fun K hK => ?_); apply Exists.intro; refine ⟨fun _ w' _ hC => ?_, ?_⟩; ((skip); go_simp; try with_reducible rfl); (try go_simp); refine hK _ ?_; clear hK K); (refine wpC_read rfl (fun _ _ _ h => h) (fun K hK => ?_); apply Exists.intro; refine ⟨fun _ w' _ hC => ?_, ?_⟩; ((obtain ⟨b0, b1, b2, b3, b4⟩ := HBX.out; have b0 := (HC.out.trans hC).cellS b0 (fun h => h); have b1 := (HC.out.trans hC).cellS b1 (fun h => h); have b2 := (HC.out.trans hC).cellS b2 (fun h => h); have c0 := hC.cellS HK.out.1 (fun h => h); have c1 := hC.cellS HK.out.2 (fun h => h)); go_simp; try with_reducible rfl); (try go_simp); refine hK _ ?_; clear hK K); (refine wpC_read rfl (fun _ _ _ h => h) (fun K hK => ?_); apply Exists.intro; refine ⟨fun _ w' _ hC => ?_, ?_⟩; ((skip); go_simp; try with_reducible rfl); (try go_simp); refine hK _ ?_; clear hK K); (refine wpC_read rfl (fun _ _ _ h => h) (fun K hK => ?_); apply Exists.intro; refine ⟨fun _ w' _ hC => ?_, ?_⟩; ((skip); go_simp; try with_reducible rfl); (try go_simp); refine hK _ ?_; clear hK K); (refine wpC_read rfl (fun _ _ _ h => h) (fun K hK => ?_); apply Exists.intro; refine ⟨fun _ w' _ hC => ?_, ?_⟩; ((skip); go_simp; try with_reducible rfl); (try go_simp); refine hK _ ?_; clear hK K); (refine wpC_read rfl (fun _ _ _ h => h) (fun K hK => ?_); apply Exists.intro; refine ⟨fun _ w' _ hC => ?_, ?_⟩; ((skip); go_simp; try with_reducible rfl); (try go_simp); refine hK _ ?_; clear hK K); (refine wpC_read rfl (fun _ _ _ h => h) (fun K hK => ?_); apply Exists.intro; refine ⟨fun _ w' _ hC => ?_, ?_⟩; ((skip); go_simp; try with_reducible rfl); (try go_simp); refine hK _ ?_; clear hK K); (refine wpC_read rfl (fun _ _ _ h => h) (fun K hK => ?_); apply Exists.intro; refine ⟨fun _ w' _ hC => ?_, ?_⟩; ((obtain ⟨b0, b1, b2, b3, b4⟩ := HBX.out; have b0 := (HC.out.trans hC).cellS b0 (fun h => h); have b1 := (HC.out.trans hC).cellS b1 (fun h => h); have b2 := (HC.out.trans hC).cellS b2 (fun h => h); have c0 := hC.cellS HK.out.1 (fun h => h); have c1 := hC.cellS HK.out.2 (fun h => h)); go_simp; try with_reducible rfl); (try go_simp); refine hK _ ?_; clear hK K); (refine wpC_read rfl (fun _ _ _ h => h) (fun K hK => ?_); apply Exists.intro; refine ⟨fun _ w' _ hC => ?_, ?_⟩; ((skip); go_simp; try with_reducible rfl); (try go_simp); refine hK _ ?_; clear hK K); (refine wpC_read rfl (fun _ _ _ h => h) (fun K hK => ?_); apply Exists.intro; refine ⟨fun _ w' _ hC => ?_, ?_⟩; ((skip); go_simp; try with_reducible rfl); (try go_simp); refine hK _ ?_; clear hK K); (refine wpC_read rfl (fun _ _ _ h => h) (fun K hK => ?_); apply Exists.intro; refine ⟨fun _ w' _ hC => ?_, ?_⟩; ((skip); go_simp; try with_reducible rfl); (try go_simp); refine hK _ ?_; clear hK K); (refine wpC_skip rfl (fun _ _ _ h => h) (fun K hK => ?_); (try go_simp); refine hK _ ?_; clear hK K); (refine wpC_skip rfl (fun _ _ _ h => h) (fun K hK => ?_); (try go_simp); refine hK _ ?_; clear hK K); (refine wpC_skip rfl (fun _ _ _ h => h) (fun K hK => ?_); (try go_simp); refine hK _ ?_; clear hK K); (refine wpC_skip rfl (fun _ _ _ h => h) (fun K hK => ?_); (try go_simp); refine hK _ ?_; clear hK K); (refine wpC_skip rfl (fun _ _ _ h => h) (fun K hK => ?_); (try go_simp); refine hK _ ?_; clear hK K); (refine wpC_skip rfl (fun _ _ _ h => h) (fun K hK => ?_); (try go_simp); refine hK _ ?_; clear hK K); (refine wpC_skip rfl (fun _ _ _ h => h) (fun K hK => ?_); (try go_simp); refine hK _ ?_; clear hK K); (refine wpC_read rfl (fun _ _ _ h => h) (fun K hK => ?_); apply Exists.intro; refine ⟨fun _ w' _ hC => ?_, ?_⟩; ((skip); go_simp; try with_reducible rfl); (try go_simp); refine hK _ ?_; clear hK K); (refine wpC_read rfl (fun _ _ _ h => h) (fun K hK => ?_); apply Exists.intro; refine ⟨fun _ w' _ hC => ?_, ?_⟩; ((skip); go_simp; try with_reducible rfl); (try go_simp); refine hK _ ?_; clear hK K)
          refine wpC_nil ?_
          intro w2 hC2
          have HC2 := Lib.hid (HC.out.trans hC2)
          clear hC2
          go_wp2
          go_roundw
          case rel => exact ⟨k + 1, by omega, by go_num, HC2.out⟩
          case measure => simp [intOf]; omega
        · have hr := HR.out.chg HCW.out (fun h => h)
          have c0 : wr.cell? ⟨g, k * 2, none⟩ = some (.int .i32 h0) := hr.cell (HCB.out k (by omega) hkl) (i := 0) rfl (by show _ = k * 2 + 0; omega)
          have c1 : wr.cell? ⟨g, k * 2 + 1, none⟩ = some (.int .i32 h1) := hr.cell (HCB.out k (by omega) hkl) (i := 1) rfl (by show _ = k * 2 + 1; omega)
          have HK := Lib.hid (show _ ∧ _ from ⟨c0, c1⟩)
          have hb21 : decide ((k : Int) < (len : Int)) = false := by simp; omega
          have hb36 : len ≤ k := by omega
          clear hr c0 c1
          go_upto_region 5 with (fail)
          refine wp_region_same (fun w' => Chg (fun _ => False) wr w') (by kernel_rfl) (by kernel_rfl) ?_ ?_
          · exact (Chg.refl _ _).drew
          (refine wpC_read rfl (fun _ _ _ h => h) (fun K hK => ?_); apply Exists.intro; refine ⟨fun _ w' _ hC => ?_, ?_⟩; ((skip); go_simp; try with_reducible rfl); (try go_simp); refine hK _ ?_; clear hK K); (refine wpC_read rfl (fun _ _ _ h => h) (fun K hK => ?_); apply Exists.intro; refine ⟨fun _ w' _ hC => ?_, ?_⟩; ((skip); go_simp; try with_reducible rfl); (try go_simp); refine hK _ ?_; clear hK K); (refine wpC_read rfl (fun _ _ _ h => h) (fun K hK => ?_); apply Exists.intro; refine ⟨fun _ w' _ hC => ?_, ?_⟩; ((obtain ⟨b0, b1, b2, b3, b4⟩ := HBX.out; have b0 := (HC.out.trans hC).cellS b0 (fun h => h); have b3 := (HC.out.trans hC).cellS b3 (fun h => h); have b4 := (HC.out.trans hC).cellS b4 (fun h => h); have c0 := hC.cellS HK.out.1 (fun h => h); have c1 := hC.cellS HK.out.2 (fun h => h)); go_simp; try with_reducible rfl); (try go_simp); refine hK _ ?_; clear hK K); (refine wpC_read rfl (fun _ _ _ h => h) (fun K hK => ?_); apply Exists.intro; refine ⟨fun _ w' _ hC => ?_, ?_⟩; ((skip); go_simp; try with_reducible rfl); (try go_simp); refine hK _ ?_; clear hK K); (refine wpC_read rfl (fun _ _ _ h => h) (fun K hK => ?_); apply Exists.intro; refine ⟨fun _ w' _ hC => ?_, ?_⟩; ((skip); go_simp; try with_reducible rfl); (try go_simp); refine hK _ ?_; clear hK K); (refine wpC_read rfl (fun _ _ _ h => h) (fun K hK => ?_); apply Exists.intro; refine ⟨fun _ w' _ hC => ?_, ?_⟩; ((skip); go_simp; try with_reducible rfl); (try go_simp); refine hK _ ?_; clear hK K); (refine wpC_skip rfl (fun _ _ _ h => h) (fun K hK => ?_); (try go_simp); refine hK _ ?_; clear hK K); (refine wpC_skip rfl (fun _ _ _ h => h) (fun K hK => ?_); (try go_simp); refine hK _ ?_; clear hK K); (refine wpC_skip rfl (fun _ _ _ h => h) (fun K hK => ?_); (try go_simp); refine hK _ ?_; clear hK K); (refine wpC_skip rfl (fun _ _ _ h => h) (fun K hK => ?_); (try go_simp); refine hK _ ?_; clear hK K); (refine wpC_skip rfl (fun _ _ _ h => h) (fun K hK => ?_); (try go_simp); refine hK _ ?_; clear hK K); (refine wpC_skip rfl (fun _ _ _ h => h) (fun K hK => ?_); (try go_simp); refine hK _ ?_; clear hK K); (refine wpC_skip rfl (fun _ _ _ h => h) (fun K hK => ?_); (try go_simp); refine hK _ ?_; clear hK K); (refine wpC_read rfl (fun _ _ _ h => h) (fun K hK => ?_); apply Exists.intro; refine ⟨fun _ w' _ hC => ?_, ?_⟩; ((skip); go_simp; try with_reducible rfl); (try go_simp); refine hK _ ?_; clear hK K); (refine wpC_read rfl (fun _ _ _ h => h) (fun K hK => ?_); apply Exists.intro; refine ⟨fun _ w' _ hC => ?_, ?_⟩; ((skip); go_simp; try with_reducible rfl); (try go_simp); refine hK _ ?_; clear hK K); (refine wpC_read rfl (fun _ _ _ h => h) (fun K hK => ?_); apply Exists.intro; refine ⟨fun _ w' _ hC => ?_, ?_⟩; ((skip); go_simp; try with_reducible rfl); (try go_simp); refine hK _ ?_; clear hK K); (refine wpC_read rfl (fun _ _ _ h => h) (fun K hK => ?_); apply Exists.intro; refine ⟨fun _ w' _ hC => ?_, ?_⟩; ((skip); go_simp; try with_reducible rfl); (try go_simp); refine hK _ ?_; clear hK K); (refine wpC_read rfl (fun _ _ _ h => h) (fun K hK => ?_); apply Exists.intro; refine ⟨fun _ w' _ hC => ?_, ?_⟩; ((obtain ⟨b0, b1, b2, b3, b4⟩ := HBX.out; have b0 := (HC.out.trans hC).cellS b0 (fun h => h); have b3 := (HC.out.trans hC).cellS b3 (fun h => h); have b4 := (HC.out.trans hC).cellS b4 (fun h => h); have c0 := hC.cellS HK.out.1 (fun h => h); have c1 := hC.cellS HK.out.2 (fun h => h)); go_simp; try with_reducible rfl); (try go_simp); refine hK _ ?_; clear hK K); (refine wpC_read rfl (fun _ _ _ h => h) (fun K hK => ?_); apply Exists.intro; refine ⟨fun _ w' _ hC => ?_, ?_⟩; ((skip); go_simp; try with_reducible rfl); (try go_simp); refine hK _ ?_; clear hK K); (refine wpC_read rfl (fun _ _ _ h => h) (fun K hK => ?_); apply Exists.intro; refine ⟨fun _ w' _ hC => ?_, ?_⟩; ((skip); go_simp; try with_reducible rfl); (try go_simp); refine hK _ ?_; clear hK K); (refine wpC_read rfl (fun _ _ _ h => h) (fun K hK => ?_); apply Exists.intro; refine ⟨fun _ w' _ hC => ?_, ?_⟩; ((skip); go_simp; try with_reducible rfl); (try go_simp); refine hK _ ?_; clear hK K); (refine wpC_read rfl (fun _ _ _ h => h) (fun K hK => ?_); apply Exists.intro; refine ⟨fun _ w' _ hC => ?_, ?_⟩; ((skip); go_simp; try with_reducible rfl); (try go_simp); refine hK _ ?_; clear hK K); (refine wpC_read rfl (fun _ _ _ h => h) (fun K hK => ?_); apply Exists.intro; refine ⟨fun _ w' _ hC => ?_, ?_⟩; ((skip); go_simp; try with_reducible rfl); (try go_simp); refine hK _ ?_; clear hK K); (refine wpC_read rfl (fun _ _ _ h => h) (fun K hK => ?_); apply Exists.intro; refine ⟨fun _ w' _ hC => ?_, ?_⟩; ((skip); go_simp; try with_reducible rfl); (try go_simp); refine hK _ ?_; clear hK K); (refine wpC_read rfl (fun _ _ _ h => h) (fun K hK => ?_); apply Exists.intro; refine ⟨fun _ w' _ hC => ?_, ?_⟩; ((obtain ⟨b0, b1, b2, b3, b4⟩ := HBX.out; have b0 := (HC.out.trans hC).cellS b0 (fun h => h); have b3 := (HC.out.trans hC).cellS b3 (fun h => h); have b4 := (HC.out.trans hC).cellS b4 (fun h => h); have c0 := hC.cellS HK.out.1 (fun h => h); have c1 := hC.cellS HK.out.2 (fun h => h)); go_simp; try with_reducible rfl); (try go_simp); refine hK _ ?_; clear hK K); (refine wpC_read rfl (fun _ _ _ h => h) (fun K hK => ?_); apply Exists.intro; refine ⟨fun _ w' _ hC => ?_, ?_⟩; ((skip); go_simp; try with_reducible rfl); (try go_simp); refine hK _ ?_; clear hK K); (refine wpC_read rfl (fun _ _ _ h => h) (fun K hK => ?_); apply Exists.intro; refine ⟨fun _ w' _ hC => ?_, ?_⟩; ((obtain ⟨b0, b1, b2, b3, b4⟩ := HBX.out; have b0 := (HC.out.trans hC).cellS b0 (fun h => h); have b3 := (HC.out.trans hC).cellS b3 (fun h => h); have b4 := (HC.out.trans hC).cellS b4 (fun h => h); have c0 := hC.cellS HK.out.1 (fun h => h); have c1 := hC.cellS HK.out.2 (fun h => h)); go_simp; try with_reducible rfl); (try go_simp); refine hK _ ?_; clear hK K); (refine wpC_read rfl (fun _ _ _ h => h) (fun K hK => ?_); apply Exists.intro; refine ⟨fun _ w' _ hC => ?_, ?_⟩; ((skip); go_simp; try with_reducible rfl); (try go_simp); refine hK _ ?_; clear hK K); (refine wpC_read rfl (fun _ _ _ h => h) (fun K hK => ?_); apply Exists.intro; refine ⟨fun _ w' _ hC => ?_, ?_⟩; ((skip); go_simp; try with_reducible rfl); (try go_simp); refine hK _ ?_; clear hK K); (refine wpC_read rfl (fun _ _ _ h => h) (fun K hK => ?_); apply Exists.intro; refine ⟨fun _ w' _ hC => ?_, ?_⟩; ((skip); go_simp; try with_reducible rfl); (try go_simp); refine hK _ ?_; clear hK K)
          refine wpC_nil ?_
          intro w2 hC2
          have HC2 := Lib.hid (HC.out.trans hC2)
          clear hC2
          go_wp2
          go_roundw
          case rel => exact ⟨k + 1, by omega, by go_num, HC2.out⟩
          case measure => simp [intOf]; omega
      · obtain rfl : k = cap := by omega
        clear HR HCM HCB
        go_wp2
        go_ret
        exact ⟨rfl, HCW.out⟩
end Go.Proofs.Ytodohgckncnipaa
/- A book of pages of ranges and of ints. -/
namespace Go.Proofs.Ytodohgckncnipaa
open Go.RowKit

inductive Page where
  | r (p : PgR)
  | i (p : I.Pg)
def Page.g : Page → Option Nat
  | .r p => p.g
  | .i p => p.g
def Page.page : Page → Value
  | .r p => .iface 98 p.row
  | .i p => .iface 100 p.row
def Page.St (w : World) : Page → Nat → Prop
  | .r p, s => PageRSt w p s
  | .i p, s => I.PageSt w p s
theorem infoPage : (Try.prog.info? 77).map (fun i => (i.zero, i.size, i.bytes)) = some (some .nilIface, 1, 16) := by kernel_rfl
def pagesV (L : List Page) : List Value := L.map Page.page
/-- A book of pages. -/
structure BookAt (w : World) (B b : Nat) (v : Value) (L : List Page) : Prop where
  c : w.cell? ⟨b, 0, none⟩ = some v
  z : w.frozen? ⟨b, 0, none⟩ = false
  own : w.ownsRow B 77 1 v L.length (pagesV L)
  hB : B ≤ w.heap.size
  hb : b < B

theorem ownsRow_chg {S : Nat → Prop} {w w' : World} {B n size : Nat} {e : TypeId} {v : Value} {xs : List Value} (h : w.ownsRow B e size v n xs) (hc : Chg S w w') (hs : ∀ g, B ≤ g → g < w.heap.size → ¬ S g) : w'.ownsRow B e size v n xs := by
  refine ⟨h.1, h.2.elim .inl fun ⟨g, cap, cur, hv, hb, hg, r⟩ => .inr ⟨g, cap, cur, hv, hb, ?_, r⟩⟩
  have hlt : g < w.heap.size := by
    rcases Nat.lt_or_ge g w.heap.size with h | h
    · exact h
    · rw [Array.getElem?_eq_none h] at hg; cases hg
  rw [hc.block g hlt (hs g hb hlt)]
  exact hg
theorem ownBlock_ge {w : World} {B n size : Nat} {e : TypeId} {v : Value} {xs : List Value} (h : w.ownsRow B e size v n xs) {k : Nat} (hk : v.ownBlock = some k) : B ≤ k := by
  rcases h.2 with ⟨rfl, _⟩ | ⟨g, cap, cur, rfl, hb, _⟩
  · cases hk
  · simp [Value.ownBlock] at hk
    omega
theorem BookAt.chg {S : Nat → Prop} {w w' : World} {B b : Nat} {v : Value} {L : List Page} (h : BookAt w B b v L) (hc : Chg S w w') (h1 : ¬ S b) (h2 : ∀ g, B ≤ g → g < w.heap.size → ¬ S g) : BookAt w' B b v L :=
  ⟨hc.cellS h.c h1, (hc.frozen (p := ⟨b, 0, none⟩) (by have := h.hB; have := h.hb; show b < _; omega) h1).trans h.z, ownsRow_chg h.own hc h2, Nat.le_trans h.hB hc.size, h.hb⟩

theorem slice_of_own {w : World} {B e size n : Nat} {v : Value} {xs : List Value} (h : w.ownsRow B e size v n xs) : ∃ a k c, v = .slice a k c := by
  rcases h.2 with ⟨rfl, _⟩ | ⟨g, cap, cur, rfl, _⟩
  · exact ⟨_, _, _, rfl⟩
  · exact ⟨_, _, _, rfl⟩
theorem bookNumber_any (b n : Nat) (a : Option Addr) (c : Nat) (w : World) (hc : w.cell? ⟨b, 0, none⟩ = some (.slice a n c)) (hn : n ≤ 1000000) :
    Calls Try.prog 70 #[.pointer (some ⟨b, 0, none⟩)] w fun e w' => e = .returned (.int .i64 (n + 1)) ∧ w' = w := by
  go_enter Try.func70, Try.ntmps70
  go_wp2
  go_ret
  exact ⟨rfl, rfl⟩

set_option maxRecDepth 100000 in
set_option maxHeartbeats 2000000 in
theorem bookRanges_any (B b : Nat) (v : Value) (L : List Page) (p : PgR) (w : World) (H : BookAt w B b v L) (hl : L.length ≤ 100000) (hm : p.mark = ((L.length : Int) + 1, 0)) (hb : p.behind = (0, (L.length : Int) + 1)) :
    Calls Try.prog 46 #[.pointer (some ⟨b, 0, none⟩), p.v] w fun e w' => ∃ v', e = .returned (.tuple #[]) ∧ BookAt w' B b v' (L ++ [.r p]) ∧ Chg (fun k => k = b ∨ v.ownBlock = some k) w w' ∧ (v'.ownBlock = v.ownBlock ∨ ∃ g, v'.ownBlock = some g ∧ w.heap.size ≤ g) := by
  obtain ⟨i0, hi, hz0, hz1, hz2⟩ := info_parts infoPage
  have hc := H.c
  have hz := H.z
  obtain ⟨vl, vc, hv⟩ : ∃ a c, v = .slice a L.length c := by
    rcases H.own.2 with ⟨rfl, h0⟩ | ⟨g, cap, cur, rfl, _⟩
    · exact ⟨none, 0, by rw [h0]⟩
    · exact ⟨_, _, rfl⟩
  have HP : Hid ((Page.r p).page = .iface 98 (.agg #[p.v, .int .i32 (L.length + 1), .int .i32 0, .int .i32 0, .int .i32 (L.length + 1)])) := Lib.hid (by rw [Page.page, PgR.row, hm, hb])
  have HPB := Lib.hid (show (Page.r p).page.oneCell' = true from rfl)
  obtain ⟨pa, pl, pc, hpv⟩ : ∃ pa pl pc, p.v = .slice pa pl pc := ⟨_, _, _, rfl⟩
  rw [hpv] at HP ⊢
  rw [HP.out] at HPB
  have HA := Lib.hid (H.chg ((Chg.refl (fun _ => False) w).alloc (.cells #[.iface 98 (.agg #[.slice pa pl pc, .int .i32 (L.length + 1), .int .i32 0, .int .i32 0, .int .i32 (L.length + 1)])] 77)) (fun h => h) (fun _ _ _ h => h))
  have HFIN : Hid (∀ v' w1, w1.ownsRow B 77 1 v' (L.length + 1) (pagesV L ++ [.iface 98 (.agg #[.slice pa pl pc, .int .i32 (L.length + 1), .int .i32 0, .int .i32 0, .int .i32 (L.length + 1)])]) → (w.alloc (.cells #[.iface 98 (.agg #[.slice pa pl pc, .int .i32 (L.length + 1), .int .i32 0, .int .i32 0, .int .i32 (L.length + 1)])] 77)).grownBy w1 v.ownBlock → (v'.ownBlock = v.ownBlock ∨ ∃ g, v'.ownBlock = some g ∧ w.heap.size ≤ g) →
      (w1.cell? ⟨b, 0, none⟩ = some v ∧ w1.frozen? ⟨b, 0, none⟩ = false) ∧ BookAt (w1.setCell ⟨b, 0, none⟩ v') B b v' (L ++ [.r p]) ∧ Chg (fun k => k = b ∨ v.ownBlock = some k) w (w1.setCell ⟨b, 0, none⟩ v')) := Lib.hid (by
    intro v' w1 h1 h2 _
    have hcv : Chg (fun k => v.ownBlock = some k) w w1 := ((Chg.refl _ w).alloc _).trans ((Chg.refl _ _).grown h2 (fun k hk => .inr hk))
    have hcg : Chg (fun k => B ≤ k) w w1 := ((Chg.refl _ w).alloc _).trans ((Chg.refl _ _).grown h2 (fun k hk => .inr (ownBlock_ge H.own hk)))
    have hbb := H.hb
    have c1 := hcg.cellS H.c (show ¬ B ≤ b by omega)
    have z1 := (hcg.frozen (p := ⟨b, 0, none⟩) (by have := H.hB; show b < _; omega) (show ¬ B ≤ b by omega)).trans H.z
    refine ⟨⟨c1, z1⟩, ⟨World.cell?_setCell_same _ _ _ c1, (World.frozen?_setCell _ _ _ _).trans z1, ?_, Nat.le_trans H.hB (Nat.le_trans hcg.size (setCellChg _ _ _ _).size), hbb⟩, (hcv.mono (fun k _ e => .inr e)).trans ((setCellChg w1 b 0 v').mono (fun k _ e => .inl e))⟩
    have := ownsRow_chg h1 (setCellChg w1 b 0 v') (fun g hg _ e => by omega)
    rw [pagesV, List.map_append, List.length_append, List.map_singleton, HP.out]
    exact this)
  have h256 : IntKind.i32.wrap ((L.length : Int) + 1) = (L.length : Int) + 1 := by rw [IntKind.wrap_i32]; omega
  have HB := Lib.hid H.hB
  subst hv
  clear H hm hb hpv
  go_enter Try.func46, Try.ntmps46
  go_wp2_with fail
  refine (bookNumber_any b L.length vl vc w hc (by omega)).mono ?_
  rintro e w' ⟨rfl, rfl⟩
  go_wp2_with (at_builtin; refine wpList_append_own_at _ rfl _ _ 39 rfl B 77 i0 .nilIface 1 16 Try.underlying39 hi hz0 hz1 hz2 rfl (by decide) _ _ _ rfl HA.out.own ⟨w'.heap.size, 0, none⟩ 1 1 [.iface 98 (.agg #[.slice pa pl pc, .int .i32 (L.length + 1), .int .i32 0, .int .i32 0, .int .i32 (L.length + 1)])] rfl rfl (cell_one_new _ _ _) (by simp [HPB.out]) (by unfold maxLen; omega) (by omega) HA.out.hB ?_; intro v' w1 hown hgrow _ hob; have hob2 := hob.imp id (fun e => (⟨_, e, by simp⟩ : ∃ g, v'.ownBlock = some g ∧ w'.heap.size ≤ g)); have HOB := Lib.hid hob2; obtain ⟨⟨k1, k2⟩, hf⟩ := HFIN.out v' w1 hown hgrow hob2; obtain ⟨va, vn, vk, hv'⟩ := slice_of_own hown; subst hv'; have HFF := Lib.hid hf; clear hf hown hgrow hob hob2)
  go_end0
  exact ⟨_, rfl, HFF.out.1, HFF.out.2, HOB.out⟩

set_option maxRecDepth 100000 in
set_option maxHeartbeats 2000000 in
theorem bookNums_any (B b : Nat) (v : Value) (L : List Page) (p : I.Pg) (w : World) (H : BookAt w B b v L) (hl : L.length ≤ 100000) (hm : p.mark = L.length + 1) (hb : p.behind = -((L.length : Int) + 1)) :
    Calls Try.prog 47 #[.pointer (some ⟨b, 0, none⟩), p.v] w fun e w' => ∃ v', e = .returned (.tuple #[]) ∧ BookAt w' B b v' (L ++ [.i p]) ∧ Chg (fun k => k = b ∨ v.ownBlock = some k) w w' ∧ (v'.ownBlock = v.ownBlock ∨ ∃ g, v'.ownBlock = some g ∧ w.heap.size ≤ g) := by
  obtain ⟨i0, hi, hz0, hz1, hz2⟩ := info_parts infoPage
  have hc := H.c
  have hz := H.z
  obtain ⟨vl, vc, hv⟩ : ∃ a c, v = .slice a L.length c := by
    rcases H.own.2 with ⟨rfl, h0⟩ | ⟨g, cap, cur, rfl, _⟩
    · exact ⟨none, 0, by rw [h0]⟩
    · exact ⟨_, _, rfl⟩
  have HP : Hid ((Page.i p).page = .iface 100 (.agg #[p.v, .int .i64 (L.length + 1), .int .i64 (-((L.length : Int) + 1))])) := Lib.hid (by rw [Page.page, I.Pg.row, hm, hb])
  have HPB := Lib.hid (show (Page.i p).page.oneCell' = true from rfl)
  obtain ⟨pa, pl, pc, hpv⟩ : ∃ pa pl pc, p.v = .slice pa pl pc := ⟨_, _, _, rfl⟩
  rw [hpv] at HP ⊢
  rw [HP.out] at HPB
  have HA := Lib.hid (H.chg ((Chg.refl (fun _ => False) w).alloc (.cells #[.iface 100 (.agg #[.slice pa pl pc, .int .i64 (L.length + 1), .int .i64 (-((L.length : Int) + 1))])] 77)) (fun h => h) (fun _ _ _ h => h))
  have HFIN : Hid (∀ v' w1, w1.ownsRow B 77 1 v' (L.length + 1) (pagesV L ++ [.iface 100 (.agg #[.slice pa pl pc, .int .i64 (L.length + 1), .int .i64 (-((L.length : Int) + 1))])]) → (w.alloc (.cells #[.iface 100 (.agg #[.slice pa pl pc, .int .i64 (L.length + 1), .int .i64 (-((L.length : Int) + 1))])] 77)).grownBy w1 v.ownBlock → (v'.ownBlock = v.ownBlock ∨ ∃ g, v'.ownBlock = some g ∧ w.heap.size ≤ g) →
      (w1.cell? ⟨b, 0, none⟩ = some v ∧ w1.frozen? ⟨b, 0, none⟩ = false) ∧ BookAt (w1.setCell ⟨b, 0, none⟩ v') B b v' (L ++ [.i p]) ∧ Chg (fun k => k = b ∨ v.ownBlock = some k) w (w1.setCell ⟨b, 0, none⟩ v')) := Lib.hid (by
    intro v' w1 h1 h2 _
    have hcv : Chg (fun k => v.ownBlock = some k) w w1 := ((Chg.refl _ w).alloc _).trans ((Chg.refl _ _).grown h2 (fun k hk => .inr hk))
    have hcg : Chg (fun k => B ≤ k) w w1 := ((Chg.refl _ w).alloc _).trans ((Chg.refl _ _).grown h2 (fun k hk => .inr (ownBlock_ge H.own hk)))
    have hbb := H.hb
    have c1 := hcg.cellS H.c (show ¬ B ≤ b by omega)
    have z1 := (hcg.frozen (p := ⟨b, 0, none⟩) (by have := H.hB; show b < _; omega) (show ¬ B ≤ b by omega)).trans H.z
    refine ⟨⟨c1, z1⟩, ⟨World.cell?_setCell_same _ _ _ c1, (World.frozen?_setCell _ _ _ _).trans z1, ?_, Nat.le_trans H.hB (Nat.le_trans hcg.size (setCellChg _ _ _ _).size), hbb⟩, (hcv.mono (fun k _ e => .inr e)).trans ((setCellChg w1 b 0 v').mono (fun k _ e => .inl e))⟩
    have := ownsRow_chg h1 (setCellChg w1 b 0 v') (fun g hg _ e => by omega)
    rw [pagesV, List.map_append, List.length_append, List.map_singleton, HP.out]
    exact this)
  have HB := Lib.hid H.hB
  subst hv
  clear H hm hb hpv
  go_enter Try.func47, Try.ntmps47
  go_wp2_with fail
  refine (bookNumber_any b L.length vl vc w hc (by omega)).mono ?_
  rintro e w' ⟨rfl, rfl⟩
  go_wp2_with (at_builtin; refine wpList_append_own_at _ rfl _ _ 39 rfl B 77 i0 .nilIface 1 16 Try.underlying39 hi hz0 hz1 hz2 rfl (by decide) _ _ _ rfl HA.out.own ⟨w'.heap.size, 0, none⟩ 1 1 [.iface 100 (.agg #[.slice pa pl pc, .int .i64 (L.length + 1), .int .i64 (-((L.length : Int) + 1))])] rfl rfl (cell_one_new _ _ _) (by simp [HPB.out]) (by unfold maxLen; omega) (by omega) HA.out.hB ?_; intro v' w1 hown hgrow _ hob; have hob2 := hob.imp id (fun e => (⟨_, e, by simp⟩ : ∃ g, v'.ownBlock = some g ∧ w'.heap.size ≤ g)); have HOB := Lib.hid hob2; obtain ⟨⟨k1, k2⟩, hf⟩ := HFIN.out v' w1 hown hgrow hob2; obtain ⟨va, vn, vk, hv'⟩ := slice_of_own hown; subst hv'; have HFF := Lib.hid hf; clear hf hown hgrow hob hob2)
  go_end0
  exact ⟨_, rfl, HFF.out.1, HFF.out.2, HOB.out⟩

theorem PageRSt.lt {w : World} {p : PgR} {s : Nat} (h : PageRSt w p s) : ∀ g, p.g = some g → g < w.heap.size := fun g hg => by
  obtain ⟨C, h1, _⟩ := h.row g hg
  exact h1.lt
theorem I.PageSt.lt {w : World} {p : I.Pg} {s : Nat} (h : I.PageSt w p s) : ∀ g, p.g = some g → g < w.heap.size := fun g hg => by
  obtain ⟨C, h1, _⟩ := h.row g hg
  exact h1.lt
theorem Page.St.lt {w : World} {p : Page} {s : Nat} (h : p.St w s) : ∀ g, p.g = some g → g < w.heap.size := by
  cases p with
  | r p => exact PageRSt.lt h
  | i p => exact I.PageSt.lt h
theorem Page.St.chg {S : Nat → Prop} {w w' : World} {p : Page} {s : Nat} (h : p.St w s) (hc : Chg S w w') (hs : ∀ g, p.g = some g → ¬ S g) : p.St w' s := by
  cases p with
  | r p => exact PageRSt.chg h hc hs
  | i p => exact I.PageSt.chg h hc hs
/-- All pages; those ahead of j are a step further. -/
def Pages (w : World) (L : List Page) (s j : Nat) : Prop := ∀ (k : Nat) (p : Page), L[k]? = some p → p.St w (if k < j then s + 1 else s)
def ApartL (L : List Page) : Prop := ∀ (i j : Nat) (p q : Page), L[i]? = some p → L[j]? = some q → i ≠ j → ∀ g, p.g = some g → q.g ≠ some g
theorem Pages.next {w w' : World} {L : List Page} {s j : Nat} {p : Page} (h : Pages w L s j) (hd : ApartL L) (hj : L[j]? = some p) (hp : p.St w' (s + 1)) (hc : Chg (fun x => p.g = some x) w w') : Pages w' L s (j + 1) := fun k q hq => by
  by_cases he : k = j
  · subst he
    rw [hj] at hq
    obtain rfl := Option.some.inj hq
    rw [if_pos (by omega)]
    exact hp
  · have := (h k q hq).chg hc (fun g hg e => hd j k p q hj hq (Ne.symm he) g e hg)
    by_cases hk : k < j
    · rw [if_pos hk] at this; rw [if_pos (by omega)]; exact this
    · rw [if_neg hk] at this; rw [if_neg (by omega)]; exact this
theorem Pages.all {w : World} {L : List Page} {s : Nat} (h : Pages w L s L.length) : Pages w L (s + 1) 0 := fun k p hp => by
  have := h k p hp
  rw [if_pos (List.getElem?_eq_some_iff.1 hp).1] at this
  rw [if_neg (by omega)]
  exact this
theorem Pages.at' {w : World} {L : List Page} {s j : Nat} {p : Page} (h : Pages w L s j) (hj : L[j]? = some p) : p.St w s := by
  have := h j p hj
  rwa [if_neg (by omega)] at this
theorem Pages.at0 {w : World} {L : List Page} {s j : Nat} {p : Page} (h : Pages w L s 0) (hj : L[j]? = some p) : p.St w s := by
  have := h j p hj
  rwa [if_neg (by omega)] at this
theorem pageCell {w : World} {B b : Nat} {v : Value} {L : List Page} (H : BookAt w B b v L) : ∃ a c, v = .slice a L.length c ∧ ∀ j p, L[j]? = some p → ∃ gp, a = some ⟨gp, 0, none⟩ ∧ w.cell? ⟨gp, j, none⟩ = some p.page ∧ B ≤ gp ∧ gp < w.heap.size := by
  have hown := H.own
  rcases H.own.2 with ⟨rfl, h0⟩ | ⟨g, cap, cur, rfl, hb, hg, _⟩
  · exact ⟨none, 0, by rw [h0], fun j p hp => by have := (List.getElem?_eq_some_iff.1 hp).1; omega⟩
  · refine ⟨_, cap, rfl, fun j p hp => ⟨g, rfl, ?_, hb, ?_⟩⟩
    · rw [hown.cellAt j (by have := (List.getElem?_eq_some_iff.1 hp).1; omega), pagesV, List.getElem?_map, hp]
      rfl
    · rcases Nat.lt_or_ge g w.heap.size with h | h
      · exact h
      · rw [Array.getElem?_eq_none h] at hg; cases hg

set_option maxRecDepth 100000 in
set_option maxHeartbeats 8000000 in
theorem apart_any (B b : Nat) (v : Value) (L : List Page) (w : World) (H : BookAt w B b v L) (hl : L.length ≤ 120) (hP : Pages w L 0 0) (hlt : ∀ p ∈ L, ∀ g, p.g = some g → g < b) (hd : ApartL L) :
    Calls Try.prog 16 #[.pointer (some ⟨b, 0, none⟩)] w fun e w' => e = .returned (.bool true) ∧ Chg (fun k => ∃ p ∈ L, p.g = some k) w w' := by
  obtain ⟨a, c, hv, hel⟩ := pageCell H
  subst hv
  have hbB := H.hb
  have HB : Hid (∀ wr : World, Chg (fun k => ∃ p ∈ L, p.g = some k) w wr → wr.cell? ⟨b, 0, none⟩ = some (.slice a L.length c)) := Lib.hid fun wr hc => hc.cellS H.c (fun ⟨p, hp, hg⟩ => by have := hlt p hp b hg; omega)
  have HEL : Hid (∀ wr : World, Chg (fun k => ∃ p ∈ L, p.g = some k) w wr → ∀ j p, L[j]? = some p → ∃ gp, a = some ⟨gp, 0, none⟩ ∧ wr.cell? ⟨gp, j, none⟩ = some p.page) := Lib.hid fun wr hc j p hp => by
    obtain ⟨gp, h1, h2, h3, h4⟩ := hel j p hp
    exact ⟨gp, h1, hc.cellS h2 (fun ⟨q, hq, hg⟩ => by have := hlt q hq gp hg; omega)⟩
  have HD := Lib.hid hd
  have HP := Lib.hid hP
  have c0 := H.c
  clear H hel hlt hd hP
  go_enter Try.func16, Try.ntmps16
  go_wp2
  go_loopw [3] (fun i wr => ∃ j : Nat, j ≤ L.length ∧ i = .int .i64 j ∧ Pages wr L 0 j ∧ Chg (fun k => ∃ p ∈ L, p.g = some k) w wr) (fun i _ => L.length - (intOf i).toNat)
  case atStart => exact ⟨0, by omega, rfl, HP.out, Chg.refl _ _⟩
  case round =>
    clear HP c0
    obtain ⟨j, hj, rfl, hp, hc⟩ := hrel
    have HP := Lib.hid hp
    have HC := Lib.hid hc
    have c0 := HB.out wr hc
    clear hp hc
    by_cases hjl : j < L.length
    · obtain ⟨p, hp⟩ : ∃ p, L[j]? = some p := ⟨_, List.getElem?_eq_getElem hjl⟩
      obtain ⟨gp, rfl, hcell⟩ := HEL.out wr HC.out j p hp
      have HPS := Lib.hid (HP.out.at' hp)
      have HPJ := Lib.hid hp
      have HMEM : Hid (p ∈ L) := Lib.hid (List.mem_of_getElem? hp)
      cases p with
      | r p =>
        have HW := Lib.hid (writeR_any p wr HPS.out (Page.St.lt HPS.out))
        simp only [Page.page] at hcell
        obtain ⟨R, hR⟩ : ∃ R, p.row = R := ⟨_, rfl⟩
        rw [hR] at hcell HW
        have hb18 : decide ((j : Int) < (L.length : Int)) = true := by simp; omega
        clear hp hR
        go_wp2_with fail
        refine HW.out.mono ?_
        rintro e w2 ⟨rfl, hp2, hc2⟩
        have HX := Lib.hid (HP.out.next HD.out HPJ.out hp2 hc2)
        have HC2 := Lib.hid (HC.out.trans (hc2.mono (T := fun k => ∃ p ∈ L, p.g = some k) (fun k _ e => ⟨_, HMEM.out, e⟩)))
        clear hp2 hc2 HP HC HW HPS HPJ HMEM hcell c0
        go_wp2
        go_roundw
        case rel => first | exact ⟨j + 1, by omega, by go_num, HX.out, HC2.out⟩ | ((repeat apply Exists.intro); exact ⟨⟨j + 1, by omega, rfl, HX.out, HC2.out⟩, rfl⟩)
        case measure => simp [intOf]; omega
      | i p =>
        have HW := Lib.hid (I.write_any p wr HPS.out (Page.St.lt HPS.out))
        simp only [Page.page] at hcell
        obtain ⟨R, hR⟩ : ∃ R, p.row = R := ⟨_, rfl⟩
        rw [hR] at hcell HW
        have hb18 : decide ((j : Int) < (L.length : Int)) = true := by simp; omega
        clear hp hR
        go_wp2_with fail
        refine HW.out.mono ?_
        rintro e w2 ⟨rfl, hp2, hc2⟩
        have HX := Lib.hid (HP.out.next HD.out HPJ.out hp2 hc2)
        have HC2 := Lib.hid (HC.out.trans (hc2.mono (T := fun k => ∃ p ∈ L, p.g = some k) (fun k _ e => ⟨_, HMEM.out, e⟩)))
        clear hp2 hc2 HP HC HW HPS HPJ HMEM hcell c0
        go_wp2
        go_roundw
        case rel => first | exact ⟨j + 1, by omega, by go_num, HX.out, HC2.out⟩ | ((repeat apply Exists.intro); exact ⟨⟨j + 1, by omega, rfl, HX.out, HC2.out⟩, rfl⟩)
        case measure => simp [intOf]; omega
    · obtain rfl : j = L.length := by omega
      have HX := Lib.hid HP.out.all
      have HC1 := HC
      clear HP HC
      go_wp2
      obtain ⟨wo0, rfl⟩ : ∃ wo : World, wo = wr := ⟨_, rfl⟩
      go_loopw [4] (fun i wr => ∃ j : Nat, j ≤ L.length ∧ i = .int .i64 j ∧ Pages wr L 1 j ∧ Chg (fun k => ∃ p ∈ L, p.g = some k) w wr) (fun i _ => L.length - (intOf i).toNat)
      case atStart => exact ⟨0, by omega, rfl, HX.out, HC1.out⟩
      case round =>
        clear HX HC1
        obtain ⟨j, hj, rfl, hp, hc⟩ := hrel
        have HP := Lib.hid hp
        have HC := Lib.hid hc
        have c0 := HB.out wr hc
        clear hp hc
        by_cases hjl : j < L.length
        · obtain ⟨p, hp⟩ : ∃ p, L[j]? = some p := ⟨_, List.getElem?_eq_getElem hjl⟩
          obtain ⟨gp, rfl, hcell⟩ := HEL.out wr HC.out j p hp
          have HPS := Lib.hid (HP.out.at' hp)
          have HPJ := Lib.hid hp
          have HMEM : Hid (p ∈ L) := Lib.hid (List.mem_of_getElem? hp)
          cases p with
          | r p =>
            have HW := Lib.hid (behindR_any p wr HPS.out (Page.St.lt HPS.out))
            simp only [Page.page] at hcell
            obtain ⟨R, hR⟩ : ∃ R, p.row = R := ⟨_, rfl⟩
            rw [hR] at hcell HW
            have hb18 : decide ((j : Int) < (L.length : Int)) = true := by simp; omega
            clear hp hR
            go_wp2_with fail
            refine HW.out.mono ?_
            rintro e w2 ⟨rfl, hp2, hc2⟩
            have HX := Lib.hid (HP.out.next HD.out HPJ.out hp2 hc2)
            have HC2 := Lib.hid (HC.out.trans (hc2.mono (T := fun k => ∃ p ∈ L, p.g = some k) (fun k _ e => ⟨_, HMEM.out, e⟩)))
            clear hp2 hc2 HP HC HW HPS HPJ HMEM hcell c0
            go_wp2
            go_roundw
            case rel => first | exact ⟨j + 1, by omega, by go_num, HX.out, HC2.out⟩ | ((repeat apply Exists.intro); exact ⟨⟨j + 1, by omega, rfl, HX.out, HC2.out⟩, rfl⟩)
            case measure => simp [intOf]; omega
          | i p =>
            have HW := Lib.hid (I.behind_any p wr HPS.out (Page.St.lt HPS.out))
            simp only [Page.page] at hcell
            obtain ⟨R, hR⟩ : ∃ R, p.row = R := ⟨_, rfl⟩
            rw [hR] at hcell HW
            have hb18 : decide ((j : Int) < (L.length : Int)) = true := by simp; omega
            clear hp hR
            go_wp2_with fail
            refine HW.out.mono ?_
            rintro e w2 ⟨rfl, hp2, hc2⟩
            have HX := Lib.hid (HP.out.next HD.out HPJ.out hp2 hc2)
            have HC2 := Lib.hid (HC.out.trans (hc2.mono (T := fun k => ∃ p ∈ L, p.g = some k) (fun k _ e => ⟨_, HMEM.out, e⟩)))
            clear hp2 hc2 HP HC HW HPS HPJ HMEM hcell c0
            go_wp2
            go_roundw
            case rel => first | exact ⟨j + 1, by omega, by go_num, HX.out, HC2.out⟩ | ((repeat apply Exists.intro); exact ⟨⟨j + 1, by omega, rfl, HX.out, HC2.out⟩, rfl⟩)
            case measure => simp [intOf]; omega
        · obtain rfl : j = L.length := by omega
          have HX := Lib.hid HP.out.all
          have HC1 := HC
          clear HP HC
          go_wp2
          obtain ⟨wo1, rfl⟩ : ∃ wo : World, wo = wr := ⟨_, rfl⟩
          go_loopw [5] (fun i wr => ∃ j : Nat, j ≤ L.length ∧ i = .int .i64 j ∧ Pages wr L 2 0 ∧ Chg (fun k => ∃ p ∈ L, p.g = some k) w wr) (fun i _ => L.length - (intOf i).toNat)
          case atStart => exact ⟨0, by omega, rfl, HX.out, HC1.out⟩
          case round =>
            clear HX HC1
            obtain ⟨j, hj, rfl, hp, hc⟩ := hrel
            have HP := Lib.hid hp
            have HC := Lib.hid hc
            have c0 := HB.out wr hc
            clear hp hc
            by_cases hjl : j < L.length
            · obtain ⟨p, hp⟩ : ∃ p, L[j]? = some p := ⟨_, List.getElem?_eq_getElem hjl⟩
              obtain ⟨gp, rfl, hcell⟩ := HEL.out wr HC.out j p hp
              have HPS := Lib.hid (HP.out.at0 hp)
              have HPJ := Lib.hid hp
              have HMEM : Hid (p ∈ L) := Lib.hid (List.mem_of_getElem? hp)
              cases p with
              | r p =>
                have HW := Lib.hid (standsR_any p wr HPS.out (Page.St.lt HPS.out))
                simp only [Page.page] at hcell
                obtain ⟨R, hR⟩ : ∃ R, p.row = R := ⟨_, rfl⟩
                rw [hR] at hcell HW
                have hb18 : decide ((j : Int) < (L.length : Int)) = true := by simp; omega
                clear hp hR
                go_wp2_with fail
                refine HW.out.mono ?_
                rintro e w2 ⟨rfl, hc2⟩
                have HX : Hid (Pages w2 L 2 0 ∧ Chg (fun k => ∃ p ∈ L, p.g = some k) w w2) := Lib.hid ⟨fun k p hp => (HP.out k p hp).chg hc2 (fun _ _ h => h), HC.out.trans hc2.any⟩
                clear hc2 HP HC HW HPS HPJ HMEM hcell c0
                go_wp2
                go_roundw
                case rel => first | exact ⟨j + 1, by omega, by go_num, HX.out.1, HX.out.2⟩ | ((repeat apply Exists.intro); exact ⟨⟨j + 1, by omega, rfl, HX.out.1, HX.out.2⟩, rfl⟩)
                case measure => simp [intOf]; omega
              | i p =>
                have HW := Lib.hid (I.stands_any p wr HPS.out (Page.St.lt HPS.out))
                simp only [Page.page] at hcell
                obtain ⟨R, hR⟩ : ∃ R, p.row = R := ⟨_, rfl⟩
                rw [hR] at hcell HW
                have hb18 : decide ((j : Int) < (L.length : Int)) = true := by simp; omega
                clear hp hR
                go_wp2_with fail
                refine HW.out.mono ?_
                rintro e w2 ⟨rfl, hc2⟩
                have HX : Hid (Pages w2 L 2 0 ∧ Chg (fun k => ∃ p ∈ L, p.g = some k) w w2) := Lib.hid ⟨fun k p hp => (HP.out k p hp).chg hc2 (fun _ _ h => h), HC.out.trans hc2.any⟩
                clear hc2 HP HC HW HPS HPJ HMEM hcell c0
                go_wp2
                go_roundw
                case rel => first | exact ⟨j + 1, by omega, by go_num, HX.out.1, HX.out.2⟩ | ((repeat apply Exists.intro); exact ⟨⟨j + 1, by omega, rfl, HX.out.1, HX.out.2⟩, rfl⟩)
                case measure => simp [intOf]; omega
            · obtain rfl : j = L.length := by omega
              clear HP
              go_wp2
              go_ret
              exact ⟨rfl, HC.out⟩

set_option maxRecDepth 100000 in
theorem apart_many (B b : Nat) (v : Value) (L : List Page) (w : World) (H : BookAt w B b v L) (hl : 120 < L.length) (hl2 : L.length ≤ 1000000) :
    Calls Try.prog 16 #[.pointer (some ⟨b, 0, none⟩)] w fun e w' => e = .returned (.bool true) ∧ Chg (fun _ => False) w w' := by
  obtain ⟨a, c, hv, hel⟩ := pageCell H
  subst hv
  have c0 := H.c
  clear H hel
  go_enter Try.func16, Try.ntmps16
  go_wp2
  go_ret
  exact ⟨rfl, Chg.refl _ _⟩
end Go.Proofs.Ytodohgckncnipaa
/- The lists of a table, in a book: harbingerlaw09.Lists. -/
namespace Go.Proofs.Ytodohgckncnipaa
open Go.RowKit

def pgB (s : Sl) : Option Nat := s.1.map fun a => a.block
def PlainS (s : Sl) : Prop := (s.1.map fun a => (⟨a.block, 0, none⟩ : Addr)) = s.1
def pgR (s : Sl) (m : Nat) : PgR := ⟨pgB s, s.2.1, s.2.2, ((m : Int), 0), (0, (m : Int))⟩
def pgI (s : Sl) (m : Nat) : I.Pg := ⟨pgB s, s.2.1, s.2.2, (m : Int), -(m : Int)⟩
theorem pgR_v {s : Sl} (h : PlainS s) (m : Nat) : (pgR s m).v = .slice s.1 s.2.1 s.2.2 := by
  show Value.slice ((pgB s).map fun g => ⟨g, 0, none⟩) s.2.1 s.2.2 = _
  rw [pgB, Option.map_map]
  exact congrArg (fun x => Value.slice x s.2.1 s.2.2) h
theorem pgI_v {s : Sl} (h : PlainS s) (m : Nat) : (pgI s m).v = .slice s.1 s.2.1 s.2.2 := by
  show Value.slice ((pgB s).map fun g => ⟨g, 0, none⟩) s.2.1 s.2.2 = _
  rw [pgB, Option.map_map]
  exact congrArg (fun x => Value.slice x s.2.1 s.2.2) h
def rowPages : Nat → List Sl → List Page
  | _, [] => []
  | m, x :: X => .i (pgI x m) :: rowPages (m + 1) X
theorem rowPages_len : ∀ (X : List Sl) (m : Nat), (rowPages m X).length = X.length
  | [], _ => rfl
  | x :: X, m => by simp [rowPages, rowPages_len X]
theorem rowPages_push : ∀ (X : List Sl) (m : Nat) (x : Sl), rowPages m (X ++ [x]) = rowPages m X ++ [.i (pgI x (m + X.length))]
  | [], m, x => rfl
  | y :: X, m, x => by
    show _ :: rowPages (m + 1) (X ++ [x]) = _ :: (rowPages (m + 1) X ++ _)
    rw [rowPages_push X (m + 1) x, List.length_cons, show m + 1 + X.length = m + (X.length + 1) by omega]
theorem rowPages_get : ∀ (X : List Sl) (m k : Nat) (p : Page), (rowPages m X)[k]? = some p → ∃ x, X[k]? = some x ∧ p = .i (pgI x (m + k))
  | [], m, k, p, h => by simp [rowPages] at h
  | x :: X, m, 0, p, h => by
    simp [rowPages] at h
    exact ⟨x, rfl, h.symm⟩
  | x :: X, m, k + 1, p, h => by
    obtain ⟨y, h1, h2⟩ := rowPages_get X (m + 1) k p (by simpa [rowPages] using h)
    exact ⟨y, by simpa using h1, by rw [h2, show m + 1 + k = m + (k + 1) by omega]⟩
/-- The pages of a table, numbered from n + 1 on. -/
def tabPages (n : Nat) (rs cs es : Sl) (X : List Sl) : List Page := .r (pgR rs (n + 1)) :: .i (pgI cs (n + 2)) :: .i (pgI es (n + 3)) :: rowPages (n + 4) X
theorem tabPages_len (n : Nat) (rs cs es : Sl) (X : List Sl) : (tabPages n rs cs es X).length = X.length + 3 := by simp [tabPages, rowPages_len]
theorem tabPages_push (n : Nat) (rs cs es : Sl) (X : List Sl) (x : Sl) : tabPages n rs cs es (X ++ [x]) = tabPages n rs cs es X ++ [.i (pgI x (n + (X.length + 3) + 1))] := by
  show _ :: _ :: _ :: rowPages (n + 4) (X ++ [x]) = _ :: _ :: _ :: (rowPages (n + 4) X ++ _)
  rw [rowPages_push, show n + 4 + X.length = n + (X.length + 3) + 1 by omega]
/-- A book that grows, from w0 on. -/
structure BkS (w0 : World) (B b : Nat) (v0 : Value) (w1 : World) (v1 : Value) (L1 : List Page) : Prop where
  bk : BookAt w1 B b v1 L1
  ch : Chg (fun k => (k = b ∨ v0.ownBlock = some k) ∨ w0.heap.size ≤ k) w0 w1
  ow : v1.ownBlock = v0.ownBlock ∨ ∃ g, v1.ownBlock = some g ∧ w0.heap.size ≤ g
theorem BkS.step {w0 : World} {B b : Nat} {v0 : Value} {w1 w2 : World} {v1 v2 : Value} {L1 L2 : List Page} (h : BkS w0 B b v0 w1 v1 L1) (hb : BookAt w2 B b v2 L2) (hc : Chg (fun k => k = b ∨ v1.ownBlock = some k) w1 w2) (ho : v2.ownBlock = v1.ownBlock ∨ ∃ g, v2.ownBlock = some g ∧ w1.heap.size ≤ g) : BkS w0 B b v0 w2 v2 L2 := by
  refine ⟨hb, h.ch.trans (hc.mono (fun k _ e => ?_)), ?_⟩
  · rcases e with e | e
    · exact .inl (.inl e)
    · rcases h.ow with h1 | ⟨g, h1, h2⟩
      · exact .inl (.inr (h1 ▸ e))
      · rw [h1] at e
        obtain rfl := Option.some.inj e
        exact .inr h2
  · rcases ho with h1 | ⟨g, h1, h2⟩
    · rw [h1]; exact h.ow
    · exact .inr ⟨g, h1, Nat.le_trans h.ch.size h2⟩
theorem own_lt {w : World} {B b : Nat} {v : Value} {L : List Page} (H : BookAt w B b v L) {g : Nat} (hg : v.ownBlock = some g) : B ≤ g ∧ g < w.heap.size := by
  rcases H.own.2 with ⟨rfl, _⟩ | ⟨g', cap, cur, rfl, hb, hh, _⟩
  · cases hg
  · have hg : some g' = some g := hg
    obtain rfl := Option.some.inj hg
    refine ⟨hb, ?_⟩
    rcases Nat.lt_or_ge g' w.heap.size with h | h
    · exact h
    · rw [Array.getElem?_eq_none h] at hh; cases hh

set_option maxRecDepth 100000 in
set_option maxHeartbeats 4000000 in
theorem lists9_any (rs cs ns es : Sl) (X : List Sl) (B b : Nat) (v : Value) (L : List Page) (w : World) (H : BookAt w B b v L) (hN : listE.In w 0 ns X) (hb : ∀ g o, ns.1 = some ⟨g, o, none⟩ → g < b) (hp : PlainS rs ∧ PlainS cs ∧ PlainS es ∧ ∀ x ∈ X, PlainS x) (hl : L.length ≤ 1000) (hx : X.length < 60) :
    Calls Try.prog 15 #[.pointer (some ⟨b, 0, none⟩), tabV rs cs ns es] w fun e w' => ∃ v', e = .returned (.tuple #[]) ∧ BookAt w' B b v' (L ++ tabPages L.length rs cs es X) ∧ Chg (fun k => k = b ∨ v.ownBlock = some k) w w' := by
  obtain ⟨ra, rn, rc⟩ := rs
  obtain ⟨ca, cn, cc⟩ := cs
  obtain ⟨na, nn, nc⟩ := ns
  obtain ⟨ea, en, ec⟩ := es
  obtain ⟨rfl, hnc⟩ := hN.len
  obtain ⟨wa, hwa⟩ : ∃ x, x = w.alloc (.cells #[.slice ra rn rc, .slice ca cn cc, .slice na X.length nc, .slice ea en ec] 26) := ⟨_, rfl⟩
  have hca : Chg (fun _ => False) w wa := by rw [hwa]; exact (Chg.refl _ _).alloc _
  have hsz : wa.heap.size = w.heap.size + 1 := by rw [hwa]; simp
  have hHB := H.hB
  have hHb := H.hb
  have HBXA : Hid (∀ wr : World, Chg (fun k => (k = b ∨ v.ownBlock = some k) ∨ wa.heap.size ≤ k) wa wr → wr.cell? ⟨w.heap.size, 0, none⟩ = some (.slice ra rn rc) ∧ wr.cell? ⟨w.heap.size, 1, none⟩ = some (.slice ca cn cc) ∧ wr.cell? ⟨w.heap.size, 2, none⟩ = some (.slice na X.length nc) ∧ wr.cell? ⟨w.heap.size, 3, none⟩ = some (.slice ea en ec)) := Lib.hid (fun wr hc => by
    have h1 : TabAt wa w.heap.size (ra, rn, rc) (ca, cn, cc) (na, X.length, nc) (ea, en, ec) := by rw [hwa]; exact tabBox w (ra, rn, rc) (ca, cn, cc) (na, X.length, nc) (ea, en, ec) 26
    refine h1.chg hc ?_
    rintro ((e | e) | e)
    · omega
    · have := (own_lt H e).2; omega
    · omega)
  have HNX : Hid (∀ wr : World, Chg (fun k => (k = b ∨ v.ownBlock = some k) ∨ wa.heap.size ≤ k) wa wr → ∀ k x, X[k]? = some x → ∃ g o, na = some ⟨g, o, none⟩ ∧ wr.cell? ⟨g, o + k, none⟩ = some (.slice x.1 x.2.1 x.2.2)) := Lib.hid (fun wr hc k x hk => by
    obtain ⟨-, -, g, o, h3, h4⟩ := hN
    have hkl := (List.getElem?_eq_some_iff.1 hk).1
    obtain ⟨h5, -⟩ := h4 (by omega)
    have hcell := h3.get hk (i := 0) rfl
    rw [show listE.sz = 1 from rfl, Nat.mul_one, Nat.add_zero] at hcell
    have hgb := hb g o h5
    refine ⟨g, o, h5, hc.cellS (hca.cellS hcell (fun h => h)) ?_⟩
    rintro ((e | e) | e)
    · have e : g = b := e; omega
    · have e : v.ownBlock = some g := e
      have := (own_lt H e).1; omega
    · have e : wa.heap.size ≤ g := e; omega)
  have HB0 : Hid (BkS wa B b v wa v L) := Lib.hid ⟨H.chg hca (fun h => h) (fun _ _ _ h => h), Chg.refl _ _, .inl rfl⟩
  have HCA := Lib.hid hca
  have HPL := Lib.hid hp
  have HFIN : Hid (∀ w', Chg (fun k => (k = b ∨ v.ownBlock = some k) ∨ wa.heap.size ≤ k) wa w' → Chg (fun k => k = b ∨ v.ownBlock = some k) w w') := Lib.hid (fun w' hc => (hca.any.trans (hc.mono (T := fun k => (k = b ∨ v.ownBlock = some k) ∨ w.heap.size ≤ k) (fun k _ e => e.imp id (fun e => by omega)))).mono (fun k hk e => e.resolve_right (by omega)))
  have HWA := Lib.hid hwa
  clear H hN hb hp hca hwa hsz hHB hHb
  show Calls Try.prog 15 #[.pointer (some ⟨b, 0, none⟩), .agg #[.slice ra rn rc, .slice ca cn cc, .slice na X.length nc, .slice ea en ec]] w _
  go_enter Try.func15, Try.ntmps15
  go_upto_region 1 with (fail)
  rw [← HWA.out]
  obtain ⟨q0, -, -, -⟩ := HBXA.out wa (Chg.refl _ _)
  have HK1 := Lib.hid (bookRanges_any B b v L (pgR (ra, rn, rc) (L.length + 1)) wa HB0.out.bk (by omega) (by show (((L.length + 1 : Nat) : Int), (0 : Int)) = _; rw [Int.natCast_succ]) (by show ((0 : Int), ((L.length + 1 : Nat) : Int)) = _; rw [Int.natCast_succ]))
  rw [pgR_v HPL.out.1] at HK1
  go_wp2_with fail
  refine HK1.out.mono ?_
  rintro e w1 ⟨v1, rfl, h1, h2, h3⟩
  have HB1 := Lib.hid (HB0.out.step h1 h2 h3)
  obtain ⟨-, q1, -, -⟩ := HBXA.out w1 HB1.out.ch
  clear h1 h2 h3 q0 HK1
  have HK2 := Lib.hid (bookNums_any B b v1 _ (pgI (ca, cn, cc) (L.length + 2)) w1 HB1.out.bk (by simp; omega) (by show ((L.length + 2 : Nat) : Int) = _; simp; omega) (by show -((L.length + 2 : Nat) : Int) = _; simp; omega))
  rw [pgI_v HPL.out.2.1] at HK2
  go_wp2_with fail
  refine HK2.out.mono ?_
  rintro e w2 ⟨v2, rfl, h1, h2, h3⟩
  have HB2 := Lib.hid (HB1.out.step h1 h2 h3)
  obtain ⟨-, -, -, q3⟩ := HBXA.out w2 HB2.out.ch
  clear h1 h2 h3 q1 HK2
  have HK3 := Lib.hid (bookNums_any B b v2 _ (pgI (ea, en, ec) (L.length + 3)) w2 HB2.out.bk (by simp; omega) (by show ((L.length + 3 : Nat) : Int) = _; simp; omega) (by show -((L.length + 3 : Nat) : Int) = _; simp; omega))
  rw [pgI_v HPL.out.2.2.1] at HK3
  go_wp2_with fail
  refine HK3.out.mono ?_
  rintro e w3 ⟨v3, rfl, h1, h2, h3⟩
  have HB3 : Hid (BkS wa B b v w3 v3 (L ++ tabPages L.length (ra, rn, rc) (ca, cn, cc) (ea, en, ec) (X.take 0))) := Lib.hid (by
    have := HB2.out.step h1 h2 h3
    rw [List.append_assoc, List.append_assoc] at this
    exact this)
  clear h1 h2 h3 q3 HK3 HB1 HB2 HB0
  go_wp2
  go_loopw [4] (fun i wr => ∃ (k : Nat) (vk : Value), k ≤ X.length ∧ i = .int .i64 k ∧ BkS wa B b v wr vk (L ++ tabPages L.length (ra, rn, rc) (ca, cn, cc) (ea, en, ec) (X.take k))) (fun i _ => X.length - (intOf i).toNat)
  case atStart => exact ⟨0, v3, by omega, rfl, HB3.out⟩
  case round =>
    clear HB3
    obtain ⟨k, vk, hk, rfl, h1⟩ := hrel
    have HBK := Lib.hid h1
    obtain ⟨-, -, q2, -⟩ := HBXA.out wr h1.ch
    clear h1
    by_cases hkx : k < X.length
    · obtain ⟨x, hxk⟩ : ∃ x, X[k]? = some x := ⟨_, List.getElem?_eq_getElem hkx⟩
      obtain ⟨g, o, rfl, c0⟩ := HNX.out wr HBK.out.ch k x hxk
      have hlen : (L ++ tabPages L.length (ra, rn, rc) (ca, cn, cc) (ea, en, ec) (X.take k)).length = L.length + (k + 3) := by rw [List.length_append, tabPages_len, List.length_take]; omega
      have HTK : Hid (∀ p, (L ++ tabPages L.length (ra, rn, rc) (ca, cn, cc) (ea, en, ec) (X.take k)) ++ [.i (pgI x (L.length + (k + 3) + 1))] = (L ++ tabPages L.length (ra, rn, rc) (ca, cn, cc) (ea, en, ec) (X.take (k + 1))) ∨ p) := Lib.hid (fun p => .inl (by
        rw [List.take_add_one, hxk, Option.toList_some, tabPages_push, List.length_take, Nat.min_eq_left (by omega), List.append_assoc]))
      have HPX := Lib.hid (HPL.out.2.2.2 x (List.mem_of_getElem? hxk))
      obtain ⟨xa, xn, xc⟩ := x
      have HK4 := Lib.hid (bookNums_any B b vk _ (pgI (xa, xn, xc) (L.length + (k + 3) + 1)) wr HBK.out.bk (by rw [hlen]; omega) (by rw [hlen]; show ((L.length + (k + 3) + 1 : Nat) : Int) = _; simp) (by rw [hlen]; show -((L.length + (k + 3) + 1 : Nat) : Int) = _; simp))
      rw [pgI_v HPX.out] at HK4
      have hb1 : decide ((k : Int) < (X.length : Int)) = true := by simp; omega
      have hb2 : decide ((k : Int) < 60) = true := by simp; omega
      clear hlen hxk
      go_wp2_with fail
      refine HK4.out.mono ?_
      rintro e w4 ⟨v4, rfl, h1, h2, h3⟩
      have HB4 : Hid (BkS wa B b v w4 v4 (L ++ tabPages L.length (ra, rn, rc) (ca, cn, cc) (ea, en, ec) (X.take (k + 1)))) := Lib.hid (by
        have h5 := HBK.out.step h1 h2 h3
        rcases HTK.out False with h6 | h6
        · rw [h6] at h5; exact h5
        · exact h6.elim)
      clear h1 h2 h3 HK4 HBK HTK c0 q2
      go_wp2
      go_roundw
      case rel => first | exact ⟨k + 1, v4, by omega, by go_num, HB4.out⟩ | ((repeat apply Exists.intro); exact ⟨⟨k + 1, v4, by omega, rfl, HB4.out⟩, rfl⟩)
      case measure => simp [intOf]; omega
    · obtain rfl : k = X.length := by omega
      have HB5 := Lib.hid (show _ ∧ _ from ⟨HBK.out.bk, HFIN.out _ HBK.out.ch⟩)
      rw [List.take_length] at HB5
      clear HBK
      go_wp2
      go_end0
      exact ⟨vk, rfl, HB5.out.1, HB5.out.2⟩
end Go.Proofs.Ytodohgckncnipaa
/- The lists of a table as pages of a book: of a table of one's own, of a twin. -/
namespace Go.Proofs.Ytodohgckncnipaa
open Go.RowKit

/-- A list that may be a page. -/
structure PgOk {α : Type} (E : Elt α) (w : World) (s : Sl) : Prop where
  len : s.2.1 ≤ s.2.2
  none : s.1 = none → s.2.2 = 0
  max : s.2.2 ≤ 9223372036854775807
  pl : PlainS s
  row : ∀ g, pgB s = some g → ∃ C : List α, E.Row w g C ∧ C.length = s.2.2
theorem PgOk.same {α : Type} {E : Elt α} {w w' : World} {s : Sl} (h : PgOk E w s) (hc : Chg (fun _ => False) w w') : PgOk E w' s :=
  ⟨h.len, h.none, h.max, h.pl, fun g hg => by obtain ⟨C, h1, h2⟩ := h.row g hg; exact ⟨C, h1.chg hc (fun h => h), h2⟩⟩
theorem pgB_own (s : Sl) : pgB s = (slV s).ownBlock := by
  obtain ⟨a, n, c⟩ := s
  cases a <;> rfl
theorem Elt.Own.pg {α : Type} {E : Elt α} {w : World} {B : Nat} {s : Sl} {X : List α} (h : E.Own w B (slV s) X) : PgOk E w s := by
  obtain ⟨a, n, c⟩ := s
  rcases h with ⟨h, rfl⟩ | ⟨g, C, h, h2, h3, h4, h5⟩
  · unfold slV at h
    injection h with e1 e2 e3
    simp only at e1 e2 e3
    subst e1 e2 e3
    exact ⟨Nat.le_refl _, fun _ => rfl, by simp, rfl, fun g hg => by cases hg⟩
  · unfold slV at h
    injection h with e1 e2 e3
    simp only at e1 e2 e3
    subst e1 e2 e3
    refine ⟨h4.length_le, (fun h => by cases h), by unfold maxLen at h5; show C.length ≤ _; omega, rfl, fun g' hg => ?_⟩
    obtain rfl : g = g' := by simpa [pgB] using hg
    exact ⟨C, h3, rfl⟩
theorem Mrk.pg {α : Type} {E : Elt α} {w : World} {B : Nat} {s : Sl} {L : List α} {m : α} (h : Mrk E w B s L m) (hl : L.length ≤ 1000000000000) : PgOk E w s := by
  obtain ⟨g, rfl, h2, h3⟩ := h
  refine ⟨by show L.length ≤ L.length + 2; omega, (fun h => by cases h), by show L.length + 2 ≤ _; omega, rfl, fun g' hg => ?_⟩
  obtain rfl : g = g' := by simpa [pgB] using hg
  exact ⟨_, h3, by simp⟩
theorem PgOk.rSt {w : World} {s : Sl} (h : PgOk rngE w s) {m : Nat} (hm : m ≤ 1000000) : Page.St w (.r (pgR s m)) 0 :=
  show PageRSt w (pgR s m) 0 from ⟨h.len, fun hg => h.none (by simpa [pgR, pgB] using hg), h.max, ⟨⟨by show (-2147483648 : Int) ≤ (m : Int); omega, by show (m : Int) ≤ 2147483647; omega⟩, ⟨by show (-2147483648 : Int) ≤ 0; omega, by show (0 : Int) ≤ 2147483647; omega⟩⟩, ⟨⟨by show (-2147483648 : Int) ≤ 0; omega, by show (0 : Int) ≤ 2147483647; omega⟩, ⟨by show (-2147483648 : Int) ≤ (m : Int); omega, by show (m : Int) ≤ 2147483647; omega⟩⟩, fun g hg => by
    obtain ⟨C, h1, h2⟩ := h.row g hg
    exact ⟨C, h1, h2, fun h => absurd h (by omega), fun h => absurd h (by omega)⟩⟩
theorem PgOk.iSt {w : World} {s : Sl} (h : PgOk intE w s) {m : Nat} (hm : m ≤ 1000000) : Page.St w (.i (pgI s m)) 0 :=
  show I.PageSt w (pgI s m) 0 from ⟨h.len, fun hg => h.none (by simpa [pgI, pgB] using hg), h.max, ⟨by show (-9223372036854775808 : Int) ≤ (m : Int); omega, by show (m : Int) ≤ 9223372036854775807; omega⟩, ⟨by show (-9223372036854775808 : Int) ≤ -(m : Int); omega, by show -(m : Int) ≤ 9223372036854775807; omega⟩, fun g hg => by
    obtain ⟨C, h1, h2⟩ := h.row g hg
    exact ⟨C, intRow.1 h1, h2, fun h => absurd h (by omega), fun h => absurd h (by omega)⟩⟩
/-- A table whose lists are pages, each apart, from block lo on, up to hi. -/
structure TabPg (w : World) (lo hi : Nat) (rs cs ns es : Sl) (X : List Sl) : Prop where
  n : listE.In w 0 ns X
  nb : ∀ g o, ns.1 = some ⟨g, o, none⟩ → g < hi
  r : PgOk rngE w rs
  c : PgOk intE w cs
  e : PgOk intE w es
  x : ∀ x ∈ X, PgOk intE w x
  lo : ∀ s ∈ rs :: cs :: es :: X, ∀ g, pgB s = some g → lo ≤ g ∧ g < hi
  ap : (rs :: cs :: es :: X).Pairwise (fun s t => ∀ g, pgB s = some g → pgB t ≠ some g)
theorem TabPg.same {w w' : World} {lo hi : Nat} {rs cs ns es : Sl} {X : List Sl} (h : TabPg w lo hi rs cs ns es X) (hc : Chg (fun _ => False) w w') : TabPg w' lo hi rs cs ns es X :=
  ⟨h.n.same hc, h.nb, h.r.same hc, h.c.same hc, h.e.same hc, fun x hx => (h.x x hx).same hc, h.lo, h.ap⟩
theorem TabPg.plain {w : World} {lo hi : Nat} {rs cs ns es : Sl} {X : List Sl} (h : TabPg w lo hi rs cs ns es X) : PlainS rs ∧ PlainS cs ∧ PlainS es ∧ ∀ x ∈ X, PlainS x := ⟨h.r.pl, h.c.pl, h.e.pl, fun x hx => (h.x x hx).pl⟩
theorem rowPages_g : ∀ (X : List Sl) (m : Nat), (rowPages m X).map Page.g = X.map pgB
  | [], _ => rfl
  | x :: X, m => by show _ :: (rowPages (m + 1) X).map Page.g = _ :: X.map pgB; rw [rowPages_g X (m + 1)]; rfl
theorem tabPages_g (n : Nat) (rs cs es : Sl) (X : List Sl) : (tabPages n rs cs es X).map Page.g = (rs :: cs :: es :: X).map pgB := by
  show _ :: _ :: _ :: (rowPages (n + 4) X).map Page.g = _ :: _ :: _ :: X.map pgB
  rw [rowPages_g X (n + 4)]; rfl
theorem TabPg.st {w : World} {lo hi : Nat} {rs cs ns es : Sl} {X : List Sl} (h : TabPg w lo hi rs cs ns es X) {n : Nat} (hn : n + X.length ≤ 1000) : ∀ p ∈ tabPages n rs cs es X, p.St w 0 := fun p hp => by
  unfold tabPages at hp
  simp only [List.mem_cons] at hp
  rcases hp with rfl | rfl | rfl | hp
  · exact h.r.rSt (by omega)
  · exact h.c.iSt (by omega)
  · exact h.e.iSt (by omega)
  · obtain ⟨k, hk⟩ := List.getElem?_of_mem hp
    obtain ⟨x, h1, rfl⟩ := rowPages_get X (n + 4) k p hk
    exact (h.x x (List.mem_of_getElem? h1)).iSt (by have := (List.getElem?_eq_some_iff.1 h1).1; omega)
theorem TabPg.lo' {w : World} {lo hi : Nat} {rs cs ns es : Sl} {X : List Sl} (h : TabPg w lo hi rs cs ns es X) (n : Nat) : ∀ p ∈ tabPages n rs cs es X, ∀ g, p.g = some g → lo ≤ g ∧ g < hi := fun p hp g hg => by
  have h1 : p.g ∈ (rs :: cs :: es :: X).map pgB := by rw [← tabPages_g n]; exact List.mem_map_of_mem hp
  obtain ⟨s, h2, h3⟩ := List.mem_map.1 h1
  exact h.lo s h2 g (h3.trans hg)
theorem apartL_of {L : List Page} (h : (L.map Page.g).Pairwise (fun a b => ∀ g, a = some g → b ≠ some g)) : ApartL L := fun i j p q hp hq hij g hg hg2 => by
  rw [List.pairwise_map, List.pairwise_iff_getElem] at h
  obtain ⟨h1, rfl⟩ := List.getElem?_eq_some_iff.1 hp
  obtain ⟨h2, rfl⟩ := List.getElem?_eq_some_iff.1 hq
  rcases Nat.lt_or_gt_of_ne hij with hl | hl
  · exact h i j h1 h2 hl g hg hg2
  · exact h j i h2 h1 hl g hg2 hg
/-- The pages of two tables. -/
theorem pages_two {w : World} {la ha lu hu : Nat} {rs cs ns es rs' cs' ns' es' : Sl} {X X' : List Sl} (h : TabPg w la ha rs cs ns es X) (h' : TabPg w lu hu rs' cs' ns' es' X') (hh : hu ≤ la) {n : Nat} (hn : n + X'.length ≤ 1000) (hX : X.length ≤ 900) :
    Pages w (tabPages 0 rs cs es X ++ tabPages n rs' cs' es' X') 0 0 ∧ ApartL (tabPages 0 rs cs es X ++ tabPages n rs' cs' es' X') ∧ ∀ p ∈ tabPages 0 rs cs es X ++ tabPages n rs' cs' es' X', ∀ g, p.g = some g → g < max ha hu := by
  refine ⟨fun k p hp => ?_, apartL_of ?_, fun p hp g hg => ?_⟩
  · rw [if_neg (by omega)]
    rcases List.mem_append.1 (List.mem_of_getElem? hp) with h1 | h1
    · exact h.st (by omega) p h1
    · exact h'.st hn p h1
  · rw [List.map_append, tabPages_g, tabPages_g, List.pairwise_append]
    refine ⟨List.pairwise_map.2 h.ap, List.pairwise_map.2 h'.ap, fun a ha b hb g hg hg2 => ?_⟩
    obtain ⟨s, h1, rfl⟩ := List.mem_map.1 ha
    obtain ⟨u, h2, rfl⟩ := List.mem_map.1 hb
    have := h.lo s h1 g hg
    have := h'.lo u h2 g hg2
    omega
  · rcases List.mem_append.1 hp with h1 | h1
    · have := h.lo' 0 p h1 g hg; omega
    · have := h'.lo' n p h1 g hg; omega
/-- The lists of a table of one's own. -/
theorem OwnT.pgs {w : World} {B : Nat} {τ : Nat → Nat} {rs cs ns es : Sl} {t : TabD} (h : OwnT w B τ rs cs ns es t) : ∃ X : List Sl, X.length = t.n.length ∧ TabPg w B w.heap.size rs cs ns es X := by
  obtain ⟨X, h1, h2, h3⟩ := h.n.x
  have hX : ∀ (j : Nat) x, X[j]? = some x → ∃ l, TOwn intE w B τ (10 + j) (slV x) l := fun j x hj => by
    have := (List.getElem?_eq_some_iff.1 hj).1
    exact ⟨_, h3 j x _ hj (List.getElem?_eq_getElem (by omega))⟩
  have tg : ∀ {α : Type} {E : Elt α} {k : Nat} {s : Sl} {L : List α}, TOwn E w B τ k (slV s) L → ∀ g, pgB s = some g → τ g = k ∧ B ≤ g ∧ g < w.heap.size := fun h g hg => by
    rw [pgB_own] at hg
    exact ⟨h.tag g hg, (h.own.blk hg).1, (h.own.blk hg).2⟩
  have hXm : ∀ x ∈ X, ∃ (j : Nat) (l : List Int), TOwn intE w B τ (10 + j) (slV x) l := fun x hx => by
    obtain ⟨j, hj⟩ := List.getElem?_of_mem hx
    obtain ⟨l, hl⟩ := hX j x hj
    exact ⟨j, l, hl⟩
  refine ⟨X, h2, h1.own.inS.lower (Nat.zero_le _), fun g o hg => ?_, h.r.own.pg, h.c.own.pg, h.e.own.pg, fun x hx => ?_, fun s hs g hg => ?_, ?_⟩
  · have : pgB ns = some g := by rw [pgB, hg]; rfl
    exact (tg h1 g this).2.2
  · obtain ⟨j, l, hl⟩ := hXm x hx
    exact hl.own.pg
  · simp only [List.mem_cons] at hs
    rcases hs with rfl | rfl | rfl | hs
    · exact (tg h.r g hg).2
    · exact (tg h.c g hg).2
    · exact (tg h.e g hg).2
    · obtain ⟨j, l, hl⟩ := hXm s hs
      exact (tg hl g hg).2
  · refine List.pairwise_cons.2 ⟨fun s hs g hg hg2 => ?_, List.pairwise_cons.2 ⟨fun s hs g hg hg2 => ?_, List.pairwise_cons.2 ⟨fun s hs g hg hg2 => ?_, ?_⟩⟩⟩
    · have e1 := (tg h.r g hg).1
      simp only [List.mem_cons] at hs
      rcases hs with rfl | rfl | hs
      · have := (tg h.c g hg2).1; omega
      · have := (tg h.e g hg2).1; omega
      · obtain ⟨j, l, hl⟩ := hXm s hs
        have := (tg hl g hg2).1; omega
    · have e1 := (tg h.c g hg).1
      simp only [List.mem_cons] at hs
      rcases hs with rfl | hs
      · have := (tg h.e g hg2).1; omega
      · obtain ⟨j, l, hl⟩ := hXm s hs
        have := (tg hl g hg2).1; omega
    · have e1 := (tg h.e g hg).1
      obtain ⟨j, l, hl⟩ := hXm s hs
      have := (tg hl g hg2).1; omega
    · rw [List.pairwise_iff_getElem]
      intro i j hi hj hij g hg hg2
      obtain ⟨l1, hl1⟩ := hX i _ (List.getElem?_eq_getElem hi)
      obtain ⟨l2, hl2⟩ := hX j _ (List.getElem?_eq_getElem hj)
      have e1 := (tg hl1 g hg).1
      have e2 := (tg hl2 g hg2).1
      omega
/-- The lists of a twin. -/
theorem TwT.pgs {w : World} {B : Nat} {rs cs ns es : Sl} {t : TabD} (h : TwT w B rs cs ns es t) (hf : Fair t) : ∃ X : List Sl, X.length = t.n.length ∧ TabPg w B w.heap.size rs cs ns es X := by
  obtain ⟨X, h1, h2, h3, hs, h4, h5⟩ := h.n
  have hX : ∀ (j : Nat) x, X[j]? = some x → ∃ l, t.n[j]? = some l ∧ Mrk intE w B x l (-77) := fun j x hj => by
    have := (List.getElem?_eq_some_iff.1 hj).1
    exact ⟨_, List.getElem?_eq_getElem (by omega), h3 j x _ hj (List.getElem?_eq_getElem (by omega))⟩
  have hXm : ∀ x ∈ X, ∃ (l : List Int), l ∈ t.n ∧ Mrk intE w B x l (-77) := fun x hx => by
    obtain ⟨j, hj⟩ := List.getElem?_of_mem hx
    obtain ⟨l, hl, hm⟩ := hX j x hj
    exact ⟨l, List.mem_of_getElem? hl, hm⟩
  have tg : ∀ {α : Type} {E : Elt α} {s : Sl} {L : List α} {m : α}, Mrk E w B s L m → ∀ g, pgB s = some g → B ≤ g ∧ g < w.heap.size := fun h g hg => by
    obtain ⟨g', rfl, k1, k2⟩ := h
    obtain rfl : g' = g := by simpa [pgB] using hg
    exact ⟨k1, k2.lt⟩
  refine ⟨X, h2, h1.inS.lower (Nat.zero_le _), fun g o hg => ?_, h.r.pg (by have := hf.r; omega), h.c.pg (by have := hf.c; omega), h.e.pg (by have := hf.e; omega), fun x hx => ?_, fun s hs g hg => ?_, ?_⟩
  · have : pgB ns = some g := by rw [pgB, hg]; rfl
    rw [pgB_own] at this
    exact (h1.blk this).2
  · obtain ⟨l, hl, hm⟩ := hXm x hx
    exact hm.pg (by have := hf.l l hl; omega)
  · simp only [List.mem_cons] at hs
    rcases hs with rfl | rfl | rfl | hs
    · exact tg h.r g hg
    · exact tg h.c g hg
    · exact tg h.e g hg
    · obtain ⟨l, hl, hm⟩ := hXm s hs
      exact tg hm g hg
  · have e1 : (rs :: cs :: es :: X).map pgB = hs.map some := by
      have : (rs :: cs :: es :: X).map pgB = ((rs :: cs :: es :: X).map (fun s => s.1)).map (fun a => a.map fun a => a.block) := by rw [List.map_map]; rfl
      rw [this, h4, List.map_map]
      rfl
    have e2 : ((rs :: cs :: es :: X).map pgB).Pairwise (fun a b => ∀ g, a = some g → b ≠ some g) := by
      rw [e1, List.pairwise_map]
      refine h5.imp ?_
      rintro a b hab g e1 e2
      injection e1 with e1
      injection e2 with e2
      omega
    exact List.pairwise_map.1 e2
end Go.Proofs.Ytodohgckncnipaa
