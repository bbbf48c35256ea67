/- Pages of a book: lists of bytes that are written over, each with a mark of its own. -/
import Derived.Test.YtkfakkonlnjckaaTwins
import Derived.Handy
namespace Go.Proofs.Ytkfakkonlnjckaa
open Go.RowKit

/-- A page: its block, length, room, marks. -/
structure Pg where
  g : Option Nat
  len : Nat
  cap : Nat
  mark : Int
  behind : Int
def Pg.v (p : Pg) : Value := .slice (p.g.map fun g => ⟨g, 0, none⟩) p.len p.cap
def Pg.row (p : Pg) : Value := .agg #[p.v, .int .u8 p.mark, .int .u8 p.behind]
/-- How far it is: 1: written over; 2: what stands behind it too. -/
structure PageSt (w : World) (p : Pg) (s : Nat) : Prop where
  len : p.len ≤ p.cap
  none : p.g = none → p.cap = 0
  max : p.cap ≤ 1000000000000
  mark : Byte p.mark
  behind : Byte p.behind
  row : ∀ g, p.g = some g → ∃ C : List Int, Row w g C ∧ C.length = p.cap ∧ (1 ≤ s → ∀ k, k < p.len → C[k]? = some p.mark) ∧ (2 ≤ s → ∀ k, p.len ≤ k → k < p.cap → C[k]? = some p.behind)
theorem PageSt.chg {S : Nat → Prop} {w w' : World} {p : Pg} {s : Nat} (h : PageSt w p s) (hc : Chg S w w') (hs : ∀ g, p.g = some g → ¬ S g) : PageSt w' p s :=
  ⟨h.len, h.none, h.max, h.mark, h.behind, fun g hg => by
    obtain ⟨C, h1, h2⟩ := h.row g hg
    exact ⟨C, h1.chg hc (hs g hg), h2⟩⟩

/-- A row of one's own whose cell k is set. -/
theorem Row.set1 {w : World} {g : Nat} {C : List Int} (h : Row w g C) {k : Nat} (hk : k < C.length) {v : Int} (hv : Byte v) : Row (w.setCell ⟨g, k, none⟩ (.int .u8 v)) g (C.set k v) := by
  refine ⟨fun j a hj => ?_, fun j => (World.frozen?_setCell _ _ _ _).trans (h.z j), Nat.lt_of_lt_of_le h.lt (setCellChg _ _ _ _).size, fun a ha => ?_⟩
  · by_cases he : j = k
    · subst he
      rw [List.getElem?_set_self hk] at hj
      obtain rfl := Option.some.inj hj
      exact World.cell?_setCell_same _ _ _ (h.c j _ (List.getElem?_eq_getElem hk))
    · rw [List.getElem?_set_ne (Ne.symm he)] at hj
      rw [World.cell?_setCell_other _ _ _ _ (by intro e; injection e with _ e; exact he e.symm)]
      exact h.c j a hj
  · rcases List.mem_or_eq_of_mem_set ha with h1 | rfl
    · exact h.byte a h1
    · exact hv

theorem boxPage (w : World) (v : Value) (m bh : Int) (e : TypeId) :
    (w.alloc (.cells #[v, .int .u8 m, .int .u8 bh] e)).cell? ⟨w.heap.size, 0, none⟩ = some v ∧ (w.alloc (.cells #[v, .int .u8 m, .int .u8 bh] e)).cell? ⟨w.heap.size, 1, none⟩ = some (.int .u8 m) ∧ (w.alloc (.cells #[v, .int .u8 m, .int .u8 bh] e)).cell? ⟨w.heap.size, 2, none⟩ = some (.int .u8 bh) := by
  refine ⟨?_, ?_, ?_⟩ <;> · rw [World.cell?_alloc_new]; rfl

set_option maxRecDepth 100000 in
set_option maxHeartbeats 2000000 in
theorem write_any (p : Pg) (w : World) (h : PageSt w p 0) (hlt : ∀ g, p.g = some g → g < w.heap.size) :
    Calls Try.prog 89 #[p.row] w fun e w' => e = .returned (.tuple #[]) ∧ PageSt w' p 1 ∧ Chg (fun x => p.g = some x) w w' := by
  obtain ⟨pg, len, cap, m, bh⟩ := p
  have hmax : cap ≤ 1000000000000 := h.max
  have hlen : len ≤ cap := h.len
  have HNONE : Hid (pg = none → cap = 0) := Lib.hid h.none
  have HM : Hid (Byte m) := Lib.hid h.mark
  have HBH : Hid (Byte bh) := Lib.hid h.behind
  have HLT : Hid (∀ g, pg = some g → g < w.heap.size) := Lib.hid hlt
  have HROW : Hid (∀ g, pg = some g → ∃ C : List Int, Row w g C ∧ C.length = cap) := Lib.hid fun g hg => by
    obtain ⟨C, h1, h2, _⟩ := h.row g hg
    exact ⟨C, h1, h2⟩
  obtain ⟨v, hv⟩ : ∃ v : Value, v = .slice (pg.map fun g => ⟨g, 0, none⟩) len cap := ⟨_, rfl⟩
  have HV := Lib.hid hv
  have HBX := Lib.hid (boxPage w v m bh 99)
  have HC0 := Lib.hid ((Chg.refl (fun x => pg = some x ∨ w.heap.size ≤ x) w).alloc (.cells #[v, .int .u8 m, .int .u8 bh] 99))
  clear h hlt
  show Calls Try.prog 89 #[.agg #[.slice (pg.map fun g => ⟨g, 0, none⟩) len cap, .int .u8 m, .int .u8 bh]] w _
  rw [← hv]
  clear hv
  go_enter Try.func89, Try.ntmps89
  go_wp2
  go_loopw [2] (fun i wr => ∃ k : Nat, k ≤ len ∧ i = .int .i64 k ∧ (wr.cell? ⟨w.heap.size, 0, none⟩ = some v ∧ wr.cell? ⟨w.heap.size, 1, none⟩ = some (.int .u8 m)) ∧ (∀ g, pg = some g → ∃ C : List Int, Row wr g C ∧ C.length = cap ∧ ∀ j, j < k → C[j]? = some m) ∧ Chg (fun x => pg = some x ∨ w.heap.size ≤ x) w wr) (fun i _ => len - (intOf i).toNat)
  case atStart =>
    refine ⟨0, by omega, rfl, ⟨HBX.out.1, HBX.out.2.1⟩, fun g hg => ?_, HC0.out⟩
    obtain ⟨C, h1, h2⟩ := HROW.out g hg
    exact ⟨C, h1.chg ((Chg.refl (fun _ => False) _).alloc _) (fun h => h), h2, fun j hj => absurd hj (Nat.not_lt_zero _)⟩
  case round =>
    clear HBX HC0 HROW
    obtain ⟨k, hk, rfl, ⟨b0, b1⟩, hrow, hc⟩ := hrel
    have HC := Lib.hid hc
    rw [HV.out] at b0
    clear hc
    by_cases hkl : k < len
    · cases pg with
      | none => exact absurd (HNONE.out rfl) (by omega)
      | some g =>
        obtain ⟨C, hR, hCl, hCm⟩ := hrow g rfl
        obtain ⟨y, hy⟩ : ∃ y, C[k]? = some y := ⟨_, List.getElem?_eq_getElem (by omega)⟩
        have hcell := hR.c k y hy
        clear hy
        have hzz := hR.z k
        have HR := Lib.hid (hR.set1 (k := k) (by omega) HM.out)
        have HX : Hid (((wr.setCell ⟨g, k, none⟩ (.int .u8 m)).cell? ⟨w.heap.size, 0, none⟩ = some v ∧ (wr.setCell ⟨g, k, none⟩ (.int .u8 m)).cell? ⟨w.heap.size, 1, none⟩ = some (.int .u8 m)) ∧ (∀ j, j < k + 1 → (C.set k m)[j]? = some m) ∧ Chg (fun x => some g = some x ∨ w.heap.size ≤ x) w (wr.setCell ⟨g, k, none⟩ (.int .u8 m))) := Lib.hid (by
          have hlt := HLT.out g rfl
          refine ⟨⟨?_, ?_⟩, fun j hj => ?_, HC.out.trans ((setCellChg wr g k _).mono (fun x _ e => .inl (by rw [e])))⟩
          · rw [World.cell?_setCell_other _ _ _ _ (by intro e; injection e with e; omega), HV.out]; exact b0
          · rw [World.cell?_setCell_other _ _ _ _ (by intro e; injection e with e; omega)]; exact b1
          · by_cases he : j = k
            · subst he; rw [List.getElem?_set_self (by omega)]
            · rw [List.getElem?_set_ne (Ne.symm he)]; exact hCm j (by omega))
        have hb7 : decide ((k : Int) < (len : Int)) = true := by simp; omega
        have HCL : Hid ((C.set k m).length = cap) := Lib.hid (by rw [List.length_set]; exact hCl)
        clear hR hCm hrow HC hCl
        simp only [Option.map_some] at b0
        go_wp2
        go_roundw
        case rel => exact ⟨k + 1, by omega, by go_num, HX.out.1, (fun g' hg' => by obtain rfl := Option.some.inj hg'; exact ⟨_, HR.out, HCL.out, HX.out.2.1⟩), HX.out.2.2⟩
        case measure => simp [intOf]; omega
    · obtain rfl : k = len := by omega
      have HX : Hid (PageSt wr ⟨pg, k, cap, m, bh⟩ 1) := Lib.hid ⟨hlen, HNONE.out, hmax, HM.out, HBH.out, fun g hg => by
        obtain ⟨C, h1, h2, h3⟩ := hrow g hg
        exact ⟨C, h1, h2, fun _ => h3, fun h => absurd h (by omega)⟩⟩
      have HC2 : Hid (Chg (fun x => pg = some x) w wr) := Lib.hid (HC.out.mono (fun x hx e => e.resolve_right (by omega)))
      clear hrow HC
      go_wp2
      go_end0
      exact ⟨rfl, HX.out, HC2.out⟩

set_option maxRecDepth 100000 in
set_option maxHeartbeats 2000000 in
theorem behind_any (p : Pg) (w : World) (h : PageSt w p 1) (hlt : ∀ g, p.g = some g → g < w.heap.size) :
    Calls Try.prog 90 #[p.row] w fun e w' => e = .returned (.tuple #[]) ∧ PageSt w' p 2 ∧ Chg (fun x => p.g = some x) w w' := by
  obtain ⟨pg, len, cap, m, bh⟩ := p
  have hmax : cap ≤ 1000000000000 := h.max
  have hlen : len ≤ cap := h.len
  have HNONE : Hid (pg = none → cap = 0) := Lib.hid h.none
  have HM : Hid (Byte m) := Lib.hid h.mark
  have HBH : Hid (Byte bh) := Lib.hid h.behind
  have HLT : Hid (∀ g, pg = some g → g < w.heap.size) := Lib.hid hlt
  have HROW : Hid (∀ g, pg = some g → ∃ C : List Int, Row w g C ∧ C.length = cap ∧ ∀ k, k < len → C[k]? = some m) := Lib.hid fun g hg => by
    obtain ⟨C, h1, h2, h3, _⟩ := h.row g hg
    exact ⟨C, h1, h2, h3 (Nat.le_refl _)⟩
  have HC0 := Lib.hid ((Chg.refl (fun x => pg = some x ∨ w.heap.size ≤ x) w).alloc (.cells #[.slice (pg.map fun g => ⟨g, 0, none⟩) len cap, .int .u8 m, .int .u8 bh] 99))
  have HBX := Lib.hid (boxPage w (.slice (pg.map fun g => ⟨g, 0, none⟩) len cap) m bh 99)
  clear h hlt
  show Calls Try.prog 90 #[.agg #[.slice (pg.map fun g => ⟨g, 0, none⟩) len cap, .int .u8 m, .int .u8 bh]] w _
  cases pg with
  | none =>
    obtain rfl : cap = 0 := HNONE.out rfl
    obtain rfl : len = 0 := by omega
    go_enter Try.func90, Try.ntmps90
    go_wp2
    go_loopw [3] (fun i wr => i = .int .i64 0 ∧ Chg (fun x => none = some x ∨ w.heap.size ≤ x) w wr) (fun i _ => 0)
    case atStart => exact ⟨rfl, HC0.out⟩
    case round =>
      obtain ⟨rfl, hc⟩ := hrel
      have HC := Lib.hid hc
      clear hc
      go_wp2
      go_end0
      exact ⟨rfl, ⟨Nat.le_refl _, fun _ => rfl, by simp, HM.out, HBH.out, fun g hg => by cases hg⟩, HC.out.mono (fun x hx e => e.resolve_right (by omega))⟩
  | some g =>
    go_enter Try.func90, Try.ntmps90
    go_wp2
    go_loopw [3] (fun i wr => ∃ k : Nat, len ≤ k ∧ k ≤ cap ∧ i = .int .i64 k ∧ wr.cell? ⟨w.heap.size, 2, none⟩ = some (.int .u8 bh) ∧ (∃ C : List Int, Row wr g C ∧ C.length = cap ∧ (∀ j, j < len → C[j]? = some m) ∧ ∀ j, len ≤ j → j < k → C[j]? = some bh) ∧ Chg (fun x => some g = some x ∨ w.heap.size ≤ x) w wr) (fun i _ => cap - (intOf i).toNat)
    case atStart =>
      obtain ⟨C, h1, h2, h3⟩ := HROW.out g rfl
      exact ⟨len, Nat.le_refl _, hlen, rfl, HBX.out.2.2, ⟨C, h1.chg ((Chg.refl (fun _ => False) _).alloc _) (fun h => h), h2, h3, fun j hj hk => absurd hk (by omega)⟩, HC0.out⟩
    case round =>
      clear HBX HC0 HROW
      obtain ⟨k, hk0, hk, rfl, b2, ⟨C, hR, hCl, hCm, hCb⟩, hc⟩ := hrel
      have HC := Lib.hid hc
      clear hc
      by_cases hkl : k < cap
      · obtain ⟨y, hy⟩ : ∃ y, C[k]? = some y := ⟨_, List.getElem?_eq_getElem (by omega)⟩
        have hcell := hR.c k y hy
        clear hy
        have hzz := hR.z k
        have HR := Lib.hid (hR.set1 (k := k) (by omega) HBH.out)
        have HX : Hid ((wr.setCell ⟨g, k, none⟩ (.int .u8 bh)).cell? ⟨w.heap.size, 2, none⟩ = some (.int .u8 bh) ∧ (∀ j, j < len → (C.set k bh)[j]? = some m) ∧ (∀ j, len ≤ j → j < k + 1 → (C.set k bh)[j]? = some bh) ∧ Chg (fun x => some g = some x ∨ w.heap.size ≤ x) w (wr.setCell ⟨g, k, none⟩ (.int .u8 bh))) := Lib.hid (by
          have hlt := HLT.out g rfl
          refine ⟨?_, fun j hj => ?_, fun j hj hjk => ?_, HC.out.trans ((setCellChg wr g k _).mono (fun x _ e => .inl (by rw [e])))⟩
          · rw [World.cell?_setCell_other _ _ _ _ (by intro e; injection e with e; omega)]; exact b2
          · rw [List.getElem?_set_ne (by omega)]; exact hCm j hj
          · by_cases he : j = k
            · subst he; rw [List.getElem?_set_self (by omega)]
            · rw [List.getElem?_set_ne (Ne.symm he)]; exact hCb j hj (by omega))
        have hb7 : decide ((k : Int) < (cap : Int)) = true := by simp; omega
        have HCL : Hid ((C.set k bh).length = cap) := Lib.hid (by rw [List.length_set]; exact hCl)
        clear hR hCm hCb HC hCl
        go_wp2
        go_roundw
        case rel => exact ⟨k + 1, by omega, by omega, by go_num, HX.out.1, ⟨_, HR.out, HCL.out, HX.out.2.1, HX.out.2.2.1⟩, HX.out.2.2.2⟩
        case measure => simp [intOf]; omega
      · obtain rfl : k = cap := by omega
        have HX : Hid (PageSt wr ⟨some g, len, k, m, bh⟩ 2) := Lib.hid ⟨hlen, HNONE.out, hmax, HM.out, HBH.out, fun g' hg => by
          obtain rfl := Option.some.inj hg
          exact ⟨C, hR, hCl, fun _ => hCm, fun _ => hCb⟩⟩
        have HC2 : Hid (Chg (fun x => some g = some x) w wr) := Lib.hid (HC.out.mono (fun x hx e => e.resolve_right (by omega)))
        clear hR hCm hCb HC hCl
        go_wp2
        go_end0
        exact ⟨rfl, HX.out, HC2.out⟩

end Go.Proofs.Ytkfakkonlnjckaa
