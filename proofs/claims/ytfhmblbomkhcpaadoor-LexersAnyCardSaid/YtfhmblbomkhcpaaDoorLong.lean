/- What begins at a place: the document's Longest. -/
import Derived.Test.YtfhmblbomkhcpaaDoorDecS
import Derived.Test.YtfhmblbomkhcpaaDoorRefMayT
namespace Go.Proofs.YtfhmblbomkhcpaaDoor
open Go.RowKit

def boolE : Elt Bool where
  enc := fun b => [.bool b]
  sz := 1
  bs := 1
  e := 4
  sl := 27
  z := false
  zv := .bool false
  ok := fun _ => True
  pos := by omega
  len := fun _ => rfl
  one := fun a u hu => by
    simp only [List.mem_cons, List.not_mem_nil, or_false] at hu
    subst hu; rfl
  zok := trivial
  info := by kernel_rfl
  zc := rfl
  und := by kernel_rfl
  bsl := by omega
theorem Elt.In.getB {w : World} {B : Nat} {a : Option Addr} {n c : Nat} {L : List Bool} (h : boolE.In w B (a, n, c) L) {k : Nat} (hk : k < L.length) :
    ∃ (x : Bool) (g o : Nat), L[k]? = some x ∧ a = some ⟨g, o, none⟩ ∧ w.cell? ⟨g, o + k, none⟩ = some (.bool x) ∧ B ≤ g ∧ g < w.heap.size := by
  obtain ⟨h1, h2, g, o, h3, h4⟩ := h
  have hx : L[k]? = some L[k] := List.getElem?_eq_getElem hk
  have hc := h3.get hx (i := 0) (u := .bool L[k]) rfl
  rw [Nat.add_zero, show boolE.sz = 1 from rfl, Nat.mul_one] at hc
  obtain ⟨h5, h6⟩ := h4 (by omega)
  exact ⟨L[k], g, o, hx, h5, hc, h6, h3.lt (by intro e; rw [e] at hk; simp at hk)⟩
/-- A lexer in memory: a table, what is dropped. -/
structure LexAt (w : World) (b B : Nat) (rs cs ns es ds : Sl) (t : TabD) (d : List Bool) : Prop where
  c : (w.cell? ⟨b, 0, none⟩ = some (slV rs) ∧ w.cell? ⟨b, 1, none⟩ = some (slV cs) ∧ w.cell? ⟨b, 2, none⟩ = some (slV ns) ∧ w.cell? ⟨b, 3, none⟩ = some (slV es) ∧ w.cell? ⟨b, 4, none⟩ = some (slV ds))
  tab : TabIn w B rs cs ns es t
  drop : boolE.In w B ds d
theorem LexAt.chgB {S : Nat → Prop} {w w' : World} {b B : Nat} {rs cs ns es ds : Sl} {t : TabD} {d : List Bool} (h : LexAt w b B rs cs ns es ds t d) (hc : Chg S w w') (hb : ¬ S b) (hs : ∀ g, B ≤ g → ¬ S g) : LexAt w' b B rs cs ns es ds t d :=
  ⟨⟨hc.cellS h.c.1 hb, hc.cellS h.c.2.1 hb, hc.cellS h.c.2.2.1 hb, hc.cellS h.c.2.2.2.1 hb, hc.cellS h.c.2.2.2.2 hb⟩, h.tab.chgB hc hs, h.drop.chgB hc hs⟩
theorem LexAt.same {w w' : World} {b B : Nat} {rs cs ns es ds : Sl} {t : TabD} {d : List Bool} (h : LexAt w b B rs cs ns es ds t d) (hc : Chg (fun _ => False) w w') : LexAt w' b B rs cs ns es ds t d := h.chgB hc (fun h => h) (fun _ _ h => h)

theorem endAt_get {t : TabD} {st : Nat} {e : Int} (h : t.e[st]? = some e) : endAt t st = e := by
  unfold endAt
  rw [Int.toNat_natCast, List.getD_eq_getElem?_getD, h]
  rfl
theorem decV_none {s : ByteArray} {i : Nat} (h : decU s i = none) : decV s i = .tuple #[.int .i32 0, .int .i64 1, .bool false] := by unfold decV; rw [h]
theorem decV_some {s : ByteArray} {i c n : Nat} (h : decU s i = some (c, n)) : decV s i = .tuple #[.int .i32 c, .int .i64 n, .bool true] := by unfold decV; rw [h]
set_option maxRecDepth 100000 in
set_option maxHeartbeats 4000000 in
theorem refLong_any (b B : Nat) (rs cs ns es ds : Sl) (t : TabD) (d : List Bool) (s : ByteArray) (x : Int) (w : World) (h : LexAt w b B rs cs ns es ds t d) (hf : Fair t) (hm : MayS t) (hs : s.size ≤ 1000000000000) (hx : I.Byte x) :
    Calls Tryd.prog 15 #[.pointer (some ⟨b, 0, none⟩), .string s, .int .i64 x] w fun e w' => e = .returned (.tuple #[.int .i64 (longL t s x).1, .int .i64 (longL t s x).2]) ∧ Chg (fun _ => False) w w' := by
  obtain ⟨ra, rn, rc⟩ := rs
  obtain ⟨ca, cn, cc⟩ := cs
  obtain ⟨na, nn, nc⟩ := ns
  obtain ⟨ea, en, ec⟩ := es
  have HLX := Lib.hid h
  have HF := Lib.hid hf
  have HM := Lib.hid hm
  obtain ⟨rfl, hc1⟩ := h.tab.e.len
  have hel : Hid (t.e.length = t.n.length) := Lib.hid hm.el
  have hfe := hf.e
  obtain ⟨hx0, hx1⟩ := hx
  clear h hf hm
  by_cases h0 : x < 0
  · have d0 : decide (x < 0) = true := by simpa using h0
    have HR : Hid (longL t s x = (-1, 0)) := Lib.hid (by unfold longL; rw [if_pos h0])
    go_enter Tryd.func15, Tryd.ntmps15
    go_wp2
    go_ret2
    exact ⟨by rw [HR.out]; rfl, Chg.refl _ _⟩
  · have d0 : decide (x < 0) = false := by simpa using h0
    obtain ⟨a, rfl⟩ : ∃ a : Nat, x = a := ⟨x.toNat, by omega⟩
    have HR0 : Hid (longL t s a = longG t s a a 0 (-1, 0)) := Lib.hid (by unfold longL; rw [if_neg h0]; rfl)
    by_cases ha : a < s.size
    · go_enter Tryd.func15, Tryd.ntmps15
      go_wp2
      go_loopw [8, 9, 10, 11] (fun kv zv sv q wr => ∃ (i : Nat) (st k z : Int), a ≤ i ∧ i ≤ s.size ∧ q = .int .i64 i ∧ sv = .int .i64 st ∧ kv = .int .i64 k ∧ zv = .int .i64 z ∧ (0 ≤ st ∧ st < t.n.length) ∧ longL t s a = longG t s a i st (k, z) ∧ Chg (fun _ => False) w wr) (fun _ _ _ q _ => s.size - (intOf q).toNat)
      case atStart => exact ⟨a, 0, -1, 0, by omega, by omega, rfl, rfl, rfl, rfl, ⟨by omega, by have := HM.out.nl; omega⟩, HR0.out, Chg.refl _ _⟩
      case round =>
        obtain ⟨i, st, k, z, hai, hi, rfl, rfl, rfl, rfl, ⟨hst0, hst1⟩, hr, hc⟩ := hrel
        have HR := Lib.hid hr
        have HC := Lib.hid hc
        clear hr hc HR0
        by_cases his : i < s.size
        · have b1 : decide ((i : Int) < (s.size : Int)) = true := by simp; omega
          have HD := Lib.hid (refDecode_in s i wr his hs)
          cases hd : decU s i with
          | none =>
            have HRF : Hid (longL t s a = (k, z)) := Lib.hid (by rw [HR.out, longG_bad hd])
            rw [decV_none hd] at HD
            clear hd
            go_wp2_with fail
            refine HD.out.mono ?_
            rintro e w1 ⟨rfl, hc⟩
            have HC1 := Lib.hid (HC.out.trans hc)
            clear hc HD
            go_wp2
            go_ret2
            exact ⟨by rw [HRF.out]; rfl, HC1.out⟩
          | some p =>
            obtain ⟨c, n⟩ := p
            obtain ⟨-, hn1, hn4, hin, hc4, -, -⟩ := decU_some his hd
            have HST := longG_step (t := t) (a := a) (st := st) (ks := (k, z)) his hd
            have HRN := Lib.hid (HR.out.trans HST)
            rw [decV_some hd] at HD
            clear hd HST
            obtain ⟨y, hy⟩ : ∃ y, stepT t st c = y := ⟨_, rfl⟩
            have hyb := stepT_lt HM.out st c
            rw [hy] at HRN hyb
            have HY := Lib.hid hy
            clear hy
            by_cases hy0 : y < 0
            · have d1 : decide (y < 0) = true := by simpa using hy0
              have HRF : Hid (longL t s a = (k, z)) := Lib.hid (by rw [HRN.out, if_pos hy0])
              clear hy0
              go_wp2_with fail
              refine HD.out.mono ?_
              rintro e w1 ⟨rfl, hc⟩
              have HC1 := Lib.hid (HC.out.trans hc)
              clear hc HD
              obtain ⟨⟨q0, q1, q2, q3, -⟩, -, -⟩ := HLX.out.same HC1.out
              unfold slV at q0 q1 q2 q3
              simp only at q0 q1 q2 q3
              go_wp2_with fail
              refine (refStep_any t (ra, rn, rc) (ca, cn, cc) (na, nn, nc) (ea, t.e.length, ec) B st c w1 (HLX.out.same HC1.out).tab HF.out ⟨by omega, by have := HF.out.n; omega⟩).mono ?_
              rintro e w2 ⟨rfl, hc⟩
              rw [HY.out]
              have HC2 := Lib.hid (HC1.out.trans hc)
              clear hc
              go_wp2
              go_ret2
              exact ⟨by rw [HRF.out]; rfl, HC2.out⟩
            · have d1 : decide (y < 0) = false := by simpa using hy0
              obtain ⟨sy, rfl⟩ : ∃ sy : Nat, y = sy := ⟨y.toNat, by omega⟩
              have hse : sy < t.e.length := by rw [hel.out]; omega
              have HRG := Lib.hid (HRN.out.trans (if_neg hy0))
              clear hy0 HRN
              go_wp2_with fail
              refine HD.out.mono ?_
              rintro e w1 ⟨rfl, hc⟩
              have HC1 := Lib.hid (HC.out.trans hc)
              clear hc HD
              obtain ⟨⟨q0, q1, q2, q3, -⟩, -, -⟩ := HLX.out.same HC1.out
              unfold slV at q0 q1 q2 q3
              simp only at q0 q1 q2 q3
              go_wp2_with fail
              refine (refStep_any t (ra, rn, rc) (ca, cn, cc) (na, nn, nc) (ea, t.e.length, ec) B st c w1 (HLX.out.same HC1.out).tab HF.out ⟨by omega, by have := HF.out.n; omega⟩).mono ?_
              rintro e w2 ⟨rfl, hc⟩
              rw [HY.out]
              have HC2 := Lib.hid (HC1.out.trans hc)
              clear hc q0 q1 q2 q3
              obtain ⟨⟨q0, q1, q2, q3, -⟩, hTab, -⟩ := HLX.out.same HC2.out
              unfold slV at q0 q1 q2 q3
              simp only at q0 q1 q2 q3
              obtain ⟨ev, ge, oe, hev, rfl, e0, ev0, ev1, -, -⟩ := hTab.e.getI hse
              have HEV : Hid (endAt t sy = ev) := Lib.hid (endAt_get hev)
              rw [HEV.out] at HRG
              clear hev hTab
              by_cases hev0 : 0 ≤ ev
              · have d2 : decide (0 ≤ ev) = true := by simpa using hev0
                have HRX : Hid (longL t s a = longG t s a (i + n) sy (ev, (i : Int) + n - a)) := Lib.hid (by rw [HRG.out, if_pos hev0, Int.natCast_add])
                clear HRG hev0
                go_wp2
                go_roundw
                case rel => exact ⟨i + n, sy, ev, (i : Int) + n - a, by omega, by omega, by go_num, rfl, rfl, rfl, ⟨by omega, by omega⟩, HRX.out, HC2.out⟩
                case measure => simp [intOf]; omega
              · have d2 : decide (0 ≤ ev) = false := by simpa using hev0
                have HRX : Hid (longL t s a = longG t s a (i + n) sy (k, z)) := Lib.hid (by rw [HRG.out, if_neg hev0])
                clear HRG hev0
                go_wp2
                go_roundw
                case rel => exact ⟨i + n, sy, k, z, by omega, by omega, by go_num, rfl, rfl, rfl, ⟨by omega, by omega⟩, HRX.out, HC2.out⟩
                case measure => simp [intOf]; omega
        · obtain rfl : i = s.size := by omega
          have b1 : decide ((s.size : Int) < (s.size : Int)) = false := by simp
          have HRF : Hid (longL t s a = (k, z)) := Lib.hid (by rw [HR.out, longG_end (Nat.le_refl _)])
          go_wp2
          go_ret2
          exact ⟨by rw [HRF.out]; rfl, HC.out⟩
    · have b1 : decide ((a : Int) < (s.size : Int)) = false := by simp; omega
      have b2 : decide (a < s.size) = false := by simp; omega
      have HRF : Hid (longL t s a = (-1, 0)) := Lib.hid (by rw [HR0.out, longG_end (by omega)])
      go_enter Tryd.func15, Tryd.ntmps15
      go_wp2
      go_loopw [8, 9, 10, 11] (fun kv zv sv q wr => q = .int .i64 a ∧ sv = .int .i64 0 ∧ kv = .int .i64 (-1) ∧ zv = .int .i64 0 ∧ wr = w) (fun _ _ _ _ _ => 0)
      case atStart => exact ⟨rfl, rfl, rfl, rfl, rfl⟩
      case round =>
        obtain ⟨rfl, rfl, rfl, rfl, rfl⟩ := hrel
        go_wp2
        go_ret2
        exact ⟨by rw [HRF.out]; rfl, Chg.refl _ _⟩
end Go.Proofs.YtfhmblbomkhcpaaDoor
