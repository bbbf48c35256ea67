/- What begins at a place: the program's Longest (printed by wip/gen/longp.py). -/
import Derived.Test.YtfhmblbomkhcpaaDoorLong
import Derived.Lib.OthersKept
import Derived.Deep.LoopGhost
namespace Go.Proofs.YtfhmblbomkhcpaaDoor
open Go.RowKit

theorem Chg.iterAt {S : Nat → Prop} {a w : World} (h : Chg S a w) {k : Nat} (hk : a.heap.size ≤ k) (s : ByteArray) (pos : Nat) : Chg S a (w.iterAt k s pos) :=
  ⟨h.os, h.tape, h.output, by rw [Lib.iterAt_size]; exact h.size, fun j hj hs => (Lib.iterAt_other w k j s pos (by omega)).trans (h.block j hj hs)⟩
theorem there_any (b B : Nat) (rs cs ns es ds : Sl) (t : TabD) (d : List Bool) (w : World) (h : LexAt w b B rs cs ns es ds t d) (hm : 0 < t.n.length) :
    Calls Tryd.prog 34 #[.pointer (some ⟨b, 0, none⟩)] w fun e w' => e = .returned (.bool true) ∧ w = w' := by
  obtain ⟨na, nn, nc⟩ := ns
  obtain ⟨⟨-, -, q2, -, -⟩, hT, -⟩ := h
  obtain ⟨rfl, -⟩ := hT.n.len
  unfold slV at q2
  simp only at q2
  have d1 : decide ((0 : Int) < (t.n.length : Int)) = true := decide_eq_true (by omega)
  have d2 : decide (0 < t.n.length) = true := decide_eq_true hm
  clear hT
  go_enter Tryd.func34, Tryd.ntmps34
  go_wp2
  go_ret
  exact ⟨rfl, rfl⟩

set_option maxRecDepth 100000 in
set_option maxHeartbeats 8000000 in
theorem long_any (b B : Nat) (rs cs ns es ds : Sl) (t : TabD) (d : List Bool) (s : ByteArray) (x : Int) (w : World) (h : LexAt w b B rs cs ns es ds t d) (hf : Fair t) (hm : MayS t) (hT : Tabs w) (hs : s.size ≤ 1000000000000) (hx : I.Byte x) :
    Calls Tryd.prog 14 #[.pointer (some ⟨b, 0, none⟩), .string s, .int .i64 x] w fun e w' => e = .returned (.tuple #[.int .i64 (longL t s x).1, .int .i64 (longL t s x).2]) ∧ Chg (fun _ => False) w w' := by
  obtain ⟨ra, rn, rc⟩ := rs
  obtain ⟨ca, cn, cc⟩ := cs
  obtain ⟨na, nn, nc⟩ := ns
  obtain ⟨ea, en, ec⟩ := es
  have HLX := Lib.hid h
  have HF := Lib.hid hf
  have HM := Lib.hid hm
  have HT := Lib.hid hT
  obtain ⟨rfl, hc1⟩ := h.tab.e.len
  have hel : Hid (t.e.length = t.n.length) := Lib.hid hm.el
  have hfe := hf.e
  obtain ⟨hx0, hx1⟩ := hx
  clear h hf hm hT
  by_cases h0 : x < 0
  · have d0 : decide (x < 0) = true := by simpa using h0
    have HR : Hid (longL t s x = (-1, 0)) := Lib.hid (by unfold longL; rw [if_pos h0])
    go_enter Tryd.func14, Tryd.ntmps14
    go_wp2_with fail
    refine (there_any b B _ _ _ _ ds t d w HLX.out HM.out.nl).mono ?_
    rintro e w0 ⟨rfl, rfl⟩
    go_wp2
    go_ret2
    exact ⟨by rw [HR.out]; rfl, Chg.refl _ _⟩
  · have d0 : decide (x < 0) = false := by simpa using h0
    obtain ⟨a, rfl⟩ : ∃ a : Nat, x = a := ⟨x.toNat, by omega⟩
    have HR0 : Hid (longL t s a = longG t s a a 0 (-1, 0)) := Lib.hid (by unfold longL; rw [if_neg h0]; rfl)
    by_cases ha : a < s.size
    · have d1 : decide ((s.size : Int) ≤ (a : Int)) = false := by simp; omega
      have d1' : decide (s.size ≤ a) = false := by simp; omega
      go_enter Tryd.func14, Tryd.ntmps14
      go_wp2_with fail
      refine (there_any b B _ _ _ _ ds t d w HLX.out HM.out.nl).mono ?_
      rintro e w0 ⟨rfl, rfl⟩
      go_wp2
      go_loopg [6, 7, 8] (s.size - a) (fun gf kv zv sv wr => ∃ (p : Nat) (st k z : Int), a + p ≤ s.size ∧ sv = .int .i64 st ∧ kv = .int .i64 k ∧ zv = .int .i64 z ∧ (0 ≤ st ∧ st < t.n.length) ∧ s.size ≤ a + p + gf ∧ longL t s a = longG t s a (a + p) st (k, z) ∧ wr.heap[w.heap.size]? = some (.stringIter (s.extract a s.size) p) ∧ Chg (fun _ => False) w wr)
      case atStart => exact ⟨0, 0, -1, 0, by omega, rfl, rfl, rfl, ⟨by omega, by have := HM.out.nl; omega⟩, by omega, HR0.out, World.iter_heap w _ 0, (Chg.refl _ w).alloc _⟩
      case round =>
        obtain ⟨p, st, k, z, hp, rfl, rfl, rfl, ⟨hst0, hst1⟩, hfu, hr, hit, hc⟩ := hrel
        have HR := Lib.hid hr
        have HC := Lib.hid hc
        have HIT := Lib.hid hit
        have hsz := Lib.tail_size s a
        have HSZ := Lib.hid hsz
        by_cases hps : a + p < s.size
        · have hnx0 : ∀ ty, (Instr.next (.pointer (some ⟨w.heap.size, 0, none⟩)) true ty).run Tryd.prog wr = _ := fun ty => Lib.run_next_any_at wr w.heap.size (s.extract a s.size) p ty hit (by omega)
          rw [Lib.tail_decode] at hnx0
          have hitW := Lib.iterAt_heap wr w.heap.size (s.extract a s.size) p (p + (Utf8.decode s (a + p)).2) hit
          have HDG := Lib.hid (decodeGo_at (s := s) (i := a + p) hps)
          have hcw0 := (HC.out.iterAt (k := w.heap.size) (Nat.le_refl _) (s.extract a s.size) (p + (Utf8.decode s (a + p)).2))
          clear hr hc hit hsz HR0
          cases hd : decU s (a + p) with
          | none =>
            have HRF : Hid (longL t s a = (k, z)) := Lib.hid (by rw [HR.out, longG_bad hd])
            rw [decU_no hd] at hnx0 hitW HDG hcw0
            obtain ⟨W, hW⟩ : ∃ W, wr.iterAt w.heap.size (s.extract a s.size) (p + ((65533, 1) : Nat × Nat).2) = W := ⟨_, rfl⟩
            rw [hW] at hnx0 hitW hcw0
            have HCW0 := Lib.hid hcw0
            have hnx := fun ty => hnx0 ty
            have HRL : Hid (Lib.runeLen ((65533 : Nat) : Int) = 3) := Lib.hid rfl
            clear hd hW hnx0 hitW hcw0
            go_wp2_with fail
            refine (runeLen_any ((65533 : Nat) : Int) W).mono ?_
            rintro e w3 ⟨rfl, rfl⟩
            rw [HRL.out]
            go_wp2_with fail
            refine (decode_any (s.extract (a + p) s.size) W (HT.out.same HCW0.out)).mono ?_
            rintro e w4 ⟨rfl, hc⟩
            rw [HDG.out]
            have HC4 := Lib.hid (HCW0.out.trans hc)
            clear hc
            go_wp2
            go_ret2
            exact ⟨by rw [HRF.out]; rfl, HC4.out⟩
          | some pc =>
            obtain ⟨c, n⟩ := pc
            obtain ⟨hu, hn1, hn4, hin, hc4, hcn, hcl⟩ := decU_some hps hd
            have HST := longG_step (t := t) (a := a) (st := st) (ks := (k, z)) hps hd
            have HRN := Lib.hid (HR.out.trans HST)
            rw [hu] at hnx0 hitW HDG hcw0
            obtain ⟨W, hW⟩ : ∃ W, wr.iterAt w.heap.size (s.extract a s.size) (p + ((c, n) : Nat × Nat).2) = W := ⟨_, rfl⟩
            rw [hW] at hnx0 hitW hcw0
            have HCW0 := Lib.hid hcw0
            have HITW := Lib.hid hitW
            have HLTW := Lib.hid (Array.getElem?_eq_some_iff.1 hitW).1
            have hnx := fun ty => hnx0 ty
            clear hd HST hu hW hnx0 hitW hcw0
            obtain ⟨y, hy⟩ : ∃ y, stepT t st c = y := ⟨_, rfl⟩
            have hyb := stepT_lt HM.out st c
            rw [hy] at HRN hyb
            have HY := Lib.hid hy
            clear hy
            by_cases hc : c = 65533
            · subst hc
              have d5 : ((n : Int) == 1) = false := by simp; omega
              have HRL : Hid (Lib.runeLen ((65533 : Nat) : Int) = 3) := Lib.hid rfl
              have d6 : (((65533 : Nat) : Int) == 65533) = true := rfl
              clear hcn hcl
              by_cases hy0 : y < 0
              · have d1 : decide (y < 0) = true := by simpa using hy0
                have HRF : Hid (longL t s a = (k, z)) := Lib.hid (by rw [HRN.out, if_pos hy0])
                clear hy0
                go_wp2_with fail
                refine (runeLen_any ((65533 : Nat) : Int) W).mono ?_
                rintro e w3 ⟨rfl, rfl⟩
                rw [HRL.out]
                go_wp2_with fail
                refine (decode_any (s.extract (a + p) s.size) W (HT.out.same HCW0.out)).mono ?_
                rintro e w4 ⟨rfl, hc⟩
                rw [HDG.out]
                have HC4 := Lib.hid (HCW0.out.trans hc)
                have HIT4 := Lib.hid ((hc.block _ HLTW.out (fun h => h)).trans HITW.out)
                clear hc
                obtain ⟨⟨q0, q1, q2, q3, -⟩, -, -⟩ := HLX.out.same HC4.out
                unfold slV at q0 q1 q2 q3
                simp only at q0 q1 q2 q3
                go_wp2_with fail
                refine (step_any t (ra, rn, rc) (ca, cn, cc) (na, nn, nc) (ea, t.e.length, ec) B st ((65533 : Nat) : Int) w4 (HLX.out.same HC4.out).tab HF.out ⟨by omega, by have := HF.out.n; omega⟩).mono ?_
                rintro e w5 ⟨rfl, hc⟩
                rw [HY.out]
                have HC5 := Lib.hid (HC4.out.trans hc)
                have HIT5 := Lib.hid ((hc.block _ (Array.getElem?_eq_some_iff.1 HIT4.out).1 (fun h => h)).trans HIT4.out)
                clear hc q0 q1 q2 q3
                go_wp2
                go_ret2
                exact ⟨by rw [HRF.out]; rfl, HC5.out⟩
              · have d1 : decide (y < 0) = false := by simpa using hy0
                obtain ⟨sy, rfl⟩ : ∃ sy : Nat, y = sy := ⟨y.toNat, by omega⟩
                have hse : sy < t.e.length := by rw [hel.out]; omega
                have HRG := Lib.hid (HRN.out.trans (if_neg hy0))
                clear hy0 HRN
                go_wp2_with fail
                refine (runeLen_any ((65533 : Nat) : Int) W).mono ?_
                rintro e w3 ⟨rfl, rfl⟩
                rw [HRL.out]
                go_wp2_with fail
                refine (decode_any (s.extract (a + p) s.size) W (HT.out.same HCW0.out)).mono ?_
                rintro e w4 ⟨rfl, hc⟩
                rw [HDG.out]
                have HC4 := Lib.hid (HCW0.out.trans hc)
                have HIT4 := Lib.hid ((hc.block _ HLTW.out (fun h => h)).trans HITW.out)
                clear hc
                obtain ⟨⟨q0, q1, q2, q3, -⟩, -, -⟩ := HLX.out.same HC4.out
                unfold slV at q0 q1 q2 q3
                simp only at q0 q1 q2 q3
                go_wp2_with fail
                refine (step_any t (ra, rn, rc) (ca, cn, cc) (na, nn, nc) (ea, t.e.length, ec) B st ((65533 : Nat) : Int) w4 (HLX.out.same HC4.out).tab HF.out ⟨by omega, by have := HF.out.n; omega⟩).mono ?_
                rintro e w5 ⟨rfl, hc⟩
                rw [HY.out]
                have HC5 := Lib.hid (HC4.out.trans hc)
                have HIT5 := Lib.hid ((hc.block _ (Array.getElem?_eq_some_iff.1 HIT4.out).1 (fun h => h)).trans HIT4.out)
                clear hc q0 q1 q2 q3
                obtain ⟨⟨q0, q1, q2, q3, -⟩, hTab, -⟩ := HLX.out.same HC5.out
                unfold slV at q0 q1 q2 q3
                simp only at q0 q1 q2 q3
                obtain ⟨ev, ge, oe, hev, rfl, e0, ev0, ev1, -, -⟩ := hTab.e.getI hse
                have HEV : Hid (endAt t sy = ev) := Lib.hid (endAt_get hev)
                rw [HEV.out] at HRG
                clear hev hTab
                by_cases hev0 : 0 ≤ ev
                · have d2 : decide (0 ≤ ev) = true := by simpa using hev0
                  have HRX : Hid (longL t s a = longG t s a (a + (p + n)) sy (ev, (p : Int) + n)) := Lib.hid (by
                    rw [HRG.out, if_pos hev0, Nat.add_assoc]
                    congr 2
                    omega)
                  clear HRG hev0
                  go_wp2
                  go_roundg (gk - 1)
                  case measure => omega
                  case rel => exact ⟨p + n, sy, ev, (p : Int) + n, by omega, rfl, rfl, rfl, ⟨by omega, by omega⟩, by omega, HRX.out, HIT5.out, HC5.out⟩
                · have d2 : decide (0 ≤ ev) = false := by simpa using hev0
                  have HRX : Hid (longL t s a = longG t s a (a + (p + n)) sy (k, z)) := Lib.hid (by rw [HRG.out, if_neg hev0, Nat.add_assoc])
                  clear HRG hev0
                  go_wp2
                  go_roundg (gk - 1)
                  case measure => omega
                  case rel => exact ⟨p + n, sy, k, z, by omega, rfl, rfl, rfl, ⟨by omega, by omega⟩, by omega, HRX.out, HIT5.out, HC5.out⟩
            · have d6 : ((c : Int) == 65533) = false := by simp; omega
              have HRL : Hid (Lib.runeLen (c : Int) = n) := Lib.hid (hcl hc)
              clear hc hcn hcl
              by_cases hy0 : y < 0
              · have d1 : decide (y < 0) = true := by simpa using hy0
                have HRF : Hid (longL t s a = (k, z)) := Lib.hid (by rw [HRN.out, if_pos hy0])
                clear hy0
                go_wp2_with fail
                refine (runeLen_any (c : Int) W).mono ?_
                rintro e w3 ⟨rfl, rfl⟩
                rw [HRL.out]
                obtain ⟨⟨q0, q1, q2, q3, -⟩, -, -⟩ := HLX.out.same HCW0.out
                unfold slV at q0 q1 q2 q3
                simp only at q0 q1 q2 q3
                go_wp2_with fail
                refine (step_any t (ra, rn, rc) (ca, cn, cc) (na, nn, nc) (ea, t.e.length, ec) B st c W (HLX.out.same HCW0.out).tab HF.out ⟨by omega, by have := HF.out.n; omega⟩).mono ?_
                rintro e w5 ⟨rfl, hc⟩
                rw [HY.out]
                have HC5 := Lib.hid (HCW0.out.trans hc)
                have HIT5 := Lib.hid ((hc.block _ (Array.getElem?_eq_some_iff.1 HITW.out).1 (fun h => h)).trans HITW.out)
                clear hc q0 q1 q2 q3
                go_wp2
                go_ret2
                exact ⟨by rw [HRF.out]; rfl, HC5.out⟩
              · have d1 : decide (y < 0) = false := by simpa using hy0
                obtain ⟨sy, rfl⟩ : ∃ sy : Nat, y = sy := ⟨y.toNat, by omega⟩
                have hse : sy < t.e.length := by rw [hel.out]; omega
                have HRG := Lib.hid (HRN.out.trans (if_neg hy0))
                clear hy0 HRN
                go_wp2_with fail
                refine (runeLen_any (c : Int) W).mono ?_
                rintro e w3 ⟨rfl, rfl⟩
                rw [HRL.out]
                obtain ⟨⟨q0, q1, q2, q3, -⟩, -, -⟩ := HLX.out.same HCW0.out
                unfold slV at q0 q1 q2 q3
                simp only at q0 q1 q2 q3
                go_wp2_with fail
                refine (step_any t (ra, rn, rc) (ca, cn, cc) (na, nn, nc) (ea, t.e.length, ec) B st c W (HLX.out.same HCW0.out).tab HF.out ⟨by omega, by have := HF.out.n; omega⟩).mono ?_
                rintro e w5 ⟨rfl, hc⟩
                rw [HY.out]
                have HC5 := Lib.hid (HCW0.out.trans hc)
                have HIT5 := Lib.hid ((hc.block _ (Array.getElem?_eq_some_iff.1 HITW.out).1 (fun h => h)).trans HITW.out)
                clear hc q0 q1 q2 q3
                obtain ⟨⟨q0, q1, q2, q3, -⟩, hTab, -⟩ := HLX.out.same HC5.out
                unfold slV at q0 q1 q2 q3
                simp only at q0 q1 q2 q3
                obtain ⟨ev, ge, oe, hev, rfl, e0, ev0, ev1, -, -⟩ := hTab.e.getI hse
                have HEV : Hid (endAt t sy = ev) := Lib.hid (endAt_get hev)
                rw [HEV.out] at HRG
                clear hev hTab
                by_cases hev0 : 0 ≤ ev
                · have d2 : decide (0 ≤ ev) = true := by simpa using hev0
                  have HRX : Hid (longL t s a = longG t s a (a + (p + n)) sy (ev, (p : Int) + n)) := Lib.hid (by
                    rw [HRG.out, if_pos hev0, Nat.add_assoc]
                    congr 2
                    omega)
                  clear HRG hev0
                  go_wp2
                  go_roundg (gk - 1)
                  case measure => omega
                  case rel => exact ⟨p + n, sy, ev, (p : Int) + n, by omega, rfl, rfl, rfl, ⟨by omega, by omega⟩, by omega, HRX.out, HIT5.out, HC5.out⟩
                · have d2 : decide (0 ≤ ev) = false := by simpa using hev0
                  have HRX : Hid (longL t s a = longG t s a (a + (p + n)) sy (k, z)) := Lib.hid (by rw [HRG.out, if_neg hev0, Nat.add_assoc])
                  clear HRG hev0
                  go_wp2
                  go_roundg (gk - 1)
                  case measure => omega
                  case rel => exact ⟨p + n, sy, k, z, by omega, rfl, rfl, rfl, ⟨by omega, by omega⟩, by omega, HRX.out, HIT5.out, HC5.out⟩
        · have hps' : ¬ p < (s.extract a s.size).size := by omega
          have hnx : ∀ ty, (Instr.next (.pointer (some ⟨w.heap.size, 0, none⟩)) true ty).run Tryd.prog wr = _ := fun ty => Lib.run_next_end_at wr w.heap.size (s.extract a s.size) p ty hit hps'
          have HRF : Hid (longL t s a = (k, z)) := Lib.hid (by rw [HR.out, longG_end (by omega)])
          clear hr hc hit hsz HR0 hps'
          go_wp2
          go_ret2
          exact ⟨by rw [HRF.out]; rfl, HC.out⟩
    · have d1 : decide ((s.size : Int) ≤ (a : Int)) = true := by simp; omega
      have d1' : decide (s.size ≤ a) = true := by simp; omega
      have HR : Hid (longL t s a = (-1, 0)) := Lib.hid (by rw [HR0.out, longG_end (by omega)])
      go_enter Tryd.func14, Tryd.ntmps14
      go_wp2_with fail
      refine (there_any b B _ _ _ _ ds t d w HLX.out HM.out.nl).mono ?_
      rintro e w0 ⟨rfl, rfl⟩
      go_wp2
      go_ret2
      exact ⟨by rw [HR.out]; rfl, Chg.refl _ _⟩
end Go.Proofs.YtfhmblbomkhcpaaDoor
