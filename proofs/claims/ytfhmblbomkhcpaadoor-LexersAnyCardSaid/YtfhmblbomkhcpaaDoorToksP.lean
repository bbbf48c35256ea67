/- Tokens: the program's (printed by wip/gen/toksp.py). -/
import Derived.Test.YtfhmblbomkhcpaaDoorToks
namespace Go.Proofs.YtfhmblbomkhcpaaDoor
open Go.RowKit

set_option maxRecDepth 100000 in
set_option maxHeartbeats 4000000 in
theorem toks_any (b B : Nat) (rs cs ns es ds : Sl) (t : TabD) (d : List Bool) (s : ByteArray) (w : World) (h : LexAt w b B rs cs ns es ds t d) (hf : Fair t) (hm : MayS t) (hT : Tabs w) (hs : s.size ≤ 1000000000000) (hd : ∀ e ∈ t.e, e < d.length) :
    Calls Tryd.prog 16 #[.pointer (some ⟨b, 0, none⟩), .string s] w (TokPost t d s w) := by
  obtain ⟨da, dn, dc⟩ := ds
  have HLX := Lib.hid h
  have HF := Lib.hid hf
  have HM := Lib.hid hm
  have HD := Lib.hid hd
  have HT := Lib.hid hT
  obtain ⟨rfl, hdc⟩ := h.drop.len
  clear h hf hm hd hT
  by_cases hb : 65536 < s.size
  · have d0 : decide ((65536 : Int) < (s.size : Int)) = true := by simp; omega
    have d0' : decide (65536 < s.size) = true := by simp; omega
    have HR : Hid (toksL t d s = ([], 0, 3)) := Lib.hid (by unfold toksL; rw [if_pos hb])
    go_enter Tryd.func16, Tryd.ntmps16
    go_wp2_with fail
    go_step3
    go_wp2_with fail
    refine (there_any b B _ _ _ _ _ t d w HLX.out HM.out.nl).mono ?_
    rintro e w0 ⟨rfl, rfl⟩
    go_wp2
    (try (go_step3; go_wp2))
    exact bodyPost_ret (v := .tuple #[.slice none 0 0, .int .i64 0, .int .i64 3]) (by simp [results, Tryd.results16, go_sem]) rfl (TokPost.mk HR.out (.nil _ _) (Chg.refl _ _))
  · have d0 : decide ((65536 : Int) < (s.size : Int)) = false := by simp; omega
    have d0' : decide (65536 < s.size) = false := by simp; omega
    have HR0 : Hid (toksL t d s = toksG t d s 0 []) := Lib.hid (by unfold toksL; rw [if_neg hb])
    go_enter Tryd.func16, Tryd.ntmps16
    go_wp2_with fail
    go_step3
    go_wp2_with fail
    refine (there_any b B _ _ _ _ _ t d w HLX.out HM.out.nl).mono ?_
    rintro e w0 ⟨rfl, rfl⟩
    go_wp2
    (try (go_step3; go_wp2))
    go_loopw [4, 5] (fun v q wr => ∃ (i : Nat) (l : List TokD), i ≤ s.size ∧ q = .int .i64 i ∧ tokE.Own wr w.heap.size v l ∧ l.length ≤ 16384 ∧ toksL t d s = toksG t d s i l ∧ Chg (fun _ => False) w wr) (fun _ q _ => s.size - (intOf q).toNat)
    case atStart => exact ⟨0, [], by omega, rfl, .nil _ _, by simp, HR0.out, Chg.refl _ _⟩
    case round =>
      obtain ⟨i, l, hi, rfl, hv, hll, hr, hc⟩ := hrel
      obtain ⟨va, vc, rfl, hvc, -⟩ := hv.clip
      have HV := Lib.hid hv
      have HR := Lib.hid hr
      have HC := Lib.hid hc
      clear hr hc hv HR0
      by_cases his : i < s.size
      · have b1 : decide ((i : Int) < (s.size : Int)) = true := by simp; omega
        have HST := Lib.hid (toksG_step HM.out (drop := d) (l := l) his)
        have hok := longL_ok HM.out s i
        obtain ⟨⟨k, z⟩, hkz⟩ : ∃ x, longL t s i = x := ⟨_, rfl⟩
        rw [hkz] at HST hok
        have HKZ := Lib.hid hkz
        simp only at HST
        clear hkz
        by_cases hz : z = 0
        · have HRF : Hid (toksL t d s = ([], (i : Int), 9)) := Lib.hid (by rw [HR.out, HST.out, if_pos hz])
          have d1 : (z == 0) = true := by simpa using hz
          clear hok
          have HZ := Lib.hid hz
          clear hz
          go_wp2_with fail
          refine (long_any b B rs cs ns es (da, d.length, dc) t d s i wr (HLX.out.same HC.out) HF.out HM.out (HT.out.same HC.out) hs ⟨by omega, by omega⟩).mono ?_
          rintro e w1 ⟨rfl, hc⟩
          rw [HKZ.out]
          have HC1 := Lib.hid (HC.out.trans hc)
          clear hc
          go_wp2
          exact bodyPost_ret (v := .tuple #[.slice none 0 0, .int .i64 i, .int .i64 9]) (by simp [results, Tryd.results16, go_sem]) rfl (TokPost.mk HRF.out (.nil _ _) HC1.out)
        · have d1 : (z == 0) = false := by simpa using hz
          obtain ⟨hk0, hke, hz1, hz2⟩ : 0 ≤ k ∧ k ∈ t.e ∧ 1 ≤ z ∧ (i : Int) + z ≤ s.size := by
            rcases hok with h | h
            · injection h with _ h; exact absurd h hz
            · exact h
          have hkd := HD.out k hke
          obtain ⟨n, rfl⟩ : ∃ n : Nat, z = n := ⟨z.toNat, by omega⟩
          obtain ⟨k, rfl⟩ : ∃ k' : Nat, k = k' := ⟨k.toNat, by omega⟩
          rw [if_neg hz] at HST
          simp only [Int.toNat_natCast] at HST
          clear hke hok hz
          go_wp2_with fail
          refine (long_any b B rs cs ns es (da, d.length, dc) t d s i wr (HLX.out.same HC.out) HF.out HM.out (HT.out.same HC.out) hs ⟨by omega, by omega⟩).mono ?_
          rintro e w1 ⟨rfl, hc⟩
          rw [HKZ.out]
          have HC1 := Lib.hid (HC.out.trans hc)
          have HV1 := Lib.hid (HV.out.chg hc (fun _ _ _ h => h))
          clear hc
          obtain ⟨⟨-, -, -, -, q4⟩, -, hdr⟩ := HLX.out.same HC1.out
          unfold slV at q4
          simp only at q4
          obtain ⟨x, gd, od, hx, rfl, d0c, -, -⟩ := hdr.getB (show k < d.length by omega)
          have HX : Hid (d.getD k false = x) := Lib.hid (drop_get (k := (k : Int)) hx)
          rw [HX.out] at HST
          clear hdr hx
          cases x with
          | true =>
            have HRX : Hid (toksL t d s = toksG t d s (i + n) l) := Lib.hid (by rw [HR.out, HST.out]; rfl)
            go_wp2
            go_roundw
            case rel => exact ⟨i + n, l, by omega, by go_num, HV1.out, hll, HRX.out, HC1.out⟩
            case measure => simp [intOf]; omega
          | false =>
            by_cases h16 : 16384 ≤ l.length
            · have d2 : ((l.length : Int) == 16384) = true := by simp; omega
              have d2' : (l.length == 16384) = true := by simp; omega
              have HRF : Hid (toksL t d s = ([], (i : Int), 3)) := Lib.hid (by rw [HR.out, HST.out, if_neg (by simp), if_pos h16])
              go_wp2
              exact bodyPost_ret (v := .tuple #[.slice none 0 0, .int .i64 i, .int .i64 3]) (by simp [results, Tryd.results16, go_sem]) rfl (TokPost.mk HRF.out (.nil _ _) HC1.out)
            · have d2 : ((l.length : Int) == 16384) = false := by simp; omega
              have d2' : (l.length == 16384) = false := by simp; omega
              have HRX : Hid (toksL t d s = toksG t d s (i + n) (l ++ [((k : Int), s.extract i (i + n), (i : Int))])) := Lib.hid (by rw [HR.out, HST.out, if_neg (by simp), if_neg h16])
              have HLB : Hid (w.heap.size ≤ w1.heap.size) := Lib.hid HC1.out.size
              have HY : Hid (∀ x ∈ [((k : Int), s.extract i (i + n), (i : Int))], tokE.ok x) := Lib.hid (fun _ _ => trivial)
              go_wp2_with (at_builtin; refine Elt.wpList_append2 tokE rfl _ _ 43 43 rfl rfl w.heap.size (.slice va l.length vc) l [((k : Int), s.extract i (i + n), (i : Int))] (.slice (some ⟨w1.heap.size, 0, none⟩) 1 1) rfl rfl (HV1.out.chg ((Chg.refl (fun _ => False) _).alloc _) (fun _ _ _ h => h)) (by have := HLB.out; simp; omega) (tokE.srcLit 1 HY.out) HY.out (by simp; omega) ?_; intro v' w2 HO HC2 HC3)
              have HC4 : Hid (Chg (fun _ => False) w w2) := Lib.hid (((HC1.out.alloc _).any.trans HC2.out).fresh)
              go_roundw
              case rel => exact ⟨i + n, _, by omega, by go_num, HO.out, by simp; omega, HRX.out, HC4.out⟩
              case measure => simp [intOf]; omega
      · obtain rfl : i = s.size := by omega
        have b1 : decide ((s.size : Int) < (s.size : Int)) = false := by simp
        have HRF : Hid (toksL t d s = (l, (s.size : Int), 0)) := Lib.hid (by rw [HR.out, toksG_end])
        have HV2 : Hid (tokE.Own wr w.heap.size (.slice va l.length l.length) l) := Lib.hid (by
          obtain ⟨a', c', h1, _, h2⟩ := HV.out.clip
          injection h1 with e1 e2 e3
          subst e1
          exact h2)
        go_wp2_with fail
        refine (clipTok_any wr va l.length vc hvc).mono ?_
        rintro e w1 ⟨rfl, rfl⟩
        go_wp2
        exact bodyPost_ret (v := .tuple #[.slice va l.length l.length, .int .i64 s.size, .int .i64 0]) (by simp [results, Tryd.results16, go_sem]) rfl (TokPost.mk HRF.out HV2.out HC.out)
end Go.Proofs.YtfhmblbomkhcpaaDoor
