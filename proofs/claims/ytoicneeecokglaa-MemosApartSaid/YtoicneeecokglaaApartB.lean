/- 'MemosApart': its walk. -/
import Derived.Test.YtoicneeecokglaaApartQ
import Derived.LoopTactic
import Derived.Deep.DeepCutAuto
import Derived.Deep.CutBlock
namespace Go.Proofs.Ytoicneeecokglaa
open Go.RowKit Go.Maps

set_option maxRecDepth 100000 in
set_option maxHeartbeats 16000000 in
theorem apart_any (x y : Int) (a : Option Addr) (g o cap : Nat) (Z : List Int) (w : World) (hx : 0 ≤ x ∧ x ≤ 255) (hy : 0 ≤ y ∧ y ≤ 255) (hZ : BytesAt w g o Z) (ha : 0 < Z.length → a = some ⟨g, o, none⟩) (hl : Z.length ≤ 400) :
    Calls Try.prog 5 #[.int .u8 x, .int .u8 y, .slice a Z.length cap] w fun e w' => e = .returned (.bool true) ∧ Chg (fun _ => False) w w' := by
  have HZ := Lib.hid hZ
  have HA := Lib.hid ha
  obtain ⟨hx0, hx1⟩ := hx
  obtain ⟨hy0, hy1⟩ := hy
  have HN : Hid (newB (x % 9) (y % 9) 12 = true) := Lib.hid (by simp [newB]; omega)
  clear hZ ha
  go_enter Try.func5, Try.ntmps5
  go_wp2_with fail
  refine (new_yes (x % 9) (y % 9) 12 w HN.out).mono ?_
  rintro e w0 ⟨b, br, bp, rfl, hm, hc, hb, hbr, hbp⟩
  have HM := Lib.hid hm
  have HC := Lib.hid hc
  have HB : Hid (w.heap.size ≤ b ∧ w.heap.size ≤ br ∧ w.heap.size ≤ bp) := Lib.hid ⟨hb, hbr, hbp⟩
  have HB2 : Hid (b < w0.heap.size ∧ br < w0.heap.size ∧ bp < w0.heap.size) := Lib.hid ⟨World.block_lt_of_cell? _ _ hm.c0, hm.mr.lt, hm.mp.lt⟩
  clear hm hc hb hbr hbp
  go_upto_region 6 with (fail)
  go_cut [11] (fun s11 w' => s11 = .pointer (some ⟨w0.heap.size, 0, none⟩) ∧ WantAt w' w0.heap.size (fun _ _ => 0) ∧ Chg (fun _ => False) w0 w')
  case first =>
    have hz := zeroWant
    go_wp2
    go_meet
    exact ⟨rfl, WantAt.made w0, (Chg.refl _ _).alloc _⟩
  case rest =>
    obtain ⟨rfl, hw, hc⟩ := hcut
    have HW := Lib.hid hw
    have HC1 := Lib.hid (HC.out.trans hc)
    have HM1 := Lib.hid (HM.out.chg hc (fun h => h) (fun h => h) (fun h => h))
    obtain ⟨t, ht⟩ : ∃ t, t = w0.heap.size := ⟨_, rfl⟩
    have HT : Hid (w.heap.size ≤ t ∧ b < t ∧ br < t ∧ bp < t) := Lib.hid (by have := HB2.out; have := HC.out.size; omega)
    rw [← ht] at HW ⊢
    clear hw hc ht HM HC HB2
    go_wp2
    have HS0 : Hid (FillSt w wc b br bp t (x % 9) (y % 9) (fun _ _ => 0) (MS.new (x % 9) (y % 9) 12) 0 0) :=
      Lib.hid ⟨HM1.out, RelW.start (by omega) (by omega) _, HW.out, rfl, rfl, Nat.zero_le _, HC1.out.mono (fun _ _ h => h.elim), HT.out.1, HB.out, by have := HT.out; omega⟩
    clear HM1 HW HC1
    go_loopw [12, 13] (fun q i wr => ∃ (at' i' : Nat) (f : Nat → Nat → Int) (s : MS), at' ≤ Z.length ∧ q = .int .i64 at' ∧ i' ≤ 16 ∧ i = .int .i64 i' ∧ FillSt w wr b br bp t (x % 9) (y % 9) f s i' 0) (fun _ i _ => 16 - (intOf i).toNat)
    case atStart => exact ⟨0, 0, _, _, by omega, rfl, by omega, rfl, HS0.out⟩
    case round =>
      obtain ⟨q, i, f, s, hq, rfl, hi, rfl, hst⟩ := hrel
      have HS := Lib.hid hst
      have hst' := hst
      clear hst HS0
      by_cases hi16 : i < 16
      · clear hst'
        have b53 : decide ((i : Int) < 16) = true := by simp; omega
        go_wp2
        refine fill_any x y a g o cap Z w _ b br bp t q i f s hx0 hx1 hy0 hy1 HZ HA hl hi16 hq HS (Lib.hid ?_)
        clear hq HS
        intro q f s wr hq hst
        intros
        have HX := Lib.hid hst.line
        clear hst
        go_wp2
        go_roundw
        case rel => first | exact ⟨q, i + 1, _, _, hq, rfl, by omega, by go_num, HX.out⟩ | ((repeat apply Exists.intro); exact ⟨⟨q, i + 1, _, _, hq, rfl, by omega, rfl, HX.out⟩, rfl⟩)
        case measure => simp [intOf]; omega
      · obtain rfl : i = 16 := by omega
        have HQ := Lib.hid hst'.whole
        clear hst'
        go_wp2
        obtain ⟨wp, rfl⟩ : ∃ wp : World, wp = wr := ⟨_, rfl⟩
        go_loopw [17] (fun c wr => ∃ (c' : Nat) (f : Nat → Nat → Int) (s : MS), c' ≤ 2 ∧ c = .int .i64 c' ∧ QSt w wr b br bp t (x % 9) (y % 9) f s 0 0) (fun c _ => 2 - (intOf c).toNat)
        case atStart => exact ⟨0, _, _, by omega, rfl, HQ.out⟩
        case round =>
          clear HQ
          obtain ⟨c, f, s, hc2, rfl, hst⟩ := hrel
          by_cases hcc : c < 2
          · have b161 : decide ((c : Int) < 2) = true := by simp; omega
            have HS := Lib.hid hst
            clear hst
            go_wp2
            obtain ⟨wo, rfl⟩ : ∃ wo : World, wo = wr := ⟨_, rfl⟩
            go_loopw [18, 19, 20] (fun a' n' i wr => ∃ (i' : Nat) (A K : Int) (s : MS), i' ≤ 16 ∧ a' = .int .i64 A ∧ n' = .int .i64 K ∧ i = .int .i64 i' ∧ 0 ≤ A ∧ A ≤ 13 * i' ∧ 0 ≤ K ∧ K ≤ 13 * i' ∧ QSt w wr b br bp t (x % 9) (y % 9) f s A K) (fun _ _ i _ => 16 - (intOf i).toNat)
            case atStart => exact ⟨0, 0, 0, _, by omega, rfl, rfl, rfl, by omega, by omega, by omega, by omega, HS.out⟩
            case round =>
              clear HS
              obtain ⟨i, A, K, s, hi, rfl, rfl, rfl, hA0, hA1, hK0, hK1, hst⟩ := hrel
              by_cases hi16 : i < 16
              · have b165 : decide ((i : Int) < 16) = true := by simp; omega
                have HS := Lib.hid hst
                clear hst
                go_wp2
                refine ask_any x y a cap Z w _ b br bp t i A K f s hx0 hx1 hy0 hy1 hi16 hA0 hA1 hK0 hK1 HS (Lib.hid ?_)
                clear HS hA0 hA1 hK0 hK1
                intro A K s wr hA0 hA1 hK0 hK1 hst
                intros
                have HS := Lib.hid hst
                clear hst
                go_wp2
                go_roundw
                case rel => first | exact ⟨i + 1, A, K, _, by omega, rfl, rfl, by go_num, by omega, by omega, by omega, by omega, HS.out⟩ | ((repeat apply Exists.intro); exact ⟨⟨i + 1, A, K, _, by omega, rfl, rfl, rfl, by omega, by omega, by omega, by omega, HS.out⟩, rfl⟩)
                case measure => simp [intOf]; omega
              · obtain rfl : i = 16 := by omega
                have HS := Lib.hid hst
                clear hst
                go_wp2_with fail
                refine (counts_at b br bp s wr HS.out.m).mono ?_
                rintro e w5 ⟨rfl, hm5, hc5⟩
                rw [HS.out.a, HS.out.n]
                have HS5 := Lib.hid (HS.out.asked hm5 HS.out.rel (hc5.mono (fun _ _ h => h.elim)) HS.out.a HS.out.n rfl)
                clear hm5 hc5 HS
                go_wp2_with fail
                refine (clear_at b br bp s w5 HS5.out.m).mono ?_
                rintro e w6 ⟨rfl, hm6, hc6⟩
                have HS6 := Lib.hid (HS5.out.cleared hm6 hc6)
                have HRL := Lib.hid HS5.out.rel
                clear hm6 hc6 HS5
                go_wp2
                obtain ⟨wo2, rfl⟩ : ∃ wo : World, wo = w6 := ⟨_, rfl⟩
                go_loopw [27] (fun j wr => ∃ (j' : Nat) (f' : Nat → Nat → Int), j' ≤ 16 ∧ j = .int .i64 j' ∧ LineSt w wr b br bp t f' s.cleared j') (fun j _ => 16 - (intOf j).toNat)
                case atStart => exact ⟨0, _, by omega, rfl, HS6.out⟩
                case round =>
                  clear HS6
                  obtain ⟨j, f', hj, rfl, hst⟩ := hrel
                  have HL := Lib.hid hst
                  clear hst
                  by_cases hj16 : j < 16
                  · have HTh := Lib.hid (HL.out.want.there hj16)
                    have HX := Lib.hid (HL.out.step hj16)
                    have hbd := neg13_build
                    have b56 : decide ((j : Int) < 16) = true := by simp; omega
                    clear HL
                    go_upto_region 56 with (fail)
                    go_wp2_with (refine wpList_neg13 rfl _ _ rfl t j rfl rfl HTh.out ?_; intro w7 HW7)
                    rw [← HW7.out] at HX
                    go_roundw
                    case rel => first | exact ⟨j + 1, _, by omega, by go_num, HX.out⟩ | ((repeat apply Exists.intro); exact ⟨⟨j + 1, _, by omega, rfl, HX.out⟩, rfl⟩)
                    case measure => simp [intOf]; omega
                  · obtain rfl : j = 16 := by omega
                    have HX := Lib.hid (HL.out.whole HRL.out)
                    clear HL HRL
                    go_wp2
                    go_roundw
                    case rel => first | exact ⟨c + 1, _, _, by omega, by go_num, HX.out⟩ | ((repeat apply Exists.intro); exact ⟨⟨c + 1, _, _, by omega, rfl, HX.out⟩, rfl⟩)
                    case measure => simp [intOf]; omega
          · obtain rfl : c = 2 := by omega
            have HG := Lib.hid hst.g
            clear hst
            go_wp2_with fail
            refine (lives_any wr).mono ?_
            rintro e w2 ⟨rfl, hc2⟩
            have HC2 := Lib.hid (HG.out.trans (hc2.mono (fun _ _ h => h.elim)))
            clear hc2
            go_wp2
            go_ret
            exact ⟨rfl, ⟨HC2.out.os, HC2.out.tape, HC2.out.output, HC2.out.size, fun k hk _ => HC2.out.block k hk (by omega)⟩⟩
end Go.Proofs.Ytoicneeecokglaa
