/- The document's sum of bytes, bit by bit. -/
import Derived.Test.YtnfniilimgfjoaaOfLaw
namespace Go.Proofs.Ytnfniilimgfjoaa
open Go.RowKit

/-- 32 Booleans. -/
structure BoolsAt (w : World) (b : Nat) (A : Nat → Bool) : Prop where
  c : ∀ i, i < 32 → w.cell? ⟨b, i, none⟩ = some (.bool (A i))
  z : ∀ j, w.frozen? ⟨b, j, none⟩ = false
theorem BoolsAt.congr {w : World} {b : Nat} {A A' : Nat → Bool} (h : BoolsAt w b A) (he : ∀ i, i < 32 → A' i = A i) : BoolsAt w b A' := ⟨fun i hi => by rw [he i hi]; exact h.c i hi, h.z⟩
theorem BoolsAt.put {w : World} {b : Nat} {A : Nat → Bool} (h : BoolsAt w b A) {k : Nat} (hk : k < 32) (v : Bool) : BoolsAt (w.setCell ⟨b, k, none⟩ (.bool v)) b (fun i => if i = k then v else A i) := by
  refine ⟨fun i hi => ?_, fun j => (World.frozen?_setCell _ _ _ _).trans (h.z j)⟩
  by_cases he : i = k
  · subst he
    rw [if_pos rfl]
    exact World.cell?_setCell_same _ _ _ (h.c _ hi)
  · rw [if_neg he, World.cell?_setCell_other _ _ _ _ (by intro e; injection e with _ e; omega)]
    exact h.c i hi
def zeros32 : Array Value := Array.replicate 32 (.bool false)
theorem zeroBools (w : World) : (zeroValue 73).run Try.prog w = .ok (.agg zeros32) w := by kernel_rfl
theorem BoolsAt.made (w : World) (e : TypeId) : BoolsAt (w.alloc (.cells zeros32 e)) w.heap.size (fun _ => false) := by
  refine ⟨fun i hi => ?_, fun j => World.frozen?_alloc_new _ _ _ _⟩
  rw [World.cell?_alloc_new]
  simp [zeros32, hi]

theorem bit_of (n j : Nat) : ((((n : Int) / 2 ^ j).tmod 2 == 1) : Bool) = n.testBit j := by
  have h1 : ((n : Int) / 2 ^ j) = ((n / 2 ^ j : Nat) : Int) := by simp
  have h0 : ∀ m : Nat, ((m : Nat) : Int).tmod 2 = ((m % 2 : Nat) : Int) := fun m => by rw [Int.tmod_eq_emod_of_nonneg (Int.natCast_nonneg _)]; omega
  have h2 := h0 (n / 2 ^ j)
  rw [h1, h2, Nat.testBit_eq_decide_div_mod_eq]
  rcases Nat.mod_two_eq_zero_or_one (n / 2 ^ j) with h | h <;> rw [h] <;> rfl

set_option maxRecDepth 100000 in
set_option maxHeartbeats 4000000 in
theorem refOf_any (Z : List Int) (a : Option Addr) (g o c : Nat) (w : World) (hz : BytesAt w g o Z) (ha : 0 < Z.length → a = some ⟨g, o, none⟩) (hl : Z.length ≤ 1000000) :
    Calls Try.prog 22 #[.slice a Z.length c] w fun e w' => e = .returned (.int .u32 (ofI Z)) ∧ Chg (fun _ => False) w w' := by
  have HZ := Lib.hid hz
  have HA := Lib.hid ha
  have HB0 := Lib.hid (BoolsAt.made w 73)
  have HC0 := Lib.hid ((Chg.refl (fun k => w.heap.size ≤ k) w).alloc (.cells zeros32 73))
  have hzb := zeroBools
  clear hz ha
  go_enter Try.func22, Try.ntmps22
  go_wp2
  go_loopw [4] (fun i wr => ∃ k : Nat, k ≤ 32 ∧ i = .int .i64 k ∧ BoolsAt wr w.heap.size (fun i => decide (i < k)) ∧ Chg (fun k => w.heap.size ≤ k) w wr) (fun i _ => 32 - (intOf i).toNat)
  case atStart => exact ⟨0, by omega, rfl, HB0.out.congr (fun i _ => by simp), HC0.out⟩
  case round =>
    clear HB0 HC0
    obtain ⟨k, hk, rfl, hb, hc⟩ := hrel
    have HB := Lib.hid hb
    have HC := Lib.hid hc
    clear hb hc
    by_cases hk32 : k < 32
    · have c1 := HB.out.c k hk32
      have z1 := HB.out.z k
      have HX := Lib.hid ((HB.out.put hk32 true).congr (A' := fun i => decide (i < k + 1)) (fun i _ => by
        by_cases he : i = k
        · subst he; simp
        · rw [if_neg he, decide_eq_decide]; omega))
      have HC2 := Lib.hid (HC.out.trans ((setCellChg wr w.heap.size k (.bool true)).mono (T := fun k => w.heap.size ≤ k) (fun k _ e => by omega)))
      have b14 : decide ((k : Int) < 32) = true := by simp; omega
      clear HB HC
      go_wp2
      go_roundw
      case rel => first | exact ⟨k + 1, by omega, by go_num, HX.out, HC2.out⟩ | ((repeat apply Exists.intro); exact ⟨⟨k + 1, by omega, rfl, HX.out, HC2.out⟩, rfl⟩)
      case measure => simp [intOf]; omega
    · obtain rfl : k = 32 := by omega
      have HBN : Hid (BoolsAt wr w.heap.size (fun i => (foldN (Z.take 0) 4294967295).testBit i)) := Lib.hid (HB.out.congr (fun i hi => by
        show (4294967295 : Nat).testBit i = decide (i < 32)
        rw [show (4294967295 : Nat) = 2 ^ 32 - 1 from rfl, Nat.testBit_two_pow_sub_one]))
      have HC1 := HC
      clear HB HC
      go_wp2
      obtain ⟨wo, rfl⟩ : ∃ wo : World, wo = wr := ⟨_, rfl⟩
      go_loopw [5] (fun i wr => ∃ k : Nat, k ≤ Z.length ∧ i = .int .i64 k ∧ BoolsAt wr w.heap.size (fun i => (foldN (Z.take k) 4294967295).testBit i) ∧ Chg (fun k => w.heap.size ≤ k) w wr) (fun i _ => Z.length - (intOf i).toNat)
      case atStart => exact ⟨0, by omega, rfl, HBN.out, HC1.out⟩
      case round =>
        clear HBN HC1
        obtain ⟨k, hk, rfl, hb, hc⟩ := hrel
        have HB := Lib.hid hb
        have HC := Lib.hid hc
        clear hb hc
        by_cases hkl : k < Z.length
        · obtain ⟨z, hz, c1, z0, z1⟩ := (HZ.out.chg HC.out.fresh (fun _ h => h)).get hkl
          have e1 := HA.out (by omega)
          subst e1
          have HZG := Lib.hid hz
          clear hz c1
          have b22 : decide ((k : Int) < (Z.length : Int)) = true := by simp; omega
          go_wp2
          obtain ⟨wo2, rfl⟩ : ∃ wo : World, wo = wr := ⟨_, rfl⟩
          go_loopw [6] (fun i wr => ∃ j : Nat, j ≤ 8 ∧ i = .int .i64 j ∧ BoolsAt wr w.heap.size (fun i => if i < j then (foldN (Z.take k) 4294967295 ^^^ z.toNat).testBit i else (foldN (Z.take k) 4294967295).testBit i) ∧ Chg (fun k => w.heap.size ≤ k) w wr) (fun i _ => 8 - (intOf i).toNat)
          case atStart => exact ⟨0, by omega, rfl, HB.out.congr (fun i _ => by rw [if_neg (by omega)]), HC.out⟩
          case round =>
            clear HB HC
            obtain ⟨j, hj, rfl, hb, hc⟩ := hrel
            have HB := Lib.hid hb
            have HC := Lib.hid hc
            clear hb hc
            by_cases hj8 : j < 8
            · obtain ⟨c2, _⟩ := (HZ.out.chg HC.out.fresh (fun _ h => h)).c k z HZG.out
              have c3 := HB.out.c j (by omega)
              have z3 := HB.out.z j
              have b26 : decide ((j : Int) < 8) = true := by simp; omega
              obtain ⟨zn, rfl⟩ := Int.eq_ofNat_of_zero_le z0
              have hq := bit_of zn j
              rw [if_neg (by omega)] at c3
              obtain ⟨v, hv⟩ : ∃ v, (foldN (Z.take k) 4294967295).testBit j = v := ⟨_, rfl⟩
              rw [hv] at c3
              cases hbit : zn.testBit j with
              | false =>
                rw [hbit] at hq
                have HX := Lib.hid (HB.out.congr (A' := fun i => if i < j + 1 then (foldN (Z.take k) 4294967295 ^^^ (Int.ofNat zn).toNat).testBit i else (foldN (Z.take k) 4294967295).testBit i) (fun i _ => by
                  by_cases he : i = j
                  · subst he
                    rw [if_pos (by omega), if_neg (by omega), Nat.testBit_xor, show (Int.ofNat zn).toNat = zn from rfl, hbit]
                    simp
                  · by_cases hi : i < j
                    · rw [if_pos (by omega), if_pos hi]; rfl
                    · rw [if_neg (by omega), if_neg hi]))
                clear HB hv hbit
                go_wp2
                go_roundw
                case rel => first | exact ⟨j + 1, by omega, by go_num, HX.out, HC.out⟩ | ((repeat apply Exists.intro); exact ⟨⟨j + 1, by omega, rfl, HX.out, HC.out⟩, rfl⟩)
                case measure => simp [intOf]; omega
              | true =>
                rw [hbit] at hq
                have HX := Lib.hid ((HB.out.put (k := j) (by omega) (!v)).congr (A' := fun i => if i < j + 1 then (foldN (Z.take k) 4294967295 ^^^ (Int.ofNat zn).toNat).testBit i else (foldN (Z.take k) 4294967295).testBit i) (fun i _ => by
                  by_cases he : i = j
                  · subst he
                    rw [if_pos (by omega), if_pos rfl, Nat.testBit_xor, show (Int.ofNat zn).toNat = zn from rfl, hbit, hv]
                    simp
                  · rw [if_neg he]
                    by_cases hi : i < j
                    · rw [if_pos (by omega), if_pos hi]; rfl
                    · rw [if_neg (by omega), if_neg hi]))
                have HC2 := Lib.hid (HC.out.trans ((setCellChg wr w.heap.size j (.bool (!v))).mono (T := fun k => w.heap.size ≤ k) (fun k _ e => by omega)))
                clear HB HC hv hbit
                go_wp2
                go_roundw
                case rel => first | exact ⟨j + 1, by omega, by go_num, HX.out, HC2.out⟩ | ((repeat apply Exists.intro); exact ⟨⟨j + 1, by omega, rfl, HX.out, HC2.out⟩, rfl⟩)
                case measure => simp [intOf]; omega
            · obtain rfl : j = 8 := by omega
              have hyl : foldN (Z.take k) 4294967295 < 4294967296 := (foldN_lt _ (fun a ha => HZ.out.byte a (List.mem_of_mem_take ha)) _ (by omega)).1
              obtain ⟨y, hy⟩ : ∃ y, foldN (Z.take k) 4294967295 ^^^ z.toNat = y := ⟨_, rfl⟩
              have hylt : y < 4294967296 := by rw [← hy]; exact Nat.xor_lt_two_pow (n := 32) hyl (by omega)
              have HN : Hid (foldN (Z.take (k + 1)) 4294967295 = iterN 8 y) := Lib.hid (by
                rw [List.take_add_one, HZG.out]
                show List.foldl _ _ (Z.take k ++ [z]) = _
                rw [List.foldl_append, ← hy]
                rfl)
              have HBY : Hid (BoolsAt wr w.heap.size (fun i => (iterN 0 y).testBit i)) := Lib.hid (HB.out.congr (fun i _ => by
                by_cases hi : i < 8
                · rw [if_pos hi, hy]; rfl
                · rw [if_neg hi]
                  show y.testBit i = _
                  rw [← hy, Nat.testBit_xor, Nat.testBit_lt_two_pow (x := z.toNat) (Nat.lt_of_lt_of_le (show z.toNat < 2 ^ 8 by omega) (Nat.pow_le_pow_right (by omega) (by omega)))]
                  simp))
              have HC1 := HC
              have HYL := Lib.hid hylt
              clear HB HC hyl hy hylt
              go_wp2
              obtain ⟨wo3, rfl⟩ : ∃ wo : World, wo = wr := ⟨_, rfl⟩
              go_loopw [7] (fun i wr => ∃ j : Nat, j ≤ 8 ∧ i = .int .i64 j ∧ BoolsAt wr w.heap.size (fun i => (iterN j y).testBit i) ∧ Chg (fun k => w.heap.size ≤ k) w wr) (fun i _ => 8 - (intOf i).toNat)
              case atStart => exact ⟨0, by omega, rfl, HBY.out, HC1.out⟩
              case round =>
                clear HBY HC1
                obtain ⟨j, hj, rfl, hb, hc⟩ := hrel
                have HB := Lib.hid hb
                have HC := Lib.hid hc
                clear hb hc
                by_cases hj8 : j < 8
                · obtain ⟨Y, hY⟩ : ∃ Y, iterN j y = Y := ⟨_, rfl⟩
                  have HYT : Hid (Y < 4294967296) := Lib.hid (by rw [← hY]; exact (iterI_nat j HYL.out).2)
                  have HNX : Hid (iterN (j + 1) y = stepN Y) := Lib.hid (by rw [← hY]; rfl)
                  have HBY : Hid (BoolsAt wr w.heap.size (fun i => Y.testBit i)) := Lib.hid (by rw [← hY]; exact HB.out)
                  have c0 := HBY.out.c 0 (by omega)
                  obtain ⟨ob, hob⟩ : ∃ ob, Y.testBit 0 = ob := ⟨_, rfl⟩
                  rw [hob] at c0
                  have HOB : Hid (ob = decide (Y % 2 = 1)) := Lib.hid (by rw [← hob, Nat.testBit_zero])
                  have b44 : decide ((j : Int) < 8) = true := by simp; omega
                  clear HB hY hob
                  go_wp2
                  obtain ⟨wo4, rfl⟩ : ∃ wo : World, wo = wr := ⟨_, rfl⟩
                  go_loopw [9] (fun i wr => ∃ m : Nat, m ≤ 31 ∧ i = .int .i64 m ∧ BoolsAt wr w.heap.size (fun i => if i < m then Y.testBit (i + 1) else Y.testBit i) ∧ Chg (fun k => w.heap.size ≤ k) w wr) (fun i _ => 31 - (intOf i).toNat)
                  case atStart => exact ⟨0, by omega, rfl, HBY.out.congr (fun i _ => by rw [if_neg (by omega)]), HC.out⟩
                  case round =>
                    clear HBY HC c0
                    obtain ⟨m, hm, rfl, hb, hc⟩ := hrel
                    have HB := Lib.hid hb
                    have HC := Lib.hid hc
                    clear hb hc
                    by_cases hm31 : m < 31
                    · have c5 := HB.out.c (m + 1) (by omega)
                      have c6 := HB.out.c m (by omega)
                      have z6 := HB.out.z m
                      rw [if_neg (by omega)] at c5 c6
                      obtain ⟨v, hv⟩ : ∃ v, Y.testBit (m + 1) = v := ⟨_, rfl⟩
                      obtain ⟨v0, hv0⟩ : ∃ v, Y.testBit m = v := ⟨_, rfl⟩
                      rw [hv] at c5
                      rw [hv0] at c6
                      have HX := Lib.hid ((HB.out.put (k := m) (by omega) v).congr (A' := fun i => if i < m + 1 then Y.testBit (i + 1) else Y.testBit i) (fun i _ => by
                        by_cases he : i = m
                        · subst he; rw [if_pos (by omega), if_pos rfl, hv]
                        · rw [if_neg he]
                          by_cases hi : i < m
                          · rw [if_pos (by omega), if_pos hi]
                          · rw [if_neg (by omega), if_neg hi]))
                      have HC2 := Lib.hid (HC.out.trans ((setCellChg wr w.heap.size m (.bool v)).mono (T := fun k => w.heap.size ≤ k) (fun k _ e => by omega)))
                      have b50 : decide ((m : Int) < 31) = true := by simp; omega
                      clear HB HC hv hv0
                      go_wp2
                      go_roundw
                      case rel => first | exact ⟨m + 1, by omega, by go_num, HX.out, HC2.out⟩ | ((repeat apply Exists.intro); exact ⟨⟨m + 1, by omega, rfl, HX.out, HC2.out⟩, rfl⟩)
                      case measure => simp [intOf]; omega
                    · obtain rfl : m = 31 := by omega
                      have c6 := HB.out.c 31 (by omega)
                      have z6 := HB.out.z 31
                      rw [if_neg (by omega)] at c6
                      obtain ⟨v0, hv0⟩ : ∃ v, Y.testBit 31 = v := ⟨_, rfl⟩
                      rw [hv0] at c6
                      have HX := Lib.hid ((HB.out.put (k := 31) (by omega) false).congr (A' := fun i => (Y / 2).testBit i) (fun i hi => by
                        rw [Nat.testBit_div_two]
                        by_cases he : i = 31
                        · subst he; rw [if_pos rfl, Nat.testBit_lt_two_pow (by have := HYT.out; exact this)]
                        · rw [if_neg he, if_pos (by omega)]))
                      have HC2 := Lib.hid (HC.out.trans ((setCellChg wr w.heap.size 31 (.bool false)).mono (T := fun k => w.heap.size ≤ k) (fun k _ e => by omega)))
                      clear HB HC hv0
                      go_wp2
                      go_loopw [10] (fun i wr => ∃ m : Nat, m ≤ 32 ∧ i = .int .i64 m ∧ BoolsAt wr w.heap.size (fun i => if i < m then (stepN Y).testBit i else (Y / 2).testBit i) ∧ Chg (fun k => w.heap.size ≤ k) w wr) (fun i _ => 32 - (intOf i).toNat)
                      case atStart => exact ⟨0, by omega, rfl, HX.out.congr (fun i _ => by rw [if_neg (by omega)]), HC2.out⟩
                      case round =>
                        clear HX HC2 c6 z6
                        obtain ⟨m, hm, rfl, hb, hc⟩ := hrel
                        have HB := Lib.hid hb
                        have HC := Lib.hid hc
                        clear hb hc
                        by_cases hm32 : m < 32
                        · have c7 := HB.out.c m hm32
                          have z7 := HB.out.z m
                          rw [if_neg (by omega)] at c7
                          obtain ⟨v, hv⟩ : ∃ v, (Y / 2).testBit m = v := ⟨_, rfl⟩
                          rw [hv] at c7
                          have hq : (((3988292384 : Int) / 2 ^ m).tmod 2 == 1) = (3988292384 : Nat).testBit m := bit_of 3988292384 m
                          have b61 : decide ((m : Int) < 32) = true := by simp; omega
                          have HST : Hid ((stepN Y).testBit m = (v != (ob && (3988292384 : Nat).testBit m))) := Lib.hid (by
                            rw [stepN, Nat.testBit_xor, hv, HOB.out]
                            by_cases ho : Y % 2 = 1
                            · rw [if_pos ho]; simp [ho]
                            · rw [if_neg ho]; simp [ho])
                          cases hfl : (ob && (3988292384 : Nat).testBit m) with
                          | false =>
                            have HX := Lib.hid (HB.out.congr (A' := fun i => if i < m + 1 then (stepN Y).testBit i else (Y / 2).testBit i) (fun i _ => by
                              by_cases he : i = m
                              · subst he
                                rw [if_pos (by omega), if_neg (by omega), HST.out, hfl, hv]
                                simp
                              · by_cases hi : i < m
                                · rw [if_pos (by omega), if_pos hi]
                                · rw [if_neg (by omega), if_neg hi]))
                            clear HST hv HB
                            cases ob with
                            | false =>
                              clear hfl
                              go_wp2
                              go_roundw
                              case rel => first | exact ⟨m + 1, by omega, by go_num, HX.out, HC.out⟩ | ((repeat apply Exists.intro); exact ⟨⟨m + 1, by omega, rfl, HX.out, HC.out⟩, rfl⟩)
                              case measure => simp [intOf]; omega
                            | true =>
                              have hbit : (3988292384 : Nat).testBit m = false := by simpa using hfl
                              rw [hbit] at hq
                              clear hfl hbit
                              go_wp2
                              go_roundw
                              case rel => first | exact ⟨m + 1, by omega, by go_num, HX.out, HC.out⟩ | ((repeat apply Exists.intro); exact ⟨⟨m + 1, by omega, rfl, HX.out, HC.out⟩, rfl⟩)
                              case measure => simp [intOf]; omega
                          | true =>
                            have HX := Lib.hid ((HB.out.put hm32 (!v)).congr (A' := fun i => if i < m + 1 then (stepN Y).testBit i else (Y / 2).testBit i) (fun i _ => by
                              by_cases he : i = m
                              · subst he
                                rw [if_pos (by omega), if_pos rfl, HST.out, hfl]
                                simp
                              · rw [if_neg he]
                                by_cases hi : i < m
                                · rw [if_pos (by omega), if_pos hi]
                                · rw [if_neg (by omega), if_neg hi]))
                            have HC2 := Lib.hid (HC.out.trans ((setCellChg wr w.heap.size m (.bool (!v))).mono (T := fun k => w.heap.size ≤ k) (fun k _ e => by omega)))
                            rw [Bool.and_eq_true] at hfl
                            obtain ⟨ho, hbit⟩ := hfl
                            rw [hbit] at hq
                            subst ho
                            clear HST hv HB HC hbit
                            go_wp2
                            go_roundw
                            case rel => first | exact ⟨m + 1, by omega, by go_num, HX.out, HC2.out⟩ | ((repeat apply Exists.intro); exact ⟨⟨m + 1, by omega, rfl, HX.out, HC2.out⟩, rfl⟩)
                            case measure => simp [intOf]; omega
                        · obtain rfl : m = 32 := by omega
                          have HX : Hid (BoolsAt wr w.heap.size (fun i => (iterN (j + 1) y).testBit i)) := Lib.hid (by rw [HNX.out]; exact HB.out.congr (fun i hi => by rw [if_pos hi]))
                          clear HB HNX
                          go_wp2
                          go_roundw
                          case rel => first | exact ⟨j + 1, by omega, by go_num, HX.out, HC.out⟩ | ((repeat apply Exists.intro); exact ⟨⟨j + 1, by omega, rfl, HX.out, HC.out⟩, rfl⟩)
                          case measure => simp [intOf]; omega
                · obtain rfl : j = 8 := by omega
                  have HX : Hid (BoolsAt wr w.heap.size (fun i => (foldN (Z.take (k + 1)) 4294967295).testBit i)) := Lib.hid (by rw [HN.out]; exact HB.out)
                  clear HB HN
                  go_wp2
                  go_roundw
                  case rel => first | exact ⟨k + 1, by omega, by go_num, HX.out, HC.out⟩ | ((repeat apply Exists.intro); exact ⟨⟨k + 1, by omega, rfl, HX.out, HC.out⟩, rfl⟩)
                  case measure => simp [intOf]; omega
        · obtain rfl : k = Z.length := by omega
          rw [List.take_length] at HB
          obtain ⟨y, hy⟩ : ∃ y, foldN Z 4294967295 = y := ⟨_, rfl⟩
          rw [hy] at HB
          have HF : Hid (ofI Z = ((4294967295 ^^^ y : Nat) : Int)) := Lib.hid (by rw [← hy]; exact ofI_bits Z HZ.out.byte)
          have hylt : y < 4294967296 := by rw [← hy]; exact (foldN_lt Z HZ.out.byte _ (by omega)).1
          obtain ⟨M, hM⟩ : ∃ M, 4294967295 ^^^ y = M := ⟨_, rfl⟩
          have hMlt : M < 4294967296 := by rw [← hM]; exact Nat.xor_lt_two_pow (n := 32) (by omega) hylt
          have HMB : Hid (∀ q, q < 32 → M.testBit q = !y.testBit q) := Lib.hid (fun q hq => by
            rw [← hM, Nat.testBit_xor, show (4294967295 : Nat) = 2 ^ 32 - 1 from rfl, Nat.testBit_two_pow_sub_one]
            simp [hq])
          rw [hM] at HF
          clear hy hM
          go_wp2
          obtain ⟨wo2, rfl⟩ : ∃ wo : World, wo = wr := ⟨_, rfl⟩
          go_loopw [11, 12] (fun n i wr => ∃ r : Nat, r ≤ 32 ∧ i = .int .i64 ((r : Int) - 1) ∧ n = .int .u32 ((M / 2 ^ r : Nat) : Int) ∧ BoolsAt wr w.heap.size (fun i => y.testBit i) ∧ Chg (fun k => w.heap.size ≤ k) w wr) (fun _ i _ => (intOf i + 1).toNat)
          case atStart => exact ⟨32, by omega, rfl, by rw [Nat.div_eq_of_lt hMlt]; rfl, HB.out, HC.out⟩
          case round =>
            clear HB HC
            obtain ⟨r, hr, rfl, rfl, hb, hc⟩ := hrel
            have HB := Lib.hid hb
            have HC := Lib.hid hc
            clear hb hc
            rcases r with _ | q
            · go_wp2
              go_ret
              exact ⟨by rw [HF.out]; simp, HC.out.fresh⟩
            · have e1 : (((q + 1 : Nat) : Int)) - 1 = (q : Int) := by omega
              rw [e1]
              have c7 := HB.out.c q (by omega)
              obtain ⟨v, hv⟩ : ∃ v, y.testBit q = v := ⟨_, rfl⟩
              rw [hv] at c7
              obtain ⟨N0, hN0⟩ : ∃ N0, M / 2 ^ (q + 1) = N0 := ⟨_, rfl⟩
              have hd : M / 2 ^ q / 2 = N0 := by rw [← hN0, Nat.pow_succ, Nat.div_div_eq_div_mul]
              have hle : M / 2 ^ q ≤ M := Nat.div_le_self _ _
              have hbit : decide (M / 2 ^ q % 2 = 1) = !v := by rw [← Nat.testBit_eq_decide_div_mod_eq, HMB.out q (by omega), hv]
              have HNQ : Hid (M / 2 ^ q = 2 * N0 + (if v then 0 else 1)) := Lib.hid (by
                cases v with
                | true => simp at hbit; rw [if_pos rfl]; omega
                | false => simp at hbit; rw [if_neg (by decide)]; omega)
              have hN1 : N0 ≤ 2147483647 := by omega
              have b78 : decide ((0 : Int) ≤ (q : Int)) = true := by simp
              rw [hN0]
              clear hN0 hd hle hbit hv
              cases v with
              | true =>
                have e2 : ((2 * N0 : Nat) : Int) = 2 * (N0 : Int) := by omega
                go_wp2
                go_roundw
                case rel => first | exact ⟨q, by omega, by first | rfl | go_num, by rw [HNQ.out, if_pos rfl]; first | rfl | simp, HB.out, HC.out⟩ | ((repeat apply Exists.intro); exact ⟨⟨q, by omega, rfl, by rw [HNQ.out, if_pos rfl]; rfl, HB.out, HC.out⟩, rfl⟩)
                case measure => simp [intOf]
              | false =>
                go_wp2
                go_roundw
                case rel => first | exact ⟨q, by omega, by first | rfl | go_num, by rw [HNQ.out, if_neg (by decide)]; first | rfl | simp, HB.out, HC.out⟩ | ((repeat apply Exists.intro); exact ⟨⟨q, by omega, rfl, by rw [HNQ.out, if_neg (by decide)]; rfl, HB.out, HC.out⟩, rfl⟩)
                case measure => simp [intOf]
end Go.Proofs.Ytnfniilimgfjoaa
