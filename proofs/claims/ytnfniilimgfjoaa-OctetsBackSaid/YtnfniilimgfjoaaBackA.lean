/- 'OctetsBack': its walk. -/
import Derived.Test.YtnfniilimgfjoaaTakeL
import Derived.Test.YtnfniilimgfjoaaOctLives
namespace Go.Proofs.Ytnfniilimgfjoaa
open Go.RowKit

theorem none_at (w : World) : BytesAt w 0 0 [] := ⟨fun k a hk => by simp at hk, fun h => (h rfl).elim⟩
theorem put_nil (n : Nat) (w : World) (hn : n < 4294967296) :
    Calls Try.prog 10 #[.slice none 0 0, .int .u32 n] w fun e w' => ∃ h X, X = putL n ∧ e = .returned (.slice (some ⟨h, 0, none⟩) X.length X.length) ∧ w.heap.size ≤ h ∧ Row w' h X ∧ Chg (fun _ => False) w w' :=
  (put_any [] n none 0 0 0 w (none_at w) (fun h => by simp at h) (by simp) hn).mono fun e w' ⟨h, h1, h2, h3, h4⟩ => ⟨h, putL n, rfl, h1, h2, h3, h4⟩

set_option maxRecDepth 100000 in
set_option maxHeartbeats 8000000 in
theorem back_any (n m : Nat) (M : List Int) (a : Option Addr) (g o cap : Nat) (w : World) (hn : n < 4294967296) (hm : m < 4294967296) (hz : BytesAt w g o M) (ha : 0 < M.length → a = some ⟨g, o, none⟩) (hl : M.length ≤ 1000) :
    Calls Try.prog 5 #[.int .u32 n, .int .u32 m, .slice a M.length cap] w fun e w' => e = .returned (.bool true) ∧ Chg (fun _ => False) w w' := by
  have HZ := Lib.hid hz
  have HA := Lib.hid ha
  have HBM := Lib.hid hz.byte
  clear hz ha
  go_enter Try.func5, Try.ntmps5
  go_wp2_with fail
  refine (put_nil n w hn).mono ?_
  rintro e w1 ⟨h1, X, hX, rfl, hh1, hr1, hc1⟩
  have HX := Lib.hid hX
  have HR1 := Lib.hid hr1
  have HC1 := Lib.hid hc1
  have hx1 : 1 ≤ X.length := by rw [hX]; exact putL_pos n
  have hx5 : X.length ≤ 5 := by rw [hX]; exact putL_len5 hn
  clear hX hr1 hc1
  go_wp2_with fail
  refine (put_nil m w1 hm).mono ?_
  rintro e w2 ⟨h2, Y, hY, rfl, hh2, hr2, hc2⟩
  have HY := Lib.hid hY
  have HR2 := Lib.hid hr2
  have HR1' := Lib.hid (HR1.out.chg hc2 (fun h => h))
  have HC2 := Lib.hid (HC1.out.trans hc2)
  clear hY hr2 hc2 HR1 HC1
  go_wp2_with (first
    | (at_builtin; refine wpList_append8 rfl _ _ 22 rfl w2.heap.size (.slice none 0 0) [] X (.slice (some ⟨h1, 0, none⟩) X.length X.length) rfl rfl (.inl ⟨rfl, rfl⟩) (Nat.le_refl _) (srcBytes (HR1'.out.bytes (List.prefix_refl _)) (fun _ => rfl)) HR1'.out.byte (by simp; omega) ?_; intro v3 w3 H1 H2 H3)
    | (at_builtin; refine wpList_append8 rfl _ _ 22 rfl w2.heap.size _ ([] ++ X) M (.slice a M.length cap) rfl rfl H1.out H2.out.size (srcBytes (HZ.out.chg (HC2.out.trans H2.out.fresh) (fun _ h => h)) HA.out) HBM.out (by simp; omega) ?_; intro v4 w4 H4 H5 H6))
  obtain ⟨g4, C4, e4, hg4, hR4, hp4, hm4⟩ := H4.out.some (fun e => by have h := congrArg List.length e; simp only [List.length_append, List.length_nil] at h; omega)
  rw [e4]
  refine (take_any ([] ++ X ++ M) (some ⟨g4, 0, none⟩) g4 0 C4.length w4 (hR4.bytes hp4) (fun _ => rfl) hp4.length_le (by simp; omega)).mono ?_
  rintro e w5 ⟨rfl, hc5⟩
  rw [show takeV (takeL 0 0 ([] ++ X ++ M)) = .tuple #[.int .u32 n, .int .i64 X.length, .int .i64 0] by rw [List.nil_append, HX.out, takeL_whole hn]; rfl]
  have HC5 := Lib.hid ((HC2.out.trans ((H2.out.trans (H5.out.mono (fun k hk e => e))).fresh)).trans hc5)
  have HRX := Lib.hid (HR1'.out.chg ((H2.out.trans (H5.out.mono (fun k hk e => e))).fresh.trans hc5) (fun h => h))
  have HRY := Lib.hid (HR2.out.chg ((H2.out.trans (H5.out.mono (fun k hk e => e))).fresh.trans hc5) (fun h => h))
  clear hc5 HC2 HR1' HR2 H1 H2 H3 H4 H5 H6 e4 hR4 hp4 hm4 hg4
  go_wp2
  go_loopw [12] (fun i wr => ∃ k : Nat, k ≤ X.length ∧ i = .int .i64 k ∧ Chg (fun _ => False) w5 wr) (fun i _ => X.length - (intOf i).toNat)
  case atStart => exact ⟨0, by omega, rfl, Chg.refl _ _⟩
  case round =>
    obtain ⟨k, hk, rfl, hc⟩ := hrel
    have HC := Lib.hid hc
    clear hc
    by_cases hkl : k < X.length
    · have b59 : decide ((k : Int) < (X.length : Int)) = true := by simp; omega
      have htl : (X.take k).length = k := by rw [List.length_take]; omega
      have HT := fun (w' : World) (hc : Chg (fun _ => False) w5 w') => take_any (X.take k) (some ⟨h1, 0, none⟩) h1 0 X.length w' ((HRX.out.chg hc (fun h => h)).bytes (List.take_prefix _ _)) (fun _ => rfl) (by omega) (by omega)
      rw [htl] at HT
      have HT' := Lib.hid HT
      have HN : Hid (takeV (takeL 0 0 (X.take k)) = .tuple #[.int .u32 0, .int .i64 0, .int .i64 4]) := Lib.hid (by rw [HX.out, takeL_cut n k 0 0 (by rw [← HX.out]; exact hkl)]; rfl)
      clear HT htl
      go_wp2_with fail
      refine (HT'.out _ HC.out).mono ?_
      rintro e w6 ⟨rfl, hc6⟩
      rw [HN.out]
      have HC6 := Lib.hid (HC.out.trans hc6)
      clear hc6 HC HT' HN
      go_wp2
      go_roundw
      case rel => first | exact ⟨k + 1, by omega, by go_num, HC6.out⟩ | ((repeat apply Exists.intro); exact ⟨⟨k + 1, by omega, rfl, HC6.out⟩, rfl⟩)
      case measure => simp [intOf]; omega
    · obtain rfl : k = X.length := by omega
      have hcx := conv8 X.length ((HRX.out.chg HC.out (fun h => h)).bytes (List.prefix_refl _)) (fun _ => rfl)
      have hcy := conv8 Y.length ((HRY.out.chg HC.out (fun h => h)).bytes (List.prefix_refl _)) (fun _ => rfl)
      obtain ⟨sx, hsx⟩ : ∃ s, strOfNums X = s := ⟨_, rfl⟩
      obtain ⟨sy, hsy⟩ : ∃ s, strOfNums Y = s := ⟨_, rfl⟩
      rw [hsx] at hcx
      rw [hsy] at hcy
      have HC' := Lib.hid (HC5.out.trans HC.out)
      by_cases hnm : n = m
      · have q1 : ((n : Int) == (m : Int)) = true := by simp [hnm]
        have q2 : sx.toList = sy.toList := by rw [← hsx, ← hsy, HX.out, HY.out, hnm]
        have q3 : ¬ m < n := by omega
        have q4 : X.length ≤ Y.length := by rw [HX.out, HY.out, hnm]; exact Nat.le_refl _
        clear hsx hsy hnm HC
        go_wp2_with fail
        refine (lives_any _).mono ?_
        rintro e w7 ⟨rfl, hc7⟩
        have HC7 := Lib.hid (HC'.out.trans hc7)
        clear hc7
        go_wp2
        go_ret
        exact ⟨rfl, HC7.out⟩
      · have q1 : ((n : Int) == (m : Int)) = false := by simp; omega
        have q5 : ¬ n = m := hnm
        have q2 : ¬ sx.toList = sy.toList := by
          intro e
          rw [ByteArray.toList_eq, ByteArray.toList_eq] at e
          have e2 := str_inj HRX.out.byte HRY.out.byte (by rw [hsx, hsy]; exact ByteArray.ext (Array.toList_inj.1 e))
          rw [HX.out, HY.out] at e2
          exact hnm (putL_inj _ _ e2)
        have q6 : (sx.toList == sy.toList) = false := by rw [beq_eq_false_iff_ne]; exact q2
        by_cases hlt : m < n
        · have q3 : m < n := hlt
          clear hsx hsy hnm HC hlt
          go_wp2_with fail
          refine (lives_any _).mono ?_
          rintro e w7 ⟨rfl, hc7⟩
          have HC7 := Lib.hid (HC'.out.trans hc7)
          clear hc7
          go_wp2
          go_ret
          exact ⟨rfl, HC7.out⟩
        · have q3 : ¬ m < n := hlt
          have q4 : X.length ≤ Y.length := by
            have := putL_mono n m (by omega)
            rw [← HX.out, ← HY.out] at this
            exact this
          clear hsx hsy hnm HC hlt
          go_wp2_with fail
          refine (lives_any _).mono ?_
          rintro e w7 ⟨rfl, hc7⟩
          have HC7 := Lib.hid (HC'.out.trans hc7)
          clear hc7
          go_wp2
          go_ret
          exact ⟨rfl, HC7.out⟩

set_option maxRecDepth 100000 in
set_option maxHeartbeats 2000000 in
theorem back_long (n m : Int) (a : Option Addr) (k cap : Nat) (w : World) (hl : 1000 < k) :
    Calls Try.prog 5 #[.int .u32 n, .int .u32 m, .slice a k cap] w fun e w' => e = .returned (.bool true) ∧ Chg (fun _ => False) w w' := by
  go_enter Try.func5, Try.ntmps5
  go_wp2_with fail
  refine (lives_any _).mono ?_
  rintro e w7 ⟨rfl, hc7⟩
  have HC7 := Lib.hid hc7
  clear hc7
  go_wp2
  go_ret
  exact ⟨rfl, HC7.out⟩
end Go.Proofs.Ytnfniilimgfjoaa
