/- 'OctetsNum': its walk. -/
import Derived.Test.YtnfniilimgfjoaaBookC
import Derived.Test.YtnfniilimgfjoaaOctLives
namespace Go.Proofs.Ytnfniilimgfjoaa
open Go.RowKit

theorem twinBytes_any (Z : List Int) (a : Option Addr) (g o c : Nat) (w : World) (hz : BytesAt w g o Z) (ha : 0 < Z.length → a = some ⟨g, o, none⟩) (hl : Z.length ≤ 1000000000) :
    Calls Try.prog 9 #[.slice a Z.length c] w fun e w' => ∃ h, e = .returned (.slice (some ⟨h, 0, none⟩) Z.length (Z.length + 2)) ∧ w.heap.size ≤ h ∧ Row w' h (Z ++ [195, 195]) ∧ Chg (fun _ => False) w w' := by
  have HT := Lib.hid (twin_any Z 195 a g o c w hz ha (by constructor <;> omega) hl)
  clear hz ha
  go_enter Try.func9, Try.ntmps9
  go_wp2_with fail
  refine HT.out.mono ?_
  rintro e w1 ⟨h, rfl, h1, h2, h3⟩
  go_wp2
  go_ret
  exact ⟨h, rfl, h1, h2, h3⟩
theorem sameBytes_any (X Y : List Int) (ax ay : Option Addr) (gx ox gy oy cx cy : Nat) (w : World) (hx : BytesAt w gx ox X) (hax : 0 < X.length → ax = some ⟨gx, ox, none⟩) (hy : BytesAt w gy oy Y) (hay : 0 < Y.length → ay = some ⟨gy, oy, none⟩) (hl : X.length ≤ 1000000000000) :
    Calls Try.prog 11 #[.slice ax X.length cx, .slice ay Y.length cy] w fun e w' => e = .returned (.bool (decide (X = Y))) ∧ Chg (fun _ => False) w w' := by
  have HT := Lib.hid (same_any X Y ax ay gx ox gy oy cx cy w hx hax hy hay hl)
  clear hx hy hax hay
  go_enter Try.func11, Try.ntmps11
  go_wp2_with fail
  refine HT.out.mono ?_
  rintro e w1 ⟨rfl, h3⟩
  go_wp2
  go_ret
  exact ⟨rfl, h3⟩
theorem leftBytes_any (Z X : List Int) (a : Option Addr) (h g o c : Nat) (w : World) (hr : Row w h (X ++ [195, 195])) (hz : BytesAt w g o Z) (ha : 0 < Z.length → a = some ⟨g, o, none⟩) (hl : X.length ≤ 1000000000) :
    Calls Try.prog 13 #[.slice (some ⟨h, 0, none⟩) X.length (X.length + 2), .slice a Z.length c] w fun e w' => e = .returned (.bool (decide (X = Z))) ∧ Chg (fun _ => False) w w' := by
  have HT := Lib.hid (left_any Z X 195 a h g o c w hr hz ha hl)
  clear hr hz ha
  go_enter Try.func13, Try.ntmps13
  go_wp2_with fail
  refine HT.out.mono ?_
  rintro e w1 ⟨rfl, h3⟩
  go_wp2
  go_ret
  exact ⟨rfl, h3⟩

/-- The mark behind page number n. -/
def behindOf (n : Int) : Int := bits BinOp.xor IntKind.u8 n 128
theorem behindOf_byte (n : Int) : Byte (behindOf n) := bounds_u8 (wf_bits BinOp.xor IntKind.u8 n 128)
theorem page_of {w : World} {g : Nat} {C : List Int} {len cap : Nat} (h : Row w g C) (hC : C.length = cap) (hl : len ≤ cap) (hm : cap ≤ 1000000000000) {m : Int} (hmb : Byte m) : PageSt w ⟨some g, len, cap, m, behindOf m⟩ 0 :=
  ⟨hl, (fun e => by cases e), hm, hmb, behindOf_byte m, fun g' hg => by
    obtain rfl := Option.some.inj hg
    exact ⟨C, h, hC, fun e => absurd e (by omega), fun e => absurd e (by omega)⟩⟩
theorem apart3 {p q r : Pg} {a b c : Nat} (hp : p.g = some a) (hq : q.g = some b) (hr : r.g = some c) (h1 : a ≠ b) (h2 : b ≠ c) (h3 : a ≠ c) : ApartL [p, q, r] := by
  intro i j x y hx hy hij g hg
  rcases i with _ | _ | _ | i <;> rcases j with _ | _ | _ | j <;> simp at hx hy <;> first | (exact absurd rfl hij) | (subst hx; subst hy; simp_all; try omega)
theorem pages3 {w : World} {p q r : Pg} (h1 : PageSt w p 0) (h2 : PageSt w q 0) (h3 : PageSt w r 0) : Pages w [p, q, r] 0 0 := by
  intro k x hx
  rw [if_neg (by omega)]
  rcases k with _ | _ | _ | k <;> simp at hx <;> subst hx <;> assumption

set_option maxRecDepth 100000 in
set_option maxHeartbeats 8000000 in
theorem num_any (n : Nat) (Z : List Int) (a : Option Addr) (g o cap : Nat) (w : World) (hn : n < 4294967296) (hz : BytesAt w g o Z) (ha : 0 < Z.length → a = some ⟨g, o, none⟩) (hl : Z.length ≤ 3000) :
    Calls Try.prog 3 #[.slice a Z.length cap, .int .u32 n] w fun e w' => e = .returned (.bool true) ∧ Chg (fun _ => False) w w' := by
  have HZ := Lib.hid hz
  have HA := Lib.hid ha
  have HP5 := Lib.hid (putL_len5 hn)
  clear hz ha
  go_enter Try.func3, Try.ntmps3
  go_wp2_with fail
  refine (twinBytes_any Z a g o cap w HZ.out HA.out (by omega)).mono ?_
  rintro e w1 ⟨h, rfl, hh, hr1, hc1⟩
  have HR1 := Lib.hid hr1
  have HC1 := Lib.hid hc1
  have hlt1 := hr1.lt
  clear hr1 hc1
  go_wp2_with fail
  refine (put_any Z n (some ⟨h, 0, none⟩) h 0 (Z.length + 2) w1 (HR1.out.bytes (List.prefix_append _ _)) (fun _ => rfl) (by omega) hn).mono ?_
  obtain ⟨P, hP⟩ : ∃ P, Z ++ putL n = P := ⟨_, rfl⟩
  rw [hP]
  have hPl : P.length ≤ 3005 := by have := HP5.out; rw [← hP, List.length_append]; omega
  have HPP := Lib.hid hP
  clear hP
  rintro e w2 ⟨hx, rfl, hhx, hr2, hc2⟩
  have HR2 := Lib.hid hr2
  have HC2 := Lib.hid hc2
  have hlt2 := hr2.lt
  clear hr2 hc2
  go_wp2_with fail
  refine (put_any Z n (some ⟨h, 0, none⟩) h 0 (Z.length + 2) w2 ((HR1.out.chg HC2.out (fun h => h)).bytes (List.prefix_append _ _)) (fun _ => rfl) (by omega) hn).mono ?_
  rw [HPP.out]
  rintro e w3 ⟨hy, rfl, hhy, hr3, hc3⟩
  have HR3 := Lib.hid hr3
  have HC3 := Lib.hid hc3
  have hlt3 := hr3.lt
  clear hr3 hc3
  go_wp2_with fail
  refine (refPut_any Z n a g o cap w3 (HZ.out.chg (HC1.out.trans (HC2.out.trans HC3.out)) (fun _ h => h)) HA.out (by omega) hn).mono ?_
  rw [HPP.out]
  rintro e w4 ⟨hq, cq, rfl, hhq, hr4, hc4⟩
  have HR4 := Lib.hid hr4
  have HC4 := Lib.hid hc4
  clear hr4 hc4
  go_wp2_with fail
  refine (sameBytes_any P P _ _ hx 0 hq 0 _ cq w4 ((HR2.out.chg (HC3.out.trans HC4.out) (fun h => h)).bytes (List.prefix_refl _)) (fun _ => rfl) (HR4.out.bytes (List.prefix_refl _)) (fun _ => rfl) (by omega)).mono ?_
  rintro e w5 ⟨rfl, hc5⟩
  rw [show decide (P = P) = true by simp]
  have HC5 := Lib.hid hc5
  clear hc5
  go_wp2_with fail
  refine (sameBytes_any P P _ _ hx 0 hy 0 _ _ w5 ((HR2.out.chg (HC3.out.trans (HC4.out.trans HC5.out)) (fun h => h)).bytes (List.prefix_refl _)) (fun _ => rfl) ((HR3.out.chg (HC4.out.trans HC5.out) (fun h => h)).bytes (List.prefix_refl _)) (fun _ => rfl) (by omega)).mono ?_
  rintro e w6 ⟨rfl, hc6⟩
  rw [show decide (P = P) = true by simp]
  have HC6 := Lib.hid hc6
  clear hc6
  go_wp2_with fail
  refine (leftBytes_any Z Z a h g o cap w6 (HR1.out.chg (HC2.out.trans (HC3.out.trans (HC4.out.trans (HC5.out.trans HC6.out)))) (fun h => h)) (HZ.out.chg (HC1.out.trans (HC2.out.trans (HC3.out.trans (HC4.out.trans (HC5.out.trans HC6.out))))) (fun _ h => h)) HA.out (by omega)).mono ?_
  rintro e w7 ⟨rfl, hc7⟩
  rw [show decide (Z = Z) = true by simp]
  have HC7 := Lib.hid (HC1.out.trans (HC2.out.trans (HC3.out.trans (HC4.out.trans (HC5.out.trans (HC6.out.trans hc7))))))
  have HT := Lib.hid (HR1.out.chg (HC2.out.trans (HC3.out.trans (HC4.out.trans (HC5.out.trans (HC6.out.trans hc7))))) (fun h => h))
  have HX := Lib.hid (HR2.out.chg (HC3.out.trans (HC4.out.trans (HC5.out.trans (HC6.out.trans hc7)))) (fun h => h))
  have HY := Lib.hid (HR3.out.chg (HC4.out.trans (HC5.out.trans (HC6.out.trans hc7))) (fun h => h))
  have hs7 : w3.heap.size ≤ w7.heap.size := (HC4.out.trans (HC5.out.trans (HC6.out.trans hc7))).size
  clear hc7 HC1 HC2 HC3 HC4 HC5 HC6 HR1 HR2 HR3 HR4
  go_wp2_with fail
  have HB0 : Hid (BookAt (w7.alloc (.cells #[.slice none 0 0] 30)) (w7.heap.size + 1) w7.heap.size (.slice none 0 0) []) :=
    Lib.hid ⟨by rw [World.cell?_alloc_new]; rfl, World.frozen?_alloc_new _ _ _ _, ⟨rfl, .inl ⟨rfl, rfl⟩⟩, by simp, by omega⟩
  have HC0 := Lib.hid ((Chg.refl (fun _ => False) w7).alloc (.cells #[.slice none 0 0] 30))
  refine (bookBytes_any (w7.heap.size + 1) w7.heap.size _ [] ⟨some h, Z.length, Z.length + 2, 1, behindOf 1⟩ _ HB0.out (by simp) rfl rfl).mono ?_
  rintro e w8 ⟨v8, rfl, hb8, hc8⟩
  have HB8 := Lib.hid hb8
  have HC8 := Lib.hid ((HC0.out.any.trans (hc8.mono (T := fun k => w7.heap.size ≤ k) (fun k _ e => by omega))))
  clear hb8 hc8 HB0 HC0
  go_wp2_with fail
  refine (bookBytes_any (w7.heap.size + 1) w7.heap.size v8 _ ⟨some hx, P.length, P.length, 2, behindOf 2⟩ w8 HB8.out (by simp) rfl rfl).mono ?_
  rintro e w9 ⟨v9, rfl, hb9, hc9⟩
  have HB9 := Lib.hid hb9
  have HC9 := Lib.hid (HC8.out.trans (hc9.mono (T := fun k => w7.heap.size ≤ k) (fun k _ e => by omega)))
  clear hb9 hc9 HB8 HC8
  go_wp2_with fail
  refine (bookBytes_any (w7.heap.size + 1) w7.heap.size v9 _ ⟨some hy, P.length, P.length, 3, behindOf 3⟩ w9 HB9.out (by simp) rfl rfl).mono ?_
  rintro e w10 ⟨v10, rfl, hb10, hc10⟩
  have HB10 := Lib.hid hb10
  have HC10 := Lib.hid (HC9.out.trans (hc10.mono (T := fun k => w7.heap.size ≤ k) (fun k _ e => by omega)))
  clear hb10 hc10 HB9 HC9
  have hT7 := HT.out.lt
  have hX7 := HX.out.lt
  have hY7 := HY.out.lt
  have HPG : Hid (Pages w10 [⟨some h, Z.length, Z.length + 2, 1, behindOf 1⟩, ⟨some hx, P.length, P.length, 2, behindOf 2⟩, ⟨some hy, P.length, P.length, 3, behindOf 3⟩] 0 0) := Lib.hid (pages3
    (page_of (HT.out.chg HC10.out (by omega)) (by simp) (by omega) (by omega) (by constructor <;> omega))
    (page_of (HX.out.chg HC10.out (by omega)) rfl (Nat.le_refl _) (by omega) (by constructor <;> omega))
    (page_of (HY.out.chg HC10.out (by omega)) rfl (Nat.le_refl _) (by omega) (by constructor <;> omega)))
  have HAL : Hid (ApartL [⟨some h, Z.length, Z.length + 2, 1, behindOf 1⟩, ⟨some hx, P.length, P.length, 2, behindOf 2⟩, ⟨some hy, P.length, P.length, 3, behindOf 3⟩]) := Lib.hid (apart3 rfl rfl rfl (by omega) (by omega) (by omega))
  go_wp2_with fail
  refine (apart_any (w7.heap.size + 1) w7.heap.size v10 _ w10 HB10.out (by simp) HPG.out (by
    intro p hp g hg
    simp at hp
    rcases hp with rfl | rfl | rfl <;> (simp at hg; omega)) HAL.out).mono ?_
  rintro e w11 ⟨rfl, hc11⟩
  have HC11 : Hid (Chg (fun _ => False) w w11) := Lib.hid (((HC7.out.any.trans (HC10.out.mono (T := fun k => w.heap.size ≤ k) (fun k _ e => by have := HC7.out.size; omega))).trans (hc11.mono (T := fun k => w.heap.size ≤ k) (fun k _ e => by
    obtain ⟨p, hp, hg⟩ := e
    simp at hp
    rcases hp with rfl | rfl | rfl <;> (simp at hg; omega)))).fresh)
  clear hc11 HC10 HB10 HPG HAL HC7 HT HX HY
  go_wp2_with fail
  refine (lives_any _).mono ?_
  rintro e w12 ⟨rfl, hc12⟩
  have HC12 := Lib.hid (HC11.out.trans hc12)
  clear hc12
  go_wp2
  go_ret
  exact ⟨rfl, HC12.out⟩

set_option maxRecDepth 100000 in
set_option maxHeartbeats 2000000 in
theorem num_long (n : Int) (a : Option Addr) (k cap : Nat) (w : World) (hl : 3000 < k) :
    Calls Try.prog 3 #[.slice a k cap, .int .u32 n] w fun e w' => e = .returned (.bool true) ∧ Chg (fun _ => False) w w' := by
  go_enter Try.func3, Try.ntmps3
  go_wp2_with fail
  refine (lives_any _).mono ?_
  rintro e w7 ⟨rfl, hc7⟩
  have HC7 := Lib.hid hc7
  clear hc7
  go_wp2
  go_ret
  exact ⟨rfl, HC7.out⟩
end Go.Proofs.Ytnfniilimgfjoaa
