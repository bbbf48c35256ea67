/- 'RowsTake': its walk. -/
import Derived.Test.YtkfakkonlnjckaaRefTake
import Derived.Test.YtkfakkonlnjckaaBookM
import Derived.Test.YtkfakkonlnjckaaWrapsB
import Derived.Test.YtkfakkonlnjckaaRowsY
namespace Go.Proofs.Ytkfakkonlnjckaa
open Go.RowKit

/-- What both Takes answer. -/
def tkT (Z : List Int) (B : Most) : TabD := if takeOk Z B then (takeP Z B).1 else (0, [], [])
def tkN (Z : List Int) (B : Most) : Nat := if takeOk Z B then (takeP Z B).2.1 else 0
def tkE (Z : List Int) (B : Most) : Int := if takeOk Z B then 0 else 4
theorem tk_alike (Z : List Int) : tkT Z mostR = tkT Z mostP ∧ tkN Z mostR = tkN Z mostP ∧ tkE Z mostR = tkE Z mostP := by
  obtain ⟨h1, h2⟩ := take_alike Z
  unfold tkT tkN tkE
  rw [h1]
  by_cases h : takeOk Z mostR = true
  · rw [h2 h]; exact ⟨rfl, rfl, rfl⟩
  · simp [h]
theorem tk_lens (Z : List Int) (B : Most) : (tkT Z B).2.1.length ≤ 65536 ∧ (tkT Z B).2.2.length ≤ 65536 ∧ ∀ r ∈ (tkT Z B).2.1, r.2.length ≤ 65536 := by
  unfold tkT
  by_cases h : takeOk Z B = true
  · rw [if_pos h]
    simp only [takeOk, Bool.and_eq_true] at h
    obtain ⟨W, R, O, s, hT⟩ : ∃ W R O s, takeP Z B = ((W, R, O), s) := ⟨_, _, _, _, rfl⟩
    rw [hT] at h ⊢
    obtain ⟨h1, h2, h3, -⟩ := mayL_spec h.2
    have h4 := (tabNums_ok h.2).2
    refine ⟨by show R.length ≤ _; omega, by show O.length ≤ _; omega, fun r hr => ?_⟩
    have := (fine_bounds (W := W.toNat) (by omega) (h3 r hr)).2.1
    omega
  · rw [if_neg h]
    exact ⟨by simp, by simp, fun r hr => by cases hr⟩
theorem rowsNilE {E : Elt (Int × Int)} {F : Elt (Int × Sl)} (w : World) (B : Nat) : RowsIn E F w B (none, 0, 0) [] := ⟨[], .nil _ _ _, rfl, fun j x r hx => by simp at hx⟩
theorem take_all (Z : List Int) (a : Option Addr) (g o c : Nat) (w : World) (hz : BytesAt w g o Z) (ha : 0 < Z.length → a = some ⟨g, o, none⟩) (hcz : Z.length ≤ c) (hn : a = none → c = 0) (hl : Z.length ≤ 100000) :
    Calls Try.prog 35 #[.slice a Z.length c] w fun e w' => ∃ ra oa, e = .returned (.tuple #[.agg #[.int .i64 (tkT Z mostP).1, .slice ra (tkT Z mostP).2.1.length (tkT Z mostP).2.1.length, .slice oa (tkT Z mostP).2.2.length (tkT Z mostP).2.2.length], .int .i64 (tkN Z mostP), .int .i64 (tkE Z mostP)]) ∧
      RowsIn cellE rowE w' w.heap.size (ra, (tkT Z mostP).2.1.length, (tkT Z mostP).2.1.length) (tkT Z mostP).2.1 ∧ OfIn w' w.heap.size oa (tkT Z mostP).2.2 ∧ Chg (fun _ => False) w w' := by
  refine (takeTab_any Z a g o c w hz ha hcz hn hl).mono fun e w' h => ?_
  unfold tkT tkN tkE
  rcases h with ⟨h, ra, oa, h1, h2, h3, h4⟩ | ⟨h, h1, h2⟩
  · simp only [h, if_true]
    exact ⟨ra, oa, h1, h2, h3, h4⟩
  · simp only [h, Bool.false_eq_true, if_false]
    exact ⟨none, none, h1, rowsNilE _ _, .inl ⟨rfl, rfl⟩, h2⟩
theorem refTake_all (Z : List Int) (a : Option Addr) (g o c : Nat) (w : World) (hz : BytesAt w g o Z) (ha : 0 < Z.length → a = some ⟨g, o, none⟩) (hcz : Z.length ≤ c) (hn : a = none → c = 0) (hl : Z.length ≤ 100000) :
    Calls Try.prog 36 #[.slice a Z.length c] w fun e w' => ∃ ra oa rc oc, e = .returned (.tuple #[.agg #[.int .i64 (tkT Z mostP).1, .slice ra (tkT Z mostP).2.1.length rc, .slice oa (tkT Z mostP).2.2.length oc], .int .i64 (tkN Z mostP), .int .i64 (tkE Z mostP)]) ∧
      RowsIn cellR rowR w' w.heap.size (ra, (tkT Z mostP).2.1.length, rc) (tkT Z mostP).2.1 ∧ OfIn w' w.heap.size oa (tkT Z mostP).2.2 ∧ Chg (fun _ => False) w w' := by
  obtain ⟨e1, e2, e3⟩ := tk_alike Z
  rw [← e1, ← e2, ← e3]
  refine (refTakeTab_any Z a g o c w hz ha hcz hn hl).mono fun e w' h => ?_
  unfold tkT tkN tkE
  rcases h with ⟨h, ra, oa, rc, oc, h1, h2, h3, h4⟩ | ⟨h, h1, h2⟩
  · simp only [h, if_true]
    exact ⟨ra, oa, rc, oc, h1, h2, h3, h4⟩
  · simp only [h, Bool.false_eq_true, if_false]
    exact ⟨none, none, 0, 0, h1, rowsNilE _ _, .inl ⟨rfl, rfl⟩, h2⟩

/-- The page of the list of a table. -/
def ofPgN (n : Nat) (a : Option Addr) (O : List Int) : I.Pg := ⟨a.map (·.block), O.length, O.length, n, -(n : Int)⟩
theorem ofPgN_v {w : World} {B n : Nat} {a : Option Addr} {O : List Int} (h : OfIn w B a O) : (ofPgN n a O).v = .slice a O.length O.length := by
  rcases h with ⟨rfl, rfl⟩ | ⟨g, rfl, _⟩ <;> rfl
theorem ofPgN_st {w : World} {B n : Nat} {a : Option Addr} {O : List Int} (h : OfIn w B a O) (hm : O.length ≤ 1000000000000) (hn : n ≤ 1000000000) : (Page.i (ofPgN n a O)).St w 0 :=
  ⟨Nat.le_refl _, (fun e => by
    rcases h with ⟨rfl, rfl⟩ | ⟨g, rfl, _⟩
    · rfl
    · cases e), hm, by simp only [ofPgN, I.Byte]; omega, by simp only [ofPgN, I.Byte]; omega, fun g hg => by
    rcases h with ⟨rfl, rfl⟩ | ⟨g', rfl, hr, _⟩
    · cases hg
    · obtain rfl : g' = g := by injection hg
      exact ⟨O, hr, rfl, (fun h => by omega), (fun h => by omega)⟩⟩
theorem ofPgN_g {w : World} {B n : Nat} {a : Option Addr} {O : List Int} (h : OfIn w B a O) : ∀ g, (Page.i (ofPgN n a O)).g = some g → B ≤ g ∧ g < w.heap.size := by
  intro g hg
  rcases h with ⟨rfl, rfl⟩ | ⟨g', rfl, hr, hB⟩
  · cases hg
  · obtain rfl : g' = g := by injection hg
    exact ⟨hB, hr.lt⟩

set_option maxRecDepth 100000 in
set_option maxHeartbeats 8000000 in
theorem rowsTake_any (Z : List Int) (a : Option Addr) (g o c : Nat) (w : World) (hz : BytesAt w g o Z) (ha : 0 < Z.length → a = some ⟨g, o, none⟩) (hcz : Z.length ≤ c) (hn : a = none → c = 0) (hl : Z.length ≤ 500) :
    Calls Try.prog 7 #[.slice a Z.length c] w fun e w' => e = .returned (.bool true) ∧ Chg (fun _ => False) w w' := by
  have HZ := Lib.hid hz
  have HA := Lib.hid ha
  have HNN := Lib.hid hn
  obtain ⟨hlR, hlO, hlC⟩ := tk_lens Z mostP
  have HTP := Lib.hid (fun (h : Nat) (wx : World) (hr : Row wx h (Z ++ [195, 195])) => take_all Z (some ⟨h, 0, none⟩) h 0 (Z.length + 2) wx (hr.bytes (List.prefix_append _ _)) (fun _ => rfl) (by omega) (fun e => by cases e) (by omega))
  have HTR := Lib.hid (fun (wx : World) (hx : Chg (fun _ => False) w wx) => refTake_all Z a g o c wx (hz.chg hx (fun _ h => h)) ha hcz hn (by omega))
  generalize tkT Z mostP = T at *
  generalize tkN Z mostP = N at *
  generalize tkE Z mostP = E at *
  obtain ⟨W, R, O⟩ := T
  simp only at hlR hlO hlC HTP HTR
  have HLC : Hid (∀ r ∈ R, r.2.length ≤ 1000000000) := Lib.hid (fun r hr => by have := hlC r hr; omega)
  clear hz ha hn hlC
  go_enter Try.func7, Try.ntmps7
  go_wp2_with fail
  refine (twinBytes_any Z a g o c w HZ.out HA.out (by omega)).mono ?_
  rintro e w1 ⟨h, rfl, hh, hr1, hc1⟩
  have HR1 := Lib.hid hr1
  have HC1 := Lib.hid hc1
  clear hr1 hc1
  go_wp2_with fail
  refine (HTP.out h w1 HR1.out).mono ?_
  rintro e w2 ⟨ra, oa, rfl, hR, hO, hc2⟩
  have HRA := Lib.hid hR
  have HOA := Lib.hid hO
  have HC2 := Lib.hid hc2
  obtain ⟨wA, hwA⟩ : ∃ x, x = w2.alloc (.cells #[.int .i64 W, .slice ra R.length R.length, .slice oa O.length O.length] 45) := ⟨_, rfl⟩
  have HCA : Hid (Chg (fun _ => False) w2 wA) := Lib.hid (by rw [hwA]; exact (Chg.refl _ _).alloc _)
  have HBA : Hid (∀ wx, Chg (fun _ => False) wA wx → wx.cell? ⟨w2.heap.size, 0, none⟩ = some (.int .i64 W) ∧ wx.cell? ⟨w2.heap.size, 1, none⟩ = some (.slice ra R.length R.length) ∧ wx.cell? ⟨w2.heap.size, 2, none⟩ = some (.slice oa O.length O.length)) := Lib.hid (fun wx hx => by subst hwA; exact ⟨hx.cellS (by simp) (fun h => h), hx.cellS (by simp) (fun h => h), hx.cellS (by simp) (fun h => h)⟩)
  have HWA := Lib.hid hwA
  clear hR hO hc2 hwA
  go_upto_region 5 with (fail)
  rw [← HWA.out]
  go_wp2_with fail
  refine (HTR.out wA (HC1.out.trans (HC2.out.trans HCA.out))).mono ?_
  rintro e w3 ⟨rb, ob, rc, oc, rfl, hR, hO, hc3⟩
  have HRB := Lib.hid hR
  have HOB := Lib.hid hO
  have HC3 := Lib.hid hc3
  obtain ⟨wB, hwB⟩ : ∃ x, x = w3.alloc (.cells #[.int .i64 W, .slice rb R.length rc, .slice ob O.length oc] 50) := ⟨_, rfl⟩
  have HCB : Hid (Chg (fun _ => False) w3 wB) := Lib.hid (by rw [hwB]; exact (Chg.refl _ _).alloc _)
  have HBB : Hid (∀ wx, Chg (fun _ => False) wB wx → wx.cell? ⟨w3.heap.size, 0, none⟩ = some (.int .i64 W) ∧ wx.cell? ⟨w3.heap.size, 1, none⟩ = some (.slice rb R.length rc) ∧ wx.cell? ⟨w3.heap.size, 2, none⟩ = some (.slice ob O.length oc)) := Lib.hid (fun wx hx => by subst hwB; exact ⟨hx.cellS (by simp) (fun h => h), hx.cellS (by simp) (fun h => h), hx.cellS (by simp) (fun h => h)⟩)
  have HWB := Lib.hid hwB
  clear hR hO hc3 hwB HTR
  go_upto_region 6 with (fail)
  rw [← HWB.out]
  have HAB := Lib.hid (HCA.out.trans (HC3.out.trans HCB.out))
  go_wp2_with fail
  refine (HTP.out h wB (HR1.out.chg (HC2.out.trans HAB.out) (fun h => h))).mono ?_
  rintro e w4 ⟨rs, os, rfl, hR, hO, hc4⟩
  have HOS := Lib.hid hO
  have HC4 := Lib.hid hc4
  obtain ⟨wC, hwC⟩ : ∃ x, x = w4.alloc (.cells #[.int .i64 W, .slice rs R.length R.length, .slice os O.length O.length] 45) := ⟨_, rfl⟩
  have HCC : Hid (Chg (fun _ => False) w4 wC) := Lib.hid (by rw [hwC]; exact (Chg.refl _ _).alloc _)
  have HBC : Hid (∀ wx, Chg (fun _ => False) wC wx → wx.cell? ⟨w4.heap.size, 0, none⟩ = some (.int .i64 W) ∧ wx.cell? ⟨w4.heap.size, 1, none⟩ = some (.slice rs R.length R.length) ∧ wx.cell? ⟨w4.heap.size, 2, none⟩ = some (.slice os O.length O.length)) := Lib.hid (fun wx hx => by subst hwC; exact ⟨hx.cellS (by simp) (fun h => h), hx.cellS (by simp) (fun h => h), hx.cellS (by simp) (fun h => h)⟩)
  have HWC := Lib.hid hwC
  have HBCC := Lib.hid (HC4.out.trans HCC.out)
  clear hR hO hc4 hwC HTP
  go_upto_region 7 with (fail)
  rw [← HWC.out]
  have HK0 : Hid (BookAt (wC.alloc (.cells #[.slice none 0 0] 61)) (wC.heap.size + 1) wC.heap.size (.slice none 0 0) []) :=
    Lib.hid ⟨by rw [World.cell?_alloc_new]; rfl, World.frozen?_alloc_new _ _ _ _, ⟨rfl, .inl ⟨rfl, rfl⟩⟩, by simp, by omega⟩
  have HCK0 := Lib.hid ((Chg.refl (fun _ => False) wC).alloc (.cells #[.slice none 0 0] 61))
  have HM0 := Lib.hid (bookNums_any (wC.heap.size + 1) wC.heap.size _ [] (ofPgN 1 os O) _ HK0.out (by simp) rfl rfl)
  rw [ofPgN_v HOS.out] at HM0
  obtain ⟨q0, q1, q2⟩ := HBC.out _ HCK0.out
  go_wp2_with fail
  refine HM0.out.mono ?_
  rintro e w5 ⟨v5, rfl, hk5, hc5⟩
  have HK5 := Lib.hid hk5
  have HC5 := Lib.hid (HCK0.out.any.trans (hc5.mono (T := fun k => wC.heap.size ≤ k) (fun k _ e => by omega)))
  have HM1 := Lib.hid (bookNums_any (wC.heap.size + 1) wC.heap.size v5 _ (ofPgN 2 oa O) w5 HK5.out (by simp) rfl rfl)
  rw [ofPgN_v HOA.out] at HM1
  clear hk5 hc5 HM0 HK0 HCK0 q0 q1 q2
  obtain ⟨q0, q1, q2⟩ := HBA.out w5 (HC3.out.trans (HCB.out.trans (HBCC.out.trans HC5.out.fresh)))
  go_wp2_with fail
  refine HM1.out.mono ?_
  rintro e w6 ⟨v6, rfl, hk6, hc6⟩
  have HK6 := Lib.hid hk6
  have HC6 := Lib.hid (HC5.out.trans (hc6.mono (T := fun k => wC.heap.size ≤ k) (fun k _ e => by omega)))
  clear hk6 hc6 HM1 HK5 HC5 q0 q1 q2
  have HCT := Lib.hid (HBCC.out.trans HC6.out.fresh)
  have hsz2 : wA.heap.size ≤ wB.heap.size := (HC3.out.trans HCB.out).size
  have hsz3 : w2.heap.size ≤ wA.heap.size := HCA.out.size
  have hsz4 : w4.heap.size ≤ wC.heap.size := HCC.out.size
  have hsz5 : wB.heap.size ≤ w4.heap.size := HC4.out.size
  have hsz1 : w1.heap.size ≤ w2.heap.size := HC2.out.size
  have hsz0 : w.heap.size ≤ w1.heap.size := HC1.out.size
  have HAP : Hid (∀ wx, Chg (fun _ => False) w6 wx → Calls Try.prog 29 #[.pointer (some ⟨wC.heap.size, 0, none⟩)] wx fun e w' => e = .returned (.bool true) ∧ Chg (fun k => w.heap.size ≤ k) wx w') := Lib.hid (fun wx hx => by
    have hs := ofPgN_g (n := 1) HOS.out
    have ht := ofPgN_g (n := 2) HOA.out
    have hcell : ∀ (j : Nat) (p : Page), ([] ++ [Page.i (ofPgN 1 os O)] ++ [Page.i (ofPgN 2 oa O)])[j]? = some p → (j = 0 ∧ p = Page.i (ofPgN 1 os O)) ∨ (j = 1 ∧ p = Page.i (ofPgN 2 oa O)) := by
      intro j p hp
      match j, hp with
      | 0, hp => exact .inl ⟨rfl, (Option.some.inj hp).symm⟩
      | 1, hp => exact .inr ⟨rfl, (Option.some.inj hp).symm⟩
      | j + 2, hp => simp at hp
    refine (apart_any (wC.heap.size + 1) wC.heap.size v6 _ wx (HK6.out.chg hx (fun h => h) (fun _ _ _ h => h)) (by simp) ?_ ?_ ?_).mono ?_
    · intro j p hp
      rw [if_neg (by omega)]
      rcases hcell j p hp with ⟨-, rfl⟩ | ⟨-, rfl⟩
      · exact ofPgN_st (HOS.out.same (HCC.out.trans (HC6.out.fresh.trans hx))) (by omega) (by omega)
      · exact ofPgN_st (HOA.out.same (HAB.out.trans (HCT.out.trans hx))) (by omega) (by omega)
    · intro p hp g hg
      obtain ⟨j, hj⟩ := List.getElem?_of_mem hp
      rcases hcell j p hj with ⟨-, rfl⟩ | ⟨-, rfl⟩
      · have := (hs g hg).2; omega
      · have := (ht g hg).2; omega
    · intro i j p q hp hq hij g hg hg'
      rcases hcell i p hp with ⟨rfl, rfl⟩ | ⟨rfl, rfl⟩ <;> rcases hcell j q hq with ⟨rfl, rfl⟩ | ⟨rfl, rfl⟩
      · exact hij rfl
      · have := hs g hg; have := ht g hg'; omega
      · have := hs g hg'; have := ht g hg; omega
      · exact hij rfl
    · rintro e w' ⟨h1, h2⟩
      refine ⟨h1, h2.mono fun k _ ⟨p, hp, hk⟩ => ?_⟩
      obtain ⟨j, hj⟩ := List.getElem?_of_mem hp
      rcases hcell j p hj with ⟨-, rfl⟩ | ⟨-, rfl⟩
      · have := (hs k hk).1; omega
      · have := (ht k hk).1; omega)
  obtain ⟨ga, hoat, hop⟩ := HOA.out.bytes
  obtain ⟨gb, hobt, hobp⟩ := HOB.out.bytes
  have HSM := Lib.hid (fun (wx : World) (hx : Chg (fun _ => False) w6 wx) => same_ok W R O ra oa rb ob R.length O.length rc oc _ _ ga 0 gb 0 wx (HRA.out.same (HAB.out.trans (HCT.out.trans hx))) (HRB.out.same (HCB.out.trans (HCT.out.trans hx))) HLC.out (hoat.chg (HAB.out.trans (HCT.out.trans hx)) (fun _ h => h)) hop (hobt.chg (HCB.out.trans (HCT.out.trans hx)) (fun _ h => h)) hobp (by omega) (by omega))
  have HLB := Lib.hid (fun (wx : World) (hx : Chg (fun _ => False) w6 wx) => leftBytes_any Z Z a h g o c wx (HR1.out.chg (HC2.out.trans (HAB.out.trans (HCT.out.trans hx))) (fun h => h)) (HZ.out.chg (HC1.out.trans (HC2.out.trans (HAB.out.trans (HCT.out.trans hx)))) (fun _ h => h)) HA.out (by omega))
  simp only [decide_true] at HLB
  have e1 : ((N : Int) == (N : Int)) = true := by simp
  have e2 : (E == E) = true := by simp
  clear hoat hop hobt hobp
  obtain ⟨q0, q1, q2⟩ := HBA.out w6 (HC3.out.trans (HCB.out.trans HCT.out))
  obtain ⟨q3, q4, q5⟩ := HBB.out w6 HCT.out
  go_wp2_with fail
  refine (HSM.out w6 (Chg.refl _ _)).mono ?_
  rintro e w7 ⟨rfl, hc7⟩
  have HC7 := Lib.hid hc7
  clear hc7 q0 q1 q2 q3 q4 q5 HSM
  go_wp2_with fail
  refine (HLB.out w7 HC7.out).mono ?_
  rintro e w8 ⟨rfl, hc8⟩
  have HC8 := Lib.hid (HC7.out.trans hc8)
  clear hc8 HLB
  go_wp2_with fail
  refine (HAP.out w8 HC8.out).mono ?_
  rintro e w9 ⟨rfl, hc9⟩
  have HC9 := Lib.hid hc9
  clear hc9 HAP
  go_wp2_with fail
  refine (lives_any w9).mono ?_
  rintro e w10 ⟨rfl, hc10⟩
  have HEND : Hid (Chg (fun _ => False) w w10) := Lib.hid (((((HC1.out.trans (HC2.out.trans (HAB.out.trans (HCT.out.trans HC8.out)))).any).trans HC9.out).trans hc10.any).fresh)
  clear hc10
  go_wp2
  go_ret
  exact ⟨rfl, HEND.out⟩

set_option maxRecDepth 100000 in
theorem rowsTake_long (a : Option Addr) (k cap : Nat) (w : World) (hl : 500 < k) :
    Calls Try.prog 7 #[.slice a k cap] w fun e w' => e = .returned (.bool true) ∧ Chg (fun _ => False) w w' := by
  go_enter Try.func7, Try.ntmps7
  go_wp2_with fail
  refine (lives_any _).mono ?_
  rintro e w7 ⟨rfl, hc7⟩
  have HC7 := Lib.hid hc7
  clear hc7
  go_wp2
  go_ret
  exact ⟨rfl, HC7.out⟩
end Go.Proofs.Ytkfakkonlnjckaa
