/- The document's Take (printed by wip/gen/reftake.py). -/
import Derived.Test.YtkfakkonlnjckaaTakeTab
import Derived.Test.YtkfakkonlnjckaaRefMay
import Derived.Test.YtkfakkonlnjckaaTwo
namespace Go.Proofs.Ytkfakkonlnjckaa
open Go.RowKit

theorem keep2q {ops : Array Oper} {md : Region.Mode} {n : Nat} {PC : World → Bool → Bool → Prop} {p q i : Nat} (hPC : ∀ w x y z, PC w x y → PC w x z) (hp : i ≠ p) : ∀ listed w, i ∈ Region.ready md ops listed → cls2 n PC p q listed w → cls2 n PC p q (listed.setIfInBounds i true) w := by
  intro listed w _ h
  exact ⟨by simpa using h.1, by rw [getD_set_ne false hp]; exact hPC _ _ _ _ h.2⟩
theorem wpC_storep {P : Program} {ops : Array Oper} {md : Region.Mode} {n : Nat} {PC : World → Bool → Bool → Prop} {p q : Nat} {L : Act → Prop} {o : Oper} {rest : List Oper} {a : Act} (hw : Region.wanted o (yielded ops a.tmps) = true) (hpq : p ≠ q) (hn : p < n)
    (hrun : ∀ w b, PC w false b → ∃ w', (execOp a.eval o).run P w = .ok .skip w' ∧ PC w' true b)
    (h : ∀ K : Act → Prop, (∀ a, wpC P ops md (cls2 n PC p q) L rest (p + 1) a → K a) → K (a.put o.dst undef)) : wpC P ops md (cls2 n PC p q) L (o :: rest) p a := by
  refine wpC_store hw (fun listed w hr hc => ?_) h
  have h0 := (mem_ready.1 hr).1
  have h1 : listed.getD p false = false := getD_both h0
  obtain ⟨hs, hc⟩ := hc
  rw [h1] at hc
  obtain ⟨w', h2, h3⟩ := hrun w _ hc
  refine ⟨w', h2, by simpa using hs, ?_⟩
  rw [getD_set_ne false hpq]
  have : (listed.setIfInBounds p true).getD p false = true := by simp [hs, hn]
  rw [this]
  exact h3
/-- How many there may be by now. -/
def LenS (n : Nat) (s : Rd) : Prop := n ≤ s.1 + 1 ∧ (s.2 = false → n ≤ s.1)
theorem LenS.next {n : Nat} {s t : Rd} (h : LenS n s) (hs : s.2 = false) (h1 : s.1 ≤ t.1) (h2 : t.2 = true ∨ s.1 < t.1) : LenS (n + 1) t := by
  have h3 := h.2 hs
  refine ⟨by omega, fun h4 => ?_⟩
  rcases h2 with h2 | h2
  · rw [h4] at h2; cases h2
  · omega
def LenB (R : List RowD) : Prop := ∀ r ∈ R, r.2.length ≤ 1000000
theorem LenB.add {R : List RowD} {r : RowD} (h : LenB R) (hr : r.2.length ≤ 1000000) : LenB (R ++ [r]) := fun x hx => by
  rcases List.mem_append.1 hx with hx | hx
  · exact h x hx
  · rw [List.mem_singleton] at hx; subst hx; exact hr
theorem TkSt.box (E : Elt (Int × Int)) (F : Elt (Int × Sl)) {b : Nat} {sl : Value} {w : World} {s : Rd} (h : RdAt w b sl s) (W : Int) (e : TypeId) :
    TkSt E F b w.heap.size (w.heap.size + 1) sl (w.alloc (.cells #[.int .i64 W, .slice none 0 0, .slice none 0 0] e)) s W [] [] (.slice none 0 0) (.slice none 0 0) :=
  ⟨⟨by rw [World.cell?_alloc_new]; rfl, by rw [World.cell?_alloc_new]; rfl, World.frozen?_alloc_new _ _ _ _, by rw [World.cell?_alloc_new]; rfl, World.frozen?_alloc_new _ _ _ _, ⟨[], .nil _ _, rfl, fun j x r hx => by simp at hx⟩, .nil _ _, fun g hg => (by cases hg), by omega⟩,
    h.chg ((Chg.refl (fun _ => False) w).alloc _) (fun h => h), World.frozen?_alloc_new _ _ _ _, by have := h.lt; omega, by have := h.lt; omega⟩

set_option maxRecDepth 100000 in
set_option maxHeartbeats 16000000 in
theorem refTakeTab_right (Z : List Int) (a : Option Addr) (g o c : Nat) (w : World) (hz : BytesAt w g o Z) (ha : 0 < Z.length → a = some ⟨g, o, none⟩) (hcz : Z.length ≤ c) (hn : a = none → c = 0) (hl : Z.length ≤ 100000) (hv0 : (takeP Z mostR).2.2 = false) :
    Calls Try.prog 36 #[.slice a Z.length c] w fun e w' => (takeOk Z mostR = true ∧ ∃ ra oa rc oc, e = .returned (.tuple #[.agg #[.int .i64 (takeP Z mostR).1.1, .slice ra (takeP Z mostR).1.2.1.length rc, .slice oa (takeP Z mostR).1.2.2.length oc], .int .i64 (takeP Z mostR).2.1, .int .i64 0]) ∧
      RowsIn cellR rowR w' w.heap.size (ra, (takeP Z mostR).1.2.1.length, rc) (takeP Z mostR).1.2.1 ∧ OfIn w' w.heap.size oa (takeP Z mostR).1.2.2 ∧ Chg (fun _ => False) w w') ∨
      (takeOk Z mostR = false ∧ e = .returned (.tuple #[.agg #[.int .i64 0, .slice none 0 0, .slice none 0 0], .int .i64 0, .int .i64 4]) ∧ Chg (fun _ => False) w w') := by
  obtain ⟨wt, hwt⟩ : ∃ x, x = w.alloc (.cells #[.int .i64 0, .slice none 0 0, .slice none 0 0] 50) := ⟨_, rfl⟩
  have hst : wt.heap.size = w.heap.size + 1 := by rw [hwt]; simp
  have HCT : Hid (Chg (fun _ => False) w wt) := Lib.hid (by rw [hwt]; exact (Chg.refl _ _).alloc _)
  have HN : Hid (∀ (s : Rd) (wx : World), s.1 ≤ Z.length → Chg (fun j => w.heap.size + 1 ≤ j) wt wx → RdAt wx (w.heap.size + 1) (.slice a Z.length c) s → Calls Try.prog 65 #[.pointer (some ⟨w.heap.size + 1, 0, none⟩)] wx fun e w' => e = .returned (.int .i64 (numP Z 4294967295 s).1) ∧ RdAt w' (w.heap.size + 1) (.slice a Z.length c) (numP Z 4294967295 s).2 ∧ Chg (fun j => j = w.heap.size + 1) wx w') := Lib.hid (fun s wx h1 h2 h3 =>
    refNum_all Z a g o c (w.heap.size + 1) s wx ((hz.chg HCT.out (fun _ h => h)).chg h2 (fun hne e => by have := hz.lt hne; omega)) ha hcz hn (by omega) h1 h3)
  have HBZ : Hid (∀ wx, Chg (fun j => w.heap.size + 1 ≤ j) wt wx → (wx.cell? ⟨w.heap.size, 0, none⟩ = some (.int .i64 0) ∧ wx.cell? ⟨w.heap.size, 1, none⟩ = some (.slice none 0 0) ∧ wx.cell? ⟨w.heap.size, 2, none⟩ = some (.slice none 0 0)) ∧ ∀ j, wx.frozen? ⟨w.heap.size, j, none⟩ = false) := Lib.hid (fun wx hx => by
    have hne : ¬ w.heap.size + 1 ≤ w.heap.size := by omega
    subst hwt
    exact ⟨⟨hx.cellS (by simp) hne, hx.cellS (by simp) hne, hx.cellS (by simp) hne⟩, fun j => (hx.frozen (p := ⟨w.heap.size, j, none⟩) (by simp) hne).trans (World.frozen?_alloc_new _ _ _ _)⟩)
  obtain ⟨wb, hwb⟩ : ∃ x, x = wt.alloc (.cells #[.slice a Z.length c, .int .i64 0, .bool false] 114) := ⟨_, rfl⟩
  have HRB : Hid (RdAt wb (w.heap.size + 1) (.slice a Z.length c) (0, false)) := Lib.hid (by
    rw [← hst, hwb]
    exact ⟨by rw [World.cell?_alloc_new]; rfl, by rw [World.cell?_alloc_new]; rfl, by rw [World.cell?_alloc_new]; rfl, fun j => World.frozen?_alloc_new _ _ _ _⟩)
  have HCB : Hid (Chg (fun j => w.heap.size + 1 ≤ j) wt wb) := Lib.hid (by rw [hwb]; exact (Chg.refl _ _).alloc _)
  obtain ⟨P, hP⟩ : ∃ x, numP Z 4294967295 (0, false) = x := ⟨_, rfl⟩
  obtain ⟨Q, hQ⟩ : ∃ x, numP Z 4294967295 P.2 = x := ⟨_, rfl⟩
  obtain ⟨RR, hRR⟩ : ∃ x, rowsP Z 4294967295 4294967295 Q.1 Q.2 [] = x := ⟨_, rfl⟩
  obtain ⟨U, hU⟩ : ∃ x, numP Z 4294967295 RR.2 = x := ⟨_, rfl⟩
  obtain ⟨V, hV⟩ : ∃ x, ofP Z 4294967295 U.1 U.2 [] = x := ⟨_, rfl⟩
  have htk : takeP Z mostR = (((P.1 : Int), RR.1, V.1), V.2) := by
    unfold takeP
    simp only [mostR]
    rw [hP, hQ, hRR, hU, hV]
  have hV2 : V.2.2 = false := by rw [htk] at hv0; exact hv0
  have hR2 : RR.2.2 = false := numP_mono (m := 4294967295) (Z := Z) (by rw [hU]; exact ofP_mono (Z := Z) (mm := 4294967295) (k := U.1) (acc := []) (by rw [hV]; exact hV2))
  have HR2 := Lib.hid hR2
  clear hR2
  have HV2 := Lib.hid hV2
  clear hV2 hv0
  have hPl := numP_le (Z := Z) (m := 4294967295) (s := (0, false)) (Nat.zero_le _)
  rw [hP] at hPl
  have hQl := numP_le (m := 4294967295) hPl.1
  rw [hQ] at hQl
  have HPL := Lib.hid hPl
  have HQL := Lib.hid hQl
  have hP1 := hPl.2.1
  have hQ1 := hQl.2.1
  have HP := Lib.hid hP
  have HQ := Lib.hid hQ
  have HRR := Lib.hid hRR
  have HU := Lib.hid hU
  have HV := Lib.hid hV
  have HWT := Lib.hid hwt
  have HWB := Lib.hid hwb
  unfold takeOk
  rw [htk]
  simp only
  clear hz ha hcz hn hwt hwb hP hQ hRR hU hV htk hPl hQl
  go_enter Try.func36, Try.ntmps36
  go_upto_region 1 with (fail)
  rw [← HWT.out]
  go_upto_region 2 with (fail)
  rw [← HWB.out]
  clear hst
  go_wp2_with fail
  have HN0 := Lib.hid (HN.out (0, false) wb (Nat.zero_le _) HCB.out HRB.out)
  rw [HP.out] at HN0
  refine HN0.out.mono ?_
  rintro e w1 ⟨rfl, hr1, hc1⟩
  have HST1 := Lib.hid (TkSt.box cellR rowR hr1 (P.1 : Int) 50)
  have HC1 := Lib.hid ((HCB.out.trans (hc1.mono (T := fun j => w.heap.size + 1 ≤ j) (fun k _ e => by omega))).alloc (.cells #[.int .i64 (P.1 : Int), .slice none 0 0, .slice none 0 0] 50))
  have hb1 : w.heap.size + 1 < w1.heap.size := hr1.lt
  have HN3 := Lib.hid (HN.out P.2 _ HPL.out.1 HC1.out HST1.out.r)
  rw [HQ.out] at HN3
  clear hr1 hc1 HN0
  go_wp2_with fail
  refine HN3.out.mono ?_
  rintro e w3 ⟨rfl, hr3, hc3⟩
  have HST3 := Lib.hid (HST1.out.read hr3 hc3)
  have HC3 := Lib.hid (HC1.out.trans (hc3.mono (T := fun j => w.heap.size + 1 ≤ j) (fun k _ e => by omega)))
  clear hr3 hc3 HST1 HC1 HN3
  go_wp2
  go_loopw [8] (fun q wr => ∃ (i K : Nat) (s : Rd) (R : List RowD) (v : Value), q = .int .i64 i ∧ i + K = Q.1 ∧ TkSt cellR rowR (w.heap.size + 1) w1.heap.size (w1.heap.size + 1) (.slice a Z.length c) wr s P.1 R [] v (.slice none 0 0) ∧ s.1 ≤ Z.length ∧ (LenS R.length s ∧ LenB R) ∧ rowsP Z 4294967295 4294967295 K s R = RR ∧ Chg (fun j => w.heap.size + 1 ≤ j) wt wr) (fun q _ => Q.1 - (intOf q).toNat)
  case atStart => exact ⟨0, Q.1, Q.2, [], _, rfl, by omega, HST3.out, HQL.out.1, ⟨⟨Nat.zero_le _, fun _ => Nat.zero_le _⟩, fun r hr => by cases hr⟩, HRR.out, HC3.out⟩
  case round =>
    clear HST3 HC3 HRR
    obtain ⟨i, K, s, R, v, rfl, hiK, hst, hs, ⟨hls, hlb⟩, hT, hc⟩ := hrel
    have HST := Lib.hid hst
    have HSL := Lib.hid hs
    have HLS := Lib.hid hls
    have HLB := Lib.hid hlb
    have HRR := Lib.hid hT
    have HC := Lib.hid hc
    obtain ⟨va, vl, vc, rfl⟩ : ∃ a n c, v = .slice a n c := by obtain ⟨X, h1, _⟩ := hst.t.rows; exact h1.shape3
    obtain ⟨sp, sb⟩ := s
    have c2 := hst.r.c2
    simp only at c2
    have hRl : R.length ≤ 100001 := by have := hls.1; simp only at this hs; omega
    clear hst hs hT hc hls hlb
    by_cases hgo : 0 < K ∧ sb = false
    · obtain ⟨hK, rfl⟩ := hgo
      obtain ⟨m, rfl⟩ : ∃ m, K = m + 1 := ⟨K - 1, by omega⟩
      have b25 : decide ((i : Int) < (Q.1 : Int)) = true := by simp; omega
      obtain ⟨A, hA⟩ : ∃ x, numP Z 4294967295 (sp, false) = x := ⟨_, rfl⟩
      obtain ⟨C, hC'⟩ : ∃ x, numP Z 4294967295 A.2 = x := ⟨_, rfl⟩
      obtain ⟨T, hT⟩ : ∃ x, cellsP Z 4294967295 4294967295 C.1 C.2 0 [] = x := ⟨_, rfl⟩
      have hrow : rowP Z 4294967295 4294967295 (sp, false) = (((A.1 : Int) - 1, T.1), T.2) := by
        unfold rowP
        rw [hA, hC', hT]
      have hAl := numP_le (m := 4294967295) HSL.out
      rw [hA] at hAl
      have hCl := numP_le (m := 4294967295) hAl.1
      rw [hC'] at hCl
      have HAL := Lib.hid hAl
      have HCL := Lib.hid hCl
      have hA1 := hAl.2.1
      have hC1' := hCl.2.1
      have HTN : Hid (rowsP Z 4294967295 4294967295 m T.2 (R ++ [((A.1 : Int) - 1, T.1)]) = RR) := Lib.hid (by
        rw [← HRR.out, rowsP_step rfl, hrow])
      have HT2 : Hid (T.2.2 = false) := Lib.hid (rowsP_mono (k := m) (acc := R ++ [((A.1 : Int) - 1, T.1)]) (by rw [HTN.out]; exact HR2.out))
      have HAE := Lib.hid hA
      have HCE := Lib.hid hC'
      have HTE := Lib.hid hT
      have HN7 := Lib.hid (HN.out (sp, false) wr HSL.out HC.out HST.out.r)
      rw [hA] at HN7
      clear hAl hCl hA hC' hT hrow
      go_wp2_with fail
      refine HN7.out.mono ?_
      rintro e w5 ⟨rfl, hr5, hc5⟩
      have HST5 := Lib.hid (HST.out.read hr5 hc5)
      have HC5 := Lib.hid (HC.out.trans (hc5.mono (T := fun j => w.heap.size + 1 ≤ j) (fun k _ e => by omega)))
      have hb5 : w1.heap.size + 1 ≤ w5.heap.size := by have := HST5.out.t.lt; omega
      have HX5 := Lib.hid (CellSt.start cellR hr5 ((A.1 : Int) - 1) 33)
      have HC6 : Hid (Chg (fun j => j = w.heap.size + 1 ∨ w5.heap.size ≤ j) w5 (w5.alloc (.cells #[.int .i64 ((A.1 : Int) - 1), .slice none 0 0] 33))) := Lib.hid ((Chg.refl _ _).alloc _)
      have HUP : Hid (∀ wx, Chg (fun j => j = w.heap.size + 1 ∨ w5.heap.size ≤ j) w5 wx → Chg (fun j => w.heap.size + 1 ≤ j) wt wx) := Lib.hid (fun wx hx => HC5.out.trans (hx.mono (fun k _ e => by omega)))
      have HN8 := Lib.hid (HN.out A.2 _ HAL.out.1 (HUP.out _ HC6.out) HX5.out.r)
      rw [HCE.out] at HN8
      clear hr5 hc5 c2 HST HC HN7
      go_wp2_with fail
      refine HN8.out.mono ?_
      rintro e w6 ⟨rfl, hr6, hc6⟩
      have HX6 := Lib.hid (HX5.out.read hr6 hc6)
      have HC7 := Lib.hid (HC6.out.trans (hc6.mono (T := fun j => j = w.heap.size + 1 ∨ w5.heap.size ≤ j) (fun k _ e => .inl e)))
      clear hr6 hc6 HX5 HC6 HN8
      go_wp2
      go_loopw [11, 12] (fun q11 q wr => ∃ (k K : Nat) (s : Rd) (X : Int) (acc : List (Int × Int)) (v : Value), q11 = .int .i64 X ∧ q = .int .i64 k ∧ k + K = C.1 ∧ CellSt cellR (w.heap.size + 1) w5.heap.size (.slice a Z.length c) wr ((A.1 : Int) - 1) s acc v ∧ s.1 ≤ Z.length ∧ ((0 ≤ X ∧ X ≤ (acc.length : Int) * 4294967296) ∧ LenS acc.length s) ∧ cellsP Z 4294967295 4294967295 K s X acc = T ∧ sp ≤ s.1 ∧ (s.2 = true ∨ sp < s.1) ∧ Chg (fun j => j = w.heap.size + 1 ∨ w5.heap.size ≤ j) w5 wr) (fun _ q _ => C.1 - (intOf q).toNat)
      case atStart => exact ⟨0, C.1, C.2, 0, [], _, rfl, rfl, by omega, HX6.out, HCL.out.1, ⟨⟨by omega, by simp⟩, ⟨Nat.zero_le _, fun _ => Nat.zero_le _⟩⟩, HTE.out, by have h1 : sp ≤ A.2.1 := HAL.out.2.2.2.1; have h2 : A.2.1 ≤ C.2.1 := HCL.out.2.2.2.1; omega, by
        rcases HAL.out.2.2.2.2.2 with h | h
        · exact .inl (HCL.out.2.2.2.2.1 h)
        · have h1 : sp < A.2.1 := h; have h2 : A.2.1 ≤ C.2.1 := HCL.out.2.2.2.1; exact .inr (by omega), HC7.out⟩
      case round =>
        clear HX6 HC7 HTE
        obtain ⟨k, K, s, X, acc, v, rfl, rfl, hkK, hst, hs, ⟨⟨hX0, hX1⟩, hls⟩, hT, hsp, hsp2, hc⟩ := hrel
        have HX := Lib.hid hst
        have HSS' := Lib.hid hs
        have HLA := Lib.hid hls
        have HTE := Lib.hid hT
        have HCX := Lib.hid hc
        have HSP := Lib.hid (And.intro hsp hsp2)
        obtain ⟨ya, yl, yc, rfl⟩ := hst.f.own.shape3
        obtain ⟨tp, tb⟩ := s
        have c2 := hst.r.c2
        simp only at c2
        have hal : acc.length ≤ 100001 := by have := hls.1; simp only at this hs; omega
        clear hst hs hT hc hls hsp hsp2
        by_cases hgo : 0 < K ∧ tb = false
        · obtain ⟨hK, rfl⟩ := hgo
          obtain ⟨m', rfl⟩ : ∃ m, K = m + 1 := ⟨K - 1, by omega⟩
          have b43 : decide ((k : Int) < (C.1 : Int)) = true := by simp; omega
          obtain ⟨N, hN⟩ : ∃ x, numP Z 4294967295 (tp, false) = x := ⟨_, rfl⟩
          obtain ⟨D, hD⟩ : ∃ x, numP Z 4294967295 N.2 = x := ⟨_, rfl⟩
          have hNl := numP_le (m := 4294967295) HSS'.out
          rw [hN] at hNl
          have hDl := numP_le (m := 4294967295) hNl.1
          rw [hD] at hDl
          have HNL := Lib.hid hNl
          have HDL := Lib.hid hDl
          have hN1 := hNl.2.1
          have hD1 := hDl.2.1
          have HTM : Hid (cellsP Z 4294967295 4294967295 m' D.2 (X + N.1) (acc ++ [(X + N.1, (D.1 : Int) - 1)]) = T) := Lib.hid (by
            rw [← HTE.out, cellsP_step rfl, hN, hD])
          have HLN : Hid (LenS (acc ++ [(X + (N.1 : Int), (D.1 : Int) - 1)]).length D.2) := Lib.hid (by
            rw [List.length_append]
            exact HLA.out.next rfl (Nat.le_trans hNl.2.2.2.1 hDl.2.2.2.1) (hNl.2.2.2.2.2.elim (fun h => .inl (hDl.2.2.2.2.1 h)) (fun h => .inr (Nat.lt_of_lt_of_le h hDl.2.2.2.1))))
          have HSPN : Hid (sp ≤ D.2.1 ∧ (D.2.2 = true ∨ sp < D.2.1)) := Lib.hid (by
            have h1 := HSP.out.1
            have h2 := hNl.2.2.2.1
            have h3 := hDl.2.2.2.1
            simp only at h1 h2
            refine ⟨by omega, ?_⟩
            rcases HSP.out.2 with h | h
            · cases h
            · simp only at h; exact .inr (by omega))
          have hwD : IntKind.i64.wrap ((D.1 : Int) - 1) = (D.1 : Int) - 1 := by rw [IntKind.wrap_i64]; omega
          have HNE := Lib.hid hN
          have HDE := Lib.hid hD
          have HN13 := Lib.hid (HN.out (tp, false) wr HSS'.out (HUP.out _ HCX.out) HX.out.r)
          rw [hN] at HN13
          clear hNl hDl hN hD
          go_wp2_with fail
          refine HN13.out.mono ?_
          rintro e w7 ⟨rfl, hr7, hc7⟩
          have HX7 := Lib.hid (HX.out.read hr7 hc7)
          have HC8 := Lib.hid (HCX.out.trans (hc7.mono (T := fun j => j = w.heap.size + 1 ∨ w5.heap.size ≤ j) (fun k _ e => .inl e)))
          clear hr7 hc7 HX HCX c2 HN13
          go_upto_region 14 with (fail)
          obtain ⟨wd, hwd⟩ : ∃ wd, wd = w7.drew := ⟨_, rfl⟩
          have HWE : Hid (w7.drew = wd) := Lib.hid hwd.symm
          have HWD : Hid (Chg (fun _ => False) w7 wd) := Lib.hid (by rw [hwd]; exact (Chg.refl _ _).drew)
          have HX8 := Lib.hid (HX7.out.same HWD.out)
          have HC9 := Lib.hid (HC8.out.trans HWD.out.any)
          have HN14 := Lib.hid (HN.out N.2 wd HNL.out.1 (HUP.out _ HC9.out) HX8.out.r)
          rw [HDE.out] at HN14
          clear hwd
          refine wp_region_late (fun x => Chg (fun j => j = w.heap.size + 1 ∨ w5.heap.size + 1 ≤ j) wd x) (fun i => decide (i = 10)) (by kernel_rfl) ?_
          show wpAnyL _ _ _ _ _ _ 11 (Array.replicate 11 false) _ w7.drew
          rw [HWE.out]
          have HSS : Hid (Chg (fun j => j = w.heap.size + 1 ∨ w5.heap.size + 1 ≤ j) wd wd) := Lib.hid (Chg.refl _ _)
          have hneg : ¬ (w5.heap.size = w.heap.size + 1 ∨ w5.heap.size + 1 ≤ w5.heap.size) := by omega
          (refine late_read (i := 0) rfl (by kernel_rfl) (fun _ _ _ _ h => h) rfl HSS.out (fun K hK => ?_); apply Exists.intro; refine ⟨fun w' hC => ?_, ?_⟩; ((skip); go_simp; try with_reducible rfl); (try go_simp); refine hK _ ?_; clear hK K)
          (refine late_read (i := 1) rfl (by kernel_rfl) (fun _ _ _ _ h => h) rfl HSS.out (fun K hK => ?_); apply Exists.intro; refine ⟨fun w' hC => ?_, ?_⟩; ((have q := hC.cellS HX8.out.f.c hneg); go_simp; try with_reducible rfl); (try go_simp); refine hK _ ?_; clear hK K)
          (refine late_read (i := 2) rfl (by kernel_rfl) (fun _ _ _ _ h => h) rfl HSS.out (fun K hK => ?_); apply Exists.intro; refine ⟨fun w' hC => ?_, ?_⟩; ((skip); go_simp; try with_reducible rfl); (try go_simp); refine hK _ ?_; clear hK K)
          (refine late_read (i := 3) rfl (by kernel_rfl) (fun _ _ _ _ h => h) rfl HSS.out (fun K hK => ?_); apply Exists.intro; refine ⟨fun w' hC => ?_, ?_⟩; ((skip); go_simp; try with_reducible rfl); (try go_simp); refine hK _ ?_; clear hK K)
          refine late_call (i := 4) (by kernel_rfl) rfl rfl 65 #[.pointer (some ⟨w.heap.size + 1, 0, none⟩)] (fun u w'' => u = .int .i64 D.1 ∧ RdAt w'' (w.heap.size + 1) (.slice a Z.length c) D.2 ∧ Chg (fun j => j = w.heap.size + 1) wd w'') (by go_simp) ?_ ?_
          · refine HN14.out.mono ?_
            rintro e w8 ⟨rfl, h1, h2⟩
            exact ⟨_, rfl, fun _ => HSS.out.trans (h2.mono (fun k _ e => .inl e)), rfl, h1, h2⟩
          rintro u w8 hs8 ⟨rfl, hr8, hc8⟩ K hK
          have HSS := Lib.hid (hs8 (by decide))
          have HX9 := Lib.hid (HX8.out.read hr8 hc8)
          have HC10 := Lib.hid (HC9.out.trans (hc8.mono (T := fun j => j = w.heap.size + 1 ∨ w5.heap.size ≤ j) (fun k _ e => .inl e)))
          clear hs8 hr8 hc8 HN14
          (try go_simp)
          refine hK _ ?_
          clear hK K
          have HXA := Lib.hid (HX9.out.same ((Chg.refl (fun _ => False) w8).alloc (.cells #[.int .i64 (X + N.1), .int .i64 ((D.1 : Int) - 1)] 85)))
          have HBS : Hid (w5.heap.size + 1 ≤ (w8.alloc (.cells #[.int .i64 (X + N.1), .int .i64 ((D.1 : Int) - 1)] 85)).heap.size) := Lib.hid (by have := HXA.out.f.lt; omega)
          have HOK : Hid (∀ x ∈ [(X + (N.1 : Int), (D.1 : Int) - 1)], cellR.ok x) := Lib.hid (by
            intro x hx
            rw [List.mem_singleton] at hx
            subst hx
            exact ⟨⟨by show -9223372036854775808 ≤ X + (N.1 : Int); omega, by show X + (N.1 : Int) ≤ 9223372036854775807; omega⟩, ⟨by show -9223372036854775808 ≤ (D.1 : Int) - 1; omega, by show (D.1 : Int) - 1 ≤ 9223372036854775807; omega⟩⟩)
          (refine late_read (i := 5) rfl (by kernel_rfl) (fun _ _ _ _ h => h) rfl HSS.out (fun K hK => ?_); apply Exists.intro; refine ⟨fun w' hC => ?_, ?_⟩; ((skip); go_simp; try with_reducible rfl); (try go_simp); refine hK _ ?_; clear hK K)
          (refine late_read (i := 6) rfl (by kernel_rfl) (fun _ _ _ _ h => h) rfl HSS.out (fun K hK => ?_); apply Exists.intro; refine ⟨fun w' hC => ?_, ?_⟩; ((skip); go_simp; try with_reducible rfl); (try go_simp); refine hK _ ?_; clear hK K)
          (refine late_turn (i := 7) (by kernel_rfl) rfl rfl (fun K hK => ?_); apply Exists.intro; apply Exists.intro; refine ⟨?_, ?_, ?_⟩; ((skip); go_simp; try first | with_reducible rfl | exact ⟨rfl, rfl⟩); (exact fun _ => HSS.out.alloc _); (try go_simp); refine hK _ _ ?_; clear hK K)
          refine late_append (i := 8) (by kernel_rfl) rfl rfl (.tmp 58) (.tmp 64) 31 31 rfl (.slice ya yl yc) (.slice (some ⟨w8.heap.size, 0, none⟩) 1 1) rfl rfl (fun v' w9 => cellR.Own w9 (w5.heap.size + 1) v' (acc ++ [(X + (N.1 : Int), (D.1 : Int) - 1)]) ∧ Chg (fun j => w5.heap.size + 1 ≤ j) (w8.alloc (.cells #[.int .i64 (X + N.1), .int .i64 ((D.1 : Int) - 1)] 85)) w9) ?_ ?_
          · obtain ⟨v', w9, hrun, h1, h2, -⟩ := HXA.out.f.own.append HBS.out 31 (.slice (some ⟨w8.heap.size, 0, none⟩) 1 1) [(X + (N.1 : Int), (D.1 : Int) - 1)] (cellR.srcLit 1 HOK.out) HOK.out (by simp; omega) 31
            exact ⟨v', w9, hrun, fun _ => (HSS.out.alloc _).trans (h2.mono (fun k _ e => .inr e)), h1, h2⟩
          rintro v' w9 hs ⟨h1, h2⟩ K hK
          obtain ⟨va', vl', vc', hv'⟩ := h1.shape3
          subst hv'
          obtain ⟨⟨k1, k2⟩, hf, hcf⟩ := HXA.out.add h1 h2
          have HFF := Lib.hid hf
          have HCF := Lib.hid (HC10.out.trans ((((Chg.refl (fun k => w5.heap.size ≤ k) w8).alloc (.cells #[.int .i64 (X + N.1), .int .i64 ((D.1 : Int) - 1)] 85)).trans hcf).mono (T := fun j => j = w.heap.size + 1 ∨ w5.heap.size ≤ j) (fun k _ e => .inr e)))
          have HSL9 := Lib.hid (hs (by decide))
          clear hf h1 h2 hs hcf
          (try go_simp)
          refine hK _ ?_
          clear hK K
          (refine late_turn (i := 9) (by kernel_rfl) rfl rfl (fun K hK => ?_); apply Exists.intro; apply Exists.intro; refine ⟨?_, ?_, ?_⟩; ((skip); go_simp; try first | with_reducible rfl | exact ⟨rfl, rfl⟩); (exact fun _ => HSL9.out); (try go_simp); refine hK _ _ ?_; clear hK K)
          (refine late_store (i := 10) (by kernel_rfl) rfl rfl (fun K hK => ?_); apply Exists.intro; refine ⟨?_, (fun h => absurd h (by decide)), ?_⟩; ((skip); go_simp; try first | with_reducible rfl | exact ⟨rfl, rfl⟩); (try go_simp); refine hK _ _ ?_; clear hK K)
          refine late_done (by kernel_rfl) ?_ _
          go_wp2
          go_roundw
          case rel => exact ⟨k + 1, m', D.2, X + N.1, _, _, rfl, by go_num, by omega, HFF.out, HDL.out.1, ⟨⟨by omega, by simp; omega⟩, HLN.out⟩, HTM.out, HSPN.out.1, HSPN.out.2, HCF.out⟩
          case measure => simp [intOf]; omega
        · have hex : decide ((k : Int) < (C.1 : Int)) = false ∨ (decide ((k : Int) < (C.1 : Int)) = true ∧ tb = true) := by
            rcases Nat.eq_zero_or_pos K with h | h
            · exact .inl (by simp; omega)
            · exact .inr ⟨by simp; omega, by cases tb; exact absurd ⟨h, rfl⟩ hgo; rfl⟩
          have HTV : Hid (T = (acc, tp, tb)) := Lib.hid (by
            rw [← HTE.out]
            apply cellsP_wrong
            rcases Nat.eq_zero_or_pos K with h | h
            · exact .inr h
            · exact .inl (by cases tb; exact absurd ⟨h, rfl⟩ hgo; rfl))
          clear hgo
          have b43 : decide ((k : Int) < (C.1 : Int)) = false := by
            rcases hex with h | ⟨_, h⟩
            · exact h
            · have h2 := HT2.out
              rw [HTV.out, h] at h2
              cases h2
          clear hex
          all_goals
            have b43n := b43
            simp only [Int.ofNat_lt] at b43n
            have HTR : Hid (RdAt wr (w.heap.size + 1) (.slice a Z.length c) T.2) := Lib.hid (by rw [HTV.out]; exact HX.out.r)
            have HCO := Lib.hid (HCX.out.mono (T := fun j => j = w.heap.size + 1) (fun k hk e => by omega))
            have HSTX := Lib.hid (HST5.out.read HTR.out HCO.out)
            have HTA : Hid (T.1 = acc) := Lib.hid (by rw [HTV.out])
            have HSN : Hid (T.2.1 ≤ Z.length ∧ LenS (R ++ [((A.1 : Int) - 1, T.1)]).length T.2 ∧ LenB (R ++ [((A.1 : Int) - 1, T.1)])) := Lib.hid (by
              rw [HTV.out, List.length_append]
              exact ⟨HSS'.out, HLS.out.next rfl HSP.out.1 HSP.out.2, HLB.out.add (by show acc.length ≤ _; omega)⟩)
            obtain ⟨ya', yg, yc', hy', hle, -, -⟩ := HX.out.f.own.at'
            injection hy' with e1 e2 e3
            subst e1 e2 e3
            have x0 := HX.out.c
            have x1 := HX.out.f.c
            have c1 := HSTX.out.t.c1
            have HSTE := Lib.hid (HSTX.out.same ((Chg.refl (fun _ => False) wr).alloc (.cells #[.int .i64 ((A.1 : Int) - 1), .slice ya acc.length yc] 33)))
            have HINX := Lib.hid (HX.out.f.own.in' hle)
            have HAI : Hid (I.Byte ((A.1 : Int) - 1)) := Lib.hid ⟨by omega, by omega⟩
            have HXE : Hid (RowIn cellR (wr.alloc (.cells #[.int .i64 ((A.1 : Int) - 1), .slice ya acc.length yc] 33)) (w1.heap.size + 1) ((A.1 : Int) - 1, ya, acc.length, yc) ((A.1 : Int) - 1, T.1)) := Lib.hid ⟨rfl, HAI.out, by rw [HTA.out]; exact (HINX.out.lower (by omega)).same ((Chg.refl _ _).alloc _)⟩
            have HXA : Hid (0 < T.1.length → ∀ g o, ya = some ⟨g, o, none⟩ → (Value.slice va vl vc).ownBlock ≠ some g ∧ (Value.slice none 0 0).ownBlock ≠ some g ∧ w1.heap.size + 1 ≤ g) := Lib.hid (fun hp g o hg => by
              rw [HTA.out] at hp
              obtain ⟨_, _, g', o', -, h4⟩ := HINX.out
              obtain ⟨h5, h6⟩ := h4 hp
              simp only at h5
              rw [hg] at h5
              injection h5 with h5
              injection h5 with h5
              subst h5
              obtain ⟨X, h7, _⟩ := HST5.out.t.rows
              exact ⟨fun e => by have := (h7.blk e).2; omega, (fun e => by cases e), by omega⟩)
            obtain ⟨XX, hXX, hXl, -⟩ := HSTE.out.t.rows
            have HXX := Lib.hid hXX
            have HXL := Lib.hid hXl
            have HOKR : Hid (∀ y ∈ [((A.1 : Int) - 1, ya, acc.length, yc)], rowR.ok y) := Lib.hid (by intro y hy; rw [List.mem_singleton] at hy; subst hy; exact HAI.out)
            have HBR : Hid (w1.heap.size + 1 ≤ (wr.alloc (.cells #[.int .i64 ((A.1 : Int) - 1), .slice ya acc.length yc] 33)).heap.size) := Lib.hid HSTE.out.t.lt
            have HLR : Hid (XX.length + 1 ≤ 1000000000000) := Lib.hid (by rw [hXl]; omega)
            clear hXX hXl
            go_wp2_with (at_builtin; refine Elt.wpList_append2 rowR rfl (.tmp 68) (.tmp 70) 48 48 rfl rfl (w1.heap.size + 1) (.slice va vl vc) XX [((A.1 : Int) - 1, ya, acc.length, yc)] (.slice (some ⟨wr.heap.size, 0, none⟩) 1 1) rfl rfl HXX.out HBR.out (rowR.srcLit 1 HOKR.out) HOKR.out HLR.out ?_; intro v' w9 K1 K2 K3; obtain ⟨va', vl', vc', hv'⟩ := K1.out.shape3; subst hv'; obtain ⟨⟨k1, k2⟩, hf, hcf⟩ := HSTE.out.t.addRow HXE.out HXA.out (fun X' hX' _ => (by rw [rowOwnR_unique hX' HXX.out]; exact K1.out)) K3.out.1 (K3.out.2.imp id Or.inl); have HCH : Hid (Chg (fun k => k = w1.heap.size ∨ w1.heap.size + 1 ≤ k) (wr.alloc (.cells #[.int .i64 ((A.1 : Int) - 1), .slice ya acc.length yc] 33)) (w9.setCell ⟨w1.heap.size, 1, none⟩ (.slice va' vl' vc'))) := Lib.hid ((K3.out.1.mono (fun k _ e => .inr ((HXX.out.blk e).1))).trans ((setCellChg w9 w1.heap.size 1 _).mono (fun k _ e => .inl e))); have hz9 : w9.frozen? ⟨w1.heap.size, 0, none⟩ = false := (K3.out.1.frozen (p := ⟨w1.heap.size, 0, none⟩) HSTE.out.t.lt (fun e => by have h : w1.heap.size + 1 ≤ w1.heap.size := (HXX.out.blk e).1; omega)).trans HSTE.out.z0; have HFF := Lib.hid (HSTE.out.store hf (HSTE.out.r.chg HCH.out (by omega)) ((World.frozen?_setCell _ _ _ _).trans hz9)); have HCF := Lib.hid (((HUP.out wr HCX.out).alloc (.cells #[.int .i64 ((A.1 : Int) - 1), .slice ya acc.length yc] 33)).trans (HCH.out.mono (T := fun j => w.heap.size + 1 ≤ j) (fun k _ e => by omega))); clear hf hcf hz9)
            go_roundw
            case rel => exact ⟨i + 1, m, T.2, R ++ [((A.1 : Int) - 1, T.1)], _, by go_num, by omega, HFF.out, HSN.out.1, HSN.out.2, HTN.out, HCF.out⟩
            case measure => simp [intOf]; omega
    · have hex : decide ((i : Int) < (Q.1 : Int)) = false ∨ (decide ((i : Int) < (Q.1 : Int)) = true ∧ sb = true) := by
        rcases Nat.eq_zero_or_pos K with h | h
        · exact .inl (by simp; omega)
        · exact .inr ⟨by simp; omega, by cases sb; exact absurd ⟨h, rfl⟩ hgo; rfl⟩
      have HRE : Hid (RR = (R, sp, sb)) := Lib.hid (by
        rw [← HRR.out]
        apply rowsP_wrong
        rcases Nat.eq_zero_or_pos K with h | h
        · exact .inr h
        · exact .inl (by cases sb; exact absurd ⟨h, rfl⟩ hgo; rfl))
      clear hgo
      have b25 : decide ((i : Int) < (Q.1 : Int)) = false := by
        rcases hex with h | ⟨_, h⟩
        · exact h
        · have h2 := HR2.out
          rw [HRE.out, h] at h2
          cases h2
      clear hex
      all_goals
        have b25n := b25
        simp only [Int.ofNat_lt] at b25n
        go_upto_region 16 with (fail)
        have hb25 := Lib.hid b25
        clear c2 b25 b25n
        have HST2 : Hid (TkSt cellR rowR (w.heap.size + 1) w1.heap.size (w1.heap.size + 1) (.slice a Z.length c) wr RR.2 P.1 RR.1 [] (.slice va vl vc) (.slice none 0 0)) := Lib.hid (by rw [HRE.out]; exact HST.out)
        have HSL2 : Hid (RR.2.1 ≤ Z.length) := Lib.hid (by rw [HRE.out]; exact HSL.out)
        have hRl : RR.1.length ≤ 100001 := by rw [HRE.out]; exact hRl
        have HLR : Hid (∀ r ∈ RR.1, r.2.length ≤ 1000000000) := Lib.hid (by rw [HRE.out]; intro r hr; have := HLB.out r hr; omega)
        have hUl := numP_le (m := 4294967295) HSL2.out
        rw [HU.out] at hUl
        have HUL := Lib.hid hUl
        have hU1 := hUl.2.1
        have HN16 := Lib.hid (HN.out RR.2 wr HSL2.out HC.out HST2.out.r)
        rw [HU.out] at HN16
        clear hUl
        go_wp2_with fail
        refine HN16.out.mono ?_
        rintro e w7 ⟨rfl, hr7, hc7⟩
        have HST7 := Lib.hid (HST2.out.read hr7 hc7)
        have HC7 := Lib.hid (HC.out.trans (hc7.mono (T := fun j => w.heap.size + 1 ≤ j) (fun k _ e => by omega)))
        clear hr7 hc7 HN16 HST2 HST HC
        go_wp2
        go_loopw [14] (fun q wr => ∃ (i K : Nat) (s : Rd) (O : List Int) (u : Value), q = .int .i64 i ∧ i + K = U.1 ∧ TkSt cellR rowR (w.heap.size + 1) w1.heap.size (w1.heap.size + 1) (.slice a Z.length c) wr s P.1 RR.1 O (.slice va vl vc) u ∧ s.1 ≤ Z.length ∧ LenS O.length s ∧ ofP Z 4294967295 K s O = V ∧ Chg (fun j => w.heap.size + 1 ≤ j) wt wr) (fun q _ => U.1 - (intOf q).toNat)
        case atStart => exact ⟨0, U.1, U.2, [], _, rfl, by omega, HST7.out, HUL.out.1, ⟨Nat.zero_le _, fun _ => Nat.zero_le _⟩, HV.out, HC7.out⟩
        case round =>
          clear HST7 HC7 HV
          obtain ⟨i, K, s, O, u, rfl, hiK, hst, hs, hls, hT, hc⟩ := hrel
          have HST := Lib.hid hst
          have HSL := Lib.hid hs
          have HLS := Lib.hid hls
          have HV := Lib.hid hT
          have HC := Lib.hid hc
          obtain ⟨ua, ul, uc, rfl⟩ := hst.t.of.shape3
          obtain ⟨sp, sb⟩ := s
          have c2 := hst.r.c2
          simp only at c2
          have hOl : O.length ≤ 100001 := by have := hls.1; simp only at this hs; omega
          clear hst hs hT hc hls
          by_cases hgo : 0 < K ∧ sb = false
          · obtain ⟨hK, rfl⟩ := hgo
            obtain ⟨m, rfl⟩ : ∃ m, K = m + 1 := ⟨K - 1, by omega⟩
            have b77 : decide ((i : Int) < (U.1 : Int)) = true := by simp; omega
            obtain ⟨N, hN⟩ : ∃ x, numP Z 4294967295 (sp, false) = x := ⟨_, rfl⟩
            have hNl := numP_le (m := 4294967295) HSL.out
            rw [hN] at hNl
            have HNL := Lib.hid hNl
            have hN1 := hNl.2.1
            have HTN : Hid (ofP Z 4294967295 m N.2 (O ++ [(N.1 : Int)]) = V) := Lib.hid (by
              rw [← HV.out, ofP_step rfl, hN])
            have HLN : Hid (LenS (O ++ [(N.1 : Int)]).length N.2) := Lib.hid (by
              rw [List.length_append]
              exact HLS.out.next rfl hNl.2.2.2.1 hNl.2.2.2.2.2)
            have HN' := Lib.hid hN
            clear hNl hN
            go_upto_region 20 with (fail)
            obtain ⟨wd, hwd⟩ : ∃ wd, wd = wr.drew := ⟨_, rfl⟩
            have HWE : Hid (wr.drew = wd) := Lib.hid hwd.symm
            have HWD : Hid (Chg (fun _ => False) wr wd) := Lib.hid (by rw [hwd]; exact (Chg.refl _ _).drew)
            have HST6 := Lib.hid (HST.out.same HWD.out)
            have HC6 := Lib.hid (HC.out.trans HWD.out.any)
            clear hwd c2
            refine wp_region_late (fun x => Chg (fun j => j = w.heap.size + 1 ∨ w1.heap.size + 1 ≤ j) wd x) (fun i => decide (i = 7)) (by kernel_rfl) ?_
            show wpAnyL _ _ _ _ _ _ 8 (Array.replicate 8 false) _ wr.drew
            rw [HWE.out]
            have HSS : Hid (Chg (fun j => j = w.heap.size + 1 ∨ w1.heap.size + 1 ≤ j) wd wd) := Lib.hid (Chg.refl _ _)
            have hneg : ¬ (w1.heap.size = w.heap.size + 1 ∨ w1.heap.size + 1 ≤ w1.heap.size) := by omega
            have HN20 := Lib.hid (HN.out (sp, false) wd HSL.out HC6.out HST6.out.r)
            rw [HN'.out] at HN20
            (refine late_read (i := 0) rfl (by kernel_rfl) (fun _ _ _ _ h => h) rfl HSS.out (fun K hK => ?_); apply Exists.intro; refine ⟨fun w' hC => ?_, ?_⟩; ((skip); go_simp; try with_reducible rfl); (try go_simp); refine hK _ ?_; clear hK K)
            (refine late_read (i := 1) rfl (by kernel_rfl) (fun _ _ _ _ h => h) rfl HSS.out (fun K hK => ?_); apply Exists.intro; refine ⟨fun w' hC => ?_, ?_⟩; ((have q := hC.cellS HST6.out.t.c2 hneg); go_simp; try with_reducible rfl); (try go_simp); refine hK _ ?_; clear hK K)
            (refine late_read (i := 2) rfl (by kernel_rfl) (fun _ _ _ _ h => h) rfl HSS.out (fun K hK => ?_); apply Exists.intro; refine ⟨fun w' hC => ?_, ?_⟩; ((skip); go_simp; try with_reducible rfl); (try go_simp); refine hK _ ?_; clear hK K)
            refine late_call (i := 3) (by kernel_rfl) rfl rfl 65 #[.pointer (some ⟨w.heap.size + 1, 0, none⟩)] (fun q w'' => q = .int .i64 N.1 ∧ RdAt w'' (w.heap.size + 1) (.slice a Z.length c) N.2 ∧ Chg (fun j => j = w.heap.size + 1) wd w'') (by go_simp) ?_ ?_
            · refine HN20.out.mono ?_
              rintro e w6 ⟨rfl, h1, h2⟩
              exact ⟨_, rfl, fun _ => HSS.out.trans (h2.mono (fun k _ e => .inl e)), rfl, h1, h2⟩
            rintro q w6 hs6 ⟨rfl, hr6, hc6⟩ K hK
            have HSS := Lib.hid (hs6 (by decide))
            have HST7 := Lib.hid (HST6.out.read hr6 hc6)
            have HC7 := Lib.hid (HC6.out.trans (hc6.mono (T := fun j => w.heap.size + 1 ≤ j) (fun k _ e => by omega)))
            clear hs6 hr6 hc6 HN20
            (try go_simp)
            refine hK _ ?_
            clear hK K
            have HSTA := Lib.hid (HST7.out.same ((Chg.refl (fun _ => False) w6).alloc (.cells #[.int .i64 N.1] 3)))
            have HOKI : Hid (∀ y ∈ [(N.1 : Int)], intE.ok y) := Lib.hid (by intro y hy; rw [List.mem_singleton] at hy; subst hy; exact ⟨by omega, by omega⟩)
            have HBR : Hid (w1.heap.size + 1 ≤ (w6.alloc (.cells #[.int .i64 N.1] 3)).heap.size) := Lib.hid HSTA.out.t.lt
            (refine late_turn (i := 4) (by kernel_rfl) rfl rfl (fun K hK => ?_); apply Exists.intro; apply Exists.intro; refine ⟨?_, ?_, ?_⟩; ((skip); go_simp; try first | with_reducible rfl | exact ⟨rfl, rfl⟩); (exact fun _ => HSS.out.alloc _); (try go_simp); refine hK _ _ ?_; clear hK K)
            refine late_append (i := 5) (by kernel_rfl) rfl rfl (.tmp 88) (.tmp 91) 22 22 rfl (.slice ua ul uc) (.slice (some ⟨w6.heap.size, 0, none⟩) 1 1) rfl rfl (fun v' w9 => intE.Own w9 (w1.heap.size + 1) v' (O ++ [(N.1 : Int)]) ∧ Chg (fun k => (Value.slice ua ul uc).ownBlock = some k) (w6.alloc (.cells #[.int .i64 N.1] 3)) w9 ∧ (v'.ownBlock = (Value.slice ua ul uc).ownBlock ∨ v'.ownBlock = some (w6.alloc (.cells #[.int .i64 N.1] 3)).heap.size)) ?_ ?_
            · obtain ⟨v', w9, hrun, h1, h2, ⟨h3, h4⟩, -⟩ := HSTA.out.t.of.append HBR.out 22 (.slice (some ⟨w6.heap.size, 0, none⟩) 1 1) [(N.1 : Int)] (intE.srcLit 1 HOKI.out) HOKI.out (by simp; omega) 22
              exact ⟨v', w9, hrun, fun _ => (HSS.out.alloc _).trans (h2.mono (fun k _ e => .inr e)), h1, h3, h4⟩
            rintro v' w9 hs ⟨h1, h2, h3⟩ K hK
            obtain ⟨va', vl', vc', hv'⟩ := h1.shape3
            subst hv'
            obtain ⟨⟨k1, k2⟩, hf, hcf⟩ := HSTA.out.t.addOf h1 h2 (h3.imp id Or.inl)
            have HCH : Hid (Chg (fun k => k = w1.heap.size ∨ w1.heap.size + 1 ≤ k) (w6.alloc (.cells #[.int .i64 N.1] 3)) (w9.setCell ⟨w1.heap.size, 2, none⟩ (.slice va' vl' vc'))) := Lib.hid ((h2.mono (fun k _ e => .inr ((HSTA.out.t.of.blk e).1))).trans ((setCellChg w9 w1.heap.size 2 _).mono (fun k _ e => .inl e)))
            have hz9 : w9.frozen? ⟨w1.heap.size, 0, none⟩ = false := (h2.frozen (p := ⟨w1.heap.size, 0, none⟩) HSTA.out.t.lt (fun e => by have h : w1.heap.size + 1 ≤ w1.heap.size := (HSTA.out.t.of.blk e).1; omega)).trans HSTA.out.z0
            have HFF := Lib.hid (HSTA.out.store hf (HSTA.out.r.chg HCH.out (by omega)) ((World.frozen?_setCell _ _ _ _).trans hz9))
            have HCF := Lib.hid ((HC7.out.alloc (.cells #[.int .i64 N.1] 3)).trans (HCH.out.mono (T := fun j => w.heap.size + 1 ≤ j) (fun k _ e => by omega)))
            have HSL9 := Lib.hid (hs (by decide))
            clear hf h1 h2 h3 hs hcf hz9
            (try go_simp)
            refine hK _ ?_
            clear hK K
            (refine late_turn (i := 6) (by kernel_rfl) rfl rfl (fun K hK => ?_); apply Exists.intro; apply Exists.intro; refine ⟨?_, ?_, ?_⟩; ((skip); go_simp; try first | with_reducible rfl | exact ⟨rfl, rfl⟩); (exact fun _ => HSL9.out); (try go_simp); refine hK _ _ ?_; clear hK K)
            (refine late_store (i := 7) (by kernel_rfl) rfl rfl (fun K hK => ?_); apply Exists.intro; refine ⟨?_, (fun h => absurd h (by decide)), ?_⟩; ((skip); go_simp; try first | with_reducible rfl | exact ⟨rfl, rfl⟩); (try go_simp); refine hK _ _ ?_; clear hK K)
            refine late_done (by kernel_rfl) ?_ _
            go_wp2
            go_roundw
            case rel => exact ⟨i + 1, m, N.2, O ++ [(N.1 : Int)], _, by go_num, by omega, HFF.out, HNL.out.1, HLN.out, HTN.out, HCF.out⟩
            case measure => simp [intOf]; omega
          · have hex : decide ((i : Int) < (U.1 : Int)) = false ∨ (decide ((i : Int) < (U.1 : Int)) = true ∧ sb = true) := by
              rcases Nat.eq_zero_or_pos K with h | h
              · exact .inl (by simp; omega)
              · exact .inr ⟨by simp; omega, by cases sb; exact absurd ⟨h, rfl⟩ hgo; rfl⟩
            have HVE : Hid (V = (O, sp, sb)) := Lib.hid (by
              rw [← HV.out]
              apply ofP_wrong
              rcases Nat.eq_zero_or_pos K with h | h
              · exact .inr h
              · exact .inl (by cases sb; exact absurd ⟨h, rfl⟩ hgo; rfl))
            clear hgo
            have b77 : decide ((i : Int) < (U.1 : Int)) = false := by
              rcases hex with h | ⟨_, h⟩
              · exact h
              · have h2 := HV2.out
                rw [HVE.out, h] at h2
                cases h2
            clear hex
            all_goals
              have b77n := b77
              simp only [Int.ofNat_lt] at b77n
              go_upto_region 21 with (fail)
              clear c2 b77 b77n
              have HSTV : Hid (TkSt cellR rowR (w.heap.size + 1) w1.heap.size (w1.heap.size + 1) (.slice a Z.length c) wr V.2 P.1 RR.1 V.1 (.slice va vl vc) (.slice ua ul uc)) := Lib.hid (by rw [HVE.out]; exact HST.out)
              have hOl : V.1.length ≤ 100001 := by rw [HVE.out]; exact hOl
              obtain ⟨-, hvl, hle1⟩ := HSTV.out.t.rowsIn
              obtain ⟨-, hof, -, hul, -, hle2⟩ := HSTV.out.t.final (Chg.refl _ _)
              subst hvl hul
              obtain ⟨gq, hoat, hop⟩ := hof.bytes
              have HMAY := Lib.hid (refMay_any P.1 RR.1 V.1 va ua vc uc _ gq 0 wr ⟨by omega, by omega⟩ HSTV.out.t.rowsIn.1 (by omega) HLR.out hoat hop (by omega))
              obtain ⟨B, hB⟩ : ∃ x, mayL ((P.1 : Int), RR.1, V.1) = x := ⟨_, rfl⟩
              rw [hB] at HMAY
              have c2 := HSTV.out.r.c2
              have HM := Lib.hid hB
              clear hoat hop hof hB HST HSL
              by_cases hm : B = false
              · have HRES : Hid ((!V.2.2 && mayL ((P.1 : Int), RR.1, V.1)) = false) := Lib.hid (by rw [HM.out, hm]; exact Bool.and_false _)
                rw [HV2.out] at c2
                rw [hm] at HMAY
                have c0 := HSTV.out.t.c0
                have c1 := HSTV.out.t.c1
                have c3 := HSTV.out.t.c2
                clear hm
                go_wp2_with fail
                refine HMAY.out.mono ?_
                rintro e w8 ⟨rfl, hc8⟩
                have HST8 := Lib.hid (HSTV.out.same hc8)
                have HC8 := Lib.hid (HC.out.trans hc8.any)
                clear hc8 c0 c1 c2 c3
                obtain ⟨⟨r0, r1, r2⟩, hz⟩ := HBZ.out w8 HC8.out
                have z0 := hz 0
                have z1 := hz 1
                have z2 := hz 2
                clear hz
                go_wp2
                obtain ⟨f0, f1, f2, f3⟩ := store3 (.int .i64 0) (.slice none 0 0) (.slice none 0 0) r0 r1 r2
                have h4 := (((HCT.out.any (S := fun j => w.heap.size ≤ j)).trans (HC8.out.mono (T := fun j => w.heap.size ≤ j) (fun k _ e => by omega))).trans (f3.mono (T := fun j => w.heap.size ≤ j) (fun k _ e => by omega))).fresh
                clear f3
                generalize ((w8.setCell ⟨w.heap.size, 0, none⟩ (.int .i64 0)).setCell ⟨w.heap.size, 1, none⟩ (.slice none 0 0)).setCell ⟨w.heap.size, 2, none⟩ (.slice none 0 0) = WW at *
                exact bodyPost_ret (v := .tuple #[.agg #[.int .i64 0, .slice none 0 0, .slice none 0 0], .int .i64 0, .int .i64 4]) (by simp [results, Try.results36, go_sem, f0, f1, f2]) rfl (.inr ⟨HRES.out, rfl, h4⟩)
              · have hm : B = true := by simpa using hm
                have HRES : Hid (V.2.2 = false ∧ mayL ((P.1 : Int), RR.1, V.1) = true) := Lib.hid ⟨HV2.out, by rw [HM.out, hm]⟩
                rw [HV2.out] at c2
                rw [hm] at HMAY
                have c0 := HSTV.out.t.c0
                have c1 := HSTV.out.t.c1
                have c3 := HSTV.out.t.c2
                clear hm
                go_wp2_with fail
                refine HMAY.out.mono ?_
                rintro e w8 ⟨rfl, hc8⟩
                have HST8 := Lib.hid (HSTV.out.same hc8)
                have HC8 := Lib.hid (HC.out.trans hc8.any)
                clear hc8 c0 c1 c2 c3
                go_upto_region 23 with (fail)
                have HPC : Hid (∀ x, Chg (fun _ => False) w8 x → ((fun (x : World) (b5 _ : Bool) => ((x.cell? ⟨w1.heap.size, 0, none⟩ = some (.int .i64 P.1) ∧ x.cell? ⟨w1.heap.size, 1, none⟩ = some (.slice va RR.1.length vc) ∧ x.cell? ⟨w1.heap.size, 2, none⟩ = some (.slice ua V.1.length uc)) ∧ x.cell? ⟨w.heap.size + 1, 1, none⟩ = some (.int .i64 V.2.1)) ∧ (x.cell? ⟨w.heap.size, 0, none⟩ = some (cond b5 (.int .i64 P.1) (.int .i64 0)) ∧ x.cell? ⟨w.heap.size, 1, none⟩ = some (cond b5 (.slice va RR.1.length vc) (.slice none 0 0)) ∧ x.cell? ⟨w.heap.size, 2, none⟩ = some (cond b5 (.slice ua V.1.length uc) (.slice none 0 0))) ∧ (x.frozen? ⟨w.heap.size, 0, none⟩ = false ∧ x.frozen? ⟨w.heap.size, 1, none⟩ = false ∧ x.frozen? ⟨w.heap.size, 2, none⟩ = false) ∧ Chg (fun k => k = w.heap.size) w8 x)) x false false) := Lib.hid (fun x hx => by
                  obtain ⟨⟨r0, r1, r2⟩, hz⟩ := HBZ.out x (HC8.out.trans hx.any)
                  exact ⟨⟨⟨hx.cellS HST8.out.t.c0 (fun h => h), hx.cellS HST8.out.t.c1 (fun h => h), hx.cellS HST8.out.t.c2 (fun h => h)⟩, hx.cellS HST8.out.r.c1 (fun h => h)⟩, ⟨r0, r1, r2⟩, ⟨hz 0, hz 1, hz 2⟩, hx.any⟩)
                refine wp_region_two ((fun (x : World) (b5 _ : Bool) => ((x.cell? ⟨w1.heap.size, 0, none⟩ = some (.int .i64 P.1) ∧ x.cell? ⟨w1.heap.size, 1, none⟩ = some (.slice va RR.1.length vc) ∧ x.cell? ⟨w1.heap.size, 2, none⟩ = some (.slice ua V.1.length uc)) ∧ x.cell? ⟨w.heap.size + 1, 1, none⟩ = some (.int .i64 V.2.1)) ∧ (x.cell? ⟨w.heap.size, 0, none⟩ = some (cond b5 (.int .i64 P.1) (.int .i64 0)) ∧ x.cell? ⟨w.heap.size, 1, none⟩ = some (cond b5 (.slice va RR.1.length vc) (.slice none 0 0)) ∧ x.cell? ⟨w.heap.size, 2, none⟩ = some (cond b5 (.slice ua V.1.length uc) (.slice none 0 0))) ∧ (x.frozen? ⟨w.heap.size, 0, none⟩ = false ∧ x.frozen? ⟨w.heap.size, 1, none⟩ = false ∧ x.frozen? ⟨w.heap.size, 2, none⟩ = false) ∧ Chg (fun k => k = w.heap.size) w8 x) )  5   7 (by kernel_rfl) (by kernel_rfl) (by kernel_rfl) ?_ ?_
                · exact HPC.out _ (Chg.refl _ _).drew
                (refine wpC_read rfl (keep2 (by decide) (by decide)) (fun K hK => ?_); apply Exists.intro; refine ⟨fun _ w' _ hC => ?_, ?_⟩; ((have hC := hC.2; obtain ⟨⟨⟨q0, q1, q2⟩, q3⟩, -, -, -⟩ := hC; clear hC); go_simp; try with_reducible rfl); (try go_simp); refine hK _ ?_; clear hK K)
                (refine wpC_read rfl (keep2 (by decide) (by decide)) (fun K hK => ?_); apply Exists.intro; refine ⟨fun _ w' _ hC => ?_, ?_⟩; ((have hC := hC.2; clear hC); go_simp; try with_reducible rfl); (try go_simp); refine hK _ ?_; clear hK K)
                (refine wpC_read rfl (keep2 (by decide) (by decide)) (fun K hK => ?_); apply Exists.intro; refine ⟨fun _ w' _ hC => ?_, ?_⟩; ((have hC := hC.2; clear hC); go_simp; try with_reducible rfl); (try go_simp); refine hK _ ?_; clear hK K)
                (refine wpC_read rfl (keep2 (by decide) (by decide)) (fun K hK => ?_); apply Exists.intro; refine ⟨fun _ w' _ hC => ?_, ?_⟩; ((have hC := hC.2; clear hC); go_simp; try with_reducible rfl); (try go_simp); refine hK _ ?_; clear hK K)
                (refine wpC_read rfl (keep2 (by decide) (by decide)) (fun K hK => ?_); apply Exists.intro; refine ⟨fun _ w' _ hC => ?_, ?_⟩; ((have hC := hC.2; obtain ⟨⟨⟨q0, q1, q2⟩, q3⟩, -, -, -⟩ := hC; clear hC); go_simp; try with_reducible rfl); (try go_simp); refine hK _ ?_; clear hK K)
                refine wpC_storep rfl (by decide) (by decide) (fun w' _ hC => ?_) (fun K hK => ?_)
                · obtain ⟨⟨⟨q0, q1, q2⟩, q3⟩, ⟨r0, r1, r2⟩, ⟨z0, z1, z2⟩, hh⟩ := hC
                  simp only [cond_false] at r0 r1 r2
                  obtain ⟨f0, f1, f2, f3⟩ := store3 (.int .i64 P.1) (.slice va RR.1.length vc) (.slice ua V.1.length uc) r0 r1 r2
                  have hne : ¬ w1.heap.size = w.heap.size := by omega
                  have hne2 : ¬ w.heap.size + 1 = w.heap.size := by omega
                  refine ⟨((w'.setCell ⟨w.heap.size, 0, none⟩ (.int .i64 P.1)).setCell ⟨w.heap.size, 1, none⟩ (.slice va RR.1.length vc)).setCell ⟨w.heap.size, 2, none⟩ (.slice ua V.1.length uc), ?_, ⟨⟨f3.cellS q0 hne, f3.cellS q1 hne, f3.cellS q2 hne⟩, f3.cellS q3 hne2⟩, ⟨f0, f1, f2⟩, ⟨(World.frozen?_setCell _ _ _ _).trans ((World.frozen?_setCell _ _ _ _).trans ((World.frozen?_setCell _ _ _ _).trans z0)), (World.frozen?_setCell _ _ _ _).trans ((World.frozen?_setCell _ _ _ _).trans ((World.frozen?_setCell _ _ _ _).trans z1)), (World.frozen?_setCell _ _ _ _).trans ((World.frozen?_setCell _ _ _ _).trans ((World.frozen?_setCell _ _ _ _).trans z2))⟩, hh.trans f3⟩
                  clear f0 f1 f2 f3 hh hne hne2
                  go_simp
                ((try go_simp); refine hK _ ?_; clear hK K)
                (refine wpC_read rfl (keep2 (by decide) (by decide)) (fun K hK => ?_); apply Exists.intro; refine ⟨fun _ w' _ hC => ?_, ?_⟩; ((have hC := hC.2; clear hC); go_simp; try with_reducible rfl); (try go_simp); refine hK _ ?_; clear hK K)
                (refine wpC_read rfl (keep2q (fun _ _ _ _ h => h) (by decide)) (fun K hK => ?_); apply Exists.intro; refine ⟨fun _ w' _ hC => ?_, ?_⟩; (clear hC; go_simp; try with_reducible rfl); (try go_simp); refine hK _ ?_; clear hK K)
                refine wpC_nil ?_
                rintro WW ⟨-, ⟨f0, f1, f2⟩, -, hcw⟩
                simp only [cond_true] at f0 f1 f2
                obtain ⟨h5, -⟩ := HST8.out.t.chg hcw (fun g e => by subst e; exact ⟨by omega, by omega⟩) |>.rowsIn
                have h6 := (HST8.out.t.chg hcw (fun g e => by subst e; exact ⟨by omega, by omega⟩)).final (Chg.refl _ _)
                have h7 := (((HCT.out.any (S := fun j => w.heap.size ≤ j)).trans (HC8.out.mono (T := fun j => w.heap.size ≤ j) (fun k _ e => by omega))).trans (hcw.mono (T := fun j => w.heap.size ≤ j) (fun k _ e => by omega))).fresh
                clear hcw
                go_wp2
                exact bodyPost_ret (v := .tuple #[.agg #[.int .i64 P.1, .slice va RR.1.length vc, .slice ua V.1.length uc], .int .i64 V.2.1, .int .i64 0]) (by simp [results, Try.results36, go_sem, f0, f1, f2]) rfl (.inl ⟨by first | exact HRES.out | (simp only [HRES.out.1, HRES.out.2]; rfl), va, ua, vc, ⟨uc, rfl⟩, h5.lower (by omega), h6.2.1.lower (by omega), h7⟩)

set_option maxRecDepth 100000 in
set_option maxHeartbeats 16000000 in
theorem refTakeTab_wrong (Z : List Int) (a : Option Addr) (g o c : Nat) (w : World) (hz : BytesAt w g o Z) (ha : 0 < Z.length → a = some ⟨g, o, none⟩) (hcz : Z.length ≤ c) (hn : a = none → c = 0) (hl : Z.length ≤ 100000) (hv0 : (takeP Z mostR).2.2 = true) :
    Calls Try.prog 36 #[.slice a Z.length c] w fun e w' => (takeOk Z mostR = true ∧ ∃ ra oa rc oc, e = .returned (.tuple #[.agg #[.int .i64 (takeP Z mostR).1.1, .slice ra (takeP Z mostR).1.2.1.length rc, .slice oa (takeP Z mostR).1.2.2.length oc], .int .i64 (takeP Z mostR).2.1, .int .i64 0]) ∧
      RowsIn cellR rowR w' w.heap.size (ra, (takeP Z mostR).1.2.1.length, rc) (takeP Z mostR).1.2.1 ∧ OfIn w' w.heap.size oa (takeP Z mostR).1.2.2 ∧ Chg (fun _ => False) w w') ∨
      (takeOk Z mostR = false ∧ e = .returned (.tuple #[.agg #[.int .i64 0, .slice none 0 0, .slice none 0 0], .int .i64 0, .int .i64 4]) ∧ Chg (fun _ => False) w w') := by
  obtain ⟨wt, hwt⟩ : ∃ x, x = w.alloc (.cells #[.int .i64 0, .slice none 0 0, .slice none 0 0] 50) := ⟨_, rfl⟩
  have hst : wt.heap.size = w.heap.size + 1 := by rw [hwt]; simp
  have HCT : Hid (Chg (fun _ => False) w wt) := Lib.hid (by rw [hwt]; exact (Chg.refl _ _).alloc _)
  have HN : Hid (∀ (s : Rd) (wx : World), s.1 ≤ Z.length → Chg (fun j => w.heap.size + 1 ≤ j) wt wx → RdAt wx (w.heap.size + 1) (.slice a Z.length c) s → Calls Try.prog 65 #[.pointer (some ⟨w.heap.size + 1, 0, none⟩)] wx fun e w' => e = .returned (.int .i64 (numP Z 4294967295 s).1) ∧ RdAt w' (w.heap.size + 1) (.slice a Z.length c) (numP Z 4294967295 s).2 ∧ Chg (fun j => j = w.heap.size + 1) wx w') := Lib.hid (fun s wx h1 h2 h3 =>
    refNum_all Z a g o c (w.heap.size + 1) s wx ((hz.chg HCT.out (fun _ h => h)).chg h2 (fun hne e => by have := hz.lt hne; omega)) ha hcz hn (by omega) h1 h3)
  have HBZ : Hid (∀ wx, Chg (fun j => w.heap.size + 1 ≤ j) wt wx → (wx.cell? ⟨w.heap.size, 0, none⟩ = some (.int .i64 0) ∧ wx.cell? ⟨w.heap.size, 1, none⟩ = some (.slice none 0 0) ∧ wx.cell? ⟨w.heap.size, 2, none⟩ = some (.slice none 0 0)) ∧ ∀ j, wx.frozen? ⟨w.heap.size, j, none⟩ = false) := Lib.hid (fun wx hx => by
    have hne : ¬ w.heap.size + 1 ≤ w.heap.size := by omega
    subst hwt
    exact ⟨⟨hx.cellS (by simp) hne, hx.cellS (by simp) hne, hx.cellS (by simp) hne⟩, fun j => (hx.frozen (p := ⟨w.heap.size, j, none⟩) (by simp) hne).trans (World.frozen?_alloc_new _ _ _ _)⟩)
  obtain ⟨wb, hwb⟩ : ∃ x, x = wt.alloc (.cells #[.slice a Z.length c, .int .i64 0, .bool false] 114) := ⟨_, rfl⟩
  have HRB : Hid (RdAt wb (w.heap.size + 1) (.slice a Z.length c) (0, false)) := Lib.hid (by
    rw [← hst, hwb]
    exact ⟨by rw [World.cell?_alloc_new]; rfl, by rw [World.cell?_alloc_new]; rfl, by rw [World.cell?_alloc_new]; rfl, fun j => World.frozen?_alloc_new _ _ _ _⟩)
  have HCB : Hid (Chg (fun j => w.heap.size + 1 ≤ j) wt wb) := Lib.hid (by rw [hwb]; exact (Chg.refl _ _).alloc _)
  obtain ⟨P, hP⟩ : ∃ x, numP Z 4294967295 (0, false) = x := ⟨_, rfl⟩
  obtain ⟨Q, hQ⟩ : ∃ x, numP Z 4294967295 P.2 = x := ⟨_, rfl⟩
  obtain ⟨RR, hRR⟩ : ∃ x, rowsP Z 4294967295 4294967295 Q.1 Q.2 [] = x := ⟨_, rfl⟩
  obtain ⟨U, hU⟩ : ∃ x, numP Z 4294967295 RR.2 = x := ⟨_, rfl⟩
  obtain ⟨V, hV⟩ : ∃ x, ofP Z 4294967295 U.1 U.2 [] = x := ⟨_, rfl⟩
  have htk : takeP Z mostR = (((P.1 : Int), RR.1, V.1), V.2) := by
    unfold takeP
    simp only [mostR]
    rw [hP, hQ, hRR, hU, hV]
  have hV2 : V.2.2 = true := by rw [htk] at hv0; exact hv0
  skip
  have HV2 := Lib.hid hV2
  clear hV2 hv0
  have hPl := numP_le (Z := Z) (m := 4294967295) (s := (0, false)) (Nat.zero_le _)
  rw [hP] at hPl
  have hQl := numP_le (m := 4294967295) hPl.1
  rw [hQ] at hQl
  have HPL := Lib.hid hPl
  have HQL := Lib.hid hQl
  have hP1 := hPl.2.1
  have hQ1 := hQl.2.1
  have HP := Lib.hid hP
  have HQ := Lib.hid hQ
  have HRR := Lib.hid hRR
  have HU := Lib.hid hU
  have HV := Lib.hid hV
  have HWT := Lib.hid hwt
  have HWB := Lib.hid hwb
  unfold takeOk
  rw [htk]
  simp only
  clear hz ha hcz hn hwt hwb hP hQ hRR hU hV htk hPl hQl
  go_enter Try.func36, Try.ntmps36
  go_upto_region 1 with (fail)
  rw [← HWT.out]
  go_upto_region 2 with (fail)
  rw [← HWB.out]
  clear hst
  go_wp2_with fail
  have HN0 := Lib.hid (HN.out (0, false) wb (Nat.zero_le _) HCB.out HRB.out)
  rw [HP.out] at HN0
  refine HN0.out.mono ?_
  rintro e w1 ⟨rfl, hr1, hc1⟩
  have HST1 := Lib.hid (TkSt.box cellR rowR hr1 (P.1 : Int) 50)
  have HC1 := Lib.hid ((HCB.out.trans (hc1.mono (T := fun j => w.heap.size + 1 ≤ j) (fun k _ e => by omega))).alloc (.cells #[.int .i64 (P.1 : Int), .slice none 0 0, .slice none 0 0] 50))
  have hb1 : w.heap.size + 1 < w1.heap.size := hr1.lt
  have HN3 := Lib.hid (HN.out P.2 _ HPL.out.1 HC1.out HST1.out.r)
  rw [HQ.out] at HN3
  clear hr1 hc1 HN0
  go_wp2_with fail
  refine HN3.out.mono ?_
  rintro e w3 ⟨rfl, hr3, hc3⟩
  have HST3 := Lib.hid (HST1.out.read hr3 hc3)
  have HC3 := Lib.hid (HC1.out.trans (hc3.mono (T := fun j => w.heap.size + 1 ≤ j) (fun k _ e => by omega)))
  clear hr3 hc3 HST1 HC1 HN3
  go_wp2
  go_loopw [8] (fun q wr => ∃ (i K : Nat) (s : Rd) (R : List RowD) (v : Value), q = .int .i64 i ∧ i + K = Q.1 ∧ TkSt cellR rowR (w.heap.size + 1) w1.heap.size (w1.heap.size + 1) (.slice a Z.length c) wr s P.1 R [] v (.slice none 0 0) ∧ s.1 ≤ Z.length ∧ (LenS R.length s ∧ LenB R) ∧ rowsP Z 4294967295 4294967295 K s R = RR ∧ Chg (fun j => w.heap.size + 1 ≤ j) wt wr) (fun q _ => Q.1 - (intOf q).toNat)
  case atStart => exact ⟨0, Q.1, Q.2, [], _, rfl, by omega, HST3.out, HQL.out.1, ⟨⟨Nat.zero_le _, fun _ => Nat.zero_le _⟩, fun r hr => by cases hr⟩, HRR.out, HC3.out⟩
  case round =>
    clear HST3 HC3 HRR
    obtain ⟨i, K, s, R, v, rfl, hiK, hst, hs, ⟨hls, hlb⟩, hT, hc⟩ := hrel
    have HST := Lib.hid hst
    have HSL := Lib.hid hs
    have HLS := Lib.hid hls
    have HLB := Lib.hid hlb
    have HRR := Lib.hid hT
    have HC := Lib.hid hc
    obtain ⟨va, vl, vc, rfl⟩ : ∃ a n c, v = .slice a n c := by obtain ⟨X, h1, _⟩ := hst.t.rows; exact h1.shape3
    obtain ⟨sp, sb⟩ := s
    have c2 := hst.r.c2
    simp only at c2
    have hRl : R.length ≤ 100001 := by have := hls.1; simp only at this hs; omega
    clear hst hs hT hc hls hlb
    by_cases hgo : 0 < K ∧ sb = false
    · obtain ⟨hK, rfl⟩ := hgo
      obtain ⟨m, rfl⟩ : ∃ m, K = m + 1 := ⟨K - 1, by omega⟩
      have b25 : decide ((i : Int) < (Q.1 : Int)) = true := by simp; omega
      obtain ⟨A, hA⟩ : ∃ x, numP Z 4294967295 (sp, false) = x := ⟨_, rfl⟩
      obtain ⟨C, hC'⟩ : ∃ x, numP Z 4294967295 A.2 = x := ⟨_, rfl⟩
      obtain ⟨T, hT⟩ : ∃ x, cellsP Z 4294967295 4294967295 C.1 C.2 0 [] = x := ⟨_, rfl⟩
      have hrow : rowP Z 4294967295 4294967295 (sp, false) = (((A.1 : Int) - 1, T.1), T.2) := by
        unfold rowP
        rw [hA, hC', hT]
      have hAl := numP_le (m := 4294967295) HSL.out
      rw [hA] at hAl
      have hCl := numP_le (m := 4294967295) hAl.1
      rw [hC'] at hCl
      have HAL := Lib.hid hAl
      have HCL := Lib.hid hCl
      have hA1 := hAl.2.1
      have hC1' := hCl.2.1
      have HTN : Hid (rowsP Z 4294967295 4294967295 m T.2 (R ++ [((A.1 : Int) - 1, T.1)]) = RR) := Lib.hid (by
        rw [← HRR.out, rowsP_step rfl, hrow])
      skip
      have HAE := Lib.hid hA
      have HCE := Lib.hid hC'
      have HTE := Lib.hid hT
      have HN7 := Lib.hid (HN.out (sp, false) wr HSL.out HC.out HST.out.r)
      rw [hA] at HN7
      clear hAl hCl hA hC' hT hrow
      go_wp2_with fail
      refine HN7.out.mono ?_
      rintro e w5 ⟨rfl, hr5, hc5⟩
      have HST5 := Lib.hid (HST.out.read hr5 hc5)
      have HC5 := Lib.hid (HC.out.trans (hc5.mono (T := fun j => w.heap.size + 1 ≤ j) (fun k _ e => by omega)))
      have hb5 : w1.heap.size + 1 ≤ w5.heap.size := by have := HST5.out.t.lt; omega
      have HX5 := Lib.hid (CellSt.start cellR hr5 ((A.1 : Int) - 1) 33)
      have HC6 : Hid (Chg (fun j => j = w.heap.size + 1 ∨ w5.heap.size ≤ j) w5 (w5.alloc (.cells #[.int .i64 ((A.1 : Int) - 1), .slice none 0 0] 33))) := Lib.hid ((Chg.refl _ _).alloc _)
      have HUP : Hid (∀ wx, Chg (fun j => j = w.heap.size + 1 ∨ w5.heap.size ≤ j) w5 wx → Chg (fun j => w.heap.size + 1 ≤ j) wt wx) := Lib.hid (fun wx hx => HC5.out.trans (hx.mono (fun k _ e => by omega)))
      have HN8 := Lib.hid (HN.out A.2 _ HAL.out.1 (HUP.out _ HC6.out) HX5.out.r)
      rw [HCE.out] at HN8
      clear hr5 hc5 c2 HST HC HN7
      go_wp2_with fail
      refine HN8.out.mono ?_
      rintro e w6 ⟨rfl, hr6, hc6⟩
      have HX6 := Lib.hid (HX5.out.read hr6 hc6)
      have HC7 := Lib.hid (HC6.out.trans (hc6.mono (T := fun j => j = w.heap.size + 1 ∨ w5.heap.size ≤ j) (fun k _ e => .inl e)))
      clear hr6 hc6 HX5 HC6 HN8
      go_wp2
      go_loopw [11, 12] (fun q11 q wr => ∃ (k K : Nat) (s : Rd) (X : Int) (acc : List (Int × Int)) (v : Value), q11 = .int .i64 X ∧ q = .int .i64 k ∧ k + K = C.1 ∧ CellSt cellR (w.heap.size + 1) w5.heap.size (.slice a Z.length c) wr ((A.1 : Int) - 1) s acc v ∧ s.1 ≤ Z.length ∧ ((0 ≤ X ∧ X ≤ (acc.length : Int) * 4294967296) ∧ LenS acc.length s) ∧ cellsP Z 4294967295 4294967295 K s X acc = T ∧ sp ≤ s.1 ∧ (s.2 = true ∨ sp < s.1) ∧ Chg (fun j => j = w.heap.size + 1 ∨ w5.heap.size ≤ j) w5 wr) (fun _ q _ => C.1 - (intOf q).toNat)
      case atStart => exact ⟨0, C.1, C.2, 0, [], _, rfl, rfl, by omega, HX6.out, HCL.out.1, ⟨⟨by omega, by simp⟩, ⟨Nat.zero_le _, fun _ => Nat.zero_le _⟩⟩, HTE.out, by have h1 : sp ≤ A.2.1 := HAL.out.2.2.2.1; have h2 : A.2.1 ≤ C.2.1 := HCL.out.2.2.2.1; omega, by
        rcases HAL.out.2.2.2.2.2 with h | h
        · exact .inl (HCL.out.2.2.2.2.1 h)
        · have h1 : sp < A.2.1 := h; have h2 : A.2.1 ≤ C.2.1 := HCL.out.2.2.2.1; exact .inr (by omega), HC7.out⟩
      case round =>
        clear HX6 HC7 HTE
        obtain ⟨k, K, s, X, acc, v, rfl, rfl, hkK, hst, hs, ⟨⟨hX0, hX1⟩, hls⟩, hT, hsp, hsp2, hc⟩ := hrel
        have HX := Lib.hid hst
        have HSS' := Lib.hid hs
        have HLA := Lib.hid hls
        have HTE := Lib.hid hT
        have HCX := Lib.hid hc
        have HSP := Lib.hid (And.intro hsp hsp2)
        obtain ⟨ya, yl, yc, rfl⟩ := hst.f.own.shape3
        obtain ⟨tp, tb⟩ := s
        have c2 := hst.r.c2
        simp only at c2
        have hal : acc.length ≤ 100001 := by have := hls.1; simp only at this hs; omega
        clear hst hs hT hc hls hsp hsp2
        by_cases hgo : 0 < K ∧ tb = false
        · obtain ⟨hK, rfl⟩ := hgo
          obtain ⟨m', rfl⟩ : ∃ m, K = m + 1 := ⟨K - 1, by omega⟩
          have b43 : decide ((k : Int) < (C.1 : Int)) = true := by simp; omega
          obtain ⟨N, hN⟩ : ∃ x, numP Z 4294967295 (tp, false) = x := ⟨_, rfl⟩
          obtain ⟨D, hD⟩ : ∃ x, numP Z 4294967295 N.2 = x := ⟨_, rfl⟩
          have hNl := numP_le (m := 4294967295) HSS'.out
          rw [hN] at hNl
          have hDl := numP_le (m := 4294967295) hNl.1
          rw [hD] at hDl
          have HNL := Lib.hid hNl
          have HDL := Lib.hid hDl
          have hN1 := hNl.2.1
          have hD1 := hDl.2.1
          have HTM : Hid (cellsP Z 4294967295 4294967295 m' D.2 (X + N.1) (acc ++ [(X + N.1, (D.1 : Int) - 1)]) = T) := Lib.hid (by
            rw [← HTE.out, cellsP_step rfl, hN, hD])
          have HLN : Hid (LenS (acc ++ [(X + (N.1 : Int), (D.1 : Int) - 1)]).length D.2) := Lib.hid (by
            rw [List.length_append]
            exact HLA.out.next rfl (Nat.le_trans hNl.2.2.2.1 hDl.2.2.2.1) (hNl.2.2.2.2.2.elim (fun h => .inl (hDl.2.2.2.2.1 h)) (fun h => .inr (Nat.lt_of_lt_of_le h hDl.2.2.2.1))))
          have HSPN : Hid (sp ≤ D.2.1 ∧ (D.2.2 = true ∨ sp < D.2.1)) := Lib.hid (by
            have h1 := HSP.out.1
            have h2 := hNl.2.2.2.1
            have h3 := hDl.2.2.2.1
            simp only at h1 h2
            refine ⟨by omega, ?_⟩
            rcases HSP.out.2 with h | h
            · cases h
            · simp only at h; exact .inr (by omega))
          have hwD : IntKind.i64.wrap ((D.1 : Int) - 1) = (D.1 : Int) - 1 := by rw [IntKind.wrap_i64]; omega
          have HNE := Lib.hid hN
          have HDE := Lib.hid hD
          have HN13 := Lib.hid (HN.out (tp, false) wr HSS'.out (HUP.out _ HCX.out) HX.out.r)
          rw [hN] at HN13
          clear hNl hDl hN hD
          go_wp2_with fail
          refine HN13.out.mono ?_
          rintro e w7 ⟨rfl, hr7, hc7⟩
          have HX7 := Lib.hid (HX.out.read hr7 hc7)
          have HC8 := Lib.hid (HCX.out.trans (hc7.mono (T := fun j => j = w.heap.size + 1 ∨ w5.heap.size ≤ j) (fun k _ e => .inl e)))
          clear hr7 hc7 HX HCX c2 HN13
          go_upto_region 14 with (fail)
          obtain ⟨wd, hwd⟩ : ∃ wd, wd = w7.drew := ⟨_, rfl⟩
          have HWE : Hid (w7.drew = wd) := Lib.hid hwd.symm
          have HWD : Hid (Chg (fun _ => False) w7 wd) := Lib.hid (by rw [hwd]; exact (Chg.refl _ _).drew)
          have HX8 := Lib.hid (HX7.out.same HWD.out)
          have HC9 := Lib.hid (HC8.out.trans HWD.out.any)
          have HN14 := Lib.hid (HN.out N.2 wd HNL.out.1 (HUP.out _ HC9.out) HX8.out.r)
          rw [HDE.out] at HN14
          clear hwd
          refine wp_region_late (fun x => Chg (fun j => j = w.heap.size + 1 ∨ w5.heap.size + 1 ≤ j) wd x) (fun i => decide (i = 10)) (by kernel_rfl) ?_
          show wpAnyL _ _ _ _ _ _ 11 (Array.replicate 11 false) _ w7.drew
          rw [HWE.out]
          have HSS : Hid (Chg (fun j => j = w.heap.size + 1 ∨ w5.heap.size + 1 ≤ j) wd wd) := Lib.hid (Chg.refl _ _)
          have hneg : ¬ (w5.heap.size = w.heap.size + 1 ∨ w5.heap.size + 1 ≤ w5.heap.size) := by omega
          (refine late_read (i := 0) rfl (by kernel_rfl) (fun _ _ _ _ h => h) rfl HSS.out (fun K hK => ?_); apply Exists.intro; refine ⟨fun w' hC => ?_, ?_⟩; ((skip); go_simp; try with_reducible rfl); (try go_simp); refine hK _ ?_; clear hK K)
          (refine late_read (i := 1) rfl (by kernel_rfl) (fun _ _ _ _ h => h) rfl HSS.out (fun K hK => ?_); apply Exists.intro; refine ⟨fun w' hC => ?_, ?_⟩; ((have q := hC.cellS HX8.out.f.c hneg); go_simp; try with_reducible rfl); (try go_simp); refine hK _ ?_; clear hK K)
          (refine late_read (i := 2) rfl (by kernel_rfl) (fun _ _ _ _ h => h) rfl HSS.out (fun K hK => ?_); apply Exists.intro; refine ⟨fun w' hC => ?_, ?_⟩; ((skip); go_simp; try with_reducible rfl); (try go_simp); refine hK _ ?_; clear hK K)
          (refine late_read (i := 3) rfl (by kernel_rfl) (fun _ _ _ _ h => h) rfl HSS.out (fun K hK => ?_); apply Exists.intro; refine ⟨fun w' hC => ?_, ?_⟩; ((skip); go_simp; try with_reducible rfl); (try go_simp); refine hK _ ?_; clear hK K)
          refine late_call (i := 4) (by kernel_rfl) rfl rfl 65 #[.pointer (some ⟨w.heap.size + 1, 0, none⟩)] (fun u w'' => u = .int .i64 D.1 ∧ RdAt w'' (w.heap.size + 1) (.slice a Z.length c) D.2 ∧ Chg (fun j => j = w.heap.size + 1) wd w'') (by go_simp) ?_ ?_
          · refine HN14.out.mono ?_
            rintro e w8 ⟨rfl, h1, h2⟩
            exact ⟨_, rfl, fun _ => HSS.out.trans (h2.mono (fun k _ e => .inl e)), rfl, h1, h2⟩
          rintro u w8 hs8 ⟨rfl, hr8, hc8⟩ K hK
          have HSS := Lib.hid (hs8 (by decide))
          have HX9 := Lib.hid (HX8.out.read hr8 hc8)
          have HC10 := Lib.hid (HC9.out.trans (hc8.mono (T := fun j => j = w.heap.size + 1 ∨ w5.heap.size ≤ j) (fun k _ e => .inl e)))
          clear hs8 hr8 hc8 HN14
          (try go_simp)
          refine hK _ ?_
          clear hK K
          have HXA := Lib.hid (HX9.out.same ((Chg.refl (fun _ => False) w8).alloc (.cells #[.int .i64 (X + N.1), .int .i64 ((D.1 : Int) - 1)] 85)))
          have HBS : Hid (w5.heap.size + 1 ≤ (w8.alloc (.cells #[.int .i64 (X + N.1), .int .i64 ((D.1 : Int) - 1)] 85)).heap.size) := Lib.hid (by have := HXA.out.f.lt; omega)
          have HOK : Hid (∀ x ∈ [(X + (N.1 : Int), (D.1 : Int) - 1)], cellR.ok x) := Lib.hid (by
            intro x hx
            rw [List.mem_singleton] at hx
            subst hx
            exact ⟨⟨by show -9223372036854775808 ≤ X + (N.1 : Int); omega, by show X + (N.1 : Int) ≤ 9223372036854775807; omega⟩, ⟨by show -9223372036854775808 ≤ (D.1 : Int) - 1; omega, by show (D.1 : Int) - 1 ≤ 9223372036854775807; omega⟩⟩)
          (refine late_read (i := 5) rfl (by kernel_rfl) (fun _ _ _ _ h => h) rfl HSS.out (fun K hK => ?_); apply Exists.intro; refine ⟨fun w' hC => ?_, ?_⟩; ((skip); go_simp; try with_reducible rfl); (try go_simp); refine hK _ ?_; clear hK K)
          (refine late_read (i := 6) rfl (by kernel_rfl) (fun _ _ _ _ h => h) rfl HSS.out (fun K hK => ?_); apply Exists.intro; refine ⟨fun w' hC => ?_, ?_⟩; ((skip); go_simp; try with_reducible rfl); (try go_simp); refine hK _ ?_; clear hK K)
          (refine late_turn (i := 7) (by kernel_rfl) rfl rfl (fun K hK => ?_); apply Exists.intro; apply Exists.intro; refine ⟨?_, ?_, ?_⟩; ((skip); go_simp; try first | with_reducible rfl | exact ⟨rfl, rfl⟩); (exact fun _ => HSS.out.alloc _); (try go_simp); refine hK _ _ ?_; clear hK K)
          refine late_append (i := 8) (by kernel_rfl) rfl rfl (.tmp 58) (.tmp 64) 31 31 rfl (.slice ya yl yc) (.slice (some ⟨w8.heap.size, 0, none⟩) 1 1) rfl rfl (fun v' w9 => cellR.Own w9 (w5.heap.size + 1) v' (acc ++ [(X + (N.1 : Int), (D.1 : Int) - 1)]) ∧ Chg (fun j => w5.heap.size + 1 ≤ j) (w8.alloc (.cells #[.int .i64 (X + N.1), .int .i64 ((D.1 : Int) - 1)] 85)) w9) ?_ ?_
          · obtain ⟨v', w9, hrun, h1, h2, -⟩ := HXA.out.f.own.append HBS.out 31 (.slice (some ⟨w8.heap.size, 0, none⟩) 1 1) [(X + (N.1 : Int), (D.1 : Int) - 1)] (cellR.srcLit 1 HOK.out) HOK.out (by simp; omega) 31
            exact ⟨v', w9, hrun, fun _ => (HSS.out.alloc _).trans (h2.mono (fun k _ e => .inr e)), h1, h2⟩
          rintro v' w9 hs ⟨h1, h2⟩ K hK
          obtain ⟨va', vl', vc', hv'⟩ := h1.shape3
          subst hv'
          obtain ⟨⟨k1, k2⟩, hf, hcf⟩ := HXA.out.add h1 h2
          have HFF := Lib.hid hf
          have HCF := Lib.hid (HC10.out.trans ((((Chg.refl (fun k => w5.heap.size ≤ k) w8).alloc (.cells #[.int .i64 (X + N.1), .int .i64 ((D.1 : Int) - 1)] 85)).trans hcf).mono (T := fun j => j = w.heap.size + 1 ∨ w5.heap.size ≤ j) (fun k _ e => .inr e)))
          have HSL9 := Lib.hid (hs (by decide))
          clear hf h1 h2 hs hcf
          (try go_simp)
          refine hK _ ?_
          clear hK K
          (refine late_turn (i := 9) (by kernel_rfl) rfl rfl (fun K hK => ?_); apply Exists.intro; apply Exists.intro; refine ⟨?_, ?_, ?_⟩; ((skip); go_simp; try first | with_reducible rfl | exact ⟨rfl, rfl⟩); (exact fun _ => HSL9.out); (try go_simp); refine hK _ _ ?_; clear hK K)
          (refine late_store (i := 10) (by kernel_rfl) rfl rfl (fun K hK => ?_); apply Exists.intro; refine ⟨?_, (fun h => absurd h (by decide)), ?_⟩; ((skip); go_simp; try first | with_reducible rfl | exact ⟨rfl, rfl⟩); (try go_simp); refine hK _ _ ?_; clear hK K)
          refine late_done (by kernel_rfl) ?_ _
          go_wp2
          go_roundw
          case rel => exact ⟨k + 1, m', D.2, X + N.1, _, _, rfl, by go_num, by omega, HFF.out, HDL.out.1, ⟨⟨by omega, by simp; omega⟩, HLN.out⟩, HTM.out, HSPN.out.1, HSPN.out.2, HCF.out⟩
          case measure => simp [intOf]; omega
        · have hex : decide ((k : Int) < (C.1 : Int)) = false ∨ (decide ((k : Int) < (C.1 : Int)) = true ∧ tb = true) := by
            rcases Nat.eq_zero_or_pos K with h | h
            · exact .inl (by simp; omega)
            · exact .inr ⟨by simp; omega, by cases tb; exact absurd ⟨h, rfl⟩ hgo; rfl⟩
          have HTV : Hid (T = (acc, tp, tb)) := Lib.hid (by
            rw [← HTE.out]
            apply cellsP_wrong
            rcases Nat.eq_zero_or_pos K with h | h
            · exact .inr h
            · exact .inl (by cases tb; exact absurd ⟨h, rfl⟩ hgo; rfl))
          clear hgo
          rcases hex with b43 | ⟨b43, rfl⟩
          all_goals
            have b43n := b43
            simp only [Int.ofNat_lt] at b43n
            have HTR : Hid (RdAt wr (w.heap.size + 1) (.slice a Z.length c) T.2) := Lib.hid (by rw [HTV.out]; exact HX.out.r)
            have HCO := Lib.hid (HCX.out.mono (T := fun j => j = w.heap.size + 1) (fun k hk e => by omega))
            have HSTX := Lib.hid (HST5.out.read HTR.out HCO.out)
            have HTA : Hid (T.1 = acc) := Lib.hid (by rw [HTV.out])
            have HSN : Hid (T.2.1 ≤ Z.length ∧ LenS (R ++ [((A.1 : Int) - 1, T.1)]).length T.2 ∧ LenB (R ++ [((A.1 : Int) - 1, T.1)])) := Lib.hid (by
              rw [HTV.out, List.length_append]
              exact ⟨HSS'.out, HLS.out.next rfl HSP.out.1 HSP.out.2, HLB.out.add (by show acc.length ≤ _; omega)⟩)
            obtain ⟨ya', yg, yc', hy', hle, -, -⟩ := HX.out.f.own.at'
            injection hy' with e1 e2 e3
            subst e1 e2 e3
            have x0 := HX.out.c
            have x1 := HX.out.f.c
            have c1 := HSTX.out.t.c1
            have HSTE := Lib.hid (HSTX.out.same ((Chg.refl (fun _ => False) wr).alloc (.cells #[.int .i64 ((A.1 : Int) - 1), .slice ya acc.length yc] 33)))
            have HINX := Lib.hid (HX.out.f.own.in' hle)
            have HAI : Hid (I.Byte ((A.1 : Int) - 1)) := Lib.hid ⟨by omega, by omega⟩
            have HXE : Hid (RowIn cellR (wr.alloc (.cells #[.int .i64 ((A.1 : Int) - 1), .slice ya acc.length yc] 33)) (w1.heap.size + 1) ((A.1 : Int) - 1, ya, acc.length, yc) ((A.1 : Int) - 1, T.1)) := Lib.hid ⟨rfl, HAI.out, by rw [HTA.out]; exact (HINX.out.lower (by omega)).same ((Chg.refl _ _).alloc _)⟩
            have HXA : Hid (0 < T.1.length → ∀ g o, ya = some ⟨g, o, none⟩ → (Value.slice va vl vc).ownBlock ≠ some g ∧ (Value.slice none 0 0).ownBlock ≠ some g ∧ w1.heap.size + 1 ≤ g) := Lib.hid (fun hp g o hg => by
              rw [HTA.out] at hp
              obtain ⟨_, _, g', o', -, h4⟩ := HINX.out
              obtain ⟨h5, h6⟩ := h4 hp
              simp only at h5
              rw [hg] at h5
              injection h5 with h5
              injection h5 with h5
              subst h5
              obtain ⟨X, h7, _⟩ := HST5.out.t.rows
              exact ⟨fun e => by have := (h7.blk e).2; omega, (fun e => by cases e), by omega⟩)
            obtain ⟨XX, hXX, hXl, -⟩ := HSTE.out.t.rows
            have HXX := Lib.hid hXX
            have HXL := Lib.hid hXl
            have HOKR : Hid (∀ y ∈ [((A.1 : Int) - 1, ya, acc.length, yc)], rowR.ok y) := Lib.hid (by intro y hy; rw [List.mem_singleton] at hy; subst hy; exact HAI.out)
            have HBR : Hid (w1.heap.size + 1 ≤ (wr.alloc (.cells #[.int .i64 ((A.1 : Int) - 1), .slice ya acc.length yc] 33)).heap.size) := Lib.hid HSTE.out.t.lt
            have HLR : Hid (XX.length + 1 ≤ 1000000000000) := Lib.hid (by rw [hXl]; omega)
            clear hXX hXl
            go_wp2_with (at_builtin; refine Elt.wpList_append2 rowR rfl (.tmp 68) (.tmp 70) 48 48 rfl rfl (w1.heap.size + 1) (.slice va vl vc) XX [((A.1 : Int) - 1, ya, acc.length, yc)] (.slice (some ⟨wr.heap.size, 0, none⟩) 1 1) rfl rfl HXX.out HBR.out (rowR.srcLit 1 HOKR.out) HOKR.out HLR.out ?_; intro v' w9 K1 K2 K3; obtain ⟨va', vl', vc', hv'⟩ := K1.out.shape3; subst hv'; obtain ⟨⟨k1, k2⟩, hf, hcf⟩ := HSTE.out.t.addRow HXE.out HXA.out (fun X' hX' _ => (by rw [rowOwnR_unique hX' HXX.out]; exact K1.out)) K3.out.1 (K3.out.2.imp id Or.inl); have HCH : Hid (Chg (fun k => k = w1.heap.size ∨ w1.heap.size + 1 ≤ k) (wr.alloc (.cells #[.int .i64 ((A.1 : Int) - 1), .slice ya acc.length yc] 33)) (w9.setCell ⟨w1.heap.size, 1, none⟩ (.slice va' vl' vc'))) := Lib.hid ((K3.out.1.mono (fun k _ e => .inr ((HXX.out.blk e).1))).trans ((setCellChg w9 w1.heap.size 1 _).mono (fun k _ e => .inl e))); have hz9 : w9.frozen? ⟨w1.heap.size, 0, none⟩ = false := (K3.out.1.frozen (p := ⟨w1.heap.size, 0, none⟩) HSTE.out.t.lt (fun e => by have h : w1.heap.size + 1 ≤ w1.heap.size := (HXX.out.blk e).1; omega)).trans HSTE.out.z0; have HFF := Lib.hid (HSTE.out.store hf (HSTE.out.r.chg HCH.out (by omega)) ((World.frozen?_setCell _ _ _ _).trans hz9)); have HCF := Lib.hid (((HUP.out wr HCX.out).alloc (.cells #[.int .i64 ((A.1 : Int) - 1), .slice ya acc.length yc] 33)).trans (HCH.out.mono (T := fun j => w.heap.size + 1 ≤ j) (fun k _ e => by omega))); clear hf hcf hz9)
            go_roundw
            case rel => exact ⟨i + 1, m, T.2, R ++ [((A.1 : Int) - 1, T.1)], _, by go_num, by omega, HFF.out, HSN.out.1, HSN.out.2, HTN.out, HCF.out⟩
            case measure => simp [intOf]; omega
    · have hex : decide ((i : Int) < (Q.1 : Int)) = false ∨ (decide ((i : Int) < (Q.1 : Int)) = true ∧ sb = true) := by
        rcases Nat.eq_zero_or_pos K with h | h
        · exact .inl (by simp; omega)
        · exact .inr ⟨by simp; omega, by cases sb; exact absurd ⟨h, rfl⟩ hgo; rfl⟩
      have HRE : Hid (RR = (R, sp, sb)) := Lib.hid (by
        rw [← HRR.out]
        apply rowsP_wrong
        rcases Nat.eq_zero_or_pos K with h | h
        · exact .inr h
        · exact .inl (by cases sb; exact absurd ⟨h, rfl⟩ hgo; rfl))
      clear hgo
      rcases hex with b25 | ⟨b25, rfl⟩
      all_goals
        have b25n := b25
        simp only [Int.ofNat_lt] at b25n
        go_upto_region 16 with (fail)
        have hb25 := Lib.hid b25
        clear c2 b25 b25n
        have HST2 : Hid (TkSt cellR rowR (w.heap.size + 1) w1.heap.size (w1.heap.size + 1) (.slice a Z.length c) wr RR.2 P.1 RR.1 [] (.slice va vl vc) (.slice none 0 0)) := Lib.hid (by rw [HRE.out]; exact HST.out)
        have HSL2 : Hid (RR.2.1 ≤ Z.length) := Lib.hid (by rw [HRE.out]; exact HSL.out)
        have hRl : RR.1.length ≤ 100001 := by rw [HRE.out]; exact hRl
        have HLR : Hid (∀ r ∈ RR.1, r.2.length ≤ 1000000000) := Lib.hid (by rw [HRE.out]; intro r hr; have := HLB.out r hr; omega)
        have hUl := numP_le (m := 4294967295) HSL2.out
        rw [HU.out] at hUl
        have HUL := Lib.hid hUl
        have hU1 := hUl.2.1
        have HN16 := Lib.hid (HN.out RR.2 wr HSL2.out HC.out HST2.out.r)
        rw [HU.out] at HN16
        clear hUl
        go_wp2_with fail
        refine HN16.out.mono ?_
        rintro e w7 ⟨rfl, hr7, hc7⟩
        have HST7 := Lib.hid (HST2.out.read hr7 hc7)
        have HC7 := Lib.hid (HC.out.trans (hc7.mono (T := fun j => w.heap.size + 1 ≤ j) (fun k _ e => by omega)))
        clear hr7 hc7 HN16 HST2 HST HC
        go_wp2
        go_loopw [14] (fun q wr => ∃ (i K : Nat) (s : Rd) (O : List Int) (u : Value), q = .int .i64 i ∧ i + K = U.1 ∧ TkSt cellR rowR (w.heap.size + 1) w1.heap.size (w1.heap.size + 1) (.slice a Z.length c) wr s P.1 RR.1 O (.slice va vl vc) u ∧ s.1 ≤ Z.length ∧ LenS O.length s ∧ ofP Z 4294967295 K s O = V ∧ Chg (fun j => w.heap.size + 1 ≤ j) wt wr) (fun q _ => U.1 - (intOf q).toNat)
        case atStart => exact ⟨0, U.1, U.2, [], _, rfl, by omega, HST7.out, HUL.out.1, ⟨Nat.zero_le _, fun _ => Nat.zero_le _⟩, HV.out, HC7.out⟩
        case round =>
          clear HST7 HC7 HV
          obtain ⟨i, K, s, O, u, rfl, hiK, hst, hs, hls, hT, hc⟩ := hrel
          have HST := Lib.hid hst
          have HSL := Lib.hid hs
          have HLS := Lib.hid hls
          have HV := Lib.hid hT
          have HC := Lib.hid hc
          obtain ⟨ua, ul, uc, rfl⟩ := hst.t.of.shape3
          obtain ⟨sp, sb⟩ := s
          have c2 := hst.r.c2
          simp only at c2
          have hOl : O.length ≤ 100001 := by have := hls.1; simp only at this hs; omega
          clear hst hs hT hc hls
          by_cases hgo : 0 < K ∧ sb = false
          · obtain ⟨hK, rfl⟩ := hgo
            obtain ⟨m, rfl⟩ : ∃ m, K = m + 1 := ⟨K - 1, by omega⟩
            have b77 : decide ((i : Int) < (U.1 : Int)) = true := by simp; omega
            obtain ⟨N, hN⟩ : ∃ x, numP Z 4294967295 (sp, false) = x := ⟨_, rfl⟩
            have hNl := numP_le (m := 4294967295) HSL.out
            rw [hN] at hNl
            have HNL := Lib.hid hNl
            have hN1 := hNl.2.1
            have HTN : Hid (ofP Z 4294967295 m N.2 (O ++ [(N.1 : Int)]) = V) := Lib.hid (by
              rw [← HV.out, ofP_step rfl, hN])
            have HLN : Hid (LenS (O ++ [(N.1 : Int)]).length N.2) := Lib.hid (by
              rw [List.length_append]
              exact HLS.out.next rfl hNl.2.2.2.1 hNl.2.2.2.2.2)
            have HN' := Lib.hid hN
            clear hNl hN
            go_upto_region 20 with (fail)
            obtain ⟨wd, hwd⟩ : ∃ wd, wd = wr.drew := ⟨_, rfl⟩
            have HWE : Hid (wr.drew = wd) := Lib.hid hwd.symm
            have HWD : Hid (Chg (fun _ => False) wr wd) := Lib.hid (by rw [hwd]; exact (Chg.refl _ _).drew)
            have HST6 := Lib.hid (HST.out.same HWD.out)
            have HC6 := Lib.hid (HC.out.trans HWD.out.any)
            clear hwd c2
            refine wp_region_late (fun x => Chg (fun j => j = w.heap.size + 1 ∨ w1.heap.size + 1 ≤ j) wd x) (fun i => decide (i = 7)) (by kernel_rfl) ?_
            show wpAnyL _ _ _ _ _ _ 8 (Array.replicate 8 false) _ wr.drew
            rw [HWE.out]
            have HSS : Hid (Chg (fun j => j = w.heap.size + 1 ∨ w1.heap.size + 1 ≤ j) wd wd) := Lib.hid (Chg.refl _ _)
            have hneg : ¬ (w1.heap.size = w.heap.size + 1 ∨ w1.heap.size + 1 ≤ w1.heap.size) := by omega
            have HN20 := Lib.hid (HN.out (sp, false) wd HSL.out HC6.out HST6.out.r)
            rw [HN'.out] at HN20
            (refine late_read (i := 0) rfl (by kernel_rfl) (fun _ _ _ _ h => h) rfl HSS.out (fun K hK => ?_); apply Exists.intro; refine ⟨fun w' hC => ?_, ?_⟩; ((skip); go_simp; try with_reducible rfl); (try go_simp); refine hK _ ?_; clear hK K)
            (refine late_read (i := 1) rfl (by kernel_rfl) (fun _ _ _ _ h => h) rfl HSS.out (fun K hK => ?_); apply Exists.intro; refine ⟨fun w' hC => ?_, ?_⟩; ((have q := hC.cellS HST6.out.t.c2 hneg); go_simp; try with_reducible rfl); (try go_simp); refine hK _ ?_; clear hK K)
            (refine late_read (i := 2) rfl (by kernel_rfl) (fun _ _ _ _ h => h) rfl HSS.out (fun K hK => ?_); apply Exists.intro; refine ⟨fun w' hC => ?_, ?_⟩; ((skip); go_simp; try with_reducible rfl); (try go_simp); refine hK _ ?_; clear hK K)
            refine late_call (i := 3) (by kernel_rfl) rfl rfl 65 #[.pointer (some ⟨w.heap.size + 1, 0, none⟩)] (fun q w'' => q = .int .i64 N.1 ∧ RdAt w'' (w.heap.size + 1) (.slice a Z.length c) N.2 ∧ Chg (fun j => j = w.heap.size + 1) wd w'') (by go_simp) ?_ ?_
            · refine HN20.out.mono ?_
              rintro e w6 ⟨rfl, h1, h2⟩
              exact ⟨_, rfl, fun _ => HSS.out.trans (h2.mono (fun k _ e => .inl e)), rfl, h1, h2⟩
            rintro q w6 hs6 ⟨rfl, hr6, hc6⟩ K hK
            have HSS := Lib.hid (hs6 (by decide))
            have HST7 := Lib.hid (HST6.out.read hr6 hc6)
            have HC7 := Lib.hid (HC6.out.trans (hc6.mono (T := fun j => w.heap.size + 1 ≤ j) (fun k _ e => by omega)))
            clear hs6 hr6 hc6 HN20
            (try go_simp)
            refine hK _ ?_
            clear hK K
            have HSTA := Lib.hid (HST7.out.same ((Chg.refl (fun _ => False) w6).alloc (.cells #[.int .i64 N.1] 3)))
            have HOKI : Hid (∀ y ∈ [(N.1 : Int)], intE.ok y) := Lib.hid (by intro y hy; rw [List.mem_singleton] at hy; subst hy; exact ⟨by omega, by omega⟩)
            have HBR : Hid (w1.heap.size + 1 ≤ (w6.alloc (.cells #[.int .i64 N.1] 3)).heap.size) := Lib.hid HSTA.out.t.lt
            (refine late_turn (i := 4) (by kernel_rfl) rfl rfl (fun K hK => ?_); apply Exists.intro; apply Exists.intro; refine ⟨?_, ?_, ?_⟩; ((skip); go_simp; try first | with_reducible rfl | exact ⟨rfl, rfl⟩); (exact fun _ => HSS.out.alloc _); (try go_simp); refine hK _ _ ?_; clear hK K)
            refine late_append (i := 5) (by kernel_rfl) rfl rfl (.tmp 88) (.tmp 91) 22 22 rfl (.slice ua ul uc) (.slice (some ⟨w6.heap.size, 0, none⟩) 1 1) rfl rfl (fun v' w9 => intE.Own w9 (w1.heap.size + 1) v' (O ++ [(N.1 : Int)]) ∧ Chg (fun k => (Value.slice ua ul uc).ownBlock = some k) (w6.alloc (.cells #[.int .i64 N.1] 3)) w9 ∧ (v'.ownBlock = (Value.slice ua ul uc).ownBlock ∨ v'.ownBlock = some (w6.alloc (.cells #[.int .i64 N.1] 3)).heap.size)) ?_ ?_
            · obtain ⟨v', w9, hrun, h1, h2, ⟨h3, h4⟩, -⟩ := HSTA.out.t.of.append HBR.out 22 (.slice (some ⟨w6.heap.size, 0, none⟩) 1 1) [(N.1 : Int)] (intE.srcLit 1 HOKI.out) HOKI.out (by simp; omega) 22
              exact ⟨v', w9, hrun, fun _ => (HSS.out.alloc _).trans (h2.mono (fun k _ e => .inr e)), h1, h3, h4⟩
            rintro v' w9 hs ⟨h1, h2, h3⟩ K hK
            obtain ⟨va', vl', vc', hv'⟩ := h1.shape3
            subst hv'
            obtain ⟨⟨k1, k2⟩, hf, hcf⟩ := HSTA.out.t.addOf h1 h2 (h3.imp id Or.inl)
            have HCH : Hid (Chg (fun k => k = w1.heap.size ∨ w1.heap.size + 1 ≤ k) (w6.alloc (.cells #[.int .i64 N.1] 3)) (w9.setCell ⟨w1.heap.size, 2, none⟩ (.slice va' vl' vc'))) := Lib.hid ((h2.mono (fun k _ e => .inr ((HSTA.out.t.of.blk e).1))).trans ((setCellChg w9 w1.heap.size 2 _).mono (fun k _ e => .inl e)))
            have hz9 : w9.frozen? ⟨w1.heap.size, 0, none⟩ = false := (h2.frozen (p := ⟨w1.heap.size, 0, none⟩) HSTA.out.t.lt (fun e => by have h : w1.heap.size + 1 ≤ w1.heap.size := (HSTA.out.t.of.blk e).1; omega)).trans HSTA.out.z0
            have HFF := Lib.hid (HSTA.out.store hf (HSTA.out.r.chg HCH.out (by omega)) ((World.frozen?_setCell _ _ _ _).trans hz9))
            have HCF := Lib.hid ((HC7.out.alloc (.cells #[.int .i64 N.1] 3)).trans (HCH.out.mono (T := fun j => w.heap.size + 1 ≤ j) (fun k _ e => by omega)))
            have HSL9 := Lib.hid (hs (by decide))
            clear hf h1 h2 h3 hs hcf hz9
            (try go_simp)
            refine hK _ ?_
            clear hK K
            (refine late_turn (i := 6) (by kernel_rfl) rfl rfl (fun K hK => ?_); apply Exists.intro; apply Exists.intro; refine ⟨?_, ?_, ?_⟩; ((skip); go_simp; try first | with_reducible rfl | exact ⟨rfl, rfl⟩); (exact fun _ => HSL9.out); (try go_simp); refine hK _ _ ?_; clear hK K)
            (refine late_store (i := 7) (by kernel_rfl) rfl rfl (fun K hK => ?_); apply Exists.intro; refine ⟨?_, (fun h => absurd h (by decide)), ?_⟩; ((skip); go_simp; try first | with_reducible rfl | exact ⟨rfl, rfl⟩); (try go_simp); refine hK _ _ ?_; clear hK K)
            refine late_done (by kernel_rfl) ?_ _
            go_wp2
            go_roundw
            case rel => exact ⟨i + 1, m, N.2, O ++ [(N.1 : Int)], _, by go_num, by omega, HFF.out, HNL.out.1, HLN.out, HTN.out, HCF.out⟩
            case measure => simp [intOf]; omega
          · have hex : decide ((i : Int) < (U.1 : Int)) = false ∨ (decide ((i : Int) < (U.1 : Int)) = true ∧ sb = true) := by
              rcases Nat.eq_zero_or_pos K with h | h
              · exact .inl (by simp; omega)
              · exact .inr ⟨by simp; omega, by cases sb; exact absurd ⟨h, rfl⟩ hgo; rfl⟩
            have HVE : Hid (V = (O, sp, sb)) := Lib.hid (by
              rw [← HV.out]
              apply ofP_wrong
              rcases Nat.eq_zero_or_pos K with h | h
              · exact .inr h
              · exact .inl (by cases sb; exact absurd ⟨h, rfl⟩ hgo; rfl))
            clear hgo
            rcases hex with b77 | ⟨b77, rfl⟩
            all_goals
              have b77n := b77
              simp only [Int.ofNat_lt] at b77n
              go_upto_region 21 with (fail)
              clear c2 b77 b77n
              have HSTV : Hid (TkSt cellR rowR (w.heap.size + 1) w1.heap.size (w1.heap.size + 1) (.slice a Z.length c) wr V.2 P.1 RR.1 V.1 (.slice va vl vc) (.slice ua ul uc)) := Lib.hid (by rw [HVE.out]; exact HST.out)
              have hOl : V.1.length ≤ 100001 := by rw [HVE.out]; exact hOl
              obtain ⟨-, hvl, hle1⟩ := HSTV.out.t.rowsIn
              obtain ⟨-, hof, -, hul, -, hle2⟩ := HSTV.out.t.final (Chg.refl _ _)
              subst hvl hul
              obtain ⟨gq, hoat, hop⟩ := hof.bytes
              have HMAY := Lib.hid (refMay_any P.1 RR.1 V.1 va ua vc uc _ gq 0 wr ⟨by omega, by omega⟩ HSTV.out.t.rowsIn.1 (by omega) HLR.out hoat hop (by omega))
              obtain ⟨B, hB⟩ : ∃ x, mayL ((P.1 : Int), RR.1, V.1) = x := ⟨_, rfl⟩
              rw [hB] at HMAY
              have c2 := HSTV.out.r.c2
              have HM := Lib.hid hB
              clear hoat hop hof hB HST HSL
              have HRES : Hid ((!V.2.2 && mayL ((P.1 : Int), RR.1, V.1)) = false) := Lib.hid (by rw [HV2.out]; rfl)
              rw [HV2.out] at c2
              obtain ⟨⟨r0, r1, r2⟩, hz⟩ := HBZ.out wr HC.out
              have z0 := hz 0
              have z1 := hz 1
              have z2 := hz 2
              clear hz
              go_wp2
              obtain ⟨f0, f1, f2, f3⟩ := store3 (.int .i64 0) (.slice none 0 0) (.slice none 0 0) r0 r1 r2
              have h4 := (((HCT.out.any (S := fun j => w.heap.size ≤ j)).trans (HC.out.mono (T := fun j => w.heap.size ≤ j) (fun k _ e => by omega))).trans (f3.mono (T := fun j => w.heap.size ≤ j) (fun k _ e => by omega))).fresh
              clear f3
              generalize ((wr.setCell ⟨w.heap.size, 0, none⟩ (.int .i64 0)).setCell ⟨w.heap.size, 1, none⟩ (.slice none 0 0)).setCell ⟨w.heap.size, 2, none⟩ (.slice none 0 0) = WW at *
              exact bodyPost_ret (v := .tuple #[.agg #[.int .i64 0, .slice none 0 0, .slice none 0 0], .int .i64 0, .int .i64 4]) (by simp [results, Try.results36, go_sem, f0, f1, f2]) rfl (.inr ⟨HRES.out, rfl, h4⟩)
theorem refTakeTab_any (Z : List Int) (a : Option Addr) (g o c : Nat) (w : World) (hz : BytesAt w g o Z) (ha : 0 < Z.length → a = some ⟨g, o, none⟩) (hcz : Z.length ≤ c) (hn : a = none → c = 0) (hl : Z.length ≤ 100000) :
    Calls Try.prog 36 #[.slice a Z.length c] w fun e w' => (takeOk Z mostR = true ∧ ∃ ra oa rc oc, e = .returned (.tuple #[.agg #[.int .i64 (takeP Z mostR).1.1, .slice ra (takeP Z mostR).1.2.1.length rc, .slice oa (takeP Z mostR).1.2.2.length oc], .int .i64 (takeP Z mostR).2.1, .int .i64 0]) ∧
      RowsIn cellR rowR w' w.heap.size (ra, (takeP Z mostR).1.2.1.length, rc) (takeP Z mostR).1.2.1 ∧ OfIn w' w.heap.size oa (takeP Z mostR).1.2.2 ∧ Chg (fun _ => False) w w') ∨
      (takeOk Z mostR = false ∧ e = .returned (.tuple #[.agg #[.int .i64 0, .slice none 0 0, .slice none 0 0], .int .i64 0, .int .i64 4]) ∧ Chg (fun _ => False) w w') := by
  cases h : (takeP Z mostR).2.2 with
  | false => exact refTakeTab_right Z a g o c w hz ha hcz hn hl h
  | true => exact refTakeTab_wrong Z a g o c w hz ha hcz hn hl h
end Go.Proofs.Ytkfakkonlnjckaa
