/- A row taken: rows' taking.row. -/
import Derived.Test.YtkfakkonlnjckaaTakeW
namespace Go.Proofs.Ytkfakkonlnjckaa
open Go.RowKit

theorem cellsP_le {Z : List Int} {ms mv : Nat} : ∀ {k : Nat} {s : Rd} {x : Int} {acc : List (Int × Int)}, s.1 ≤ Z.length → (cellsP Z ms mv k s x acc).2.1 ≤ Z.length
  | 0, s, x, acc, h => h
  | k + 1, s, x, acc, h => by
    cases hs : s.2 with
    | true => rw [cellsP_wrong (.inl hs)]; exact h
    | false => rw [cellsP_step hs]; exact cellsP_le (numP_le (numP_le h).1).1
theorem rowP_le {Z : List Int} {mw mv : Nat} {s : Rd} (h : s.1 ≤ Z.length) : (rowP Z mw mv s).2.1 ≤ Z.length := cellsP_le (numP_le (numP_le h).1).1
theorem rowP_int {Z : List Int} {mw mv : Nat} {s : Rd} (h : s.1 ≤ Z.length) : I.Byte (rowP Z mw mv s).1.1 := by
  have := (numP_le (m := mv) h).2.2.1
  show I.Byte (((numP Z mv s).1 : Int) - 1)
  exact ⟨by omega, by omega⟩

/-- A row being taken: its variable at br, the reader at b. -/
structure CellSt (E : Elt (Int × Int)) (b br : Nat) (sl : Value) (wr : World) (d : Int) (s : Rd) (acc : List (Int × Int)) (v : Value) : Prop where
  f : Fld E br 1 wr v acc
  c : wr.cell? ⟨br, 0, none⟩ = some (.int .i64 d)
  r : RdAt wr b sl s
  lt : b < br
theorem CellSt.start (E : Elt (Int × Int)) {b : Nat} {sl : Value} {w : World} {s : Rd} (h : RdAt w b sl s) (d : Int) (e : TypeId) : CellSt E b w.heap.size sl (w.alloc (.cells #[.int .i64 d, .slice none 0 0] e)) d s [] (.slice none 0 0) :=
  ⟨⟨by rw [World.cell?_alloc_new]; rfl, World.frozen?_alloc_new _ _ _ _, .nil _ _⟩, by rw [World.cell?_alloc_new]; rfl, h.chg ((Chg.refl (fun _ => False) w).alloc _) (fun h => h), h.lt⟩
theorem CellSt.read {E : Elt (Int × Int)} {b br : Nat} {sl : Value} {w w' : World} {d : Int} {s s' : Rd} {acc : List (Int × Int)} {v : Value} (h : CellSt E b br sl w d s acc v) (hr : RdAt w' b sl s') (hc : Chg (fun j => j = b) w w') : CellSt E b br sl w' d s' acc v :=
  ⟨h.f.chg hc (fun g hg _ e => by have := h.lt; omega), hc.cellS h.c (by have := h.lt; show ¬ br = b; omega), hr, h.lt⟩
theorem CellSt.same {E : Elt (Int × Int)} {b br : Nat} {sl : Value} {w w' : World} {d : Int} {s : Rd} {acc : List (Int × Int)} {v : Value} (h : CellSt E b br sl w d s acc v) (hc : Chg (fun _ => False) w w') : CellSt E b br sl w' d s acc v :=
  ⟨h.f.chg hc (fun _ _ _ h => h), hc.cellS h.c (fun h => h), h.r.chg hc (fun h => h), h.lt⟩
theorem CellSt.add {E : Elt (Int × Int)} {b br : Nat} {sl : Value} {w w1 : World} {d : Int} {s : Rd} {acc acc' : List (Int × Int)} {v v' : Value} (h : CellSt E b br sl w d s acc v) (ho : E.Own w1 (br + 1) v' acc') (hc : Chg (fun k => br + 1 ≤ k) w w1) :
    (w1.cell? ⟨br, 1, none⟩ = some v ∧ w1.frozen? ⟨br, 1, none⟩ = false) ∧ CellSt E b br sl (w1.setCell ⟨br, 1, none⟩ v') d s acc' v' ∧ Chg (fun k => br ≤ k) w (w1.setCell ⟨br, 1, none⟩ v') := by
  obtain ⟨k1, k2, k3, k4⟩ := h.f.step ho hc
  exact ⟨k1, ⟨k2, k4 0 _ (by omega) h.c, h.r.chg k3 (by have := h.lt; omega), h.lt⟩, k3⟩

set_option maxRecDepth 100000 in
set_option maxHeartbeats 8000000 in
theorem row_any (Z : List Int) (a : Option Addr) (g o c b mw : Nat) (s : Rd) (w : World) (hz : BytesAt w g o Z) (ha : 0 < Z.length → a = some ⟨g, o, none⟩) (hcz : Z.length ≤ c) (hn : a = none → c = 0) (hl : Z.length ≤ 100000000) (hs : s.1 ≤ Z.length) (hm : mw ≤ 65536) (hgb : Z ≠ [] → g ≠ b) (hr : RdAt w b (.slice a Z.length c) s) :
    Calls Try.prog 64 #[.pointer (some ⟨b, 0, none⟩), .int .i64 mw] w fun e w' => ∃ xa, e = .returned (.agg #[.int .i64 (rowP Z mw 16777216 s).1.1, .slice xa (rowP Z mw 16777216 s).1.2.length (rowP Z mw 16777216 s).1.2.length]) ∧
      cellE.In w' w.heap.size (xa, (rowP Z mw 16777216 s).1.2.length, (rowP Z mw 16777216 s).1.2.length) (rowP Z mw 16777216 s).1.2 ∧ RdAt w' b (.slice a Z.length c) (rowP Z mw 16777216 s).2 ∧ Chg (fun j => j = b) w w' := by
  have hbl := hr.lt
  have HN1 : Hid (∀ (s : Rd) (wx : World), s.1 ≤ Z.length → Chg (fun j => j = b ∨ w.heap.size ≤ j) w wx → RdAt wx b (.slice a Z.length c) s → Calls Try.prog 63 #[.pointer (some ⟨b, 0, none⟩), .int .i64 16777216] wx fun e w' => e = .returned (.int .i64 (numP Z 16777216 s).1) ∧ RdAt w' b (.slice a Z.length c) (numP Z 16777216 s).2 ∧ Chg (fun j => j = b) wx w') := Lib.hid (fun s wx h1 h2 h3 =>
    num_all Z a g o c b 16777216 s wx (hz.chg h2 (fun hne e => by have := hz.lt hne; have := hgb hne; omega)) ha hcz hn hl h1 (by omega) h3)
  have HN2 : Hid (∀ (s : Rd) (wx : World), s.1 ≤ Z.length → Chg (fun j => j = b ∨ w.heap.size ≤ j) w wx → RdAt wx b (.slice a Z.length c) s → Calls Try.prog 63 #[.pointer (some ⟨b, 0, none⟩), .int .i64 mw] wx fun e w' => e = .returned (.int .i64 (numP Z mw s).1) ∧ RdAt w' b (.slice a Z.length c) (numP Z mw s).2 ∧ Chg (fun j => j = b) wx w') := Lib.hid (fun s wx h1 h2 h3 =>
    num_all Z a g o c b mw s wx (hz.chg h2 (fun hne e => by have := hz.lt hne; have := hgb hne; omega)) ha hcz hn hl h1 (by omega) h3)
  obtain ⟨wz, hwz⟩ : ∃ x, x = w.alloc (.cells #[.int .i64 0, .slice none 0 0] 27) := ⟨_, rfl⟩
  have HCZ : Hid (Chg (fun _ => False) w wz) := Lib.hid (by rw [hwz]; exact (Chg.refl _ _).alloc _)
  have hszz : wz.heap.size = w.heap.size + 1 := by rw [hwz]; simp
  have HZS := Lib.hid hszz
  have HBZ : Hid (∀ wx, Chg (fun j => j = b ∨ wz.heap.size ≤ j) wz wx → (wx.cell? ⟨w.heap.size, 0, none⟩ = some (.int .i64 0) ∧ wx.cell? ⟨w.heap.size, 1, none⟩ = some (.slice none 0 0)) ∧ ∀ j, wx.frozen? ⟨w.heap.size, j, none⟩ = false) := Lib.hid (fun wx hx => by
    have hne : ¬ (w.heap.size = b ∨ wz.heap.size ≤ w.heap.size) := by omega
    subst hwz
    exact ⟨⟨hx.cellS (by simp) hne, hx.cellS (by simp) hne⟩, fun j => (hx.frozen (p := ⟨w.heap.size, j, none⟩) (by simp) hne).trans (World.frozen?_alloc_new _ _ _ _)⟩)
  have HR := Lib.hid (hr.chg HCZ.out (fun h => h))
  have HS := Lib.hid hs
  have HWZ := Lib.hid hwz
  obtain ⟨P, hP⟩ : ∃ x, numP Z 16777216 s = x := ⟨_, rfl⟩
  obtain ⟨Q, hQ⟩ : ∃ x, numP Z mw P.2 = x := ⟨_, rfl⟩
  obtain ⟨T, hT⟩ : ∃ x, cellsP Z mw 16777216 Q.1 Q.2 0 [] = x := ⟨_, rfl⟩
  have hrow : rowP Z mw 16777216 s = (((P.1 : Int) - 1, T.1), T.2) := by
    unfold rowP
    rw [hP, hQ, hT]
  have hPl := numP_le (m := 16777216) hs
  rw [hP] at hPl
  have hQl := numP_le (m := mw) hPl.1
  rw [hQ] at hQl
  have HPL := Lib.hid hPl
  have HQL := Lib.hid hQl
  have hP1 := hPl.2.1
  have HT := Lib.hid hT
  have HP := Lib.hid hP
  have HQ := Lib.hid hQ
  rw [hrow]
  simp only
  clear hz ha hcz hn hs hgb hr hwz hszz hPl hQl hT hP hQ hrow
  go_enter Try.func64, Try.ntmps64
  go_upto_region 1 with (fail)
  rw [← HWZ.out]
  go_wp2_with fail
  refine (HN1.out s wz HS.out HCZ.out.any HR.out).mono ?_
  rw [HP.out]
  rintro e w1 ⟨rfl, hr1, hc1⟩
  have HC1 := Lib.hid hc1
  have hb1 : w.heap.size < w1.heap.size := by have := hc1.size; have := HZS.out; omega
  have HST := Lib.hid (CellSt.start cellE hr1 ((P.1 : Int) - 1) 27)
  have HC2 : Hid (Chg (fun j => j = b ∨ w1.heap.size ≤ j) w1 (w1.alloc (.cells #[.int .i64 ((P.1 : Int) - 1), .slice none 0 0] 27))) := Lib.hid ((Chg.refl _ _).alloc _)
  have HUP : Hid (∀ wx, Chg (fun j => j = b ∨ w1.heap.size ≤ j) w1 wx → Chg (fun j => j = b ∨ w.heap.size ≤ j) w wx) := Lib.hid (fun wx hx => (HCZ.out.any.trans (HC1.out.mono (fun k _ e => .inl e))).trans (hx.mono (fun k _ e => by omega)))
  clear hr1 hc1
  go_wp2_with fail
  refine (HN2.out P.2 _ HPL.out.1 (HUP.out _ HC2.out) HST.out.r).mono ?_
  rw [HQ.out]
  rintro e w3 ⟨rfl, hr3, hc3⟩
  have HS3 := Lib.hid (HST.out.read hr3 hc3)
  have HC3 := Lib.hid (HC2.out.trans (hc3.mono (fun k _ e => .inl e)))
  clear hr3 hc3 HST HC2
  go_wp2
  go_loopw [6, 7] (fun q6 q wr => ∃ (K : Nat) (s : Rd) (X : Int) (acc : List (Int × Int)) (v : Value), q6 = .int .i64 X ∧ q = .int .i64 K ∧ CellSt cellE b w1.heap.size (.slice a Z.length c) wr ((P.1 : Int) - 1) s acc v ∧ s.1 ≤ Z.length ∧ (0 ≤ X ∧ X ≤ (acc.length : Int) * 65536 ∧ acc.length + K ≤ 65536) ∧ cellsP Z mw 16777216 K s X acc = T ∧ Chg (fun j => j = b ∨ w1.heap.size ≤ j) w1 wr) (fun _ q _ => (intOf q).toNat)
  case atStart => exact ⟨Q.1, Q.2, 0, [], _, rfl, rfl, HS3.out, HQL.out.1, ⟨by omega, by simp, by have := HQL.out.2.1; simp; omega⟩, HT.out, HC3.out⟩
  case round =>
    clear HS3 HC3 HT
    obtain ⟨K, s, X, acc, v, rfl, rfl, hst, hs, ⟨hX0, hX1, hKa⟩, hT, hc⟩ := hrel
    have HST := Lib.hid hst
    have HSL := Lib.hid hs
    have HT := Lib.hid hT
    have HC := Lib.hid hc
    obtain ⟨va, vl, vc, rfl⟩ := hst.f.own.shape3
    obtain ⟨sp, sb⟩ := s
    have c2 := hst.r.c2
    simp only at c2
    clear hst hs hT hc
    by_cases hgo : 0 < K ∧ sb = false
    · obtain ⟨hK, rfl⟩ := hgo
      obtain ⟨m, rfl⟩ : ∃ m, K = m + 1 := ⟨K - 1, by omega⟩
      have b16 : decide (0 < m + 1) = true := by simp
      have e25 : ((m + 1 : Nat) : Int) - 1 = (m : Int) := by omega
      obtain ⟨N, hN⟩ : ∃ x, numP Z mw (sp, false) = x := ⟨_, rfl⟩
      obtain ⟨M, hM⟩ : ∃ x, numP Z 16777216 N.2 = x := ⟨_, rfl⟩
      have hNl := numP_le (m := mw) HSL.out
      rw [hN] at hNl
      have hMl := numP_le (m := 16777216) hNl.1
      rw [hM] at hMl
      have HNL := Lib.hid hNl
      have HML := Lib.hid hMl
      have hN1 := hNl.2.1
      have hM1 := hMl.2.1
      have HTN : Hid (cellsP Z mw 16777216 m M.2 (X + N.1) (acc ++ [(X + N.1, (M.1 : Int) - 1)]) = T) := Lib.hid (by
        rw [← HT.out, cellsP_step rfl, hN, hM])
      have hwM : IntKind.i64.wrap ((M.1 : Int) - 1) = (M.1 : Int) - 1 := by rw [IntKind.wrap_i64]; omega
      have HN := Lib.hid hN
      have HM := Lib.hid hM
      clear hNl hMl hN hM
      go_wp2_with fail
      refine (HN2.out (sp, false) wr HSL.out (HUP.out _ HC.out) HST.out.r).mono ?_
      rw [HN.out]
      rintro e w5 ⟨rfl, hr5, hc5⟩
      have HST5 := Lib.hid (HST.out.read hr5 hc5)
      have HC5 := Lib.hid (HC.out.trans (hc5.mono (T := fun j => j = b ∨ w1.heap.size ≤ j) (fun k _ e => .inl e)))
      clear hr5 hc5 HST HC c2
      go_upto_region 7 with (fail)
      obtain ⟨wd, hwd⟩ : ∃ wd, wd = w5.drew := ⟨_, rfl⟩
      have HWE : Hid (w5.drew = wd) := Lib.hid hwd.symm
      have HWD : Hid (Chg (fun _ => False) w5 wd) := Lib.hid (by rw [hwd]; exact (Chg.refl _ _).drew)
      have HST6 := Lib.hid (HST5.out.same HWD.out)
      have HC6 := Lib.hid (HC5.out.trans HWD.out.any)
      clear hwd
      refine wp_region_late (fun x => Chg (fun j => j = b ∨ w1.heap.size + 1 ≤ j) wd x) (fun i => decide (i = 10)) (by kernel_rfl) ?_
      show wpAnyL _ _ _ _ _ _ 11 (Array.replicate 11 false) _ w5.drew
      rw [HWE.out]
      have HSS : Hid (Chg (fun j => j = b ∨ w1.heap.size + 1 ≤ j) wd wd) := Lib.hid (Chg.refl _ _)
      have hneg : ¬ (w1.heap.size = b ∨ w1.heap.size + 1 ≤ w1.heap.size) := by omega
      (refine late_read (i := 0) rfl (by kernel_rfl) (fun _ _ _ _ h => h) rfl HSS.out (fun K hK => ?_); apply Exists.intro; refine ⟨fun w' hC => ?_, ?_⟩; ((skip); go_simp; try with_reducible rfl); (try go_simp); refine hK _ ?_; clear hK K)
      (refine late_read (i := 1) rfl (by kernel_rfl) (fun _ _ _ _ h => h) rfl HSS.out (fun K hK => ?_); apply Exists.intro; refine ⟨fun w' hC => ?_, ?_⟩; ((have q := hC.cellS HST6.out.f.c hneg); go_simp; try with_reducible rfl); (try go_simp); refine hK _ ?_; clear hK K)
      (refine late_read (i := 2) rfl (by kernel_rfl) (fun _ _ _ _ h => h) rfl HSS.out (fun K hK => ?_); apply Exists.intro; refine ⟨fun w' hC => ?_, ?_⟩; ((skip); go_simp; try with_reducible rfl); (try go_simp); refine hK _ ?_; clear hK K)
      (refine late_read (i := 3) rfl (by kernel_rfl) (fun _ _ _ _ h => h) rfl HSS.out (fun K hK => ?_); apply Exists.intro; refine ⟨fun w' hC => ?_, ?_⟩; ((skip); go_simp; try with_reducible rfl); (try go_simp); refine hK _ ?_; clear hK K)
      refine late_call (i := 4) (by kernel_rfl) rfl rfl 63 #[.pointer (some ⟨b, 0, none⟩), .int .i64 16777216] (fun u w'' => u = .int .i64 M.1 ∧ RdAt w'' b (.slice a Z.length c) M.2 ∧ Chg (fun j => j = b) wd w'') (by go_simp) ?_ ?_
      · refine (HN1.out N.2 wd HNL.out.1 (HUP.out _ HC6.out) HST6.out.r).mono ?_
        rw [HM.out]
        rintro e w6 ⟨rfl, h1, h2⟩
        exact ⟨_, rfl, fun _ => HSS.out.trans (h2.mono (fun k _ e => .inl e)), rfl, h1, h2⟩
      rintro u w6 hs6 ⟨rfl, hr6, hc6⟩ K hK
      have HSS := Lib.hid (hs6 (by decide))
      have HST7 := Lib.hid (HST6.out.read hr6 hc6)
      have HC7 := Lib.hid (HC6.out.trans (hc6.mono (T := fun j => j = b ∨ w1.heap.size ≤ j) (fun k _ e => .inl e)))
      clear hs6 hr6 hc6
      (try go_simp)
      refine hK _ ?_
      clear hK K
      have HSTA := Lib.hid (HST7.out.same ((Chg.refl (fun _ => False) w6).alloc (.cells #[.int .i64 (X + N.1), .int .i64 ((M.1 : Int) - 1)] 79)))
      have HBS : Hid (w1.heap.size + 1 ≤ (w6.alloc (.cells #[.int .i64 (X + N.1), .int .i64 ((M.1 : Int) - 1)] 79)).heap.size) := Lib.hid (by have := HSTA.out.f.lt; omega)
      have HOK : Hid (∀ x ∈ [(X + (N.1 : Int), (M.1 : Int) - 1)], cellE.ok x) := Lib.hid (by
        intro x hx
        rw [List.mem_singleton] at hx
        subst hx
        exact ⟨⟨by show -9223372036854775808 ≤ X + (N.1 : Int); omega, by show X + (N.1 : Int) ≤ 9223372036854775807; omega⟩, ⟨by show -9223372036854775808 ≤ (M.1 : Int) - 1; omega, by show (M.1 : Int) - 1 ≤ 9223372036854775807; omega⟩⟩)
      (refine late_read (i := 5) rfl (by kernel_rfl) (fun _ _ _ _ h => h) rfl HSS.out (fun K hK => ?_); apply Exists.intro; refine ⟨fun w' hC => ?_, ?_⟩; ((skip); go_simp; try with_reducible rfl); (try go_simp); refine hK _ ?_; clear hK K)
      (refine late_read (i := 6) rfl (by kernel_rfl) (fun _ _ _ _ h => h) rfl HSS.out (fun K hK => ?_); apply Exists.intro; refine ⟨fun w' hC => ?_, ?_⟩; ((skip); go_simp; try with_reducible rfl); (try go_simp); refine hK _ ?_; clear hK K)
      (refine late_turn (i := 7) (by kernel_rfl) rfl rfl (fun K hK => ?_); apply Exists.intro; apply Exists.intro; refine ⟨?_, ?_, ?_⟩; ((skip); go_simp; try first | with_reducible rfl | exact ⟨rfl, rfl⟩); (exact fun _ => HSS.out.alloc _); (try go_simp); refine hK _ _ ?_; clear hK K)
      refine late_append (i := 8) (by kernel_rfl) rfl rfl (.tmp 32) (.tmp 38) 25 25 rfl (.slice va vl vc) (.slice (some ⟨w6.heap.size, 0, none⟩) 1 1) rfl rfl (fun v' w9 => cellE.Own w9 (w1.heap.size + 1) v' (acc ++ [(X + (N.1 : Int), (M.1 : Int) - 1)]) ∧ Chg (fun j => w1.heap.size + 1 ≤ j) (w6.alloc (.cells #[.int .i64 (X + N.1), .int .i64 ((M.1 : Int) - 1)] 79)) w9) ?_ ?_
      · obtain ⟨v', w9, hrun, h1, h2, -⟩ := HSTA.out.f.own.append HBS.out 25 (.slice (some ⟨w6.heap.size, 0, none⟩) 1 1) [(X + (N.1 : Int), (M.1 : Int) - 1)] (cellE.srcLit 1 HOK.out) HOK.out (by simp; omega) 25
        exact ⟨v', w9, hrun, fun _ => (HSS.out.alloc _).trans (h2.mono (fun k _ e => .inr e)), h1, h2⟩
      rintro v' w9 hs ⟨h1, h2⟩ K hK
      obtain ⟨va', vl', vc', hv'⟩ := h1.shape3
      subst hv'
      obtain ⟨⟨k1, k2⟩, hf, hcf⟩ := HSTA.out.add h1 h2
      have HFF := Lib.hid hf
      have HCF := Lib.hid (HC7.out.trans ((((Chg.refl (fun k => w1.heap.size ≤ k) w6).alloc (.cells #[.int .i64 (X + N.1), .int .i64 ((M.1 : Int) - 1)] 79)).trans hcf).mono (T := fun j => j = b ∨ w1.heap.size ≤ j) (fun k _ e => .inr e)))
      have HSL9 := Lib.hid (hs (by decide))
      clear hf h1 h2 hs hcf
      (try go_simp)
      refine hK _ ?_
      clear hK K
      (refine late_turn (i := 9) (by kernel_rfl) rfl rfl (fun K hK => ?_); apply Exists.intro; apply Exists.intro; refine ⟨?_, ?_, ?_⟩; ((skip); go_simp; try first | with_reducible rfl | exact ⟨rfl, rfl⟩); (exact fun _ => HSL9.out); (try go_simp); refine hK _ _ ?_; clear hK K)
      (refine late_store (i := 10) (by kernel_rfl) rfl rfl (fun K hK => ?_); apply Exists.intro; refine ⟨?_, (fun h => absurd h (by decide)), ?_⟩; ((skip); go_simp; try first | with_reducible rfl | exact ⟨rfl, rfl⟩); (try go_simp); refine hK _ _ ?_; clear hK K)
      refine late_done (by kernel_rfl) ?_ _
      go_wp2
      go_roundw
      case rel => exact ⟨m, M.2, X + N.1, _, _, rfl, by go_num, HFF.out, HML.out.1, ⟨by omega, by simp; omega, by simp; omega⟩, HTN.out, HCF.out⟩
      case measure => simp [intOf]
    · have hex : decide (0 < K) = false ∨ (decide (0 < K) = true ∧ sb = true) := by
        rcases Nat.eq_zero_or_pos K with h | h
        · exact .inl (by simp [h])
        · exact .inr ⟨by simpa using h, by cases sb; exact absurd ⟨h, rfl⟩ hgo; rfl⟩
      have HTE : Hid (T = (acc, sp, sb)) := Lib.hid (by
        rw [← HT.out]
        apply cellsP_wrong
        rcases Nat.eq_zero_or_pos K with h | h
        · exact .inr h
        · exact .inl (by cases sb; exact absurd ⟨h, rfl⟩ hgo; rfl))
      clear hgo
      rcases hex with b16 | ⟨b16, rfl⟩
      all_goals
        go_upto_region 8 with (fail)
        have c1 := HST.out.f.c
        have z1 := HST.out.f.z
        have c0 := HST.out.c
        obtain ⟨⟨r0, r1⟩, hz⟩ := HBZ.out wr ((HC1.out.mono (T := fun j => j = b ∨ wz.heap.size ≤ j) (fun k _ e => .inl e)).trans (HC.out.mono (fun k _ e => by have := HC1.out.size; omega)))
        have r2 := hz 0
        have r3 := hz 1
        obtain ⟨va', vg, vc', hv', hle, -, -⟩ := HST.out.f.own.at'
        injection hv' with e1 e2 e3
        subst e1 e2 e3
        have hne : w.heap.size ≠ w1.heap.size := by omega
        clear hz
        go_wp2_with fail
        refine (clipCell _ va _ vc hle).mono ?_
        rintro e w5 ⟨rfl, rfl⟩
        go_wp2
        have hcs := setCellChg wr w1.heap.size 1 (.slice va acc.length acc.length)
        obtain ⟨f0, f1, f2⟩ := store2 (.int .i64 ((P.1 : Int) - 1)) (.slice va acc.length acc.length) (hcs.cellS r0 hne) (hcs.cellS r1 hne)
        have hcc := (hcs.mono (T := fun k => k = w1.heap.size ∨ k = w.heap.size) (fun k _ e => .inl e)).trans (f2.mono (fun k _ e => .inr e))
        have h3 := ((HST.out.f.own.chg hcc (fun g hg _ e => by omega)).in' (Nat.le_refl _)).lower (B' := w.heap.size) (by omega)
        have h4 := ((HUP.out wr HC.out).trans (hcc.mono (T := fun j => j = b ∨ w.heap.size ≤ j) (fun k _ e => by omega))).mono (T := fun j => j = b) (fun k hk e => by omega)
        have h5 := HST.out.r.chg hcc (by omega)
        clear f2 hcc hcs
        generalize ((wr.setCell ⟨w1.heap.size, 1, none⟩ (.slice va acc.length acc.length)).setCell ⟨w.heap.size, 0, none⟩ (.int .i64 ((P.1 : Int) - 1))).setCell ⟨w.heap.size, 1, none⟩ (.slice va acc.length acc.length) = W at *
        rw [HTE.out]
        exact bodyPost_ret (v := .agg #[.int .i64 ((P.1 : Int) - 1), .slice va acc.length acc.length]) (by simp [results, Try.results64, go_sem, f0, f1]) rfl ⟨va, rfl, h3, h5, h4⟩
end Go.Proofs.Ytkfakkonlnjckaa
