/- The document's row of values: harbingerref18.Of. -/
import Derived.Test.YtkfakkonlnjckaaRowsC
import Derived.Test.YtkfakkonlnjckaaInts
import Derived.Test.YtkfakkonlnjckaaTally
import Derived.Test.YtkfakkonlnjckaaLate
namespace Go.Proofs.Ytkfakkonlnjckaa
open Go.RowKit

/-- The two lists of the count, apart. -/
structure TwoL (B : Nat) (w : World) (v u : Value) (A T : List Int) : Prop where
  a : intE.Own w B v A
  t : intE.Own w B u T
  apart : ∀ g, v.ownBlock = some g → u.ownBlock ≠ some g
theorem TwoL.chg {S : Nat → Prop} {B : Nat} {w w' : World} {v u : Value} {A T : List Int} (h : TwoL B w v u A T) (hc : Chg S w w') (hs : ∀ g, B ≤ g → g < w.heap.size → ¬ S g) : TwoL B w' v u A T :=
  ⟨h.a.chg hc hs, h.t.chg hc hs, h.apart⟩
theorem TwoL.appA {B : Nat} {w w' : World} {v v' u : Value} {A A' T : List Int} (h : TwoL B w v u A T) (ha : intE.Own w' B v' A') (hc : Chg (fun k => v.ownBlock = some k) w w') (hv : v'.ownBlock = v.ownBlock ∨ v'.ownBlock = some w.heap.size) : TwoL B w' v' u A' T :=
  ⟨ha, h.t.chgB hc (fun g hg e => h.apart g e hg), fun g hg hu => by
    rcases hv with hv | hv
    · rw [hv] at hg; exact h.apart g hg hu
    · rw [hv] at hg
      obtain rfl := Option.some.inj hg
      have := (h.t.blk hu).2
      omega⟩
theorem TwoL.appT {B : Nat} {w w' : World} {v u u' : Value} {A T T' : List Int} (h : TwoL B w v u A T) (ht : intE.Own w' B u' T') (hc : Chg (fun k => u.ownBlock = some k) w w') (hu : u'.ownBlock = u.ownBlock ∨ u'.ownBlock = some w.heap.size) : TwoL B w' v u' A T' :=
  ⟨h.a.chgB hc (fun g hg e => h.apart g hg e), ht, fun g hg hu' => by
    rcases hu with hu | hu
    · rw [hu] at hu'; exact h.apart g hg hu'
    · rw [hu] at hu'
      obtain rfl := Option.some.inj hu'
      have := (h.a.blk hg).2
      omega⟩
theorem TwoL.set {B : Nat} {w : World} {v : Value} {g n c : Nat} {A T : List Int} (h : TwoL B w v (.slice (some ⟨g, 0, none⟩) n c) A T) {k : Nat} (hk : k < T.length) {x : Int} (hx : I.Byte x) : TwoL B (w.setCell ⟨g, k, none⟩ (.int .i64 x)) v (.slice (some ⟨g, 0, none⟩) n c) A (T.set k x) :=
  ⟨h.a.chgB (setCellChg _ _ _ _) (fun g' hg e => h.apart g' hg (by rw [e]; rfl)), intOwn_set h.t hk hx, h.apart⟩

/-- A variable of two cells that was made at b. -/
structure VarSt (wo : World) (b : Nat) (w : World) (v0 v1 : Value) : Prop where
  hb : b = wo.heap.size
  c0 : w.cell? ⟨b, 0, none⟩ = some v0
  c1 : w.cell? ⟨b, 1, none⟩ = some v1
  z0 : w.frozen? ⟨b, 0, none⟩ = false
  z1 : w.frozen? ⟨b, 1, none⟩ = false
  lt : b < w.heap.size
  chg : Chg (fun _ => False) wo w
theorem VarSt.start (wo : World) (v0 v1 : Value) (e : TypeId) : VarSt wo wo.heap.size (wo.alloc (.cells #[v0, v1] e)) v0 v1 :=
  ⟨rfl, by rw [World.cell?_alloc_new]; rfl, by rw [World.cell?_alloc_new]; rfl, World.frozen?_alloc_new _ _ _ _, World.frozen?_alloc_new _ _ _ _, by simp, (Chg.refl _ _).alloc _⟩
theorem VarSt.drew {wo : World} {b : Nat} {w : World} {v0 v1 : Value} (h : VarSt wo b w v0 v1) : VarSt wo b w.drew v0 v1 := ⟨h.hb, h.c0, h.c1, h.z0, h.z1, h.lt, h.chg.drew⟩
theorem VarSt.step {wo : World} {b : Nat} {w : World} {v0 v1 : Value} (h : VarSt wo b w v0 v1) (u : Value) : VarSt wo b (w.setCell ⟨b, 0, none⟩ u) u v1 :=
  ⟨h.hb, World.cell?_setCell_same _ _ _ h.c0, by rw [World.cell?_setCell_other _ _ _ _ (by intro e; injection e with _ e; cases e)]; exact h.c1, (World.frozen?_setCell _ _ _ _).trans h.z0, (World.frozen?_setCell _ _ _ _).trans h.z1, Nat.lt_of_lt_of_le h.lt (setCellChg _ _ _ _).size, (h.chg.any.trans ((setCellChg w b 0 u).mono (T := fun k => wo.heap.size ≤ k) (fun k _ e => by rw [e, h.hb]; exact Nat.le_refl _))).fresh⟩

set_option maxRecDepth 100000 in
set_option maxHeartbeats 8000000 in
theorem refOf_ok (Z : List Int) (a : Option Addr) (g o c : Nat) (w : World) (hz : I.BytesAt w g o Z) (ha : 0 < Z.length → a = some ⟨g, o, none⟩) (hl : Z.length ≤ 65536) (hv : noValB Z = false) :
    Calls Try.prog 12 #[.slice a Z.length c] w fun e w' => ∃ s, e = .returned (ofV (usualL Z) s 0) ∧ cellR.In w' w.heap.size s (cellsFrom (usualL Z) 0 Z) ∧ Chg (fun _ => False) w w' := by
  have HZ := Lib.hid hz
  have HA := Lib.hid ha
  have HV := Lib.hid (noValB_false.1 hv)
  have HC0 := Lib.hid ((Chg.refl (fun k => w.heap.size ≤ k) w).alloc (.cells #[.int .i64 0, .slice none 0 0] 33))
  have HR0 : Hid (∀ wr, Chg (fun k => w.heap.size + 1 ≤ k) (w.alloc (.cells #[.int .i64 0, .slice none 0 0] 33)) wr → wr.cell? ⟨w.heap.size, 0, none⟩ = some (.int .i64 0) ∧ wr.cell? ⟨w.heap.size, 1, none⟩ = some (.slice none 0 0) ∧ wr.frozen? ⟨w.heap.size, 0, none⟩ = false ∧ wr.frozen? ⟨w.heap.size, 1, none⟩ = false) := Lib.hid fun wr hc =>
    ⟨hc.cellS (by simp) (by show ¬ w.heap.size + 1 ≤ w.heap.size; omega), hc.cellS (by simp) (by show ¬ w.heap.size + 1 ≤ w.heap.size; omega), (hc.frozen (p := ⟨w.heap.size, 0, none⟩) (by simp) (by show ¬ w.heap.size + 1 ≤ w.heap.size; omega)).trans (World.frozen?_alloc_new _ _ _ _), (hc.frozen (p := ⟨w.heap.size, 1, none⟩) (by simp) (by show ¬ w.heap.size + 1 ≤ w.heap.size; omega)).trans (World.frozen?_alloc_new _ _ _ _)⟩
  clear hz ha hv
  go_enter Try.func12, Try.ntmps12
  go_wp2
  go_loopw [4, 5, 6] (fun v u q wr => ∃ (i : Nat) (A T : List Int), i ≤ Z.length ∧ q = .int .i64 i ∧ TwoL (w.heap.size + 1) wr v u A T ∧ Tally A T (Z.take i) ∧ Chg (fun k => w.heap.size + 1 ≤ k) (w.alloc (.cells #[.int .i64 0, .slice none 0 0] 33)) wr) (fun _ _ q _ => Z.length - (intOf q).toNat)
  case atStart => exact ⟨0, [], [], by omega, rfl, ⟨.nil _ _, .nil _ _, fun g hg => by cases hg⟩, Tally.start, Chg.refl _ _⟩
  case round =>
    obtain ⟨i, A, T, hi, rfl, htw, hty, hc⟩ := hrel
    obtain ⟨va, vl, vc, rfl⟩ := htw.a.shape3
    obtain ⟨ua, ul, uc, rfl⟩ := htw.t.shape3
    have HTW := Lib.hid htw
    have HTY := Lib.hid hty
    have HC := Lib.hid hc
    have hvl : vl = A.length := by obtain ⟨_, _, h⟩ := htw.a.shape; injection h with _ h _
    have hul : ul = T.length := by obtain ⟨_, _, h⟩ := htw.t.shape; injection h with _ h _
    subst hvl hul
    have hAl : A.length ≤ Z.length := by have := hty.le; have := List.length_take_le i Z; omega
    clear htw hty hc
    by_cases hil : i < Z.length
    · have b19 : decide ((i : Int) < (Z.length : Int)) = true := by simp; omega
      obtain ⟨z, hz, q1, z0, z2⟩ := (HZ.out.chg ((HC0.out.trans (HC.out.mono (fun k _ e => by omega))).fresh) (fun _ h => h)).get hil
      have e1 := HA.out (by omega)
      subst e1
      have HX := Lib.hid hz
      have hzv := HV.out z (List.mem_of_getElem? hz)
      obtain ⟨v0, v1⟩ := hzv
      have HTT : Hid (Z.take (i + 1) = Z.take i ++ [z]) := Lib.hid (by rw [List.take_add_one, HX.out]; rfl)
      have hgz : g < w.heap.size := HZ.out.lt (by intro e; rw [e] at hil; simp at hil)
      have d1 : ¬ z < -1 := by omega
      have d2 : ¬ 16777215 < z := by omega
      clear hz
      go_wp2
      obtain ⟨wo, rfl⟩ : ∃ wo : World, wo = wr := ⟨_, rfl⟩
      go_loopw [7] (fun q wr => ∃ (k : Nat), k ≤ A.length ∧ q = .int .i64 k ∧ (∀ (j : Nat) y, j < k → A[j]? = some y → y ≠ z) ∧ Chg (fun _ => False) wo wr) (fun q _ => A.length - (intOf q).toNat)
      case atStart => exact ⟨0, by omega, rfl, fun j y h => absurd h (Nat.not_lt_zero _), Chg.refl _ _⟩
      case round =>
        obtain ⟨k, hk, rfl, hb, hcw⟩ := hrel
        have HB := Lib.hid hb
        have HCW := Lib.hid hcw
        have HTR := Lib.hid (HTW.out.chg hcw (fun _ _ _ h => h))
        have q2 := hcw.cellS q1 (fun h => h)
        clear hb hcw
        by_cases hkl : k < A.length
        · obtain ⟨gv, y, -, hle, rfl, hy, c1, -, y0, y1, -, -⟩ := intOwn_get HTR.out.a hkl
          have HY := Lib.hid hy
          have b39 : decide ((k : Int) < (A.length : Int)) = true := by simp; omega
          clear hy
          by_cases hyz : y = z
          · subst hyz
            have hkt : k < T.length := by have := HTY.out.len; omega
            obtain ⟨gu, t, -, hle2, rfl, ht, c2, c3, t0, t1, hBu, -⟩ := intOwn_get HTR.out.t hkt
            have HT := Lib.hid ht
            have b48 : (y != y) = false := by simp
            have b55 : ((k : Int) == (A.length : Int)) = false := by simp; omega
            have HTC := Lib.hid (HTY.out.cnt k y t HY.out ht)
            have HLE : Hid (((Z.take i).count y : Int) ≤ 65536) := Lib.hid (by have := List.count_le_length (a := y) (l := Z.take i); have := List.length_take_le i Z; omega)
            have t2 : t ≤ 65536 := by have := HTC.out; have := HLE.out; omega
            have t3 : 0 ≤ t := by have := HTC.out; omega
            have HTN := Lib.hid (HTY.out.old HY.out ht)
            have HTX := Lib.hid ((HTR.out.chg (S := fun _ => False) (w' := wr.drew) (Chg.refl _ _).drew (fun _ _ _ h => h)).set hkt (x := t + 1) ⟨by omega, by omega⟩)
            have HCX := Lib.hid ((HC.out.trans HCW.out.any).drew.trans ((setCellChg wr.drew gu k (.int .i64 (t + 1))).mono (T := fun j => w.heap.size + 1 ≤ j) (fun j _ e => by omega)))
            clear ht
            go_upto_region 11 with (fail)
            refine wp_region_same (fun w' => w' = wr.drew) (by kernel_rfl) (by kernel_rfl) ?_ ?_
            · rfl
            iterate 15 (refine wpC_read rfl (fun _ _ _ h => h) (fun K hK => ?_); apply Exists.intro; refine ⟨fun _ w' _ hC => ?_, ?_⟩; ((subst hC); go_simp; try with_reducible rfl); (try go_simp); refine hK _ ?_; clear hK K)
            refine wpC_nil ?_
            rintro w' rfl
            go_wp2
            go_roundw
            case rel => exact ⟨i + 1, A, _, by omega, by go_num, HTX.out, by rw [HTT.out]; exact HTN.out, HCX.out⟩
            case measure => simp [intOf]; omega
          · have b48 : (y != z) = true := by simpa using hyz
            have HB2 : Hid (∀ (j : Nat) x, j < k + 1 → A[j]? = some x → x ≠ z) := Lib.hid (fun j x hj hx => by
              by_cases he : j = k
              · subst he; rw [HY.out] at hx; obtain rfl := Option.some.inj hx; exact hyz
              · exact HB.out j x (by omega) hx)
            clear hyz
            go_upto_region 11 with (fail)
            refine wp_region_same (fun w' => w' = wr.drew) (by kernel_rfl) (by kernel_rfl) ?_ ?_
            · rfl
            iterate 15 (refine wpC_read rfl (fun _ _ _ h => h) (fun K hK => ?_); apply Exists.intro; refine ⟨fun _ w' _ hC => ?_, ?_⟩; ((subst hC); go_simp; try with_reducible rfl); (try go_simp); refine hK _ ?_; clear hK K)
            refine wpC_nil ?_
            rintro w' rfl
            go_wp2
            go_roundw
            case rel => first | exact ⟨k + 1, by omega, by go_num, HB2.out, HCW.out.drew⟩ | ((repeat apply Exists.intro); exact ⟨⟨k + 1, by omega, rfl, HB2.out, HCW.out.drew⟩, by (repeat' apply And.intro) <;> first | rfl | go_num⟩)
            case measure => simp [intOf]; omega
        · obtain rfl : k = A.length := by omega
          have b39 : decide ((A.length : Int) < (A.length : Int)) = false := by simp
          have HNA : Hid (z ∉ A) := Lib.hid (fun hm => by
            obtain ⟨j, hj, he⟩ := List.getElem_of_mem hm
            exact HB.out j z hj (by rw [List.getElem?_eq_getElem hj, he]) rfl)
          have HTN := Lib.hid (HTY.out.new HNA.out)
          have HTLEN := Lib.hid HTY.out.len
          have HOK : Hid (∀ x ∈ [z], intE.ok x) := Lib.hid (by intro x hx; rw [List.mem_singleton] at hx; subst hx; exact ⟨z0, z2⟩)
          have HOK0 : Hid (∀ x ∈ [(0 : Int)], intE.ok x) := Lib.hid (by intro x hx; rw [List.mem_singleton] at hx; subst hx; exact ⟨by omega, by omega⟩)
          obtain ⟨wd, hwd⟩ : ∃ wd, wd = wr.drew := ⟨_, rfl⟩
          have HWD : Hid (Chg (fun _ => False) wr wd) := Lib.hid (by rw [hwd]; exact (Chg.refl _ _).drew)
          have q3 := HWD.out.cellS q2 (fun h => h)
          have HTRD := Lib.hid (HTR.out.chg HWD.out (fun _ _ _ h => h))
          have HTW1 := Lib.hid (HTRD.out.chg ((Chg.refl (fun _ => False) wd).alloc (.cells #[.int .i64 z] 3)) (fun _ _ _ h => h))
          have HCD := Lib.hid ((HC.out.trans HCW.out.any).trans HWD.out.any)
          have HBS : Hid (w.heap.size + 1 ≤ (wd.alloc (.cells #[.int .i64 z] 3)).heap.size) := Lib.hid (by have := HCD.out.size; simp at this ⊢; omega)
          have HWE := Lib.hid hwd
          have hTl2 : T.length ≤ 65536 := by have := HTY.out.len; omega
          clear hwd q2
          go_upto_region 11 with (fail)
          refine wp_region_same (fun w' => w' = wd) (by kernel_rfl) (by kernel_rfl) ?_ ?_
          · exact HWE.out.symm
          iterate 5 (refine wpC_read rfl (fun _ _ _ h => h) (fun K hK => ?_); apply Exists.intro; refine ⟨fun _ w' _ hC => ?_, ?_⟩; ((subst hC); go_simp; try with_reducible rfl); (try go_simp); refine hK _ ?_; clear hK K)
          iterate 9 (refine wpC_skip rfl (fun _ _ _ h => h) (fun K hK => ?_); (try go_simp); refine hK _ ?_; clear hK K)
          (refine wpC_read rfl (fun _ _ _ h => h) (fun K hK => ?_); apply Exists.intro; refine ⟨fun _ w' _ hC => ?_, ?_⟩; ((subst hC); go_simp; try with_reducible rfl); (try go_simp); refine hK _ ?_; clear hK K)
          refine wpC_nil ?_
          rintro w' rfl
          go_wp2_with (first
            | (at_builtin; refine Elt.wpList_append2 intE rfl (.tmp 56) (.tmp 61) 22 22 rfl rfl (w.heap.size + 1) (.slice va A.length vc) A [z] (.slice (some ⟨w'.heap.size, 0, none⟩) 1 1) rfl rfl HTW1.out.a HBS.out (intE.srcLit 1 HOK.out) HOK.out (by simp; omega) ?_; intro v' w1 H1 H2 H3; have HTW2 := Lib.hid (HTW1.out.appA H1.out H3.out.1 H3.out.2); have HTW3 := Lib.hid (HTW2.out.chg ((Chg.refl (fun _ => False) w1).alloc (.cells #[.int .i64 0] 3)) (fun _ _ _ h => h)); have HC2 := Lib.hid ((HCD.out.alloc (.cells #[.int .i64 z] 3)).trans H2.out); have HBS2 : Hid (w.heap.size + 1 ≤ (w1.alloc (.cells #[.int .i64 0] 3)).heap.size) := Lib.hid (by have := HC2.out.size; simp at this ⊢; omega))
            | (at_builtin; refine Elt.wpList_append2 intE rfl (.tmp 63) (.tmp 64) 22 22 rfl rfl (w.heap.size + 1) (.slice ua T.length uc) T [0] (.slice (some ⟨w1.heap.size, 0, none⟩) 1 1) rfl rfl HTW3.out.t HBS2.out (intE.srcLit 1 HOK0.out) HOK0.out (by simp; omega) ?_; intro u' w2 K1 K2 K3; have HTW4 := Lib.hid (HTW3.out.appT K1.out K3.out.1 K3.out.2); have HC3 := Lib.hid ((HC2.out.alloc (.cells #[.int .i64 0] 3)).trans K2.out); obtain ⟨ua', ul', uc', hu'⟩ := K1.out.shape3; subst hu'; obtain ⟨gu, t, hul', hle', hua', ht, c2, c3, -, -, hBu, hgu⟩ := intOwn_get K1.out (k := T.length) (by simp); have ht0 : t = 0 := (by simp at ht; exact ht.symm); subst ht0 hua'; rw [HTLEN.out] at c2 c3; have hAu : A.length < ul' := (by rw [hul']; simp; have := HTLEN.out; omega); have hUC := Lib.hid hul'; have hle3 : ul' ≤ uc' := (by rw [hul']; exact hle'); clear hul' hle' ht))
          have HTX := Lib.hid (HTW4.out.set (k := T.length) (by simp) (x := 1) ⟨by omega, by omega⟩)
          have HCX := Lib.hid (HC3.out.trans ((setCellChg w2 gu T.length (.int .i64 1)).mono (T := fun j => w.heap.size + 1 ≤ j) (fun j _ e => by omega)))
          rw [HTLEN.out] at HCX
          go_roundw
          case rel => exact ⟨i + 1, A ++ [z], (T ++ [0]).set T.length 1, by omega, by go_num, by have := HTX.out; rw [HTLEN.out] at this ⊢; exact this, by rw [HTT.out]; exact HTN.out, HCX.out⟩
          case measure => simp [intOf]; omega
    · obtain rfl : i = Z.length := by omega
      have HTZ : Hid (Tally A T Z) := Lib.hid (by have := HTY.out; rwa [List.take_length] at this)
      have HC3 := Lib.hid (HC.out.alloc (.cells #[.int .i64 (-1), .slice none 0 0] 33))
      have HW0 := Lib.hid (VarSt.start wr (.int .i64 (-1)) (.slice none 0 0) 33)
      have hszw : w.heap.size + 1 ≤ wr.heap.size := by have := HC.out.size; simpa using this
      have HCO := Lib.hid (HC0.out.trans (HC.out.mono (T := fun k => w.heap.size ≤ k) (fun k _ e => by omega)))
      have HRO := Lib.hid (HR0.out wr HC.out)
      clear HTY HC
      go_wp2
      obtain ⟨wo, rfl⟩ : ∃ wo : World, wo = wr := ⟨_, rfl⟩
      go_loopw [9, 10] (fun tv q wr => ∃ (k : Nat) (b t : Int), k ≤ A.length ∧ q = .int .i64 k ∧ tv = .int .i64 t ∧ (-1 ≤ b ∧ b ≤ 16777215 ∧ 0 ≤ t ∧ t ≤ 65536) ∧ VarSt wo wo.heap.size wr (.int .i64 b) (.slice none 0 0) ∧ BestR A Z k b t) (fun _ q _ => A.length - (intOf q).toNat)
      case atStart => exact ⟨0, -1, 0, by omega, rfl, rfl, by omega, HW0.out, BestR.start A Z⟩
      case round =>
        clear HW0
        obtain ⟨k, b, t, hk, rfl, rfl, ⟨b0, b1, t0, t1⟩, hw, hb⟩ := hrel
        have HB := Lib.hid hb
        have HW := Lib.hid hw
        clear hw hb
        by_cases hkl : k < A.length
        · have hkt : k < T.length := by have := HTZ.out.len; omega
          have hb76 : decide ((k : Int) < (A.length : Int)) = true := by simp; omega
          obtain ⟨wd, hwd⟩ : ∃ wd, wd = wr.drew := ⟨_, rfl⟩
          have HWE := Lib.hid hwd
          have HWC : Hid (VarSt wo wo.heap.size wd (.int .i64 b) (.slice none 0 0)) := Lib.hid (by rw [hwd]; exact HW.out.drew)
          clear hwd
          obtain ⟨gv, x, -, hle, rfl, hx, c1, -, x0, x1, hBv, hgv⟩ := intOwn_get HTW.out.a hkl
          obtain ⟨gu, cv, -, hle2, rfl, hcv, c2, -, -, -, hBu, hgu⟩ := intOwn_get HTW.out.t hkt
          have c1 := HWC.out.chg.cellS c1 (fun h => h)
          have c2 := HWC.out.chg.cellS c2 (fun h => h)
          have c3 := HWC.out.c0
          have z3 := HWC.out.z0
          have HX := Lib.hid hx
          have HXZ : Hid (x ∈ Z) := Lib.hid ((HTZ.out.mem x).1 (List.mem_of_getElem? hx))
          have hxv := HV.out x HXZ.out
          obtain ⟨xv0, xv1⟩ := hxv
          have HCV : Hid (cv = (Z.count x : Int)) := Lib.hid (HTZ.out.cnt k x cv hx hcv)
          have hcv0 : 0 ≤ cv ∧ cv ≤ 65536 := by have := HCV.out; have := List.count_le_length (a := x) (l := Z); omega
          obtain ⟨cv0, cv1⟩ := hcv0
          clear hx hcv HW
          by_cases h1 : t < cv
          · have d1 : decide (t < cv) = true := by simpa using h1
            have HBN := Lib.hid (HB.out.next HX.out HXZ.out x cv (.inl ⟨rfl, HCV.out, .inl (by have := HCV.out; omega)⟩))
            have HSC := Lib.hid (HWC.out.step (.int .i64 x))
            clear HB HWC
            go_upto_region 22 with (fail)
            refine wp_region_same (fun w' => w' = wd) (by kernel_rfl) (by kernel_rfl) ?_ ?_
            · exact HWE.out.symm
            iterate 7 (refine wpC_read rfl (fun _ _ _ h => h) (fun K hK => ?_); apply Exists.intro; refine ⟨fun _ w' _ hC => ?_, ?_⟩; ((subst hC); go_simp; try with_reducible rfl); (try go_simp); refine hK _ ?_; clear hK K)
            iterate 15 (refine wpC_skip rfl (fun _ _ _ h => h) (fun K hK => ?_); (try go_simp); refine hK _ ?_; clear hK K)
            (refine wpC_read rfl (fun _ _ _ h => h) (fun K hK => ?_); apply Exists.intro; refine ⟨fun _ w' _ hC => ?_, ?_⟩; ((subst hC); go_simp; try with_reducible rfl); (try go_simp); refine hK _ ?_; clear hK K)
            refine wpC_nil ?_
            rintro w' rfl
            go_wp2
            go_roundw
            case rel => exact ⟨k + 1, x, cv, by omega, by go_num, rfl, by omega, HSC.out, HBN.out⟩
            case measure => simp [intOf]; omega
          · by_cases h2 : cv = t
            · subst h2
              have d1 : decide (cv < cv) = false := by simp
              have d2 : (cv == cv) = true := by simp
              by_cases h3 : x < b
              · have d3 : decide (x < b) = true := by simpa using h3
                have HBN := Lib.hid (HB.out.next HX.out HXZ.out x cv (.inl ⟨rfl, HCV.out, .inr ⟨by have := HCV.out; omega, h3⟩⟩))
                have HSC := Lib.hid (HWC.out.step (.int .i64 x))
                clear HB HWC
                go_upto_region 22 with (fail)
                refine wp_region_same (fun w' => w' = wd) (by kernel_rfl) (by kernel_rfl) ?_ ?_
                · exact HWE.out.symm
                iterate 23 (refine wpC_read rfl (fun _ _ _ h => h) (fun K hK => ?_); apply Exists.intro; refine ⟨fun _ w' _ hC => ?_, ?_⟩; ((subst hC); go_simp; try with_reducible rfl); (try go_simp); refine hK _ ?_; clear hK K)
                refine wpC_nil ?_
                rintro w' rfl
                go_wp2
                go_roundw
                case rel => exact ⟨k + 1, x, cv, by omega, by go_num, rfl, by omega, HSC.out, HBN.out⟩
                case measure => simp [intOf]; omega
              · have d3 : decide (x < b) = false := by simpa using h3
                have HBN := Lib.hid (HB.out.next HX.out HXZ.out b cv (.inr ⟨rfl, rfl, .inr ⟨by have := HCV.out; omega, by omega⟩⟩))
                clear HB
                go_upto_region 22 with (fail)
                refine wp_region_same (fun w' => w' = wd) (by kernel_rfl) (by kernel_rfl) ?_ ?_
                · exact HWE.out.symm
                iterate 23 (refine wpC_read rfl (fun _ _ _ h => h) (fun K hK => ?_); apply Exists.intro; refine ⟨fun _ w' _ hC => ?_, ?_⟩; ((subst hC); go_simp; try with_reducible rfl); (try go_simp); refine hK _ ?_; clear hK K)
                refine wpC_nil ?_
                rintro w' rfl
                go_wp2
                go_roundw
                case rel => exact ⟨k + 1, b, cv, by omega, by go_num, rfl, by omega, HWC.out, HBN.out⟩
                case measure => simp [intOf]; omega
            · have d1 : decide (t < cv) = false := by simpa using h1
              have d2 : (cv == t) = false := by simpa using h2
              have HBN := Lib.hid (HB.out.next HX.out HXZ.out b t (.inr ⟨rfl, rfl, .inl (by have := HCV.out; omega)⟩))
              clear HB
              go_upto_region 22 with (fail)
              refine wp_region_same (fun w' => w' = wd) (by kernel_rfl) (by kernel_rfl) ?_ ?_
              · exact HWE.out.symm
              iterate 14 (refine wpC_read rfl (fun _ _ _ h => h) (fun K hK => ?_); apply Exists.intro; refine ⟨fun _ w' _ hC => ?_, ?_⟩; ((subst hC); go_simp; try with_reducible rfl); (try go_simp); refine hK _ ?_; clear hK K)
              iterate 7 (refine wpC_skip rfl (fun _ _ _ h => h) (fun K hK => ?_); (try go_simp); refine hK _ ?_; clear hK K)
              iterate 2 (refine wpC_read rfl (fun _ _ _ h => h) (fun K hK => ?_); apply Exists.intro; refine ⟨fun _ w' _ hC => ?_, ?_⟩; ((subst hC); go_simp; try with_reducible rfl); (try go_simp); refine hK _ ?_; clear hK K)
              refine wpC_nil ?_
              rintro w' rfl
              go_wp2
              go_roundw
              case rel => exact ⟨k + 1, b, t, by omega, by go_num, rfl, by omega, HWC.out, HBN.out⟩
              case measure => simp [intOf]; omega
        · obtain rfl : k = A.length := by omega
          have HD := Lib.hid (HB.out.done HTZ.out)
          have HF0 : Hid (Fld cellR wo.heap.size 1 wr (.slice none 0 0) (cellsFrom b 0 (Z.take 0))) := Lib.hid ⟨HW.out.c1, HW.out.z1, .nil _ _⟩
          have HX0 := Lib.hid HW.out.c0
          have HCH := Lib.hid (HW.out.chg.any (S := fun j => wo.heap.size ≤ j))
          clear HB HTZ HTW HW
          go_wp2
          obtain ⟨wp, rfl⟩ : ∃ wp : World, wp = wr := ⟨_, rfl⟩
          go_loopw [11] (fun q wr => ∃ (i : Nat) (v : Value), i ≤ Z.length ∧ q = .int .i64 i ∧ Fld cellR wo.heap.size 1 wr v (cellsFrom b 0 (Z.take i)) ∧ wr.cell? ⟨wo.heap.size, 0, none⟩ = some (.int .i64 b) ∧ Chg (fun j => wo.heap.size ≤ j) wo wr) (fun q _ => Z.length - (intOf q).toNat)
          case atStart => exact ⟨0, _, by omega, rfl, HF0.out, HX0.out, HCH.out⟩
          case round =>
            clear HF0 HX0 HCH
            obtain ⟨k, v, hk, rfl, hf, hc0, hc⟩ := hrel
            have HF := Lib.hid hf
            have HC := Lib.hid hc
            have HC02 := Lib.hid hc0
            obtain ⟨va, vl, vc, rfl⟩ := hf.own.shape3
            clear hf hc hc0
            by_cases hkl : k < Z.length
            · have b114 : decide ((k : Int) < (Z.length : Int)) = true := by simp; omega
              obtain ⟨z, hz, q1, z0, z2⟩ := (HZ.out.chg (HCO.out.trans (HC.out.mono (T := fun j => w.heap.size ≤ j) (fun j _ e => by omega))).fresh (fun _ h => h)).get hkl
              have e1 := HA.out (by omega)
              subst e1
              have hgz : g < w.heap.size := HZ.out.lt (by intro e; rw [e] at hkl; simp at hkl)
              have HX := Lib.hid hz
              have htk : (Z.take k).length = k := by rw [List.length_take]; omega
              have HTK := Lib.hid (cellsFrom_snoc b (Z.take k) z 0)
              rw [htk, Nat.zero_add] at HTK
              have HTT : Hid (Z.take (k + 1) = Z.take k ++ [z]) := Lib.hid (by rw [List.take_add_one, HX.out]; rfl)
              obtain ⟨wd, hwd⟩ : ∃ wd, wd = wr.drew := ⟨_, rfl⟩
              have HWE := Lib.hid hwd
              have HWD : Hid (Chg (fun _ => False) wr wd) := Lib.hid (by rw [hwd]; exact (Chg.refl _ _).drew)
              have q2 := HWD.out.cellS q1 (fun h => h)
              have c0 := HWD.out.cellS HC02.out (fun h => h)
              have HFD := Lib.hid (HF.out.chg HWD.out (fun _ _ _ h => h))
              have HCD := Lib.hid (HC.out.trans HWD.out.any)
              clear hz htk hwd q1
              by_cases hzd : z = b
              · subst hzd
                have b28 : (z != z) = false := by simp
                have HFN : Hid (Fld cellR wo.heap.size 1 wd (.slice va vl vc) (cellsFrom z 0 (Z.take (k + 1)))) := Lib.hid (by rw [HTT.out, HTK.out, if_pos rfl]; exact HFD.out)
                have HC0D := Lib.hid c0
                clear HF HTK HTT HC02 HC
                go_upto_region 28 with (fail)
                refine wp_region_same (fun w' => w' = wd) (by kernel_rfl) (by kernel_rfl) ?_ ?_
                · exact HWE.out.symm
                iterate 7 (refine wpC_read rfl (fun _ _ _ h => h) (fun K hK => ?_); apply Exists.intro; refine ⟨fun _ w' _ hC => ?_, ?_⟩; ((subst hC); go_simp; try with_reducible rfl); (try go_simp); refine hK _ ?_; clear hK K)
                refine wpC_nil ?_
                rintro w' rfl
                go_wp2
                go_roundw
                case rel => exact ⟨k + 1, _, by omega, by go_num, HFN.out, HC0D.out, HCD.out⟩
                case measure => simp [intOf]; omega
              · have b28 : (z != b) = true := by simpa using hzd
                have HTE : Hid (cellsFrom b 0 (Z.take (k + 1)) = cellsFrom b 0 (Z.take k) ++ [((k : Int), z)]) := Lib.hid (by rw [HTT.out, HTK.out, if_neg hzd])
                have HLE : Hid ((cellsFrom b 0 (Z.take k)).length ≤ 65536) := Lib.hid (by have := cellsFrom_le b (Z.take k) 0; have := List.length_take_le k Z; omega)
                have HOK : Hid (∀ x ∈ [((k : Int), z)], cellR.ok x) := Lib.hid (by
                  intro x hx
                  simp only [List.mem_singleton] at hx
                  subst hx
                  exact ⟨⟨by show -9223372036854775808 ≤ (k : Int); omega, by show (k : Int) ≤ 9223372036854775807; omega⟩, ⟨z0, z2⟩⟩)
                have HC0D := Lib.hid c0
                go_upto_region 28 with (fail)
                refine wp_region_same (fun w' => w' = wd) (by kernel_rfl) (by kernel_rfl) ?_ ?_
                · exact HWE.out.symm
                iterate 7 (refine wpC_read rfl (fun _ _ _ h => h) (fun K hK => ?_); apply Exists.intro; refine ⟨fun _ w' _ hC => ?_, ?_⟩; ((subst hC); go_simp; try with_reducible rfl); (try go_simp); refine hK _ ?_; clear hK K)
                refine wpC_nil ?_
                rintro w' rfl
                clear HF HTK HTT HC02 HC c0
                go_upto_region 29 with (fail)
                obtain ⟨we, hwe⟩ : ∃ we, we = w'.drew := ⟨_, rfl⟩
                have HWE2 : Hid (w'.drew = we) := Lib.hid hwe.symm
                have HWF : Hid (Chg (fun _ => False) w' we) := Lib.hid (by rw [hwe]; exact (Chg.refl _ _).drew)
                have c1 := HFD.out.c
                have HF1 := Lib.hid ((HFD.out.chg HWF.out (fun _ _ _ h => h)).chg ((Chg.refl (fun _ => False) we).alloc (.cells #[.int .i64 k, .int .i64 z] 85)) (fun _ _ _ h => h))
                have HBS : Hid (wo.heap.size + 1 ≤ (we.alloc (.cells #[.int .i64 k, .int .i64 z] 85)).heap.size) := Lib.hid (by have := HF1.out.lt; omega)
                have HFIN : Hid (∀ v' w1, cellR.Own w1 (wo.heap.size + 1) v' (cellsFrom b 0 (Z.take k) ++ [((k : Int), z)]) → Chg (fun j => wo.heap.size + 1 ≤ j) (we.alloc (.cells #[.int .i64 k, .int .i64 z] 85)) w1 →
                    (w1.cell? ⟨wo.heap.size, 1, none⟩ = some (.slice va vl vc) ∧ w1.frozen? ⟨wo.heap.size, 1, none⟩ = false) ∧ Fld cellR wo.heap.size 1 (w1.setCell ⟨wo.heap.size, 1, none⟩ v') v' (cellsFrom b 0 (Z.take (k + 1))) ∧ (w1.setCell ⟨wo.heap.size, 1, none⟩ v').cell? ⟨wo.heap.size, 0, none⟩ = some (.int .i64 b) ∧ Chg (fun j => wo.heap.size ≤ j) wo (w1.setCell ⟨wo.heap.size, 1, none⟩ v')) := Lib.hid (by
                  intro v' w1 h1 h2
                  obtain ⟨k1, k2, k3, k4⟩ := HF1.out.step h1 h2
                  exact ⟨k1, by rw [HTE.out]; exact k2, k4 0 _ (by omega) (((HWF.out.trans ((Chg.refl (fun _ => False) we).alloc _)).cellS HC0D.out (fun h => h))), HCD.out.trans (HWF.out.any.trans (((Chg.refl _ we).alloc _).trans k3))⟩)
                clear hwe
                refine wp_region_late (fun x => Chg (fun j => wo.heap.size + 1 ≤ j) we x) (fun i => decide (i = 11)) (by kernel_rfl) ?_
                show wpAnyL _ _ _ _ _ _ 12 (Array.replicate 12 false) _ w'.drew
                rw [HWE2.out]
                have HSS : Hid (Chg (fun j => wo.heap.size + 1 ≤ j) we we) := Lib.hid (Chg.refl _ _)
                have HQ2 := Lib.hid (HWF.out.cellS q2 (fun h => h))
                have HQ1 := Lib.hid (HWF.out.cellS c1 (fun h => h))
                have hneg : ¬ wo.heap.size + 1 ≤ g := by omega
                clear q2 c1
                (refine late_read (i := 0) rfl (by kernel_rfl) (fun _ _ _ _ h => h) rfl HSS.out (fun K hK => ?_); apply Exists.intro; refine ⟨fun w' hC => ?_, ?_⟩; ((skip); go_simp; try with_reducible rfl); (try go_simp); refine hK _ ?_; clear hK K)
                (refine late_read (i := 1) rfl (by kernel_rfl) (fun _ _ _ _ h => h) rfl HSS.out (fun K hK => ?_); apply Exists.intro; refine ⟨fun w' hC => ?_, ?_⟩; ((have q := hC.cellS HQ1.out (show ¬ wo.heap.size + 1 ≤ wo.heap.size by omega)); go_simp; try with_reducible rfl); (try go_simp); refine hK _ ?_; clear hK K)
                (refine late_read (i := 2) rfl (by kernel_rfl) (fun _ _ _ _ h => h) rfl HSS.out (fun K hK => ?_); apply Exists.intro; refine ⟨fun w' hC => ?_, ?_⟩; ((skip); go_simp; try with_reducible rfl); (try go_simp); refine hK _ ?_; clear hK K)
                (refine late_read (i := 3) rfl (by kernel_rfl) (fun _ _ _ _ h => h) rfl HSS.out (fun K hK => ?_); apply Exists.intro; refine ⟨fun w' hC => ?_, ?_⟩; ((skip); go_simp; try with_reducible rfl); (try go_simp); refine hK _ ?_; clear hK K)
                (refine late_read (i := 4) rfl (by kernel_rfl) (fun _ _ _ _ h => h) rfl HSS.out (fun K hK => ?_); apply Exists.intro; refine ⟨fun w' hC => ?_, ?_⟩; ((skip); go_simp; try with_reducible rfl); (try go_simp); refine hK _ ?_; clear hK K)
                (refine late_read (i := 5) rfl (by kernel_rfl) (fun _ _ _ _ h => h) rfl HSS.out (fun K hK => ?_); apply Exists.intro; refine ⟨fun w' hC => ?_, ?_⟩; ((skip); go_simp; try with_reducible rfl); (try go_simp); refine hK _ ?_; clear hK K)
                (refine late_read (i := 6) rfl (by kernel_rfl) (fun _ _ _ _ h => h) rfl HSS.out (fun K hK => ?_); apply Exists.intro; refine ⟨fun w' hC => ?_, ?_⟩; ((have q := hC.cellS HQ2.out hneg); go_simp; try with_reducible rfl); (try go_simp); refine hK _ ?_; clear hK K)
                (refine late_read (i := 7) rfl (by kernel_rfl) (fun _ _ _ _ h => h) rfl HSS.out (fun K hK => ?_); apply Exists.intro; refine ⟨fun w' hC => ?_, ?_⟩; ((skip); go_simp; try with_reducible rfl); (try go_simp); refine hK _ ?_; clear hK K)
                (refine late_turn (i := 8) (by kernel_rfl) rfl rfl (fun K hK => ?_); apply Exists.intro; apply Exists.intro; refine ⟨?_, ?_, ?_⟩; ((skip); go_simp; try first | with_reducible rfl | exact ⟨rfl, rfl⟩); (exact fun _ => HSS.out.alloc _); (try go_simp); refine hK _ _ ?_; clear hK K)
                refine late_append (i := 9) (by kernel_rfl) rfl rfl (.tmp 125) (.tmp 132) 31 31 rfl (.slice va vl vc) (.slice (some ⟨we.heap.size, 0, none⟩) 1 1) rfl rfl (fun v' w1 => cellR.Own w1 (wo.heap.size + 1) v' (cellsFrom b 0 (Z.take k) ++ [((k : Int), z)]) ∧ Chg (fun j => wo.heap.size + 1 ≤ j) (we.alloc (.cells #[.int .i64 k, .int .i64 z] 85)) w1) ?_ ?_
                · obtain ⟨v', w1, hrun, h1, h2, -⟩ := HF1.out.own.append HBS.out 31 (.slice (some ⟨we.heap.size, 0, none⟩) 1 1) [((k : Int), z)] (cellR.srcLit 1 HOK.out) HOK.out (by have := HLE.out; simp; omega) 31
                  exact ⟨v', w1, hrun, fun _ => (HSS.out.alloc _).trans h2, h1, h2⟩
                rintro v' w1 hs ⟨h1, h2⟩ K hK
                obtain ⟨va', vl', vc', hv'⟩ := h1.shape3
                subst hv'
                obtain ⟨⟨k1, k2⟩, hf⟩ := HFIN.out _ w1 h1 h2
                have HFF := Lib.hid hf
                have HSL := Lib.hid (hs (by decide))
                clear hf h1 h2 hs
                (try go_simp)
                refine hK _ ?_
                clear hK K
                (refine late_turn (i := 10) (by kernel_rfl) rfl rfl (fun K hK => ?_); apply Exists.intro; apply Exists.intro; refine ⟨?_, ?_, ?_⟩; ((skip); go_simp; try first | with_reducible rfl | exact ⟨rfl, rfl⟩); (exact fun _ => HSL.out); (try go_simp); refine hK _ _ ?_; clear hK K)
                (refine late_store (i := 11) (by kernel_rfl) rfl rfl (fun K hK => ?_); apply Exists.intro; refine ⟨?_, (fun h => absurd h (by decide)), ?_⟩; ((skip); go_simp; try first | with_reducible rfl | exact ⟨rfl, rfl⟩); (try go_simp); refine hK _ _ ?_; clear hK K)
                refine late_done (by kernel_rfl) ?_ _
                go_wp2
                go_roundw
                case rel => exact ⟨k + 1, _, by omega, by go_num, HFF.out.1, HFF.out.2.1, HFF.out.2.2⟩
                case measure => simp [intOf]; omega
            · obtain rfl : k = Z.length := by omega
              obtain ⟨va', vg, vc', hv', hle, -, -⟩ := HF.out.own.at'
              injection hv' with e1 e2 e3
              subst e1 e2 e3
              obtain ⟨r0, r1, r2, r3⟩ := HRO.out
              have hlt : w.heap.size < wo.heap.size := by omega
              have hneg : ¬ wo.heap.size ≤ w.heap.size := by omega
              have r0 := HC.out.cellS r0 hneg
              have r1 := HC.out.cellS r1 hneg
              have r2 := (HC.out.frozen (p := ⟨w.heap.size, 0, none⟩) hlt hneg).trans r2
              have r3 := (HC.out.frozen (p := ⟨w.heap.size, 1, none⟩) hlt hneg).trans r3
              have hne : w.heap.size ≠ wo.heap.size := by omega
              have c1 := HF.out.c
              have c0 := HC02.out
              have HTE : Hid (Z.take Z.length = Z) := Lib.hid (List.take_length)
              rw [HTE.out] at hle c1
              have hlen := cellsFrom_le b Z 0
              obtain ⟨X, hX⟩ : ∃ X, cellsFrom b 0 Z = X := ⟨_, rfl⟩
              rw [hX] at hle c1 hlen
              have HIN := Lib.hid (HF.out.own)
              rw [HTE.out, hX] at HIN
              have HXE := Lib.hid hX
              clear hX HF
              go_wp2
              obtain ⟨f0, f1, f2⟩ := store2 (.int .i64 b) (.slice va X.length vc) r0 r1
              have h3 := ((HIN.out.chg f2 (fun g hg _ e => by omega)).in' hle).lower (B' := w.heap.size) (by omega)
              have h4 := ((HCO.out.trans (HC.out.mono (T := fun k => w.heap.size ≤ k) (fun k _ e => by omega))).trans (f2.mono (fun k _ e => by omega))).fresh
              clear f2
              generalize (wr.setCell ⟨w.heap.size, 0, none⟩ (.int .i64 b)).setCell ⟨w.heap.size, 1, none⟩ (.slice va X.length vc) = W at *
              refine bodyPost_ret (v := .tuple #[.agg #[.int .i64 b, .slice va X.length vc], .int .i64 0]) (by simp [results, Try.results12, go_sem, f0, f1]) rfl ⟨(va, X.length, vc), ?_, ?_, h4⟩
              · rw [← HD.out]; rfl
              · rw [← HD.out, HXE.out]; exact h3
end Go.Proofs.Ytkfakkonlnjckaa
