/- The statements' twins of lists of ranges; lists of ranges, of tokens, that are the same. -/
import Derived.Test.YtfhmblbomkhcpaaDoorWholeP
import Derived.OwnWalk
namespace Go.Proofs.YtfhmblbomkhcpaaDoor
open Go.RowKit

section
variable {α : Type}
/-- append where there is room, at the operation. -/
theorem Elt.wpList_room (E : Elt α) {ops : Array Oper} {rest : List Oper} {o : Oper} {a : Act} {w : World} {Q : Exit → Act → World → Prop} (hgd : o.guard = none) (s x : Operand) (tl tx : TypeId) (htl : tl = E.sl)
    (ho : o.op = .call { callee := .builtin .append, args := #[s, x], argTypes := #[tl, tx] }) (g : Nat) (C X Y : List α) (n m cap : Nat) (u : Value) (hv : a.eval s = .slice (some ⟨g, 0, none⟩) n cap) (hn : n = X.length) (hm : m = Y.length) (hcap : cap = C.length) (hu : a.eval x = u)
    (hR : E.Row w g C) (hp : X <+: C) (hs : Src Tryd.prog E.sz tx u Y.length (E.encs Y) w) (hY : ∀ a ∈ Y, E.ok a) (hl : X.length + Y.length ≤ C.length)
    (hK : ∀ w' C', Hid (E.Row w' g C') → Hid (C'.length = cap) → Hid (X ++ Y <+: C') → Hid (Chg (· = g) w w') → wpList Tryd.prog ops Q rest (a.put o.dst (.slice (some ⟨g, 0, none⟩) (n + m) cap)) w') : wpList Tryd.prog ops Q (o :: rest) a w := by
  subst hn hcap hm htl
  obtain ⟨w', C', hrun, h1, h2, h3, h4⟩ := Elt.room hR hp tx u Y hs hY hl o.type
  refine Lib.wpList_append_run w hgd s x E.sl tx ho _ u hv hu _ w' hrun ?_
  rw [h2, List.length_append]
  exact hK w' C' (Lib.hid h1) (Lib.hid h2) (Lib.hid h3) (Lib.hid h4)
theorem prefix_wholeE {X C : List α} (h : X <+: C) (hl : C.length = X.length) : C = X := (h.eq_of_length hl.symm).symm
end
/-- One of some ranges, by what it is. -/
theorem Elt.In.getP {w : World} {B : Nat} {a : Option Addr} {n c : Nat} {L : List (Int × Int)} (h : rngE.In w B (a, n, c) L) {k : Nat} {x : Int × Int} (hx : L[k]? = some x) :
    ∃ (g o : Nat), a = some ⟨g, o, none⟩ ∧ w.cell? ⟨g, o + k * 2, none⟩ = some (.int .i32 x.1) ∧ w.cell? ⟨g, o + k * 2 + 1, none⟩ = some (.int .i32 x.2) := by
  obtain ⟨h1, h2, g, o, h3, h4⟩ := h
  have hk := (List.getElem?_eq_some_iff.1 hx).1
  have c0 := h3.get hx (i := 0) (u := .int .i32 x.1) rfl
  have c1 := h3.get hx (i := 1) (u := .int .i32 x.2) rfl
  rw [show rngE.sz = 2 from rfl] at c0 c1
  rw [Nat.add_zero] at c0
  rw [← Nat.add_assoc] at c1
  exact ⟨g, o, (h4 (by omega)).1, c0, c1⟩

set_option maxRecDepth 100000 in
set_option maxHeartbeats 2000000 in
theorem sameRng (X : List (Int × Int)) (a b : Option Addr) (ca cb Ba Bb : Nat) (w : World) (hx : rngE.In w Ba (a, X.length, ca) X) (hy : rngE.In w Bb (b, X.length, cb) X) (hl : X.length ≤ 1000000000000) :
    Calls Tryd.prog 61 #[.slice a X.length ca, .slice b X.length cb] w fun e w' => e = .returned (.bool true) ∧ Chg (fun _ => False) w w' := by
  have HX := Lib.hid hx
  have HY := Lib.hid hy
  clear hx hy
  go_enter Tryd.func61, Tryd.ntmps61
  go_wp2
  go_loopw [5] (fun i wr => ∃ k : Nat, k ≤ X.length ∧ i = .int .i64 k ∧ Chg (fun _ => False) w wr) (fun i _ => X.length - (intOf i).toNat)
  case atStart => exact ⟨0, by omega, rfl, Chg.refl _ _⟩
  case round =>
    obtain ⟨k, hk, rfl, hc⟩ := hrel
    have HC := Lib.hid hc
    clear hc
    by_cases hkl : k < X.length
    · have b14 : decide ((k : Int) < (X.length : Int)) = true := by simp; omega
      obtain ⟨x, hx⟩ : ∃ x, X[k]? = some x := ⟨_, List.getElem?_eq_getElem hkl⟩
      obtain ⟨x0, x1⟩ := x
      obtain ⟨g, o, rfl, c0, c1⟩ := (HX.out.same HC.out).getP hx
      obtain ⟨g2, o2, rfl, e0, e1⟩ := (HY.out.same HC.out).getP hx
      simp only at c0 c1 e0 e1
      have HCC := Lib.hid (show _ ∧ _ ∧ _ ∧ _ from ⟨c0, c1, e0, e1⟩)
      clear hx c0 c1 e0 e1
      go_upto_region 6 with (fail)
      refine wp_region_same (fun w' => Chg (fun _ => False) wr w') (by kernel_rfl) (by kernel_rfl) ?_ ?_
      · exact (Chg.refl _ _).drew
      (refine wpC_read rfl (fun _ _ _ h => h) (fun K hK => ?_); apply Exists.intro; refine ⟨fun _ w' _ hC => ?_, ?_⟩; ((skip); go_simp; try with_reducible rfl); (try go_simp); refine hK _ ?_; clear hK K); (refine wpC_read rfl (fun _ _ _ h => h) (fun K hK => ?_); apply Exists.intro; refine ⟨fun _ w' _ hC => ?_, ?_⟩; ((skip); go_simp; try with_reducible rfl); (try go_simp); refine hK _ ?_; clear hK K); (refine wpC_read rfl (fun _ _ _ h => h) (fun K hK => ?_); apply Exists.intro; refine ⟨fun _ w' _ hC => ?_, ?_⟩; ((skip); go_simp; try with_reducible rfl); (try go_simp); refine hK _ ?_; clear hK K); (refine wpC_read rfl (fun _ _ _ h => h) (fun K hK => ?_); apply Exists.intro; refine ⟨fun _ w' _ hC => ?_, ?_⟩; ((have c0 := hC.cellS HCC.out.1 (fun h => h); have c1 := hC.cellS HCC.out.2.1 (fun h => h); have e0 := hC.cellS HCC.out.2.2.1 (fun h => h); have e1 := hC.cellS HCC.out.2.2.2 (fun h => h)); go_simp; try with_reducible rfl); (try go_simp); refine hK _ ?_; clear hK K); (refine wpC_read rfl (fun _ _ _ h => h) (fun K hK => ?_); apply Exists.intro; refine ⟨fun _ w' _ hC => ?_, ?_⟩; ((skip); go_simp; try with_reducible rfl); (try go_simp); refine hK _ ?_; clear hK K); (refine wpC_read rfl (fun _ _ _ h => h) (fun K hK => ?_); apply Exists.intro; refine ⟨fun _ w' _ hC => ?_, ?_⟩; ((skip); go_simp; try with_reducible rfl); (try go_simp); refine hK _ ?_; clear hK K); (refine wpC_read rfl (fun _ _ _ h => h) (fun K hK => ?_); apply Exists.intro; refine ⟨fun _ w' _ hC => ?_, ?_⟩; ((skip); go_simp; try with_reducible rfl); (try go_simp); refine hK _ ?_; clear hK K); (refine wpC_read rfl (fun _ _ _ h => h) (fun K hK => ?_); apply Exists.intro; refine ⟨fun _ w' _ hC => ?_, ?_⟩; ((have c0 := hC.cellS HCC.out.1 (fun h => h); have c1 := hC.cellS HCC.out.2.1 (fun h => h); have e0 := hC.cellS HCC.out.2.2.1 (fun h => h); have e1 := hC.cellS HCC.out.2.2.2 (fun h => h)); go_simp; try with_reducible rfl); (try go_simp); refine hK _ ?_; clear hK K); (refine wpC_read rfl (fun _ _ _ h => h) (fun K hK => ?_); apply Exists.intro; refine ⟨fun _ w' _ hC => ?_, ?_⟩; ((skip); go_simp; try with_reducible rfl); (try go_simp); refine hK _ ?_; clear hK K)
      refine wpC_nil ?_
      intro w2 hC2
      have HC2 := Lib.hid (HC.out.trans hC2)
      clear hC2
      go_wp2
      go_roundw
      case rel => exact ⟨k + 1, by omega, by go_num, HC2.out⟩
      case measure => simp [intOf]; omega
    · obtain rfl : k = X.length := by omega
      go_wp2
      go_ret
      exact ⟨rfl, HC.out⟩

set_option maxRecDepth 100000 in
set_option maxHeartbeats 2000000 in
theorem sameTok (X : List TokD) (a b : Option Addr) (ca cb Ba Bb : Nat) (w : World) (hx : tokE.In w Ba (a, X.length, ca) X) (hy : tokE.In w Bb (b, X.length, cb) X) (hl : X.length ≤ 1000000000000) :
    Calls Tryd.prog 41 #[.slice a X.length ca, .slice b X.length cb] w fun e w' => e = .returned (.bool true) ∧ Chg (fun _ => False) w w' := by
  have HX := Lib.hid hx
  have HY := Lib.hid hy
  clear hx hy
  go_enter Tryd.func41, Tryd.ntmps41
  go_wp2
  go_loopw [5] (fun i wr => ∃ k : Nat, k ≤ X.length ∧ i = .int .i64 k ∧ Chg (fun _ => False) w wr) (fun i _ => X.length - (intOf i).toNat)
  case atStart => exact ⟨0, by omega, rfl, Chg.refl _ _⟩
  case round =>
    obtain ⟨k, hk, rfl, hc⟩ := hrel
    have HC := Lib.hid hc
    clear hc
    by_cases hkl : k < X.length
    · have b14 : decide ((k : Int) < (X.length : Int)) = true := by simp; omega
      obtain ⟨x, hx⟩ : ∃ x, X[k]? = some x := ⟨_, List.getElem?_eq_getElem hkl⟩
      obtain ⟨x0, x1, x2⟩ := x
      obtain ⟨g, o, rfl, c0, c1, c2⟩ := (HX.out.same HC.out).getT hx
      obtain ⟨g2, o2, rfl, e0, e1, e2⟩ := (HY.out.same HC.out).getT hx
      simp only at c0 c1 c2 e0 e1 e2
      have HCC := Lib.hid (show _ ∧ _ ∧ _ ∧ _ ∧ _ ∧ _ from ⟨c0, c1, c2, e0, e1, e2⟩)
      clear hx c0 c1 c2 e0 e1 e2
      go_upto_region 6 with (fail)
      refine wp_region_same (fun w' => Chg (fun _ => False) wr w') (by kernel_rfl) (by kernel_rfl) ?_ ?_
      · exact (Chg.refl _ _).drew
      (refine wpC_read rfl (fun _ _ _ h => h) (fun K hK => ?_); apply Exists.intro; refine ⟨fun _ w' _ hC => ?_, ?_⟩; ((skip); go_simp; try with_reducible rfl); (try go_simp); refine hK _ ?_; clear hK K); (refine wpC_read rfl (fun _ _ _ h => h) (fun K hK => ?_); apply Exists.intro; refine ⟨fun _ w' _ hC => ?_, ?_⟩; ((skip); go_simp; try with_reducible rfl); (try go_simp); refine hK _ ?_; clear hK K); (refine wpC_read rfl (fun _ _ _ h => h) (fun K hK => ?_); apply Exists.intro; refine ⟨fun _ w' _ hC => ?_, ?_⟩; ((skip); go_simp; try with_reducible rfl); (try go_simp); refine hK _ ?_; clear hK K); (refine wpC_read rfl (fun _ _ _ h => h) (fun K hK => ?_); apply Exists.intro; refine ⟨fun _ w' _ hC => ?_, ?_⟩; ((have c0 := hC.cellS HCC.out.1 (fun h => h); have c1 := hC.cellS HCC.out.2.1 (fun h => h); have c2 := hC.cellS HCC.out.2.2.1 (fun h => h); have e0 := hC.cellS HCC.out.2.2.2.1 (fun h => h); have e1 := hC.cellS HCC.out.2.2.2.2.1 (fun h => h); have e2 := hC.cellS HCC.out.2.2.2.2.2 (fun h => h)); go_simp; try with_reducible rfl); (try go_simp); refine hK _ ?_; clear hK K); (refine wpC_read rfl (fun _ _ _ h => h) (fun K hK => ?_); apply Exists.intro; refine ⟨fun _ w' _ hC => ?_, ?_⟩; ((skip); go_simp; try with_reducible rfl); (try go_simp); refine hK _ ?_; clear hK K); (refine wpC_read rfl (fun _ _ _ h => h) (fun K hK => ?_); apply Exists.intro; refine ⟨fun _ w' _ hC => ?_, ?_⟩; ((skip); go_simp; try with_reducible rfl); (try go_simp); refine hK _ ?_; clear hK K); (refine wpC_read rfl (fun _ _ _ h => h) (fun K hK => ?_); apply Exists.intro; refine ⟨fun _ w' _ hC => ?_, ?_⟩; ((skip); go_simp; try with_reducible rfl); (try go_simp); refine hK _ ?_; clear hK K); (refine wpC_read rfl (fun _ _ _ h => h) (fun K hK => ?_); apply Exists.intro; refine ⟨fun _ w' _ hC => ?_, ?_⟩; ((have c0 := hC.cellS HCC.out.1 (fun h => h); have c1 := hC.cellS HCC.out.2.1 (fun h => h); have c2 := hC.cellS HCC.out.2.2.1 (fun h => h); have e0 := hC.cellS HCC.out.2.2.2.1 (fun h => h); have e1 := hC.cellS HCC.out.2.2.2.2.1 (fun h => h); have e2 := hC.cellS HCC.out.2.2.2.2.2 (fun h => h)); go_simp; try with_reducible rfl); (try go_simp); refine hK _ ?_; clear hK K); (refine wpC_read rfl (fun _ _ _ h => h) (fun K hK => ?_); apply Exists.intro; refine ⟨fun _ w' _ hC => ?_, ?_⟩; ((skip); go_simp; try with_reducible rfl); (try go_simp); refine hK _ ?_; clear hK K)
      refine wpC_nil ?_
      intro w2 hC2
      have HC2 := Lib.hid (HC.out.trans hC2)
      clear hC2
      go_wp2
      go_roundw
      case rel => exact ⟨k + 1, by omega, by go_num, HC2.out⟩
      case measure => simp [intOf]; omega
    · obtain rfl : k = X.length := by omega
      go_wp2
      go_ret
      exact ⟨rfl, HC.out⟩

set_option maxRecDepth 100000 in
set_option maxHeartbeats 2000000 in
theorem twinRng (Z : List (Int × Int)) (m : Int × Int) (a : Option Addr) (c B : Nat) (w : World) (hz : rngE.In w B (a, Z.length, c) Z) (hm : okRng m) (hl : Z.length ≤ 1000000000) :
    Calls Tryd.prog 50 #[.slice a Z.length c, .agg #[.int .i32 m.1, .int .i32 m.2]] w fun e w' => ∃ h, e = .returned (.slice (some ⟨h, 0, none⟩) Z.length (Z.length + 2)) ∧ w.heap.size ≤ h ∧ rngE.Row w' h (Z ++ [m, m]) ∧ Chg (fun _ => False) w w' := by
  have HZ := Lib.hid hz
  have HB := Lib.hid (hz.ok)
  have HM : Hid (∀ a ∈ [m, m], rngE.ok a) := Lib.hid (fun x hx => by
    simp only [List.mem_cons, List.not_mem_nil, or_false, or_self] at hx
    subst hx
    exact hm)
  clear hz hm
  obtain ⟨m0, m1⟩ := m
  simp only
  obtain ⟨wa, hwa⟩ : ∃ x, x = w.alloc (.cells #[.int .i32 m0, .int .i32 m1] 63) := ⟨_, rfl⟩
  have HSZ : Hid (wa.heap.size = w.heap.size + 1) := Lib.hid (by rw [hwa]; simp)
  have p0 : wa.cell? ⟨w.heap.size, 0, none⟩ = some (.int .i32 m0) := by rw [hwa, World.cell?_alloc_new]; rfl
  have p1 : wa.cell? ⟨w.heap.size, 1, none⟩ = some (.int .i32 m1) := by rw [hwa, World.cell?_alloc_new]; rfl
  have HCA : Hid (Chg (fun _ => False) w wa) := Lib.hid (by rw [hwa]; exact (Chg.refl _ _).alloc _)
  have HWA := Lib.hid hwa
  have HP := Lib.hid (show _ ∧ _ from ⟨p0, p1⟩)
  clear hwa p0 p1
  go_enter Tryd.func50, Tryd.ntmps50
  go_upto_region 1 with (fail)
  rw [← HWA.out]
  go_upto_region 2 with (at_make; refine rngE.wpList_make rfl _ _ _ rfl rfl _ _ _ _ 0 (Z.length + 2) rfl rfl rfl (by omega) (by omega) (by omega) ?_; intro w1 HR1 HC1)
  go_upto_region 3 with (at_builtin; refine rngE.wpList_room rfl _ _ _ 22 rfl rfl wa.heap.size (List.replicate (Z.length + 2) (0, 0)) [] Z 0 Z.length (Z.length + 2) (.slice a Z.length c) rfl rfl rfl (by simp) rfl HR1.out (List.nil_prefix) (HZ.out.same (HCA.out.trans HC1.out)).src HB.out (by simp) ?_; intro w2 C2 HR2 HL2 HP2 HC2)
  have HC02 : Hid (Chg (fun _ => False) wa w2) := Lib.hid (HC1.out.any.trans (HC2.out.mono (fun k _ e => by omega))).fresh
  have p0 := HC02.out.cellS HP.out.1 (fun h => h)
  have p1 := HC02.out.cellS HP.out.2 (fun h => h)
  go_wp2_with (at_builtin; refine rngE.wpList_room rfl _ _ _ 22 rfl rfl wa.heap.size C2 ([] ++ Z) [(m0, m1), (m0, m1)] Z.length 2 (Z.length + 2) (.slice (some ⟨w2.heap.size, 0, none⟩) 2 2) rfl rfl rfl HL2.out.symm rfl (HR2.out.chg ((Chg.refl (fun _ => False) _).alloc _) (fun h => h)) HP2.out (rngE.srcLit 2 HM.out) HM.out (by rw [HL2.out]; simp) ?_; intro w3 C3 HR3 HL3 HP3 HC3)
  have HF : Hid (rngE.Row w3 wa.heap.size (Z ++ [(m0, m1), (m0, m1)]) ∧ Chg (fun _ => False) wa w3) := Lib.hid (by
    have e : C3 = Z ++ [(m0, m1), (m0, m1)] := prefix_wholeE HP3.out (by rw [HL3.out]; simp)
    exact ⟨e ▸ HR3.out, ((HC1.out.any.trans (HC2.out.mono (fun k _ e => by omega))).trans (((Chg.refl _ w2).alloc _).trans (HC3.out.mono (fun k _ e => by omega)))).fresh⟩)
  go_ret
  exact ⟨_, rfl, by rw [HSZ.out]; omega, HF.out.1, HCA.out.trans HF.out.2⟩

set_option maxRecDepth 100000 in
set_option maxHeartbeats 2000000 in
theorem twinRanges (Z : List (Int × Int)) (a : Option Addr) (c B : Nat) (w : World) (hz : rngE.In w B (a, Z.length, c) Z) (hl : Z.length ≤ 1000000000) :
    Calls Tryd.prog 24 #[.slice a Z.length c] w fun e w' => ∃ h, e = .returned (.slice (some ⟨h, 0, none⟩) Z.length (Z.length + 2)) ∧ w.heap.size ≤ h ∧ rngE.Row w' h (Z ++ [(-77, 0), (-77, 0)]) ∧ Chg (fun _ => False) w w' := by
  have HZ := Lib.hid hz
  clear hz
  go_enter Tryd.func24, Tryd.ntmps24
  go_wp2_with fail
  refine (twinRng Z (-77, 0) a c B w HZ.out (by decide) hl).mono ?_
  rintro e w1 ⟨h, rfl, h1, h2, h3⟩
  have HH := Lib.hid (show _ ∧ _ ∧ _ from ⟨h1, h2, h3⟩)
  clear h1 h2 h3
  go_wp2
  go_ret
  exact ⟨h, rfl, HH.out⟩
end Go.Proofs.YtfhmblbomkhcpaaDoor
