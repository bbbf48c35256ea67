/- The statements' twins of lists of ranges; lists of ranges that are the same. Was a twin of ranges left as it was? (It was.) A table as the document has it: harbingerlaw09's Other. The statements' twins by name: lists of ints. A table's twin: harbingerlaw09.Twin (printed by wip/gen/twinp.py). Was a table's twin left as it was? (It was.) harbingerlaw09.Left -/
import Derived.Test.YtodohgckncnipaaGA4
import Derived.Test.YtodohgckncnipaaGA1
import Derived.OwnWalk
/- The statements' twins of lists of ranges; lists of ranges that are the same. -/
namespace Go.Proofs.Ytodohgckncnipaa
open Go.RowKit

section
variable {α : Type}
/-- append where there is room, at the operation. -/
theorem Elt.wpList_room (E : Elt α) {ops : Array Oper} {rest : List Oper} {o : Oper} {a : Act} {w : World} {Q : Exit → Act → World → Prop} (hgd : o.guard = none) (s x : Operand) (tl tx : TypeId) (htl : tl = E.sl)
    (ho : o.op = .call { callee := .builtin .append, args := #[s, x], argTypes := #[tl, tx] }) (g : Nat) (C X Y : List α) (n m cap : Nat) (u : Value) (hv : a.eval s = .slice (some ⟨g, 0, none⟩) n cap) (hn : n = X.length) (hm : m = Y.length) (hcap : cap = C.length) (hu : a.eval x = u)
    (hR : E.Row w g C) (hp : X <+: C) (hs : Src Try.prog E.sz tx u Y.length (E.encs Y) w) (hY : ∀ a ∈ Y, E.ok a) (hl : X.length + Y.length ≤ C.length)
    (hK : ∀ w' C', Hid (E.Row w' g C') → Hid (C'.length = cap) → Hid (X ++ Y <+: C') → Hid (Chg (· = g) w w') → wpList Try.prog ops Q rest (a.put o.dst (.slice (some ⟨g, 0, none⟩) (n + m) cap)) w') : wpList Try.prog ops Q (o :: rest) a w := by
  subst hn hcap hm htl
  obtain ⟨w', C', hrun, h1, h2, h3, h4⟩ := Elt.room hR hp tx u Y hs hY hl o.type
  refine Lib.wpList_append_run w hgd s x E.sl tx ho _ u hv hu _ w' hrun ?_
  rw [h2, List.length_append]
  exact hK w' C' (Lib.hid h1) (Lib.hid h2) (Lib.hid h3) (Lib.hid h4)
theorem prefix_wholeE {X C : List α} (h : X <+: C) (hl : C.length = X.length) : C = X := (h.eq_of_length hl.symm).symm
end
/-- One of some ranges, by what it is. -/
theorem Elt.In.getP {w : World} {B : Nat} {a : Option Addr} {n c : Nat} {L : List (Int × Int)} (h : rngE.In w B (a, n, c) L) {k : Nat} {x : Int × Int} (hx : L[k]? = some x) :
    ∃ (g o : Nat), a = some ⟨g, o, none⟩ ∧ w.cell? ⟨g, o + k * 2, none⟩ = some (.int .i32 x.1) ∧ w.cell? ⟨g, o + k * 2 + 1, none⟩ = some (.int .i32 x.2) := by
  obtain ⟨h1, h2, g, o, h3, h4⟩ := h
  have hk := (List.getElem?_eq_some_iff.1 hx).1
  have c0 := h3.get hx (i := 0) (u := .int .i32 x.1) rfl
  have c1 := h3.get hx (i := 1) (u := .int .i32 x.2) rfl
  rw [show rngE.sz = 2 from rfl] at c0 c1
  rw [Nat.add_zero] at c0
  rw [← Nat.add_assoc] at c1
  exact ⟨g, o, (h4 (by omega)).1, c0, c1⟩

set_option maxRecDepth 100000 in
set_option maxHeartbeats 2000000 in
theorem sameRng (X : List (Int × Int)) (a b : Option Addr) (ca cb Ba Bb : Nat) (w : World) (hx : rngE.In w Ba (a, X.length, ca) X) (hy : rngE.In w Bb (b, X.length, cb) X) (hl : X.length ≤ 1000000000000) :
    Calls Try.prog 66 #[.slice a X.length ca, .slice b X.length cb] w fun e w' => e = .returned (.bool true) ∧ Chg (fun _ => False) w w' := by
  have HX := Lib.hid hx
  have HY := Lib.hid hy
  clear hx hy
  go_enter Try.func66, Try.ntmps66
  go_wp2
  go_loopw [5] (fun i wr => ∃ k : Nat, k ≤ X.length ∧ i = .int .i64 k ∧ Chg (fun _ => False) w wr) (fun i _ => X.length - (intOf i).toNat)
  case atStart => exact ⟨0, by omega, rfl, Chg.refl _ _⟩
  case round =>
    obtain ⟨k, hk, rfl, hc⟩ := hrel
    have HC := Lib.hid hc
    clear hc
    by_cases hkl : k < X.length
    · have b14 : decide ((k : Int) < (X.length : Int)) = true := by simp; omega
      obtain ⟨x, hx⟩ : ∃ x, X[k]? = some x := ⟨_, List.getElem?_eq_getElem hkl⟩
      obtain ⟨x0, x1⟩ := x
      obtain ⟨g, o, rfl, c0, c1⟩ := (HX.out.same HC.out).getP hx
      obtain ⟨g2, o2, rfl, e0, e1⟩ := (HY.out.same HC.out).getP hx
      simp only at c0 c1 e0 e1
      have HCC := Lib.hid (show _ ∧ _ ∧ _ ∧ _ from ⟨c0, c1, e0, e1⟩)
      clear hx c0 c1 e0 e1
      go_upto_region 6 with (fail)
      refine wp_region_same (fun w' => Chg (fun _ => False) wr w') (by kernel_rfl) (by kernel_rfl) ?_ ?_
      · exact (Chg.refl _ _).drew
      (refine wpC_read rfl (fun _ _ _ h => h) (fun K hK => ?_); apply Exists.intro; refine ⟨fun _ w' _ hC => ?_, ?_⟩; ((skip); go_simp; try with_reducible rfl); (try go_simp); refine hK _ ?_; clear hK K); (refine wpC_read rfl (fun _ _ _ h => h) (fun K hK => ?_); apply Exists.intro; refine ⟨fun _ w' _ hC => ?_, ?_⟩; ((skip); go_simp; try with_reducible rfl); (try go_simp); refine hK _ ?_; clear hK K); (refine wpC_read rfl (fun _ _ _ h => h) (fun K hK => ?_); apply Exists.intro; refine ⟨fun _ w' _ hC => ?_, ?_⟩; ((skip); go_simp; try with_reducible rfl); (try go_simp); refine hK _ ?_; clear hK K); (refine wpC_read rfl (fun _ _ _ h => h) (fun K hK => ?_); apply Exists.intro; refine ⟨fun _ w' _ hC => ?_, ?_⟩; ((have c0 := hC.cellS HCC.out.1 (fun h => h); have c1 := hC.cellS HCC.out.2.1 (fun h => h); have e0 := hC.cellS HCC.out.2.2.1 (fun h => h); have e1 := hC.cellS HCC.out.2.2.2 (fun h => h)); go_simp; try with_reducible rfl); (try go_simp); refine hK _ ?_; clear hK K); (refine wpC_read rfl (fun _ _ _ h => h) (fun K hK => ?_); apply Exists.intro; refine ⟨fun _ w' _ hC => ?_, ?_⟩; ((skip); go_simp; try with_reducible rfl); (try go_simp); refine hK _ ?_; clear hK K); (refine wpC_read rfl (fun _ _ _ h => h) (fun K hK => ?_); apply Exists.intro; refine ⟨fun _ w' _ hC => ?_, ?_⟩; ((skip); go_simp; try with_reducible rfl); (try go_simp); refine hK _ ?_; clear hK K); (refine wpC_read rfl (fun _ _ _ h => h) (fun K hK => ?_); apply Exists.intro; refine ⟨fun _ w' _ hC => ?_, ?_⟩; ((skip); go_simp; try with_reducible rfl); (try go_simp); refine hK _ ?_; clear hK K); (refine wpC_read rfl (fun _ _ _ h => h) (fun K hK => ?_); apply Exists.intro; refine ⟨fun _ w' _ hC => ?_, ?_⟩; ((have c0 := hC.cellS HCC.out.1 (fun h => h); have c1 := hC.cellS HCC.out.2.1 (fun h => h); have e0 := hC.cellS HCC.out.2.2.1 (fun h => h); have e1 := hC.cellS HCC.out.2.2.2 (fun h => h)); go_simp; try with_reducible rfl); (try go_simp); refine hK _ ?_; clear hK K); (refine wpC_read rfl (fun _ _ _ h => h) (fun K hK => ?_); apply Exists.intro; refine ⟨fun _ w' _ hC => ?_, ?_⟩; ((skip); go_simp; try with_reducible rfl); (try go_simp); refine hK _ ?_; clear hK K)
      refine wpC_nil ?_
      intro w2 hC2
      have HC2 := Lib.hid (HC.out.trans hC2)
      clear hC2
      go_wp2
      go_roundw
      case rel => exact ⟨k + 1, by omega, by go_num, HC2.out⟩
      case measure => simp [intOf]; omega
    · obtain rfl : k = X.length := by omega
      go_wp2
      go_ret
      exact ⟨rfl, HC.out⟩

set_option maxRecDepth 100000 in
set_option maxHeartbeats 2000000 in
theorem twinRng (Z : List (Int × Int)) (m : Int × Int) (a : Option Addr) (c B : Nat) (w : World) (hz : rngE.In w B (a, Z.length, c) Z) (hm : okRng m) (hl : Z.length ≤ 1000000000) :
    Calls Try.prog 57 #[.slice a Z.length c, .agg #[.int .i32 m.1, .int .i32 m.2]] w fun e w' => ∃ h, e = .returned (.slice (some ⟨h, 0, none⟩) Z.length (Z.length + 2)) ∧ w.heap.size ≤ h ∧ rngE.Row w' h (Z ++ [m, m]) ∧ Chg (fun _ => False) w w' := by
  have HZ := Lib.hid hz
  have HB := Lib.hid (hz.ok)
  have HM : Hid (∀ a ∈ [m, m], rngE.ok a) := Lib.hid (fun x hx => by
    simp only [List.mem_cons, List.not_mem_nil, or_false, or_self] at hx
    subst hx
    exact hm)
  clear hz hm
  obtain ⟨m0, m1⟩ := m
  simp only
  obtain ⟨wa, hwa⟩ : ∃ x, x = w.alloc (.cells #[.int .i32 m0, .int .i32 m1] 54) := ⟨_, rfl⟩
  have HSZ : Hid (wa.heap.size = w.heap.size + 1) := Lib.hid (by rw [hwa]; simp)
  have p0 : wa.cell? ⟨w.heap.size, 0, none⟩ = some (.int .i32 m0) := by rw [hwa, World.cell?_alloc_new]; rfl
  have p1 : wa.cell? ⟨w.heap.size, 1, none⟩ = some (.int .i32 m1) := by rw [hwa, World.cell?_alloc_new]; rfl
  have HCA : Hid (Chg (fun _ => False) w wa) := Lib.hid (by rw [hwa]; exact (Chg.refl _ _).alloc _)
  have HWA := Lib.hid hwa
  have HP := Lib.hid (show _ ∧ _ from ⟨p0, p1⟩)
  clear hwa p0 p1
  go_enter Try.func57, Try.ntmps57
  go_upto_region 1 with (fail)
  rw [← HWA.out]
  go_upto_region 2 with (at_make; refine rngE.wpList_make rfl _ _ _ rfl rfl _ _ _ _ 0 (Z.length + 2) rfl rfl rfl (by omega) (by omega) (by omega) ?_; intro w1 HR1 HC1)
  go_upto_region 3 with (at_builtin; refine rngE.wpList_room rfl _ _ _ 22 rfl rfl wa.heap.size (List.replicate (Z.length + 2) (0, 0)) [] Z 0 Z.length (Z.length + 2) (.slice a Z.length c) rfl rfl rfl (by simp) rfl HR1.out (List.nil_prefix) (HZ.out.same (HCA.out.trans HC1.out)).src HB.out (by simp) ?_; intro w2 C2 HR2 HL2 HP2 HC2)
  have HC02 : Hid (Chg (fun _ => False) wa w2) := Lib.hid (HC1.out.any.trans (HC2.out.mono (fun k _ e => by omega))).fresh
  have p0 := HC02.out.cellS HP.out.1 (fun h => h)
  have p1 := HC02.out.cellS HP.out.2 (fun h => h)
  go_wp2_with (at_builtin; refine rngE.wpList_room rfl _ _ _ 22 rfl rfl wa.heap.size C2 ([] ++ Z) [(m0, m1), (m0, m1)] Z.length 2 (Z.length + 2) (.slice (some ⟨w2.heap.size, 0, none⟩) 2 2) rfl rfl rfl HL2.out.symm rfl (HR2.out.chg ((Chg.refl (fun _ => False) _).alloc _) (fun h => h)) HP2.out (rngE.srcLit 2 HM.out) HM.out (by rw [HL2.out]; simp) ?_; intro w3 C3 HR3 HL3 HP3 HC3)
  have HF : Hid (rngE.Row w3 wa.heap.size (Z ++ [(m0, m1), (m0, m1)]) ∧ Chg (fun _ => False) wa w3) := Lib.hid (by
    have e : C3 = Z ++ [(m0, m1), (m0, m1)] := prefix_wholeE HP3.out (by rw [HL3.out]; simp)
    exact ⟨e ▸ HR3.out, ((HC1.out.any.trans (HC2.out.mono (fun k _ e => by omega))).trans (((Chg.refl _ w2).alloc _).trans (HC3.out.mono (fun k _ e => by omega)))).fresh⟩)
  go_ret
  exact ⟨_, rfl, by rw [HSZ.out]; omega, HF.out.1, HCA.out.trans HF.out.2⟩

set_option maxRecDepth 100000 in
set_option maxHeartbeats 2000000 in
theorem twinRanges (Z : List (Int × Int)) (a : Option Addr) (c B : Nat) (w : World) (hz : rngE.In w B (a, Z.length, c) Z) (hl : Z.length ≤ 1000000000) :
    Calls Try.prog 25 #[.slice a Z.length c] w fun e w' => ∃ h, e = .returned (.slice (some ⟨h, 0, none⟩) Z.length (Z.length + 2)) ∧ w.heap.size ≤ h ∧ rngE.Row w' h (Z ++ [(-77, 0), (-77, 0)]) ∧ Chg (fun _ => False) w w' := by
  have HZ := Lib.hid hz
  clear hz
  go_enter Try.func25, Try.ntmps25
  go_wp2_with fail
  refine (twinRng Z (-77, 0) a c B w HZ.out (by decide) hl).mono ?_
  rintro e w1 ⟨h, rfl, h1, h2, h3⟩
  have HH := Lib.hid (show _ ∧ _ ∧ _ from ⟨h1, h2, h3⟩)
  clear h1 h2 h3
  go_wp2
  go_ret
  exact ⟨h, rfl, HH.out⟩
end Go.Proofs.Ytodohgckncnipaa
/- Was a twin of ranges left as it was? (It was.) -/
namespace Go.Proofs.Ytodohgckncnipaa
open Go.RowKit

theorem Elt.Row.cell {α : Type} {E : Elt α} {w : World} {g : Nat} {C : List α} (h : E.Row w g C) {k i j : Nat} {x : α} {u : Value} (hx : C[k]? = some x) (hu : (E.enc x)[i]? = some u) (hj : j = k * E.sz + i) : w.cell? ⟨g, j, none⟩ = some u := by
  have := (h.at' (List.prefix_refl _)).get hx hu
  rw [Nat.zero_add] at this
  rw [hj]
  exact this

set_option maxRecDepth 100000 in
set_option maxHeartbeats 4000000 in
theorem leftRng (X : List (Int × Int)) (m : Int × Int) (a : Option Addr) (h c B : Nat) (w : World) (hr : rngE.Row w h (X ++ [m, m])) (hz : rngE.In w B (a, X.length, c) X) (hl : X.length ≤ 1000000000) :
    Calls Try.prog 68 #[.slice (some ⟨h, 0, none⟩) X.length (X.length + 2), .slice a X.length c, .agg #[.int .i32 m.1, .int .i32 m.2]] w fun e w' => e = .returned (.bool true) ∧ Chg (fun _ => False) w w' := by
  have HR := Lib.hid hr
  have HZ := Lib.hid hz
  obtain ⟨m0, m1⟩ := m
  simp only
  obtain ⟨wa, hwa⟩ : ∃ x, x = w.alloc (.cells #[.int .i32 m0, .int .i32 m1] 54) := ⟨_, rfl⟩
  have p0 : wa.cell? ⟨w.heap.size, 0, none⟩ = some (.int .i32 m0) := by rw [hwa, World.cell?_alloc_new]; rfl
  have p1 : wa.cell? ⟨w.heap.size, 1, none⟩ = some (.int .i32 m1) := by rw [hwa, World.cell?_alloc_new]; rfl
  have HCA : Hid (Chg (fun _ => False) w wa) := Lib.hid (by rw [hwa]; exact (Chg.refl _ _).alloc _)
  have HWA := Lib.hid hwa
  have hra := hr.chg HCA.out (fun h => h)
  have k0 : wa.cell? ⟨h, X.length * 2, none⟩ = some (.int .i32 m0) := hra.cell (k := X.length) (i := 0) (x := (m0, m1)) (by simp) rfl (by show _ = X.length * 2 + 0; omega)
  have k1 : wa.cell? ⟨h, X.length * 2 + 1, none⟩ = some (.int .i32 m1) := hra.cell (k := X.length) (i := 1) (x := (m0, m1)) (by simp) rfl (by show _ = X.length * 2 + 1; omega)
  have k2 : wa.cell? ⟨h, X.length * 2 + 2, none⟩ = some (.int .i32 m0) := hra.cell (k := X.length + 1) (i := 0) (x := (m0, m1)) (by simp) rfl (by show _ = (X.length + 1) * 2 + 0; omega)
  have k3 : wa.cell? ⟨h, X.length * 2 + 3, none⟩ = some (.int .i32 m1) := hra.cell (k := X.length + 1) (i := 1) (x := (m0, m1)) (by simp) rfl (by show _ = (X.length + 1) * 2 + 1; omega)
  have HP := Lib.hid (show _ ∧ _ ∧ _ ∧ _ ∧ _ ∧ _ from ⟨p0, p1, k0, k1, k2, k3⟩)
  clear hr hz hwa hra p0 p1 k0 k1 k2 k3
  have e2 : X.length + 2 - X.length = 2 := by omega
  go_enter Try.func68, Try.ntmps68
  go_upto_region 1 with (fail)
  rw [← HWA.out]
  go_upto_region 2 with (fail)
  refine wp_region_same (fun w' => Chg (fun _ => False) wa w') (by kernel_rfl) (by kernel_rfl) ?_ ?_
  · exact (Chg.refl _ _).drew
  (refine wpC_read rfl (fun _ _ _ h => h) (fun K hK => ?_); apply Exists.intro; refine ⟨fun _ w' _ hC => ?_, ?_⟩; ((skip); go_simp; try with_reducible rfl); (try go_simp); refine hK _ ?_; clear hK K)
  (refine wpC_read rfl (fun _ _ _ h => h) (fun K hK => ?_); apply Exists.intro; refine ⟨fun _ w' _ hC => ?_, ?_⟩; ((skip); go_simp; try with_reducible rfl); (try go_simp); refine hK _ ?_; clear hK K)
  refine wpC_call rfl (Value.bool true )  66  ( #[.slice (some ⟨h, 0, none⟩) X.length (X.length + 2), .slice a X.length c]) (fun w' => by go_simp) (fun _ w' _ hC => ?_) (fun K hK => ?_)
  · refine (sameRng X (some ⟨h, 0, none⟩) a _ c 0 B w' ⟨rfl, by show X.length ≤ X.length + 2; omega, h, 0, (HR.out.chg (HCA.out.trans hC) (fun h => h)).at' (List.prefix_append _ _), fun _ => ⟨rfl, Nat.zero_le _⟩⟩ (HZ.out.same (HCA.out.trans hC)) (by omega)).mono ?_
    rintro e w2 ⟨rfl, hc⟩
    exact ⟨rfl, hC.trans hc⟩
  ((try go_simp); refine hK _ ?_; clear hK K)
  (refine wpC_read rfl (fun _ _ _ h => h) (fun K hK => ?_); apply Exists.intro; refine ⟨fun _ w' _ hC => ?_, ?_⟩; ((skip); go_simp; try with_reducible rfl); (try go_simp); refine hK _ ?_; clear hK K); (refine wpC_read rfl (fun _ _ _ h => h) (fun K hK => ?_); apply Exists.intro; refine ⟨fun _ w' _ hC => ?_, ?_⟩; ((skip); go_simp; try with_reducible rfl); (try go_simp); refine hK _ ?_; clear hK K); (refine wpC_read rfl (fun _ _ _ h => h) (fun K hK => ?_); apply Exists.intro; refine ⟨fun _ w' _ hC => ?_, ?_⟩; ((skip); go_simp; try with_reducible rfl); (try go_simp); refine hK _ ?_; clear hK K); (refine wpC_read rfl (fun _ _ _ h => h) (fun K hK => ?_); apply Exists.intro; refine ⟨fun _ w' _ hC => ?_, ?_⟩; ((skip); go_simp; try with_reducible rfl); (try go_simp); refine hK _ ?_; clear hK K); (refine wpC_read rfl (fun _ _ _ h => h) (fun K hK => ?_); apply Exists.intro; refine ⟨fun _ w' _ hC => ?_, ?_⟩; ((skip); go_simp; try with_reducible rfl); (try go_simp); refine hK _ ?_; clear hK K); (refine wpC_read rfl (fun _ _ _ h => h) (fun K hK => ?_); apply Exists.intro; refine ⟨fun _ w' _ hC => ?_, ?_⟩; ((skip); go_simp; try with_reducible rfl); (try go_simp); refine hK _ ?_; clear hK K); (refine wpC_read rfl (fun _ _ _ h => h) (fun K hK => ?_); apply Exists.intro; refine ⟨fun _ w' _ hC => ?_, ?_⟩; ((skip); go_simp; try with_reducible rfl); (try go_simp); refine hK _ ?_; clear hK K); (refine wpC_read rfl (fun _ _ _ h => h) (fun K hK => ?_); apply Exists.intro; refine ⟨fun _ w' _ hC => ?_, ?_⟩; ((have p0 := hC.cellS HP.out.1 (fun h => h); have p1 := hC.cellS HP.out.2.1 (fun h => h); have k0 := hC.cellS HP.out.2.2.1 (fun h => h); have k1 := hC.cellS HP.out.2.2.2.1 (fun h => h); have k2 := hC.cellS HP.out.2.2.2.2.1 (fun h => h); have k3 := hC.cellS HP.out.2.2.2.2.2 (fun h => h)); go_simp; try with_reducible rfl); (try go_simp); refine hK _ ?_; clear hK K); (refine wpC_read rfl (fun _ _ _ h => h) (fun K hK => ?_); apply Exists.intro; refine ⟨fun _ w' _ hC => ?_, ?_⟩; ((have p0 := hC.cellS HP.out.1 (fun h => h); have p1 := hC.cellS HP.out.2.1 (fun h => h); have k0 := hC.cellS HP.out.2.2.1 (fun h => h); have k1 := hC.cellS HP.out.2.2.2.1 (fun h => h); have k2 := hC.cellS HP.out.2.2.2.2.1 (fun h => h); have k3 := hC.cellS HP.out.2.2.2.2.2 (fun h => h)); go_simp; try with_reducible rfl); (try go_simp); refine hK _ ?_; clear hK K); (refine wpC_read rfl (fun _ _ _ h => h) (fun K hK => ?_); apply Exists.intro; refine ⟨fun _ w' _ hC => ?_, ?_⟩; ((skip); go_simp; try with_reducible rfl); (try go_simp); refine hK _ ?_; clear hK K); (refine wpC_read rfl (fun _ _ _ h => h) (fun K hK => ?_); apply Exists.intro; refine ⟨fun _ w' _ hC => ?_, ?_⟩; ((skip); go_simp; try with_reducible rfl); (try go_simp); refine hK _ ?_; clear hK K); (refine wpC_read rfl (fun _ _ _ h => h) (fun K hK => ?_); apply Exists.intro; refine ⟨fun _ w' _ hC => ?_, ?_⟩; ((skip); go_simp; try with_reducible rfl); (try go_simp); refine hK _ ?_; clear hK K); (refine wpC_read rfl (fun _ _ _ h => h) (fun K hK => ?_); apply Exists.intro; refine ⟨fun _ w' _ hC => ?_, ?_⟩; ((skip); go_simp; try with_reducible rfl); (try go_simp); refine hK _ ?_; clear hK K); (refine wpC_read rfl (fun _ _ _ h => h) (fun K hK => ?_); apply Exists.intro; refine ⟨fun _ w' _ hC => ?_, ?_⟩; ((have p0 := hC.cellS HP.out.1 (fun h => h); have p1 := hC.cellS HP.out.2.1 (fun h => h); have k0 := hC.cellS HP.out.2.2.1 (fun h => h); have k1 := hC.cellS HP.out.2.2.2.1 (fun h => h); have k2 := hC.cellS HP.out.2.2.2.2.1 (fun h => h); have k3 := hC.cellS HP.out.2.2.2.2.2 (fun h => h)); go_simp; try with_reducible rfl); (try go_simp); refine hK _ ?_; clear hK K); (refine wpC_read rfl (fun _ _ _ h => h) (fun K hK => ?_); apply Exists.intro; refine ⟨fun _ w' _ hC => ?_, ?_⟩; ((have p0 := hC.cellS HP.out.1 (fun h => h); have p1 := hC.cellS HP.out.2.1 (fun h => h); have k0 := hC.cellS HP.out.2.2.1 (fun h => h); have k1 := hC.cellS HP.out.2.2.2.1 (fun h => h); have k2 := hC.cellS HP.out.2.2.2.2.1 (fun h => h); have k3 := hC.cellS HP.out.2.2.2.2.2 (fun h => h)); go_simp; try with_reducible rfl); (try go_simp); refine hK _ ?_; clear hK K); (refine wpC_read rfl (fun _ _ _ h => h) (fun K hK => ?_); apply Exists.intro; refine ⟨fun _ w' _ hC => ?_, ?_⟩; ((skip); go_simp; try with_reducible rfl); (try go_simp); refine hK _ ?_; clear hK K); (refine wpC_read rfl (fun _ _ _ h => h) (fun K hK => ?_); apply Exists.intro; refine ⟨fun _ w' _ hC => ?_, ?_⟩; ((skip); go_simp; try with_reducible rfl); (try go_simp); refine hK _ ?_; clear hK K); (refine wpC_read rfl (fun _ _ _ h => h) (fun K hK => ?_); apply Exists.intro; refine ⟨fun _ w' _ hC => ?_, ?_⟩; ((skip); go_simp; try with_reducible rfl); (try go_simp); refine hK _ ?_; clear hK K); (refine wpC_read rfl (fun _ _ _ h => h) (fun K hK => ?_); apply Exists.intro; refine ⟨fun _ w' _ hC => ?_, ?_⟩; ((skip); go_simp; try with_reducible rfl); (try go_simp); refine hK _ ?_; clear hK K); (refine wpC_read rfl (fun _ _ _ h => h) (fun K hK => ?_); apply Exists.intro; refine ⟨fun _ w' _ hC => ?_, ?_⟩; ((skip); go_simp; try with_reducible rfl); (try go_simp); refine hK _ ?_; clear hK K)
  refine wpC_nil ?_
  intro w2 hC2
  have HC2 := Lib.hid (HCA.out.trans hC2)
  clear hC2
  go_wp2
  go_ret
  exact ⟨rfl, HC2.out⟩
set_option maxRecDepth 100000 in
set_option maxHeartbeats 2000000 in
theorem leftRanges (X : List (Int × Int)) (a : Option Addr) (h c B : Nat) (w : World) (hr : rngE.Row w h (X ++ [(-77, 0), (-77, 0)])) (hz : rngE.In w B (a, X.length, c) X) (hl : X.length ≤ 1000000000) :
    Calls Try.prog 44 #[.slice (some ⟨h, 0, none⟩) X.length (X.length + 2), .slice a X.length c] w fun e w' => e = .returned (.bool true) ∧ Chg (fun _ => False) w w' := by
  have HZ := Lib.hid hz
  have HR := Lib.hid hr
  clear hz hr
  go_enter Try.func44, Try.ntmps44
  go_wp2_with fail
  refine (leftRng X (-77, 0) a h c B w HR.out HZ.out hl).mono ?_
  rintro e w1 ⟨rfl, hc⟩
  have HC := Lib.hid hc
  clear hc
  go_wp2
  go_ret
  exact ⟨rfl, HC.out⟩
end Go.Proofs.Ytodohgckncnipaa
/- A table as the document has it: harbingerlaw09's Other. -/
namespace Go.Proofs.Ytodohgckncnipaa
open Go.RowKit

set_option maxRecDepth 100000 in
set_option maxHeartbeats 2000000 in
theorem other_any (rs cs ns es : Sl) (w : World) :
    Calls Try.prog 12 #[tabV rs cs ns es] w fun e w' => e = .returned (tabV rs cs ns es) ∧ Chg (fun _ => False) w w' := by
  obtain ⟨ra, rn, rc⟩ := rs
  obtain ⟨ca, cn, cc⟩ := cs
  obtain ⟨na, nn, nc⟩ := ns
  obtain ⟨ea, en, ec⟩ := es
  obtain ⟨wa, hwa⟩ : ∃ x, x = (w.alloc (.cells #[.slice ra rn rc, .slice ca cn cc, .slice na nn nc, .slice ea en ec] 26)).alloc (.cells #[.slice none 0 0, .slice none 0 0, .slice none 0 0, .slice none 0 0] 33) := ⟨_, rfl⟩
  have HCA : Hid (Chg (fun _ => False) w wa) := Lib.hid (by rw [hwa]; exact ((Chg.refl _ _).alloc _).alloc _)
  obtain ⟨q0, q1, q2, q3⟩ : wa.cell? ⟨w.heap.size, 0, none⟩ = some (.slice ra rn rc) ∧ wa.cell? ⟨w.heap.size, 1, none⟩ = some (.slice ca cn cc) ∧ wa.cell? ⟨w.heap.size, 2, none⟩ = some (.slice na nn nc) ∧ wa.cell? ⟨w.heap.size, 3, none⟩ = some (.slice ea en ec) := by
    rw [hwa]
    exact (tabBox w (ra, rn, rc) (ca, cn, cc) (na, nn, nc) (ea, en, ec) 26).chg ((Chg.refl (fun _ => False) _).alloc _) (fun h => h)
  obtain ⟨y0, y1, y2, y3, z0, z1, z2, z3⟩ : wa.cell? ⟨w.heap.size + 1, 0, none⟩ = some (.slice none 0 0) ∧ wa.cell? ⟨w.heap.size + 1, 1, none⟩ = some (.slice none 0 0) ∧ wa.cell? ⟨w.heap.size + 1, 2, none⟩ = some (.slice none 0 0) ∧ wa.cell? ⟨w.heap.size + 1, 3, none⟩ = some (.slice none 0 0) ∧ wa.frozen? ⟨w.heap.size + 1, 0, none⟩ = false ∧ wa.frozen? ⟨w.heap.size + 1, 1, none⟩ = false ∧ wa.frozen? ⟨w.heap.size + 1, 2, none⟩ = false ∧ wa.frozen? ⟨w.heap.size + 1, 3, none⟩ = false := by
    have e : w.heap.size + 1 = (w.alloc (.cells #[.slice ra rn rc, .slice ca cn cc, .slice na nn nc, .slice ea en ec] 26)).heap.size := by simp
    rw [hwa, e]
    exact ⟨by rw [World.cell?_alloc_new]; rfl, by rw [World.cell?_alloc_new]; rfl, by rw [World.cell?_alloc_new]; rfl, by rw [World.cell?_alloc_new]; rfl, World.frozen?_alloc_new _ _ _ _, World.frozen?_alloc_new _ _ _ _, World.frozen?_alloc_new _ _ _ _, World.frozen?_alloc_new _ _ _ _⟩
  obtain ⟨s0, s1, s2, s3, hsc, -⟩ := store4 (.slice ra rn rc) (.slice ca cn cc) (.slice na nn nc) (.slice ea en ec) y0 y1 y2 y3
  have HF : Hid (Chg (fun _ => False) w ((((wa.setCell ⟨w.heap.size + 1, 0, none⟩ (.slice ra rn rc)).setCell ⟨w.heap.size + 1, 1, none⟩ (.slice ca cn cc)).setCell ⟨w.heap.size + 1, 2, none⟩ (.slice na nn nc)).setCell ⟨w.heap.size + 1, 3, none⟩ (.slice ea en ec))) := Lib.hid ((HCA.out.any (S := fun k => w.heap.size ≤ k)).trans (hsc.mono (fun k _ e => by omega))).fresh
  have HWA := Lib.hid hwa
  have HS := Lib.hid (show _ ∧ _ ∧ _ ∧ _ from ⟨s0, s1, s2, s3⟩)
  clear hwa hsc s0 s1 s2 s3
  show Calls Try.prog 12 #[.agg #[.slice ra rn rc, .slice ca cn cc, .slice na nn nc, .slice ea en ec]] w _
  go_enter Try.func12, Try.ntmps12
  go_upto_region 1 with (fail)
  rw [← HWA.out]
  go_wp2
  obtain ⟨s0, s1, s2, s3⟩ := HS.out
  exact bodyPost_ret (v := .agg #[.slice ra rn rc, .slice ca cn cc, .slice na nn nc, .slice ea en ec]) (by simp [results, Try.results12, go_sem, s0, s1, s2, s3]) rfl ⟨rfl, HF.out⟩
end Go.Proofs.Ytodohgckncnipaa
/- The statements' twins by name: lists of ints. -/
namespace Go.Proofs.Ytodohgckncnipaa
open Go.RowKit

theorem twinNums_any (Z : List Int) (a : Option Addr) (g o c : Nat) (w : World) (hz : I.BytesAt w g o Z) (ha : 0 < Z.length → a = some ⟨g, o, none⟩) (hl : Z.length ≤ 1000000000) :
    Calls Try.prog 26 #[.slice a Z.length c] w fun e w' => ∃ h, e = .returned (.slice (some ⟨h, 0, none⟩) Z.length (Z.length + 2)) ∧ w.heap.size ≤ h ∧ I.Row w' h (Z ++ [-77, -77]) ∧ Chg (fun _ => False) w w' := by
  have HT := Lib.hid (I.twin_any Z (-77) a g o c w hz ha (by constructor <;> omega) hl)
  clear hz ha
  go_enter Try.func26, Try.ntmps26
  go_wp2_with fail
  refine HT.out.mono ?_
  rintro e w1 ⟨h, rfl, h1, h2, h3⟩
  go_wp2
  go_ret
  exact ⟨h, rfl, h1, h2, h3⟩
theorem leftNums_any (Z X : List Int) (a : Option Addr) (h g o c : Nat) (w : World) (hr : I.Row w h (X ++ [-77, -77])) (hz : I.BytesAt w g o Z) (ha : 0 < Z.length → a = some ⟨g, o, none⟩) (hl : X.length ≤ 1000000000) :
    Calls Try.prog 45 #[.slice (some ⟨h, 0, none⟩) X.length (X.length + 2), .slice a Z.length c] w fun e w' => e = .returned (.bool (decide (X = Z))) ∧ Chg (fun _ => False) w w' := by
  have HT := Lib.hid (I.left_any Z X (-77) a h g o c w hr hz ha hl)
  clear hr hz ha
  go_enter Try.func45, Try.ntmps45
  go_wp2_with fail
  refine HT.out.mono ?_
  rintro e w1 ⟨rfl, h3⟩
  go_wp2
  go_ret
  exact ⟨rfl, h3⟩
theorem sameNums_any (X Y : List Int) (ax ay : Option Addr) (gx ox gy oy cx cy : Nat) (w : World) (hx : I.BytesAt w gx ox X) (hax : 0 < X.length → ax = some ⟨gx, ox, none⟩) (hy : I.BytesAt w gy oy Y) (hay : 0 < Y.length → ay = some ⟨gy, oy, none⟩) (hl : X.length ≤ 1000000000000) :
    Calls Try.prog 43 #[.slice ax X.length cx, .slice ay Y.length cy] w fun e w' => e = .returned (.bool (decide (X = Y))) ∧ Chg (fun _ => False) w w' := by
  have HT := Lib.hid (I.same_any X Y ax ay gx ox gy oy cx cy w hx hax hy hay hl)
  clear hx hy hax hay
  go_enter Try.func43, Try.ntmps43
  go_wp2_with fail
  refine HT.out.mono ?_
  rintro e w1 ⟨rfl, h3⟩
  go_wp2
  go_ret
  exact ⟨rfl, h3⟩
end Go.Proofs.Ytodohgckncnipaa
/- A table's twin: harbingerlaw09.Twin (printed by wip/gen/twinp.py). -/
namespace Go.Proofs.Ytodohgckncnipaa
open Go.RowKit

theorem twinInt (L : List Int) (a : Option Addr) (c B : Nat) (w : World) (h : intE.In w B (a, L.length, c) L) (hl : L.length ≤ 1000000000) :
    Calls Try.prog 26 #[.slice a L.length c] w fun e w' => ∃ h, e = .returned (.slice (some ⟨h, 0, none⟩) L.length (L.length + 2)) ∧ w.heap.size ≤ h ∧ intE.Row w' h (L ++ [-77, -77]) ∧ Chg (fun _ => False) w w' := by
  obtain ⟨h1, h2, g, o, h3, h4⟩ := h
  refine (twinNums_any L a g o c w (intAt.1 h3) (fun hp => (h4 hp).1) hl).mono ?_
  rintro e w' ⟨h, rfl, k1, k2, k3⟩
  exact ⟨h, rfl, k1, intRow.2 k2, k3⟩
theorem leftInt (L : List Int) (a : Option Addr) (h c B : Nat) (w : World) (hr : intE.Row w h (L ++ [-77, -77])) (hz : intE.In w B (a, L.length, c) L) (hl : L.length ≤ 1000000000) :
    Calls Try.prog 45 #[.slice (some ⟨h, 0, none⟩) L.length (L.length + 2), .slice a L.length c] w fun e w' => e = .returned (.bool true) ∧ Chg (fun _ => False) w w' := by
  obtain ⟨h1, h2, g, o, h3, h4⟩ := hz
  refine (leftNums_any L L a h g o c w (intRow.1 hr) (intAt.1 h3) (fun hp => (h4 hp).1) hl).mono ?_
  rintro e w' ⟨rfl, k⟩
  exact ⟨by simp, k⟩
/-- A list with marks behind it. -/
def Mrk {α : Type} (E : Elt α) (w : World) (B : Nat) (s : Sl) (L : List α) (m : α) : Prop := ∃ h, s = (some ⟨h, 0, none⟩, L.length, L.length + 2) ∧ B ≤ h ∧ E.Row w h (L ++ [m, m])
theorem Mrk.same {α : Type} {E : Elt α} {w w' : World} {B : Nat} {s : Sl} {L : List α} {m : α} (h : Mrk E w B s L m) (hc : Chg (fun _ => False) w w') : Mrk E w' B s L m := by
  obtain ⟨g, h1, h2, h3⟩ := h
  exact ⟨g, h1, h2, h3.chg hc (fun h => h)⟩
theorem Mrk.in' {α : Type} {E : Elt α} {w : World} {B : Nat} {s : Sl} {L : List α} {m : α} (h : Mrk E w B s L m) : E.In w B s L := by
  obtain ⟨g, rfl, h2, h3⟩ := h
  exact ⟨rfl, by show L.length ≤ L.length + 2; omega, g, 0, h3.at' (List.prefix_append _ _), fun _ => ⟨rfl, h2⟩⟩
/-- Lists that lie one behind the other. -/
def RiseT (rs cs es : Sl) (X : List Sl) : Prop := ∃ hs : List Nat, (rs :: cs :: es :: X).map (fun s => s.1) = hs.map (fun h => some ⟨h, 0, none⟩) ∧ hs.Pairwise (· < ·)
def Rise (h3 : Nat) (X : List Sl) (n : Nat) : Prop := ∃ hs : List Nat, X.map (fun s => s.1) = hs.map (fun h => some ⟨h, 0, none⟩) ∧ (h3 :: hs).Pairwise (· < ·) ∧ ∀ h ∈ h3 :: hs, h < n
theorem Rise.nil {h3 n : Nat} (h : h3 < n) : Rise h3 [] n := ⟨[], rfl, by simp, by simpa using h⟩
theorem Rise.mono {h3 n m : Nat} {X : List Sl} (h : Rise h3 X n) (hm : n ≤ m) : Rise h3 X m := by
  obtain ⟨hs, h1, h2, h4⟩ := h
  exact ⟨hs, h1, h2, fun x hx => Nat.lt_of_lt_of_le (h4 x hx) hm⟩
theorem Rise.push {h3 n m g a b : Nat} {X : List Sl} (h : Rise h3 X n) (hg : n ≤ g) (hm : g < m) : Rise h3 (X ++ [(some ⟨g, 0, none⟩, a, b)]) m := by
  obtain ⟨hs, h1, h2, h4⟩ := h
  refine ⟨hs ++ [g], by rw [List.map_append, List.map_append, h1]; rfl, ?_, fun x hx => ?_⟩
  · rw [← List.cons_append, List.pairwise_append]
    refine ⟨h2, by simp, fun x hx y hy => ?_⟩
    rw [List.mem_singleton] at hy
    subst hy
    exact Nat.lt_of_lt_of_le (h4 x hx) hg
  · rw [← List.cons_append, List.mem_append, List.mem_singleton] at hx
    rcases hx with hx | rfl
    · have := h4 x hx; omega
    · exact hm
theorem Rise.all {h0 h1 h3 n a b c a' b' c' : Nat} {X : List Sl} (h : Rise h3 X n) (h01 : h0 < h1) (h13 : h1 < h3) : RiseT (some ⟨h0, 0, none⟩, a, a') (some ⟨h1, 0, none⟩, b, b') (some ⟨h3, 0, none⟩, c, c') X := by
  obtain ⟨hs, e1, e2, -⟩ := h
  refine ⟨h0 :: h1 :: h3 :: hs, by simp [e1], ?_⟩
  have hlt : ∀ x ∈ hs, h3 < x := fun x hx => (List.pairwise_cons.1 e2).1 x hx
  refine List.pairwise_cons.2 ⟨fun x hx => ?_, List.pairwise_cons.2 ⟨fun x hx => ?_, e2⟩⟩
  · simp only [List.mem_cons] at hx
    rcases hx with rfl | rfl | hx
    · exact h01
    · omega
    · have := hlt x hx; omega
  · simp only [List.mem_cons] at hx
    rcases hx with rfl | hx
    · exact h13
    · have := hlt x hx; omega
/-- A table's twin in memory. -/
structure TwT (w : World) (B : Nat) (rs cs ns es : Sl) (t : TabD) : Prop where
  r : Mrk rngE w B rs t.r (-77, 0)
  c : Mrk intE w B cs t.c (-77)
  e : Mrk intE w B es t.e (-77)
  n : ∃ X : List Sl, listE.Own w B (slV ns) X ∧ X.length = t.n.length ∧ (∀ (j : Nat) x l, X[j]? = some x → t.n[j]? = some l → Mrk intE w B x l (-77)) ∧ RiseT rs cs es X
theorem TwT.same {w w' : World} {B : Nat} {rs cs ns es : Sl} {t : TabD} (h : TwT w B rs cs ns es t) (hc : Chg (fun _ => False) w w') : TwT w' B rs cs ns es t :=
  ⟨h.r.same hc, h.c.same hc, h.e.same hc, by
    obtain ⟨X, h1, h2, h3, h4⟩ := h.n
    exact ⟨X, h1.chg hc (fun _ _ _ h => h), h2, (fun j x l hx hl => (h3 j x l hx hl).same hc), h4⟩⟩
theorem Mrk.chgB {α : Type} {E : Elt α} {S : Nat → Prop} {w w' : World} {B : Nat} {s : Sl} {L : List α} {m : α} (h : Mrk E w B s L m) (hc : Chg S w w') (hs : ∀ g, B ≤ g → ¬ S g) : Mrk E w' B s L m := by
  obtain ⟨g, h1, h2, h3⟩ := h
  exact ⟨g, h1, h2, h3.chg hc (hs g h2)⟩
theorem Mrk.lower {α : Type} {E : Elt α} {w : World} {B B' : Nat} {s : Sl} {L : List α} {m : α} (h : Mrk E w B s L m) (hB : B' ≤ B) : Mrk E w B' s L m := by
  obtain ⟨g, h1, h2, h3⟩ := h
  exact ⟨g, h1, by omega, h3⟩
theorem TwT.chgB {S : Nat → Prop} {w w' : World} {B : Nat} {rs cs ns es : Sl} {t : TabD} (h : TwT w B rs cs ns es t) (hc : Chg S w w') (hs : ∀ g, B ≤ g → ¬ S g) : TwT w' B rs cs ns es t :=
  ⟨h.r.chgB hc hs, h.c.chgB hc hs, h.e.chgB hc hs, by
    obtain ⟨X, h1, h2, h3, h4⟩ := h.n
    exact ⟨X, h1.chg hc (fun g hg _ => hs g hg), h2, (fun j x l hx hl => (h3 j x l hx hl).chgB hc hs), h4⟩⟩
theorem TwT.lower {w : World} {B B' : Nat} {rs cs ns es : Sl} {t : TabD} (h : TwT w B rs cs ns es t) (hB : B' ≤ B) : TwT w B' rs cs ns es t :=
  ⟨h.r.lower hB, h.c.lower hB, h.e.lower hB, by
    obtain ⟨X, h1, h2, h3, h4⟩ := h.n
    exact ⟨X, h1.lower hB, h2, (fun j x l hx hl => (h3 j x l hx hl).lower hB), h4⟩⟩
theorem Elt.Own.inS {α : Type} {E : Elt α} {w : World} {B : Nat} {s : Sl} {X : List α} (h : E.Own w B (slV s) X) : E.In w B s X := by
  obtain ⟨a, c, hv, hc, _⟩ := h.clip
  obtain ⟨s1, s2, s3⟩ := s
  unfold slV at hv h
  injection hv with e1 e2 e3
  simp only at e1 e2 e3 h
  subst e1 e2 e3
  exact h.in' hc
theorem TwT.tab {w : World} {B : Nat} {rs cs ns es : Sl} {t : TabD} (h : TwT w B rs cs ns es t) : TabIn w B rs cs ns es t :=
  ⟨h.r.in', h.c.in', by
    obtain ⟨X, h1, h2, h3, -⟩ := h.n
    exact ⟨X, h1.inS, h2, fun j x l hx hl => (h3 j x l hx hl).in'⟩, h.e.in'⟩
/-- A twin that is being made: its block, its lists. -/
structure TwM (bo B : Nat) (w : World) (t : TabD) (N : List (List Int)) (h0 h1 h3 : Nat) (v2 : Value) : Prop where
  c0 : w.cell? ⟨bo, 0, none⟩ = some (.slice (some ⟨h0, 0, none⟩) t.r.length (t.r.length + 2))
  c1 : w.cell? ⟨bo, 1, none⟩ = some (.slice (some ⟨h1, 0, none⟩) t.c.length (t.c.length + 2))
  c2 : w.cell? ⟨bo, 2, none⟩ = some v2
  c3 : w.cell? ⟨bo, 3, none⟩ = some (.slice (some ⟨h3, 0, none⟩) t.e.length (t.e.length + 2))
  z2 : w.frozen? ⟨bo, 2, none⟩ = false
  r : rngE.Row w h0 (t.r ++ [(-77, 0), (-77, 0)])
  c : intE.Row w h1 (t.c ++ [-77, -77])
  e : intE.Row w h3 (t.e ++ [-77, -77])
  hB : B ≤ h0 ∧ B ≤ h1 ∧ B ≤ h3 ∧ B ≤ bo
  n : ∃ X : List Sl, listE.Own w B v2 X ∧ X.length = N.length ∧ (∀ (j : Nat) x l, X[j]? = some x → N[j]? = some l → ∃ h, x = (some ⟨h, 0, none⟩, l.length, l.length + 2) ∧ B ≤ h ∧ h ≠ bo ∧ v2.ownBlock ≠ some h ∧ intE.Row w h (l ++ [-77, -77])) ∧ Rise h3 X w.heap.size
  ap : ∀ g, v2.ownBlock = some g → g ≠ bo ∧ g ≠ h0 ∧ g ≠ h1 ∧ g ≠ h3
  ne : h0 ≠ bo ∧ h1 ≠ bo ∧ h3 ≠ bo
  ri : h0 < h1 ∧ h1 < h3
theorem TwM.lt {bo B : Nat} {w : World} {t : TabD} {N : List (List Int)} {h0 h1 h3 : Nat} {v2 : Value} (h : TwM bo B w t N h0 h1 h3 v2) : bo < w.heap.size := World.block_lt_of_cell? _ _ h.c0
theorem TwM.same {bo B : Nat} {w w' : World} {t : TabD} {N : List (List Int)} {h0 h1 h3 : Nat} {v2 : Value} (h : TwM bo B w t N h0 h1 h3 v2) (hc : Chg (fun _ => False) w w') : TwM bo B w' t N h0 h1 h3 v2 :=
  ⟨hc.cellS h.c0 (fun h => h), hc.cellS h.c1 (fun h => h), hc.cellS h.c2 (fun h => h), hc.cellS h.c3 (fun h => h), (hc.frozen (p := ⟨bo, 2, none⟩) h.lt (fun h => h)).trans h.z2, h.r.chg hc (fun h => h), h.c.chg hc (fun h => h), h.e.chg hc (fun h => h), h.hB, by
    obtain ⟨X, h1, h2, h3, h4⟩ := h.n
    exact ⟨X, h1.chgB hc (fun _ _ h => h), h2, (fun j x l hx hl => by
      obtain ⟨g, k1, k2, k3, k4, k5⟩ := h3 j x l hx hl
      exact ⟨g, k1, k2, k3, k4, k5.chg hc (fun h => h)⟩), h4.mono hc.size⟩, h.ap, h.ne, h.ri⟩
theorem TwM.n6 {bo B : Nat} {w w' : World} {t : TabD} {N : List (List Int)} {h0 h1 h3 : Nat} {v2 : Value} (h : TwM bo B w t N h0 h1 h3 v2) (hc : Chg (fun _ => False) w w') : ∃ X : List Sl, listE.Own w' B v2 X ∧ X.length = N.length ∧ (∀ (j : Nat) x l, X[j]? = some x → N[j]? = some l → ∃ h, x = (some ⟨h, 0, none⟩, l.length, l.length + 2) ∧ B ≤ h ∧ h ≠ bo ∧ v2.ownBlock ≠ some h ∧ intE.Row w' h (l ++ [-77, -77])) ∧ Rise h3 X w.heap.size := by
  obtain ⟨X, h1, h2, h3, h4⟩ := h.n
  exact ⟨X, h1.chgB hc (fun _ _ h => h), h2, (fun j x l hx hl => by
    obtain ⟨g, k1, k2, k3, k4, k5⟩ := h3 j x l hx hl
    exact ⟨g, k1, k2, k3, k4, k5.chg hc (fun h => h)⟩), h4⟩
/-- A row more. -/
theorem TwM.push {bo B : Nat} {w w1 : World} {t : TabD} {N : List (List Int)} {h0 h1 h3 hx n0 : Nat} {v2 v2' : Value} {l : List Int} (h : TwM bo B w t N h0 h1 h3 v2) (hn0 : n0 ≤ hx)
    (hr : intE.Row w hx (l ++ [-77, -77])) (hB : B ≤ hx) (hb : hx ≠ bo) (hv2 : v2.ownBlock ≠ some hx)
    (hap : ∃ X, listE.Own w B v2 X ∧ X.length = N.length ∧ (∀ (j : Nat) x l, X[j]? = some x → N[j]? = some l → ∃ h, x = (some ⟨h, 0, none⟩, l.length, l.length + 2) ∧ B ≤ h ∧ h ≠ bo ∧ v2.ownBlock ≠ some h ∧ intE.Row w h (l ++ [-77, -77])) ∧ Rise h3 X n0 ∧ listE.Own w1 B v2' (X ++ [(some ⟨hx, 0, none⟩, l.length, l.length + 2)])) (hc : Chg (fun k => v2.ownBlock = some k) w w1) (hv : v2'.ownBlock = v2.ownBlock ∨ v2'.ownBlock = some w.heap.size) :
    (w1.cell? ⟨bo, 2, none⟩ = some v2 ∧ w1.frozen? ⟨bo, 2, none⟩ = false) ∧ TwM bo B (w1.setCell ⟨bo, 2, none⟩ v2') t (N ++ [l]) h0 h1 h3 v2' := by
  have hlt := h.lt
  have hbo : ¬ v2.ownBlock = some bo := fun e => (h.ap _ e).1 rfl
  have c2 := hc.cellS h.c2 hbo
  have z2 := (hc.frozen (p := ⟨bo, 2, none⟩) hlt hbo).trans h.z2
  have hs := setCellChg w1 bo 2 v2'
  have oth : ∀ (k : Nat) (u : Value), k ≠ 2 → w.cell? ⟨bo, k, none⟩ = some u → (w1.setCell ⟨bo, 2, none⟩ v2').cell? ⟨bo, k, none⟩ = some u := fun k u hk hu => by
    rw [World.cell?_setCell_other _ _ _ _ (by intro e; injection e with _ e; exact hk e.symm)]
    exact hc.cellS hu hbo
  have keep : ∀ {α : Type} {E : Elt α} {g : Nat} {L : List α}, E.Row w g L → v2.ownBlock ≠ some g → g ≠ bo → E.Row (w1.setCell ⟨bo, 2, none⟩ v2') g L := fun ho k1 k2 =>
    (ho.chg hc k1).chg hs k2
  obtain ⟨X, hX, hXl, hXn, hXr, hX1⟩ := hap
  have hsz : w.heap.size ≤ (w1.setCell ⟨bo, 2, none⟩ v2').heap.size := Nat.le_trans hc.size hs.size
  have far : ∀ {g : Nat}, v2.ownBlock ≠ some g → g < w.heap.size → v2'.ownBlock ≠ some g := fun {g} k1 k2 e => by
    rcases hv with hv | hv
    · rw [hv] at e; exact k1 e
    · rw [hv] at e
      have := Option.some.inj e
      omega
  have f0 : v2.ownBlock ≠ some h0 := fun e => (h.ap _ e).2.1 rfl
  have f1 : v2.ownBlock ≠ some h1 := fun e => (h.ap _ e).2.2.1 rfl
  have f3 : v2.ownBlock ≠ some h3 := fun e => (h.ap _ e).2.2.2 rfl
  refine ⟨⟨c2, z2⟩, oth 0 _ (by decide) h.c0, oth 1 _ (by decide) h.c1, World.cell?_setCell_same _ _ _ c2, oth 3 _ (by decide) h.c3, (World.frozen?_setCell _ _ _ _).trans z2,
    keep h.r f0 h.ne.1, keep h.c f1 h.ne.2.1, keep h.e f3 h.ne.2.2, h.hB, ⟨X ++ [_], hX1.chgB hs (fun g hg e => ?_), by simp [hXl], (fun j x m hx hm => ?_), hXr.push hn0 (Nat.lt_of_lt_of_le hr.lt hsz)⟩, fun g hg => ⟨?_, ?_, ?_, ?_⟩, h.ne, h.ri⟩
  · subst e; exact far hbo hlt hg
  · by_cases hj : j < X.length
    · rw [List.getElem?_append_left hj] at hx
      rw [List.getElem?_append_left (by omega)] at hm
      obtain ⟨g, k1, k2, k3, k4, k5⟩ := hXn j x m hx hm
      exact ⟨g, k1, k2, k3, far k4 k5.lt, keep k5 k4 k3⟩
    · have hj' : j = X.length := by
        have := (List.getElem?_eq_some_iff.1 hx).1
        simp only [List.length_append, List.length_singleton] at this
        omega
      subst hj'
      rw [List.getElem?_append_right (Nat.le_refl _), Nat.sub_self] at hx
      rw [hXl, List.getElem?_append_right (Nat.le_refl _), Nat.sub_self] at hm
      simp only [List.getElem?_cons_zero, Option.some.injEq] at hx hm
      subst hx hm
      exact ⟨_, rfl, hB, hb, far hv2 hr.lt, keep hr hv2 hb⟩
  · intro e; subst e; exact far hbo hlt hg
  · intro e; subst e; exact far f0 h.r.lt hg
  · intro e; subst e; exact far f1 h.c.lt hg
  · intro e; subst e; exact far f3 h.e.lt hg
/-- It is a twin. -/
theorem TwM.tw {bo B : Nat} {w : World} {t : TabD} {h0 h1 h3 : Nat} {ns : Sl} (h : TwM bo B w t t.n h0 h1 h3 (slV ns)) : TwT w B (some ⟨h0, 0, none⟩, t.r.length, t.r.length + 2) (some ⟨h1, 0, none⟩, t.c.length, t.c.length + 2) ns (some ⟨h3, 0, none⟩, t.e.length, t.e.length + 2) t :=
  ⟨⟨h0, rfl, h.hB.1, h.r⟩, ⟨h1, rfl, h.hB.2.1, h.c⟩, ⟨h3, rfl, h.hB.2.2.1, h.e⟩, by
    obtain ⟨X, k1, k2, k3, k4⟩ := h.n
    exact ⟨X, k1, k2, (fun j x l hx hl => by
      obtain ⟨g, m1, m2, m3, m4, m5⟩ := k3 j x l hx hl
      exact ⟨g, m1, m2, m5⟩), k4.all h.ri.1 h.ri.2⟩⟩

set_option maxRecDepth 100000 in
set_option maxHeartbeats 8000000 in
theorem twinT_any (t : TabD) (rs cs ns es : Sl) (B : Nat) (w : World) (h : TabIn w B rs cs ns es t) (hf : Fair t) :
    Calls Try.prog 9 #[tabV rs cs ns es] w fun e w' => ∃ rs' cs' ns' es', e = .returned (tabV rs' cs' ns' es') ∧ TwT w' w.heap.size rs' cs' ns' es' t ∧ Chg (fun _ => False) w w' := by
  have HTB := Lib.hid h
  have HFR := Lib.hid hf
  obtain ⟨ra, rn, rc⟩ := rs
  obtain ⟨ca, cn, cc⟩ := cs
  obtain ⟨na, nn, nc⟩ := ns
  obtain ⟨ea, en, ec⟩ := es
  obtain ⟨rfl, hr1⟩ := h.r.len
  obtain ⟨rfl, hc1⟩ := h.c.len
  obtain ⟨rfl, hn1⟩ := h.n.len
  obtain ⟨rfl, he1⟩ := h.e.len
  have fr := hf.r
  have fc := hf.c
  have fn := hf.n
  have fe := hf.e
  clear h hf
  obtain ⟨wt, hwt⟩ : ∃ x, x = w.alloc (.cells #[.slice ra t.r.length rc, .slice ca t.c.length cc, .slice na t.n.length nc, .slice ea t.e.length ec] 26) := ⟨_, rfl⟩
  obtain ⟨w2, hw2⟩ : ∃ x, x = wt.alloc (.cells #[.slice none 0 0, .slice none 0 0, .slice none 0 0, .slice none 0 0] 26) := ⟨_, rfl⟩
  have hst : wt.heap.size = w.heap.size + 1 := by rw [hwt]; simp
  have HC2 : Hid (Chg (fun _ => False) w w2) := Lib.hid (by rw [hw2, hwt]; exact ((Chg.refl _ _).alloc _).alloc _)
  have HT2 : Hid (∀ wx, Chg (fun _ => False) w2 wx → wx.cell? ⟨w.heap.size, 0, none⟩ = some (.slice ra t.r.length rc) ∧ wx.cell? ⟨w.heap.size, 1, none⟩ = some (.slice ca t.c.length cc) ∧ wx.cell? ⟨w.heap.size, 2, none⟩ = some (.slice na t.n.length nc) ∧ wx.cell? ⟨w.heap.size, 3, none⟩ = some (.slice ea t.e.length ec)) := Lib.hid (fun wx hx => by
    have h1 : Chg (fun _ => False) wt wx := by rw [hw2] at hx; exact ((Chg.refl _ wt).alloc _).trans hx
    subst hwt
    exact (tabBox w (ra, t.r.length, rc) (ca, t.c.length, cc) (na, t.n.length, nc) (ea, t.e.length, ec) 26).chg h1 (fun h => h))
  have HR2 : Hid (∀ wx, Chg (fun _ => False) w2 wx → (wx.cell? ⟨w.heap.size + 1, 0, none⟩ = some (.slice none 0 0) ∧ wx.cell? ⟨w.heap.size + 1, 1, none⟩ = some (.slice none 0 0) ∧ wx.cell? ⟨w.heap.size + 1, 2, none⟩ = some (.slice none 0 0) ∧ wx.cell? ⟨w.heap.size + 1, 3, none⟩ = some (.slice none 0 0)) ∧ ∀ j, wx.frozen? ⟨w.heap.size + 1, j, none⟩ = false) := Lib.hid (fun wx hx => by
    rw [← hst]
    subst hw2
    refine ⟨⟨hx.cellS ?_ (fun h => h), hx.cellS ?_ (fun h => h), hx.cellS ?_ (fun h => h), hx.cellS ?_ (fun h => h)⟩, fun j => (hx.frozen (p := ⟨wt.heap.size, j, none⟩) (by simp) (fun h => h)).trans (World.frozen?_alloc_new _ _ _ _)⟩ <;> · rw [World.cell?_alloc_new]; rfl)
  have HSW : Hid (w2.heap.size = w.heap.size + 2) := Lib.hid (by rw [hw2]; simp [hst])
  have HWT : Hid (w2 = (w.alloc (.cells #[.slice ra t.r.length rc, .slice ca t.c.length cc, .slice na t.n.length nc, .slice ea t.e.length ec] 26)).alloc (.cells #[.slice none 0 0, .slice none 0 0, .slice none 0 0, .slice none 0 0] 26)) := Lib.hid (by rw [hw2, hwt])
  clear hwt hw2 hst wt
  show Calls Try.prog 9 #[.agg #[.slice ra t.r.length rc, .slice ca t.c.length cc, .slice na t.n.length nc, .slice ea t.e.length ec]] w _
  go_enter Try.func9, Try.ntmps9
  go_upto_region 1 with (fail)
  rw [← HWT.out]
  go_cut [3] (fun s3 wx => ∃ (bo h0 h1 h3 : Nat), s3 = .pointer (some ⟨bo, 0, none⟩) ∧ TwM bo w2.heap.size wx t [] h0 h1 h3 (.slice none 0 0) ∧ Chg (fun _ => False) w2 wx)
  case first =>
    refine wp_region_held (S := Chg (fun _ => False) w2) (by kernel_rfl) ?_
    show wpAnyH _ _ _ _ _ 12 (Array.replicate 12 false) _ w2.drew
    obtain ⟨wd, hwd⟩ : ∃ x, w2.drew = x := ⟨_, rfl⟩
    have HSS : Hid (Chg (fun _ => False) w2 wd) := Lib.hid (by rw [← hwd]; exact (Chg.refl _ _).drew)
    rw [hwd]
    clear hwd
    (refine held_read (i := 0) rfl (by kernel_rfl) (by kernel_rfl) (by kernel_rfl) (fun _ _ _ _ h => h) rfl HSS.out (fun K hK => ?_); apply Exists.intro; refine ⟨fun w' hC => ?_, ?_⟩; ((skip); go_simp; try with_reducible rfl); (try go_simp); refine hK _ ?_; clear hK K)
    (refine held_read (i := 1) rfl (by kernel_rfl) (by kernel_rfl) (by kernel_rfl) (fun _ _ _ _ h => h) rfl HSS.out (fun K hK => ?_); apply Exists.intro; refine ⟨fun w' hC => ?_, ?_⟩; ((obtain ⟨q0, q1, q2, q3⟩ := HT2.out w' hC); go_simp; try with_reducible rfl); (try go_simp); refine hK _ ?_; clear hK K)
    (refine held_read (i := 3) rfl (by kernel_rfl) (by kernel_rfl) (by kernel_rfl) (fun _ _ _ _ h => h) rfl HSS.out (fun K hK => ?_); apply Exists.intro; refine ⟨fun w' hC => ?_, ?_⟩; ((skip); go_simp; try with_reducible rfl); (try go_simp); refine hK _ ?_; clear hK K)
    (refine held_read (i := 4) rfl (by kernel_rfl) (by kernel_rfl) (by kernel_rfl) (fun _ _ _ _ h => h) rfl HSS.out (fun K hK => ?_); apply Exists.intro; refine ⟨fun w' hC => ?_, ?_⟩; ((obtain ⟨q0, q1, q2, q3⟩ := HT2.out w' hC); go_simp; try with_reducible rfl); (try go_simp); refine hK _ ?_; clear hK K)
    (refine held_read (i := 6) rfl (by kernel_rfl) (by kernel_rfl) (by kernel_rfl) (fun _ _ _ _ h => h) rfl HSS.out (fun K hK => ?_); apply Exists.intro; refine ⟨fun w' hC => ?_, ?_⟩; ((skip); go_simp; try with_reducible rfl); (try go_simp); refine hK _ ?_; clear hK K)
    (refine held_read (i := 7) rfl (by kernel_rfl) (by kernel_rfl) (by kernel_rfl) (fun _ _ _ _ h => h) rfl HSS.out (fun K hK => ?_); apply Exists.intro; refine ⟨fun w' hC => ?_, ?_⟩; ((obtain ⟨q0, q1, q2, q3⟩ := HT2.out w' hC); go_simp; try with_reducible rfl); (try go_simp); refine hK _ ?_; clear hK K)
    have HSS0 := HSS
    refine held_call_or (i := 2) (j := 10) (by kernel_rfl) rfl rfl rfl rfl 25 #[.slice ra t.r.length rc] (fun v w'' => ∃ h, v = .slice (some ⟨h, 0, none⟩) t.r.length (t.r.length + 2) ∧ wd.heap.size ≤ h ∧ rngE.Row w'' h (t.r ++ [(-77, 0), (-77, 0)]) ∧ Chg (fun _ => False) wd w'') (by go_simp) ?_ ?_ ?_
    · refine (twinRanges t.r ra rc B wd (HTB.out.same (HC2.out.trans HSS.out)).r fr).mono ?_
      rintro e wy ⟨h, rfl, hb, ho, hc⟩
      exact ⟨_, rfl, HSS.out.trans hc, h, rfl, hb, ho, hc⟩
    · rintro v x0 hs ⟨h0, rfl, hb, ho, hc⟩ K hK
      have HO0 := Lib.hid ho
      have HX0 := Lib.hid hc
      have HB0 : Hid (wd.heap.size ≤ h0 ∧ wd.heap.size ≤ x0.heap.size ∧ w2.heap.size ≤ wd.heap.size) := Lib.hid ⟨hb, hc.size, HSS.out.size⟩
      have HS0 := Lib.hid hs
      clear hb ho hc hs
      (try go_simp)
      refine hK _ ?_
      clear hK K
      refine held_call_or (i := 5) (j := 10) (by kernel_rfl) rfl rfl rfl rfl 26 #[.slice ca t.c.length cc] (fun v w'' => ∃ h, v = .slice (some ⟨h, 0, none⟩) t.c.length (t.c.length + 2) ∧ x0.heap.size ≤ h ∧ intE.Row w'' h (t.c ++ [-77, -77]) ∧ Chg (fun _ => False) x0 w'') (by go_simp) ?_ ?_ ?_
      · refine (twinInt t.c ca cc B x0 (HTB.out.same (HC2.out.trans HS0.out)).c fc).mono ?_
        rintro e wy ⟨h, rfl, hb, ho, hc⟩
        exact ⟨_, rfl, HS0.out.trans hc, h, rfl, hb, ho, hc⟩
      · rintro v x1 hs ⟨h1, rfl, hb, ho, hc⟩ K hK
        have HO1 := Lib.hid ho
        have HX1 := Lib.hid hc
        have HB1 : Hid (x0.heap.size ≤ h1 ∧ x0.heap.size ≤ x1.heap.size ∧ w2.heap.size ≤ x0.heap.size) := Lib.hid ⟨hb, hc.size, HS0.out.size⟩
        have HS1 := Lib.hid hs
        clear hb ho hc hs
        (try go_simp)
        refine hK _ ?_
        clear hK K
        refine held_call_or (i := 8) (j := 10) (by kernel_rfl) rfl rfl rfl rfl 26 #[.slice ea t.e.length ec] (fun v w'' => ∃ h, v = .slice (some ⟨h, 0, none⟩) t.e.length (t.e.length + 2) ∧ x1.heap.size ≤ h ∧ intE.Row w'' h (t.e ++ [-77, -77]) ∧ Chg (fun _ => False) x1 w'') (by go_simp) ?_ ?_ ?_
        · refine (twinInt t.e ea ec B x1 (HTB.out.same (HC2.out.trans HS1.out)).e fe).mono ?_
          rintro e wy ⟨h, rfl, hb, ho, hc⟩
          exact ⟨_, rfl, HS1.out.trans hc, h, rfl, hb, ho, hc⟩
        · rintro v x2 hs ⟨h3, rfl, hb, ho, hc⟩ K hK
          have HO3 := Lib.hid ho
          have HX3 := Lib.hid hc
          have HB3 : Hid (x1.heap.size ≤ h3 ∧ x1.heap.size ≤ x2.heap.size ∧ w2.heap.size ≤ x1.heap.size) := Lib.hid ⟨hb, hc.size, HS1.out.size⟩
          have HS2 := Lib.hid hs
          clear hb ho hc hs
          (try go_simp)
          refine hK _ ?_
          clear hK K
          have HSS := HS2
          (refine held_read (i := 9) rfl (by kernel_rfl) (by kernel_rfl) (by kernel_rfl) (fun _ _ _ _ h => h) rfl HSS.out (fun K hK => ?_); apply Exists.intro; refine ⟨fun w' hC => ?_, ?_⟩; ((skip); go_simp; try with_reducible rfl); (try go_simp); refine hK _ ?_; clear hK K)
          refine held_turn (i := 10) (by kernel_rfl) rfl rfl (fun K hK => ?_)
          apply Exists.intro
          apply Exists.intro
          refine ⟨?_, ?_, ?_⟩
          (go_simp; try first | with_reducible rfl | exact ⟨rfl, rfl⟩)
          exact HS2.out.alloc _
          (try go_simp)
          refine hK _ _ ?_
          clear hK K
          obtain ⟨x3, hn⟩ : ∃ x, x2.alloc (.cells #[.slice none 0 0, .slice none 0 0, .slice none 0 0, .slice none 0 0] 26) = x := ⟨_, rfl⟩
          have HS3 : Hid (Chg (fun _ => False) w2 x3) := Lib.hid (by rw [← hn]; exact HS2.out.alloc _)
          have HAL : Hid (Chg (fun _ => False) x2 x3 ∧ x2.heap.size < x3.heap.size) := Lib.hid (by rw [← hn]; exact ⟨(Chg.refl _ _).alloc _, by simp⟩)
          obtain ⟨y0, y1, y2, y3, y4⟩ : x3.cell? ⟨x2.heap.size, 0, none⟩ = some (.slice none 0 0) ∧ x3.cell? ⟨x2.heap.size, 1, none⟩ = some (.slice none 0 0) ∧ x3.cell? ⟨x2.heap.size, 2, none⟩ = some (.slice none 0 0) ∧ x3.cell? ⟨x2.heap.size, 3, none⟩ = some (.slice none 0 0) ∧ (∀ j, x3.frozen? ⟨x2.heap.size, j, none⟩ = false) := by
            rw [← hn]
            exact ⟨by rw [World.cell?_alloc_new]; rfl, by rw [World.cell?_alloc_new]; rfl, by rw [World.cell?_alloc_new]; rfl, by rw [World.cell?_alloc_new]; rfl, fun j => World.frozen?_alloc_new _ _ _ _⟩
          have HY := Lib.hid (show _ ∧ _ ∧ _ ∧ _ ∧ _ from ⟨y0, y1, y2, y3, y4⟩)
          rw [hn]
          clear hn y0 y1 y2 y3 y4
          have hch : Chg (fun _ => False) x3 x3 := (Chg.refl (fun _ => False) _)
          obtain ⟨y0, y1, y2, y3, y4⟩ : x3.cell? ⟨x2.heap.size, 0, none⟩ = some (.slice none 0 0) ∧ x3.cell? ⟨x2.heap.size, 1, none⟩ = some (.slice none 0 0) ∧ x3.cell? ⟨x2.heap.size, 2, none⟩ = some (.slice none 0 0) ∧ x3.cell? ⟨x2.heap.size, 3, none⟩ = some (.slice none 0 0) ∧ (∀ j, x3.frozen? ⟨x2.heap.size, j, none⟩ = false) :=
            ⟨hch.cellS HY.out.1 (fun h => h), hch.cellS HY.out.2.1 (fun h => h), hch.cellS HY.out.2.2.1 (fun h => h), hch.cellS HY.out.2.2.2.1 (fun h => h), fun j => (hch.frozen (p := ⟨x2.heap.size, j, none⟩) HAL.out.2 (fun h => h)).trans (HY.out.2.2.2.2 j)⟩
          have z0 := y4 0
          have z1 := y4 1
          have z2 := y4 2
          have z3 := y4 3
          have hst4 := store4 (.slice (some ⟨h0, 0, none⟩) t.r.length (t.r.length + 2)) (.slice (some ⟨h1, 0, none⟩) t.c.length (t.c.length + 2)) (.slice none 0 0) (.slice (some ⟨h3, 0, none⟩) t.e.length (t.e.length + 2)) y0 y1 y2 y3
          have HFIN : Hid (TwM x2.heap.size w2.heap.size ((((x3.setCell ⟨x2.heap.size, 0, none⟩ (.slice (some ⟨h0, 0, none⟩) t.r.length (t.r.length + 2))).setCell ⟨x2.heap.size, 1, none⟩ (.slice (some ⟨h1, 0, none⟩) t.c.length (t.c.length + 2))).setCell ⟨x2.heap.size, 2, none⟩ (.slice none 0 0)).setCell ⟨x2.heap.size, 3, none⟩ (.slice (some ⟨h3, 0, none⟩) t.e.length (t.e.length + 2))) t [] h0 h1 h3 (.slice none 0 0) ∧ Chg (fun _ => False) w2 ((((x3.setCell ⟨x2.heap.size, 0, none⟩ (.slice (some ⟨h0, 0, none⟩) t.r.length (t.r.length + 2))).setCell ⟨x2.heap.size, 1, none⟩ (.slice (some ⟨h1, 0, none⟩) t.c.length (t.c.length + 2))).setCell ⟨x2.heap.size, 2, none⟩ (.slice none 0 0)).setCell ⟨x2.heap.size, 3, none⟩ (.slice (some ⟨h3, 0, none⟩) t.e.length (t.e.length + 2)))) := Lib.hid (by
            have s0 := HB0.out; have s1 := HB1.out; have s3 := HB3.out; have sa := HAL.out.2
            have o0 := HO0.out.chg ((((Chg.refl (fun _ => False) _).trans HX1.out).trans HX3.out).trans HAL.out.1) (fun h => h)
            have lt0 := HO0.out.lt
            have n0 : h0 ≠ x2.heap.size := by omega
            have o1 := HO1.out.chg (((Chg.refl (fun _ => False) _).trans HX3.out).trans HAL.out.1) (fun h => h)
            have lt1 := HO1.out.lt
            have n1 : h1 ≠ x2.heap.size := by omega
            have o3 := HO3.out.chg ((Chg.refl (fun _ => False) _).trans HAL.out.1) (fun h => h)
            have lt3 := HO3.out.lt
            have n3 : h3 ≠ x2.heap.size := by omega
            have hw2 : w2.heap.size ≤ x2.heap.size := by
              have := HS2.out.size
              omega
            refine ⟨⟨hst4.1, hst4.2.1, hst4.2.2.1, hst4.2.2.2.1, hst4.2.2.2.2.2.trans (y4 2), o0.chg hst4.2.2.2.2.1 n0, o1.chg hst4.2.2.2.2.1 n1, o3.chg hst4.2.2.2.2.1 n3, ⟨by omega, by omega, by omega, hw2⟩, ⟨[], .nil _ _, rfl, (fun j x l hx => by simp at hx), Rise.nil (o3.chg hst4.2.2.2.2.1 n3).lt⟩, (fun g hg => by cases hg), ⟨n0, n1, n3⟩, ⟨by omega, by omega⟩⟩, ?_⟩
            exact ((HS3.out.any (S := fun k => w2.heap.size ≤ k)).trans (hst4.2.2.2.2.1.mono (fun k _ e => by omega))).fresh)
          clear hch hst4 y4
          refine held_store (i := 11) (by kernel_rfl) rfl rfl (fun K hK => ?_)
          apply Exists.intro
          refine ⟨?_, ?_, ?_⟩
          (go_simp; try first | with_reducible rfl | exact ⟨rfl, rfl⟩)
          exact HFIN.out.2
          (try go_simp)
          refine hK _ _ ?_
          clear hK K
          refine wpAnyH_done (by kernel_rfl) ?_ _
          go_wp2
          go_meet
          exact ⟨_, _, _, _, rfl, HFIN.out.1, HFIN.out.2⟩
        · intro K hK
          apply Exists.intro
          apply Exists.intro
          refine ⟨?_, ?_, ?_⟩
          (go_simp; try first | with_reducible rfl | exact ⟨rfl, rfl⟩)
          exact HS1.out.alloc _
          (try go_simp)
          refine hK _ _ ?_
          clear hK K
          obtain ⟨x2, hn⟩ : ∃ x, x1.alloc (.cells #[.slice none 0 0, .slice none 0 0, .slice none 0 0, .slice none 0 0] 26) = x := ⟨_, rfl⟩
          have HS2 : Hid (Chg (fun _ => False) w2 x2) := Lib.hid (by rw [← hn]; exact HS1.out.alloc _)
          have HAL : Hid (Chg (fun _ => False) x1 x2 ∧ x1.heap.size < x2.heap.size) := Lib.hid (by rw [← hn]; exact ⟨(Chg.refl _ _).alloc _, by simp⟩)
          obtain ⟨y0, y1, y2, y3, y4⟩ : x2.cell? ⟨x1.heap.size, 0, none⟩ = some (.slice none 0 0) ∧ x2.cell? ⟨x1.heap.size, 1, none⟩ = some (.slice none 0 0) ∧ x2.cell? ⟨x1.heap.size, 2, none⟩ = some (.slice none 0 0) ∧ x2.cell? ⟨x1.heap.size, 3, none⟩ = some (.slice none 0 0) ∧ (∀ j, x2.frozen? ⟨x1.heap.size, j, none⟩ = false) := by
            rw [← hn]
            exact ⟨by rw [World.cell?_alloc_new]; rfl, by rw [World.cell?_alloc_new]; rfl, by rw [World.cell?_alloc_new]; rfl, by rw [World.cell?_alloc_new]; rfl, fun j => World.frozen?_alloc_new _ _ _ _⟩
          have HY := Lib.hid (show _ ∧ _ ∧ _ ∧ _ ∧ _ from ⟨y0, y1, y2, y3, y4⟩)
          rw [hn]
          clear hn y0 y1 y2 y3 y4
          refine held_call (i := 8) (by kernel_rfl) rfl rfl 26 #[.slice ea t.e.length ec] (fun v w'' => ∃ h, v = .slice (some ⟨h, 0, none⟩) t.e.length (t.e.length + 2) ∧ x2.heap.size ≤ h ∧ intE.Row w'' h (t.e ++ [-77, -77]) ∧ Chg (fun _ => False) x2 w'') (by go_simp) ?_ ?_
          · refine (twinInt t.e ea ec B x2 (HTB.out.same (HC2.out.trans HS2.out)).e fe).mono ?_
            rintro e wy ⟨h, rfl, hb, ho, hc⟩
            exact ⟨_, rfl, HS2.out.trans hc, h, rfl, hb, ho, hc⟩
          rintro v x3 hs ⟨h3, rfl, hb, ho, hc⟩ K hK
          have HO3 := Lib.hid ho
          have HX3 := Lib.hid hc
          have HB3 : Hid (x2.heap.size ≤ h3 ∧ x2.heap.size ≤ x3.heap.size ∧ w2.heap.size ≤ x2.heap.size) := Lib.hid ⟨hb, hc.size, HS2.out.size⟩
          have HS3 := Lib.hid hs
          clear hb ho hc hs
          (try go_simp)
          refine hK _ ?_
          clear hK K
          have HSS := HS3
          (refine held_read (i := 9) rfl (by kernel_rfl) (by kernel_rfl) (by kernel_rfl) (fun _ _ _ _ h => h) rfl HSS.out (fun K hK => ?_); apply Exists.intro; refine ⟨fun w' hC => ?_, ?_⟩; ((skip); go_simp; try with_reducible rfl); (try go_simp); refine hK _ ?_; clear hK K)
          have hch : Chg (fun _ => False) x2 x3 := ((Chg.refl (fun _ => False) _).trans HX3.out)
          obtain ⟨y0, y1, y2, y3, y4⟩ : x3.cell? ⟨x1.heap.size, 0, none⟩ = some (.slice none 0 0) ∧ x3.cell? ⟨x1.heap.size, 1, none⟩ = some (.slice none 0 0) ∧ x3.cell? ⟨x1.heap.size, 2, none⟩ = some (.slice none 0 0) ∧ x3.cell? ⟨x1.heap.size, 3, none⟩ = some (.slice none 0 0) ∧ (∀ j, x3.frozen? ⟨x1.heap.size, j, none⟩ = false) :=
            ⟨hch.cellS HY.out.1 (fun h => h), hch.cellS HY.out.2.1 (fun h => h), hch.cellS HY.out.2.2.1 (fun h => h), hch.cellS HY.out.2.2.2.1 (fun h => h), fun j => (hch.frozen (p := ⟨x1.heap.size, j, none⟩) HAL.out.2 (fun h => h)).trans (HY.out.2.2.2.2 j)⟩
          have z0 := y4 0
          have z1 := y4 1
          have z2 := y4 2
          have z3 := y4 3
          have hst4 := store4 (.slice (some ⟨h0, 0, none⟩) t.r.length (t.r.length + 2)) (.slice (some ⟨h1, 0, none⟩) t.c.length (t.c.length + 2)) (.slice none 0 0) (.slice (some ⟨h3, 0, none⟩) t.e.length (t.e.length + 2)) y0 y1 y2 y3
          have HFIN : Hid (TwM x1.heap.size w2.heap.size ((((x3.setCell ⟨x1.heap.size, 0, none⟩ (.slice (some ⟨h0, 0, none⟩) t.r.length (t.r.length + 2))).setCell ⟨x1.heap.size, 1, none⟩ (.slice (some ⟨h1, 0, none⟩) t.c.length (t.c.length + 2))).setCell ⟨x1.heap.size, 2, none⟩ (.slice none 0 0)).setCell ⟨x1.heap.size, 3, none⟩ (.slice (some ⟨h3, 0, none⟩) t.e.length (t.e.length + 2))) t [] h0 h1 h3 (.slice none 0 0) ∧ Chg (fun _ => False) w2 ((((x3.setCell ⟨x1.heap.size, 0, none⟩ (.slice (some ⟨h0, 0, none⟩) t.r.length (t.r.length + 2))).setCell ⟨x1.heap.size, 1, none⟩ (.slice (some ⟨h1, 0, none⟩) t.c.length (t.c.length + 2))).setCell ⟨x1.heap.size, 2, none⟩ (.slice none 0 0)).setCell ⟨x1.heap.size, 3, none⟩ (.slice (some ⟨h3, 0, none⟩) t.e.length (t.e.length + 2)))) := Lib.hid (by
            have s0 := HB0.out; have s1 := HB1.out; have s3 := HB3.out; have sa := HAL.out.2
            have o0 := HO0.out.chg ((((Chg.refl (fun _ => False) _).trans HX1.out).trans HAL.out.1).trans HX3.out) (fun h => h)
            have lt0 := HO0.out.lt
            have n0 : h0 ≠ x1.heap.size := by omega
            have o1 := HO1.out.chg (((Chg.refl (fun _ => False) _).trans HAL.out.1).trans HX3.out) (fun h => h)
            have lt1 := HO1.out.lt
            have n1 : h1 ≠ x1.heap.size := by omega
            have o3 := HO3.out.chg (Chg.refl (fun _ => False) _) (fun h => h)
            have lt3 := HO3.out.lt
            have n3 : h3 ≠ x1.heap.size := by omega
            have hw2 : w2.heap.size ≤ x1.heap.size := by
              have := HS1.out.size
              omega
            refine ⟨⟨hst4.1, hst4.2.1, hst4.2.2.1, hst4.2.2.2.1, hst4.2.2.2.2.2.trans (y4 2), o0.chg hst4.2.2.2.2.1 n0, o1.chg hst4.2.2.2.2.1 n1, o3.chg hst4.2.2.2.2.1 n3, ⟨by omega, by omega, by omega, hw2⟩, ⟨[], .nil _ _, rfl, (fun j x l hx => by simp at hx), Rise.nil (o3.chg hst4.2.2.2.2.1 n3).lt⟩, (fun g hg => by cases hg), ⟨n0, n1, n3⟩, ⟨by omega, by omega⟩⟩, ?_⟩
            exact ((HS3.out.any (S := fun k => w2.heap.size ≤ k)).trans (hst4.2.2.2.2.1.mono (fun k _ e => by omega))).fresh)
          clear hch hst4 y4
          refine held_store (i := 11) (by kernel_rfl) rfl rfl (fun K hK => ?_)
          apply Exists.intro
          refine ⟨?_, ?_, ?_⟩
          (go_simp; try first | with_reducible rfl | exact ⟨rfl, rfl⟩)
          exact HFIN.out.2
          (try go_simp)
          refine hK _ _ ?_
          clear hK K
          refine wpAnyH_done (by kernel_rfl) ?_ _
          go_wp2
          go_meet
          exact ⟨_, _, _, _, rfl, HFIN.out.1, HFIN.out.2⟩
      · intro K hK
        apply Exists.intro
        apply Exists.intro
        refine ⟨?_, ?_, ?_⟩
        (go_simp; try first | with_reducible rfl | exact ⟨rfl, rfl⟩)
        exact HS0.out.alloc _
        (try go_simp)
        refine hK _ _ ?_
        clear hK K
        obtain ⟨x1, hn⟩ : ∃ x, x0.alloc (.cells #[.slice none 0 0, .slice none 0 0, .slice none 0 0, .slice none 0 0] 26) = x := ⟨_, rfl⟩
        have HS1 : Hid (Chg (fun _ => False) w2 x1) := Lib.hid (by rw [← hn]; exact HS0.out.alloc _)
        have HAL : Hid (Chg (fun _ => False) x0 x1 ∧ x0.heap.size < x1.heap.size) := Lib.hid (by rw [← hn]; exact ⟨(Chg.refl _ _).alloc _, by simp⟩)
        obtain ⟨y0, y1, y2, y3, y4⟩ : x1.cell? ⟨x0.heap.size, 0, none⟩ = some (.slice none 0 0) ∧ x1.cell? ⟨x0.heap.size, 1, none⟩ = some (.slice none 0 0) ∧ x1.cell? ⟨x0.heap.size, 2, none⟩ = some (.slice none 0 0) ∧ x1.cell? ⟨x0.heap.size, 3, none⟩ = some (.slice none 0 0) ∧ (∀ j, x1.frozen? ⟨x0.heap.size, j, none⟩ = false) := by
          rw [← hn]
          exact ⟨by rw [World.cell?_alloc_new]; rfl, by rw [World.cell?_alloc_new]; rfl, by rw [World.cell?_alloc_new]; rfl, by rw [World.cell?_alloc_new]; rfl, fun j => World.frozen?_alloc_new _ _ _ _⟩
        have HY := Lib.hid (show _ ∧ _ ∧ _ ∧ _ ∧ _ from ⟨y0, y1, y2, y3, y4⟩)
        rw [hn]
        clear hn y0 y1 y2 y3 y4
        refine held_call (i := 5) (by kernel_rfl) rfl rfl 26 #[.slice ca t.c.length cc] (fun v w'' => ∃ h, v = .slice (some ⟨h, 0, none⟩) t.c.length (t.c.length + 2) ∧ x1.heap.size ≤ h ∧ intE.Row w'' h (t.c ++ [-77, -77]) ∧ Chg (fun _ => False) x1 w'') (by go_simp) ?_ ?_
        · refine (twinInt t.c ca cc B x1 (HTB.out.same (HC2.out.trans HS1.out)).c fc).mono ?_
          rintro e wy ⟨h, rfl, hb, ho, hc⟩
          exact ⟨_, rfl, HS1.out.trans hc, h, rfl, hb, ho, hc⟩
        rintro v x2 hs ⟨h1, rfl, hb, ho, hc⟩ K hK
        have HO1 := Lib.hid ho
        have HX1 := Lib.hid hc
        have HB1 : Hid (x1.heap.size ≤ h1 ∧ x1.heap.size ≤ x2.heap.size ∧ w2.heap.size ≤ x1.heap.size) := Lib.hid ⟨hb, hc.size, HS1.out.size⟩
        have HS2 := Lib.hid hs
        clear hb ho hc hs
        (try go_simp)
        refine hK _ ?_
        clear hK K
        refine held_call (i := 8) (by kernel_rfl) rfl rfl 26 #[.slice ea t.e.length ec] (fun v w'' => ∃ h, v = .slice (some ⟨h, 0, none⟩) t.e.length (t.e.length + 2) ∧ x2.heap.size ≤ h ∧ intE.Row w'' h (t.e ++ [-77, -77]) ∧ Chg (fun _ => False) x2 w'') (by go_simp) ?_ ?_
        · refine (twinInt t.e ea ec B x2 (HTB.out.same (HC2.out.trans HS2.out)).e fe).mono ?_
          rintro e wy ⟨h, rfl, hb, ho, hc⟩
          exact ⟨_, rfl, HS2.out.trans hc, h, rfl, hb, ho, hc⟩
        rintro v x3 hs ⟨h3, rfl, hb, ho, hc⟩ K hK
        have HO3 := Lib.hid ho
        have HX3 := Lib.hid hc
        have HB3 : Hid (x2.heap.size ≤ h3 ∧ x2.heap.size ≤ x3.heap.size ∧ w2.heap.size ≤ x2.heap.size) := Lib.hid ⟨hb, hc.size, HS2.out.size⟩
        have HS3 := Lib.hid hs
        clear hb ho hc hs
        (try go_simp)
        refine hK _ ?_
        clear hK K
        have HSS := HS3
        (refine held_read (i := 9) rfl (by kernel_rfl) (by kernel_rfl) (by kernel_rfl) (fun _ _ _ _ h => h) rfl HSS.out (fun K hK => ?_); apply Exists.intro; refine ⟨fun w' hC => ?_, ?_⟩; ((skip); go_simp; try with_reducible rfl); (try go_simp); refine hK _ ?_; clear hK K)
        have hch : Chg (fun _ => False) x1 x3 := (((Chg.refl (fun _ => False) _).trans HX1.out).trans HX3.out)
        obtain ⟨y0, y1, y2, y3, y4⟩ : x3.cell? ⟨x0.heap.size, 0, none⟩ = some (.slice none 0 0) ∧ x3.cell? ⟨x0.heap.size, 1, none⟩ = some (.slice none 0 0) ∧ x3.cell? ⟨x0.heap.size, 2, none⟩ = some (.slice none 0 0) ∧ x3.cell? ⟨x0.heap.size, 3, none⟩ = some (.slice none 0 0) ∧ (∀ j, x3.frozen? ⟨x0.heap.size, j, none⟩ = false) :=
          ⟨hch.cellS HY.out.1 (fun h => h), hch.cellS HY.out.2.1 (fun h => h), hch.cellS HY.out.2.2.1 (fun h => h), hch.cellS HY.out.2.2.2.1 (fun h => h), fun j => (hch.frozen (p := ⟨x0.heap.size, j, none⟩) HAL.out.2 (fun h => h)).trans (HY.out.2.2.2.2 j)⟩
        have z0 := y4 0
        have z1 := y4 1
        have z2 := y4 2
        have z3 := y4 3
        have hst4 := store4 (.slice (some ⟨h0, 0, none⟩) t.r.length (t.r.length + 2)) (.slice (some ⟨h1, 0, none⟩) t.c.length (t.c.length + 2)) (.slice none 0 0) (.slice (some ⟨h3, 0, none⟩) t.e.length (t.e.length + 2)) y0 y1 y2 y3
        have HFIN : Hid (TwM x0.heap.size w2.heap.size ((((x3.setCell ⟨x0.heap.size, 0, none⟩ (.slice (some ⟨h0, 0, none⟩) t.r.length (t.r.length + 2))).setCell ⟨x0.heap.size, 1, none⟩ (.slice (some ⟨h1, 0, none⟩) t.c.length (t.c.length + 2))).setCell ⟨x0.heap.size, 2, none⟩ (.slice none 0 0)).setCell ⟨x0.heap.size, 3, none⟩ (.slice (some ⟨h3, 0, none⟩) t.e.length (t.e.length + 2))) t [] h0 h1 h3 (.slice none 0 0) ∧ Chg (fun _ => False) w2 ((((x3.setCell ⟨x0.heap.size, 0, none⟩ (.slice (some ⟨h0, 0, none⟩) t.r.length (t.r.length + 2))).setCell ⟨x0.heap.size, 1, none⟩ (.slice (some ⟨h1, 0, none⟩) t.c.length (t.c.length + 2))).setCell ⟨x0.heap.size, 2, none⟩ (.slice none 0 0)).setCell ⟨x0.heap.size, 3, none⟩ (.slice (some ⟨h3, 0, none⟩) t.e.length (t.e.length + 2)))) := Lib.hid (by
          have s0 := HB0.out; have s1 := HB1.out; have s3 := HB3.out; have sa := HAL.out.2
          have o0 := HO0.out.chg ((((Chg.refl (fun _ => False) _).trans HAL.out.1).trans HX1.out).trans HX3.out) (fun h => h)
          have lt0 := HO0.out.lt
          have n0 : h0 ≠ x0.heap.size := by omega
          have o1 := HO1.out.chg ((Chg.refl (fun _ => False) _).trans HX3.out) (fun h => h)
          have lt1 := HO1.out.lt
          have n1 : h1 ≠ x0.heap.size := by omega
          have o3 := HO3.out.chg (Chg.refl (fun _ => False) _) (fun h => h)
          have lt3 := HO3.out.lt
          have n3 : h3 ≠ x0.heap.size := by omega
          have hw2 : w2.heap.size ≤ x0.heap.size := by
            have := HS0.out.size
            omega
          refine ⟨⟨hst4.1, hst4.2.1, hst4.2.2.1, hst4.2.2.2.1, hst4.2.2.2.2.2.trans (y4 2), o0.chg hst4.2.2.2.2.1 n0, o1.chg hst4.2.2.2.2.1 n1, o3.chg hst4.2.2.2.2.1 n3, ⟨by omega, by omega, by omega, hw2⟩, ⟨[], .nil _ _, rfl, (fun j x l hx => by simp at hx), Rise.nil (o3.chg hst4.2.2.2.2.1 n3).lt⟩, (fun g hg => by cases hg), ⟨n0, n1, n3⟩, ⟨by omega, by omega⟩⟩, ?_⟩
          exact ((HS3.out.any (S := fun k => w2.heap.size ≤ k)).trans (hst4.2.2.2.2.1.mono (fun k _ e => by omega))).fresh)
        clear hch hst4 y4
        refine held_store (i := 11) (by kernel_rfl) rfl rfl (fun K hK => ?_)
        apply Exists.intro
        refine ⟨?_, ?_, ?_⟩
        (go_simp; try first | with_reducible rfl | exact ⟨rfl, rfl⟩)
        exact HFIN.out.2
        (try go_simp)
        refine hK _ _ ?_
        clear hK K
        refine wpAnyH_done (by kernel_rfl) ?_ _
        go_wp2
        go_meet
        exact ⟨_, _, _, _, rfl, HFIN.out.1, HFIN.out.2⟩
    · intro K hK
      apply Exists.intro
      apply Exists.intro
      refine ⟨?_, ?_, ?_⟩
      (go_simp; try first | with_reducible rfl | exact ⟨rfl, rfl⟩)
      exact HSS.out.alloc _
      (try go_simp)
      refine hK _ _ ?_
      clear hK K
      obtain ⟨x0, hn⟩ : ∃ x, wd.alloc (.cells #[.slice none 0 0, .slice none 0 0, .slice none 0 0, .slice none 0 0] 26) = x := ⟨_, rfl⟩
      have HS0 : Hid (Chg (fun _ => False) w2 x0) := Lib.hid (by rw [← hn]; exact HSS.out.alloc _)
      have HAL : Hid (Chg (fun _ => False) wd x0 ∧ wd.heap.size < x0.heap.size) := Lib.hid (by rw [← hn]; exact ⟨(Chg.refl _ _).alloc _, by simp⟩)
      obtain ⟨y0, y1, y2, y3, y4⟩ : x0.cell? ⟨wd.heap.size, 0, none⟩ = some (.slice none 0 0) ∧ x0.cell? ⟨wd.heap.size, 1, none⟩ = some (.slice none 0 0) ∧ x0.cell? ⟨wd.heap.size, 2, none⟩ = some (.slice none 0 0) ∧ x0.cell? ⟨wd.heap.size, 3, none⟩ = some (.slice none 0 0) ∧ (∀ j, x0.frozen? ⟨wd.heap.size, j, none⟩ = false) := by
        rw [← hn]
        exact ⟨by rw [World.cell?_alloc_new]; rfl, by rw [World.cell?_alloc_new]; rfl, by rw [World.cell?_alloc_new]; rfl, by rw [World.cell?_alloc_new]; rfl, fun j => World.frozen?_alloc_new _ _ _ _⟩
      have HY := Lib.hid (show _ ∧ _ ∧ _ ∧ _ ∧ _ from ⟨y0, y1, y2, y3, y4⟩)
      rw [hn]
      clear hn y0 y1 y2 y3 y4
      refine held_call (i := 2) (by kernel_rfl) rfl rfl 25 #[.slice ra t.r.length rc] (fun v w'' => ∃ h, v = .slice (some ⟨h, 0, none⟩) t.r.length (t.r.length + 2) ∧ x0.heap.size ≤ h ∧ rngE.Row w'' h (t.r ++ [(-77, 0), (-77, 0)]) ∧ Chg (fun _ => False) x0 w'') (by go_simp) ?_ ?_
      · refine (twinRanges t.r ra rc B x0 (HTB.out.same (HC2.out.trans HS0.out)).r fr).mono ?_
        rintro e wy ⟨h, rfl, hb, ho, hc⟩
        exact ⟨_, rfl, HS0.out.trans hc, h, rfl, hb, ho, hc⟩
      rintro v x1 hs ⟨h0, rfl, hb, ho, hc⟩ K hK
      have HO0 := Lib.hid ho
      have HX0 := Lib.hid hc
      have HB0 : Hid (x0.heap.size ≤ h0 ∧ x0.heap.size ≤ x1.heap.size ∧ w2.heap.size ≤ x0.heap.size) := Lib.hid ⟨hb, hc.size, HS0.out.size⟩
      have HS1 := Lib.hid hs
      clear hb ho hc hs
      (try go_simp)
      refine hK _ ?_
      clear hK K
      refine held_call (i := 5) (by kernel_rfl) rfl rfl 26 #[.slice ca t.c.length cc] (fun v w'' => ∃ h, v = .slice (some ⟨h, 0, none⟩) t.c.length (t.c.length + 2) ∧ x1.heap.size ≤ h ∧ intE.Row w'' h (t.c ++ [-77, -77]) ∧ Chg (fun _ => False) x1 w'') (by go_simp) ?_ ?_
      · refine (twinInt t.c ca cc B x1 (HTB.out.same (HC2.out.trans HS1.out)).c fc).mono ?_
        rintro e wy ⟨h, rfl, hb, ho, hc⟩
        exact ⟨_, rfl, HS1.out.trans hc, h, rfl, hb, ho, hc⟩
      rintro v x2 hs ⟨h1, rfl, hb, ho, hc⟩ K hK
      have HO1 := Lib.hid ho
      have HX1 := Lib.hid hc
      have HB1 : Hid (x1.heap.size ≤ h1 ∧ x1.heap.size ≤ x2.heap.size ∧ w2.heap.size ≤ x1.heap.size) := Lib.hid ⟨hb, hc.size, HS1.out.size⟩
      have HS2 := Lib.hid hs
      clear hb ho hc hs
      (try go_simp)
      refine hK _ ?_
      clear hK K
      refine held_call (i := 8) (by kernel_rfl) rfl rfl 26 #[.slice ea t.e.length ec] (fun v w'' => ∃ h, v = .slice (some ⟨h, 0, none⟩) t.e.length (t.e.length + 2) ∧ x2.heap.size ≤ h ∧ intE.Row w'' h (t.e ++ [-77, -77]) ∧ Chg (fun _ => False) x2 w'') (by go_simp) ?_ ?_
      · refine (twinInt t.e ea ec B x2 (HTB.out.same (HC2.out.trans HS2.out)).e fe).mono ?_
        rintro e wy ⟨h, rfl, hb, ho, hc⟩
        exact ⟨_, rfl, HS2.out.trans hc, h, rfl, hb, ho, hc⟩
      rintro v x3 hs ⟨h3, rfl, hb, ho, hc⟩ K hK
      have HO3 := Lib.hid ho
      have HX3 := Lib.hid hc
      have HB3 : Hid (x2.heap.size ≤ h3 ∧ x2.heap.size ≤ x3.heap.size ∧ w2.heap.size ≤ x2.heap.size) := Lib.hid ⟨hb, hc.size, HS2.out.size⟩
      have HS3 := Lib.hid hs
      clear hb ho hc hs
      (try go_simp)
      refine hK _ ?_
      clear hK K
      have HSS := HS3
      (refine held_read (i := 9) rfl (by kernel_rfl) (by kernel_rfl) (by kernel_rfl) (fun _ _ _ _ h => h) rfl HSS.out (fun K hK => ?_); apply Exists.intro; refine ⟨fun w' hC => ?_, ?_⟩; ((skip); go_simp; try with_reducible rfl); (try go_simp); refine hK _ ?_; clear hK K)
      have hch : Chg (fun _ => False) x0 x3 := ((((Chg.refl (fun _ => False) _).trans HX0.out).trans HX1.out).trans HX3.out)
      obtain ⟨y0, y1, y2, y3, y4⟩ : x3.cell? ⟨wd.heap.size, 0, none⟩ = some (.slice none 0 0) ∧ x3.cell? ⟨wd.heap.size, 1, none⟩ = some (.slice none 0 0) ∧ x3.cell? ⟨wd.heap.size, 2, none⟩ = some (.slice none 0 0) ∧ x3.cell? ⟨wd.heap.size, 3, none⟩ = some (.slice none 0 0) ∧ (∀ j, x3.frozen? ⟨wd.heap.size, j, none⟩ = false) :=
        ⟨hch.cellS HY.out.1 (fun h => h), hch.cellS HY.out.2.1 (fun h => h), hch.cellS HY.out.2.2.1 (fun h => h), hch.cellS HY.out.2.2.2.1 (fun h => h), fun j => (hch.frozen (p := ⟨wd.heap.size, j, none⟩) HAL.out.2 (fun h => h)).trans (HY.out.2.2.2.2 j)⟩
      have z0 := y4 0
      have z1 := y4 1
      have z2 := y4 2
      have z3 := y4 3
      have hst4 := store4 (.slice (some ⟨h0, 0, none⟩) t.r.length (t.r.length + 2)) (.slice (some ⟨h1, 0, none⟩) t.c.length (t.c.length + 2)) (.slice none 0 0) (.slice (some ⟨h3, 0, none⟩) t.e.length (t.e.length + 2)) y0 y1 y2 y3
      have HFIN : Hid (TwM wd.heap.size w2.heap.size ((((x3.setCell ⟨wd.heap.size, 0, none⟩ (.slice (some ⟨h0, 0, none⟩) t.r.length (t.r.length + 2))).setCell ⟨wd.heap.size, 1, none⟩ (.slice (some ⟨h1, 0, none⟩) t.c.length (t.c.length + 2))).setCell ⟨wd.heap.size, 2, none⟩ (.slice none 0 0)).setCell ⟨wd.heap.size, 3, none⟩ (.slice (some ⟨h3, 0, none⟩) t.e.length (t.e.length + 2))) t [] h0 h1 h3 (.slice none 0 0) ∧ Chg (fun _ => False) w2 ((((x3.setCell ⟨wd.heap.size, 0, none⟩ (.slice (some ⟨h0, 0, none⟩) t.r.length (t.r.length + 2))).setCell ⟨wd.heap.size, 1, none⟩ (.slice (some ⟨h1, 0, none⟩) t.c.length (t.c.length + 2))).setCell ⟨wd.heap.size, 2, none⟩ (.slice none 0 0)).setCell ⟨wd.heap.size, 3, none⟩ (.slice (some ⟨h3, 0, none⟩) t.e.length (t.e.length + 2)))) := Lib.hid (by
        have s0 := HB0.out; have s1 := HB1.out; have s3 := HB3.out; have sa := HAL.out.2
        have o0 := HO0.out.chg (((Chg.refl (fun _ => False) _).trans HX1.out).trans HX3.out) (fun h => h)
        have lt0 := HO0.out.lt
        have n0 : h0 ≠ wd.heap.size := by omega
        have o1 := HO1.out.chg ((Chg.refl (fun _ => False) _).trans HX3.out) (fun h => h)
        have lt1 := HO1.out.lt
        have n1 : h1 ≠ wd.heap.size := by omega
        have o3 := HO3.out.chg (Chg.refl (fun _ => False) _) (fun h => h)
        have lt3 := HO3.out.lt
        have n3 : h3 ≠ wd.heap.size := by omega
        have hw2 : w2.heap.size ≤ wd.heap.size := by
          have := HSS0.out.size
          omega
        refine ⟨⟨hst4.1, hst4.2.1, hst4.2.2.1, hst4.2.2.2.1, hst4.2.2.2.2.2.trans (y4 2), o0.chg hst4.2.2.2.2.1 n0, o1.chg hst4.2.2.2.2.1 n1, o3.chg hst4.2.2.2.2.1 n3, ⟨by omega, by omega, by omega, hw2⟩, ⟨[], .nil _ _, rfl, (fun j x l hx => by simp at hx), Rise.nil (o3.chg hst4.2.2.2.2.1 n3).lt⟩, (fun g hg => by cases hg), ⟨n0, n1, n3⟩, ⟨by omega, by omega⟩⟩, ?_⟩
        exact ((HS3.out.any (S := fun k => w2.heap.size ≤ k)).trans (hst4.2.2.2.2.1.mono (fun k _ e => by omega))).fresh)
      clear hch hst4 y4
      refine held_store (i := 11) (by kernel_rfl) rfl rfl (fun K hK => ?_)
      apply Exists.intro
      refine ⟨?_, ?_, ?_⟩
      (go_simp; try first | with_reducible rfl | exact ⟨rfl, rfl⟩)
      exact HFIN.out.2
      (try go_simp)
      refine hK _ _ ?_
      clear hK K
      refine wpAnyH_done (by kernel_rfl) ?_ _
      go_wp2
      go_meet
      exact ⟨_, _, _, _, rfl, HFIN.out.1, HFIN.out.2⟩
  case rest =>
    obtain ⟨bo, h0, h1, h3, rfl, ho, hc⟩ := hcut
    have HO0 : Hid (TwM bo w2.heap.size wc t (t.n.take 0) h0 h1 h3 (.slice none 0 0)) := Lib.hid (by simpa using ho)
    have HC3 := Lib.hid hc
    clear ho hc
    go_wp2
    go_loopw [4] (fun q wr => ∃ (k : Nat) (v2 : Value), k ≤ t.n.length ∧ q = .int .i64 k ∧ TwM bo w2.heap.size wr t (t.n.take k) h0 h1 h3 v2 ∧ Chg (fun _ => False) w2 wr) (fun q _ => t.n.length - (intOf q).toNat)
    case atStart => exact ⟨0, _, by omega, rfl, HO0.out, HC3.out⟩
    case round =>
      clear HO0 HC3
      obtain ⟨k, v2, hk, rfl, ho, hc⟩ := hrel
      have HO := Lib.hid ho
      have HCW := Lib.hid hc
      have HCV := Lib.hid (HC2.out.trans hc)
      clear hc
      obtain ⟨q0, q1, q2, q3⟩ := HT2.out wr HCW.out
      by_cases hkl : k < t.n.length
      · have b1 : decide ((k : Int) < (t.n.length : Int)) = true := by simp; omega
        obtain ⟨l, gn, on, la, lc, hl, hna, n0, hin, -, -⟩ := (HTB.out.same HCV.out).n.getIn hkl
        subst hna
        have HL := Lib.hid hl
        have HIN := Lib.hid hin
        have HN0 := Lib.hid n0
        have hll := HFR.out.l l (List.mem_of_getElem? hl)
        obtain ⟨va, vn, vc, rfl⟩ : ∃ a n c, v2 = .slice a n c := by obtain ⟨X, h1, _⟩ := ho.n; exact h1.shape3
        have hvn : vn = k ∧ vn ≤ vc := by
          obtain ⟨X, h1, h2, _⟩ := ho.n
          obtain ⟨a', c', h3, h4, _⟩ := h1.clip
          injection h3 with e1 e2 e3
          rw [List.length_take] at h2
          omega
        obtain ⟨rfl, hvc⟩ := hvn
        have HTK : Hid (t.n.take (vn + 1) = t.n.take vn ++ [l]) := Lib.hid (by rw [List.take_add_one, hl]; rfl)
        clear hl hin ho n0
        go_upto_region 5 with (fail)
        clear q0 q1 q2 q3
        obtain ⟨wd, hwd⟩ : ∃ x, wr.drew = x := ⟨_, rfl⟩
        have HDD : Hid (Chg (fun _ => False) wr wd) := Lib.hid (by rw [← hwd]; exact (Chg.refl _ _).drew)
        have HOD := Lib.hid (HO.out.same HDD.out)
        refine wp_region_late (fun x => Chg (fun _ => False) wd x) (fun i => decide (9 ≤ i)) (by kernel_rfl) ?_
        show wpAnyL _ _ _ _ _ _ 12 (Array.replicate 12 false) _ wr.drew
        rw [hwd]
        clear hwd
        have HSS : Hid (Chg (fun _ => False) wd wd) := Lib.hid (Chg.refl _ _)
        (refine late_read (i := 0) rfl (by kernel_rfl) (fun _ _ _ _ h => h) rfl HSS.out (fun K hK => ?_); apply Exists.intro; refine ⟨fun w' hC => ?_, ?_⟩; ((skip); go_simp; try with_reducible rfl); (try go_simp); refine hK _ ?_; clear hK K)
        (refine late_read (i := 1) rfl (by kernel_rfl) (fun _ _ _ _ h => h) rfl HSS.out (fun K hK => ?_); apply Exists.intro; refine ⟨fun w' hC => ?_, ?_⟩; ((have q := hC.cellS HOD.out.c2 (fun h => h)); go_simp; try with_reducible rfl); (try go_simp); refine hK _ ?_; clear hK K)
        (refine late_read (i := 2) rfl (by kernel_rfl) (fun _ _ _ _ h => h) rfl HSS.out (fun K hK => ?_); apply Exists.intro; refine ⟨fun w' hC => ?_, ?_⟩; ((skip); go_simp; try with_reducible rfl); (try go_simp); refine hK _ ?_; clear hK K)
        (refine late_read (i := 3) rfl (by kernel_rfl) (fun _ _ _ _ h => h) rfl HSS.out (fun K hK => ?_); apply Exists.intro; refine ⟨fun w' hC => ?_, ?_⟩; ((obtain ⟨q0, q1, q2, q3⟩ := HT2.out w' (HCW.out.trans (HDD.out.trans hC))); go_simp; try with_reducible rfl); (try go_simp); refine hK _ ?_; clear hK K)
        (refine late_read (i := 4) rfl (by kernel_rfl) (fun _ _ _ _ h => h) rfl HSS.out (fun K hK => ?_); apply Exists.intro; refine ⟨fun w' hC => ?_, ?_⟩; ((skip); go_simp; try with_reducible rfl); (try go_simp); refine hK _ ?_; clear hK K)
        (refine late_read (i := 5) rfl (by kernel_rfl) (fun _ _ _ _ h => h) rfl HSS.out (fun K hK => ?_); apply Exists.intro; refine ⟨fun w' hC => ?_, ?_⟩; ((skip); go_simp; try with_reducible rfl); (try go_simp); refine hK _ ?_; clear hK K)
        (refine late_read (i := 6) rfl (by kernel_rfl) (fun _ _ _ _ h => h) rfl HSS.out (fun K hK => ?_); apply Exists.intro; refine ⟨fun w' hC => ?_, ?_⟩; ((have q := (HDD.out.trans hC).cellS HN0.out (fun h => h)); go_simp; try with_reducible rfl); (try go_simp); refine hK _ ?_; clear hK K)
        refine late_call (i := 7) (by kernel_rfl) rfl rfl 26 #[.slice la l.length lc] (fun v w'' => ∃ h, v = .slice (some ⟨h, 0, none⟩) l.length (l.length + 2) ∧ wd.heap.size ≤ h ∧ intE.Row w'' h (l ++ [-77, -77]) ∧ Chg (fun _ => False) wd w'') (by go_simp) ?_ ?_
        · refine (twinInt l la lc B wd (HIN.out.same HDD.out) hll).mono ?_
          rintro e wy ⟨h, rfl, hb, ho, hc⟩
          exact ⟨_, rfl, fun _ => hc, h, rfl, hb, ho, hc⟩
        rintro v w5 - ⟨hx, rfl, hb, ho, hc⟩ K hK
        have HX := Lib.hid ho
        have HX5 := Lib.hid hc
        have HHB := Lib.hid hb
        clear ho hc hb
        (try go_simp)
        refine hK _ ?_
        clear hK K
        (refine late_turn (i := 8) (by kernel_rfl) rfl rfl (fun K hK => ?_); apply Exists.intro; apply Exists.intro; refine ⟨?_, ?_, ?_⟩; ((skip); go_simp; try first | with_reducible rfl | exact ⟨rfl, rfl⟩); (exact fun _ => HX5.out.alloc _); (try go_simp); refine hK _ _ ?_; clear hK K)
        obtain ⟨w6, hw6⟩ : ∃ x, x = w5.alloc (.cells #[.slice (some ⟨hx, 0, none⟩) l.length (l.length + 2)] 23) := ⟨_, rfl⟩
        have HC56 : Hid (Chg (fun _ => False) w5 w6) := Lib.hid (by rw [hw6]; exact (Chg.refl _ _).alloc _)
        have HSRC : Hid (Src Try.prog listE.sz listE.sl (.slice (some ⟨w5.heap.size, 0, none⟩) 1 1) 1 (listE.encs [(some ⟨hx, 0, none⟩, l.length, l.length + 2)]) w6) := Lib.hid (by rw [hw6]; exact listE.srcLit (Y := [(some ⟨hx, 0, none⟩, l.length, l.length + 2)]) 1 (fun _ _ => trivial))
        have HO6 := Lib.hid (HOD.out.same (HX5.out.trans HC56.out))
        rw [← hw6]
        clear hw6
        refine late_append (i := 9) (by kernel_rfl) rfl rfl (.tmp 23) (.tmp 30) 24 24 rfl (.slice va vn vc) (.slice (some ⟨w5.heap.size, 0, none⟩) 1 1) rfl rfl (fun v' w1 => (∃ X, listE.Own w6 w2.heap.size (.slice va vn vc) X ∧ X.length = (t.n.take vn).length ∧ (∀ (j : Nat) x m, X[j]? = some x → (t.n.take vn)[j]? = some m → ∃ h, x = (some ⟨h, 0, none⟩, m.length, m.length + 2) ∧ w2.heap.size ≤ h ∧ h ≠ bo ∧ (Value.slice va vn vc).ownBlock ≠ some h ∧ intE.Row w6 h (m ++ [-77, -77])) ∧ Rise h3 X wd.heap.size ∧ listE.Own w1 w2.heap.size v' (X ++ [(some ⟨hx, 0, none⟩, l.length, l.length + 2)])) ∧ Chg (fun k => (Value.slice va vn vc).ownBlock = some k) w6 w1 ∧ (v'.ownBlock = (Value.slice va vn vc).ownBlock ∨ v'.ownBlock = some w6.heap.size) ∧ ∃ a n c, v' = .slice a n c) ?_ ?_
        · obtain ⟨X, hX, hXl, hXn, hXr⟩ := HOD.out.n6 (HX5.out.trans HC56.out)
          obtain ⟨v', w1, hrun, h1, h2, ⟨h3, h4⟩, -⟩ := hX.append (by have := (HCW.out.trans (HDD.out.trans (HX5.out.trans HC56.out))).size; omega) 24 (.slice (some ⟨w5.heap.size, 0, none⟩) 1 1) [(some ⟨hx, 0, none⟩, l.length, l.length + 2)] HSRC.out (fun _ _ => trivial) (by have := HFR.out.n; rw [hXl, List.length_take]; simp; omega) 24
          exact ⟨v', w1, hrun, (fun h => absurd h (by decide)), ⟨X, hX, hXl, hXn, hXr, h1⟩, h3, h4, h1.shape3⟩
        rintro v' w1 - ⟨h1', h2', h3', va', vn', vc', rfl⟩ K hK
        have hpush := HO6.out.push (hx := hx) (l := l) HHB.out (HX.out.chg HC56.out (fun h => h)) (by have := HCW.out.size; have := HDD.out.size; have := HHB.out; omega) (fun e => by
          have k2 := HOD.out.lt
          have := HHB.out
          omega) (fun e => by
          obtain ⟨X, hX, _⟩ := HOD.out.n
          have k2 := (hX.blk e).2
          have := HHB.out
          omega) h1' h2' h3'
        rw [← HTK.out] at hpush
        obtain ⟨⟨k1, k2⟩, hfin⟩ := hpush
        have HFIN := Lib.hid hfin
        have HCF : Hid (Chg (fun _ => False) w2 (w1.setCell ⟨bo, 2, none⟩ (.slice va' vn' vc'))) := Lib.hid (by
          have hb1 := HO6.out.hB.2.2.2
          refine (((HCW.out.trans (HDD.out.trans (HX5.out.trans HC56.out))).any (S := fun k => w2.heap.size ≤ k)).trans ((h2'.mono (T := fun k => w2.heap.size ≤ k) (fun k _ e => ?_)).trans ((setCellChg w1 bo 2 _).mono (fun k _ e => by omega)))).fresh
          obtain ⟨X, hX, _⟩ := HO6.out.n
          exact (hX.blk e).1)
        clear h1' h2' h3' hfin
        (try go_simp)
        refine hK _ ?_
        clear hK K
        (refine late_turn (i := 10) (by kernel_rfl) rfl rfl (fun K hK => ?_); apply Exists.intro; apply Exists.intro; refine ⟨?_, ?_, ?_⟩; ((skip); go_simp; try first | with_reducible rfl | exact ⟨rfl, rfl⟩); (exact fun h => absurd h (by decide)); (try go_simp); refine hK _ _ ?_; clear hK K)
        (refine late_store (i := 11) (by kernel_rfl) rfl rfl (fun K hK => ?_); apply Exists.intro; refine ⟨?_, (fun h => absurd h (by decide)), ?_⟩; ((skip); go_simp; try first | with_reducible rfl | exact ⟨rfl, rfl⟩); (try go_simp); refine hK _ _ ?_; clear hK K)
        refine late_done (by kernel_rfl) ?_ _
        clear k1 k2
        go_wp2
        go_roundw
        case rel => exact ⟨vn + 1, _, by omega, by go_num, HFIN.out, HCF.out⟩
        case measure => simp [intOf]; omega
      · obtain rfl : k = t.n.length := by omega
        have b1 : decide ((t.n.length : Int) < (t.n.length : Int)) = false := by simp
        rw [List.take_length] at ho
        obtain ⟨na', nn', nc', rfl⟩ : ∃ a n c, v2 = .slice a n c := by obtain ⟨X, h1, _⟩ := ho.n; exact h1.shape3
        have HTW := Lib.hid (TwM.tw (ns := (na', nn', nc')) ho)
        have c0 := ho.c0
        have c1 := ho.c1
        have c2 := ho.c2
        have c3 := ho.c3
        obtain ⟨⟨y0, y1, y2, y3⟩, y4⟩ := HR2.out wr HCW.out
        have z0 := y4 0
        have z1 := y4 1
        have z2 := y4 2
        have z3 := y4 3
        obtain ⟨s0, s1, s2, s3, hsc, -⟩ := store4 (.slice (some ⟨h0, 0, none⟩) t.r.length (t.r.length + 2)) (.slice (some ⟨h1, 0, none⟩) t.c.length (t.c.length + 2)) (.slice na' nn' nc') (.slice (some ⟨h3, 0, none⟩) t.e.length (t.e.length + 2)) y0 y1 y2 y3
        have HS := Lib.hid (show _ ∧ _ ∧ _ ∧ _ from ⟨s0, s1, s2, s3⟩)
        have HFF : Hid (TwT ((((wr.setCell ⟨w.heap.size + 1, 0, none⟩ (.slice (some ⟨h0, 0, none⟩) t.r.length (t.r.length + 2))).setCell ⟨w.heap.size + 1, 1, none⟩ (.slice (some ⟨h1, 0, none⟩) t.c.length (t.c.length + 2))).setCell ⟨w.heap.size + 1, 2, none⟩ (.slice na' nn' nc')).setCell ⟨w.heap.size + 1, 3, none⟩ (.slice (some ⟨h3, 0, none⟩) t.e.length (t.e.length + 2))) w.heap.size (some ⟨h0, 0, none⟩, t.r.length, t.r.length + 2) (some ⟨h1, 0, none⟩, t.c.length, t.c.length + 2) (na', nn', nc') (some ⟨h3, 0, none⟩, t.e.length, t.e.length + 2) t ∧ Chg (fun _ => False) w ((((wr.setCell ⟨w.heap.size + 1, 0, none⟩ (.slice (some ⟨h0, 0, none⟩) t.r.length (t.r.length + 2))).setCell ⟨w.heap.size + 1, 1, none⟩ (.slice (some ⟨h1, 0, none⟩) t.c.length (t.c.length + 2))).setCell ⟨w.heap.size + 1, 2, none⟩ (.slice na' nn' nc')).setCell ⟨w.heap.size + 1, 3, none⟩ (.slice (some ⟨h3, 0, none⟩) t.e.length (t.e.length + 2)))) := Lib.hid (by
          have hs2 := HSW.out
          exact ⟨(HTW.out.chgB hsc (fun g hg e => by omega)).lower (by omega), ((HCV.out.any (S := fun k => w.heap.size ≤ k)).trans (hsc.mono (fun k _ e => by omega))).fresh⟩)
        clear ho HO HTW hsc s0 s1 s2 s3 y4
        go_wp2
        obtain ⟨s0, s1, s2, s3⟩ := HS.out
        exact bodyPost_ret (v := .agg #[.slice (some ⟨h0, 0, none⟩) t.r.length (t.r.length + 2), .slice (some ⟨h1, 0, none⟩) t.c.length (t.c.length + 2), .slice na' nn' nc', .slice (some ⟨h3, 0, none⟩) t.e.length (t.e.length + 2)]) (by simp [results, Try.results9, go_sem, s0, s1, s2, s3]) rfl ⟨_, _, _, _, rfl, HFF.out⟩
end Go.Proofs.Ytodohgckncnipaa
/- Was a table's twin left as it was? (It was.) harbingerlaw09.Left -/
namespace Go.Proofs.Ytodohgckncnipaa
open Go.RowKit

/-- Row k of a twin. -/
theorem TwT.getN {w : World} {B : Nat} {rs cs es : Sl} {na : Option Addr} {nn nc : Nat} {t : TabD} (h : TwT w B rs cs (na, nn, nc) es t) {k : Nat} {l : List Int} (hk : t.n[k]? = some l) :
    ∃ gn hx, na = some ⟨gn, 0, none⟩ ∧ w.cell? ⟨gn, k, none⟩ = some (.slice (some ⟨hx, 0, none⟩) l.length (l.length + 2)) ∧ intE.Row w hx (l ++ [-77, -77]) := by
  obtain ⟨X, h1, h2, h3, -⟩ := h.n
  have hkl := (List.getElem?_eq_some_iff.1 hk).1
  have hx : X[k]? = some X[k] := List.getElem?_eq_getElem (by omega)
  obtain ⟨g, e1, e2, e3⟩ := h3 k _ l hx hk
  obtain ⟨a, go, c, hv, hc, hat, h0⟩ := h1.at'
  unfold slV at hv
  injection hv with v1 v2 v3
  obtain ⟨h4, h5⟩ := h0 (by omega)
  simp only at v1
  have hcell := hat.get hx (i := 0) rfl
  rw [e1] at hcell
  rw [show listE.sz = 1 from rfl, Nat.mul_one, Nat.add_zero, Nat.zero_add] at hcell
  exact ⟨go, g, by rw [v1, h4], hcell, e3⟩

set_option maxRecDepth 100000 in
set_option maxHeartbeats 8000000 in
theorem leftT_any (t : TabD) (ru cu nu eu rs cs ns es : Sl) (Bu B : Nat) (w : World) (hu : TwT w Bu ru cu nu eu t) (h : TabIn w B rs cs ns es t) (hf : Fair t) :
    Calls Try.prog 14 #[tabV ru cu nu eu, tabV rs cs ns es] w fun e w' => e = .returned (.bool true) ∧ Chg (fun _ => False) w w' := by
  have HTB := Lib.hid h
  have HUB := Lib.hid hu
  have HFR := Lib.hid hf
  obtain ⟨ra, rn, rc⟩ := rs
  obtain ⟨ca, cn, cc⟩ := cs
  obtain ⟨na, nn, nc⟩ := ns
  obtain ⟨ea, en, ec⟩ := es
  obtain ⟨rfl, hr1⟩ := h.r.len
  obtain ⟨rfl, hc1⟩ := h.c.len
  obtain ⟨rfl, hn1⟩ := h.n.len
  obtain ⟨rfl, he1⟩ := h.e.len
  obtain ⟨hr, rfl, -, hrr⟩ := hu.r
  obtain ⟨hcb, rfl, -, hcr⟩ := hu.c
  obtain ⟨he, rfl, -, her⟩ := hu.e
  obtain ⟨nua, nun, nuc⟩ := nu
  obtain ⟨rfl, hnu⟩ := hu.tab.n.len
  have HRR := Lib.hid hrr
  have HCR := Lib.hid hcr
  have HER := Lib.hid her
  have fr := hf.r
  have fc := hf.c
  have fn := hf.n
  have fe := hf.e
  clear h hu hf hrr hcr her
  obtain ⟨wt, hwt⟩ : ∃ x, x = w.alloc (.cells #[.slice (some ⟨hr, 0, none⟩) t.r.length (t.r.length + 2), .slice (some ⟨hcb, 0, none⟩) t.c.length (t.c.length + 2), .slice nua t.n.length nuc, .slice (some ⟨he, 0, none⟩) t.e.length (t.e.length + 2)] 26) := ⟨_, rfl⟩
  obtain ⟨w2, hw2⟩ : ∃ x, x = wt.alloc (.cells #[.slice ra t.r.length rc, .slice ca t.c.length cc, .slice na t.n.length nc, .slice ea t.e.length ec] 26) := ⟨_, rfl⟩
  have hst : wt.heap.size = w.heap.size + 1 := by rw [hwt]; simp
  have HC2 : Hid (Chg (fun _ => False) w w2) := Lib.hid (by rw [hw2, hwt]; exact ((Chg.refl _ _).alloc _).alloc _)
  have HU2 : Hid (∀ wx, Chg (fun _ => False) w2 wx → wx.cell? ⟨w.heap.size, 0, none⟩ = some (.slice (some ⟨hr, 0, none⟩) t.r.length (t.r.length + 2)) ∧ wx.cell? ⟨w.heap.size, 1, none⟩ = some (.slice (some ⟨hcb, 0, none⟩) t.c.length (t.c.length + 2)) ∧ wx.cell? ⟨w.heap.size, 2, none⟩ = some (.slice nua t.n.length nuc) ∧ wx.cell? ⟨w.heap.size, 3, none⟩ = some (.slice (some ⟨he, 0, none⟩) t.e.length (t.e.length + 2))) := Lib.hid (fun wx hx => by
    have h1 : Chg (fun _ => False) wt wx := by rw [hw2] at hx; exact ((Chg.refl _ wt).alloc _).trans hx
    subst hwt
    exact (tabBox w (some ⟨hr, 0, none⟩, t.r.length, t.r.length + 2) (some ⟨hcb, 0, none⟩, t.c.length, t.c.length + 2) (nua, t.n.length, nuc) (some ⟨he, 0, none⟩, t.e.length, t.e.length + 2) 26).chg h1 (fun h => h))
  have HT2 : Hid (∀ wx, Chg (fun _ => False) w2 wx → wx.cell? ⟨w.heap.size + 1, 0, none⟩ = some (.slice ra t.r.length rc) ∧ wx.cell? ⟨w.heap.size + 1, 1, none⟩ = some (.slice ca t.c.length cc) ∧ wx.cell? ⟨w.heap.size + 1, 2, none⟩ = some (.slice na t.n.length nc) ∧ wx.cell? ⟨w.heap.size + 1, 3, none⟩ = some (.slice ea t.e.length ec)) := Lib.hid (fun wx hx => by
    rw [← hst]
    subst hw2
    exact (tabBox wt (ra, t.r.length, rc) (ca, t.c.length, cc) (na, t.n.length, nc) (ea, t.e.length, ec) 26).chg hx (fun h => h))
  have HWT : Hid (w2 = (w.alloc (.cells #[.slice (some ⟨hr, 0, none⟩) t.r.length (t.r.length + 2), .slice (some ⟨hcb, 0, none⟩) t.c.length (t.c.length + 2), .slice nua t.n.length nuc, .slice (some ⟨he, 0, none⟩) t.e.length (t.e.length + 2)] 26)).alloc (.cells #[.slice ra t.r.length rc, .slice ca t.c.length cc, .slice na t.n.length nc, .slice ea t.e.length ec] 26)) := Lib.hid (by rw [hw2, hwt])
  obtain ⟨q0, q1, q2, q3⟩ := HT2.out w2 (Chg.refl _ _)
  obtain ⟨p0, p1, p2, p3⟩ := HU2.out w2 (Chg.refl _ _)
  clear hwt hw2 hst wt
  show Calls Try.prog 14 #[.agg #[.slice (some ⟨hr, 0, none⟩) t.r.length (t.r.length + 2), .slice (some ⟨hcb, 0, none⟩) t.c.length (t.c.length + 2), .slice nua t.n.length nuc, .slice (some ⟨he, 0, none⟩) t.e.length (t.e.length + 2)], .agg #[.slice ra t.r.length rc, .slice ca t.c.length cc, .slice na t.n.length nc, .slice ea t.e.length ec]] w _
  go_enter Try.func14, Try.ntmps14
  go_upto_region 1 with (fail)
  rw [← HWT.out]
  go_wp2_with fail
  refine (leftRanges t.r ra hr rc B w2 (HRR.out.chg HC2.out (fun h => h)) (HTB.out.same HC2.out).r fr).mono ?_
  rintro e w3 ⟨rfl, hc⟩
  have HC3 := Lib.hid hc
  clear q0 q1 q2 q3 p0 p1 p2 p3 hc
  obtain ⟨q0, q1, q2, q3⟩ := HT2.out w3 HC3.out
  obtain ⟨p0, p1, p2, p3⟩ := HU2.out w3 HC3.out
  go_wp2_with fail
  refine (leftInt t.c ca hcb cc B w3 (HCR.out.chg (HC2.out.trans HC3.out) (fun h => h)) (HTB.out.same (HC2.out.trans HC3.out)).c fc).mono ?_
  rintro e w4 ⟨rfl, hc⟩
  have HC4 := Lib.hid (HC3.out.trans hc)
  clear q0 q1 q2 q3 p0 p1 p2 p3 hc HC3
  obtain ⟨q0, q1, q2, q3⟩ := HT2.out w4 HC4.out
  obtain ⟨p0, p1, p2, p3⟩ := HU2.out w4 HC4.out
  go_wp2_with fail
  refine (leftInt t.e ea he ec B w4 (HER.out.chg (HC2.out.trans HC4.out) (fun h => h)) (HTB.out.same (HC2.out.trans HC4.out)).e fe).mono ?_
  rintro e w5 ⟨rfl, hc⟩
  have HC5 := Lib.hid (HC4.out.trans hc)
  clear q0 q1 q2 q3 p0 p1 p2 p3 hc HC4
  go_wp2
  go_loopw [5] (fun q wr => ∃ k : Nat, k ≤ t.n.length ∧ q = .int .i64 k ∧ Chg (fun _ => False) w2 wr) (fun q _ => t.n.length - (intOf q).toNat)
  case atStart => exact ⟨0, by omega, rfl, HC5.out⟩
  case round =>
    clear HC5
    obtain ⟨k, hk, rfl, hc⟩ := hrel
    have HC := Lib.hid hc
    clear hc
    by_cases hkl : k < t.n.length
    · have b1 : decide ((k : Int) < (t.n.length : Int)) = true := by simp; omega
      obtain ⟨l, gn, on, la, lc, hl, hna, n0, hin, -, -⟩ := (HTB.out.same (HC2.out.trans HC.out)).n.getIn hkl
      obtain ⟨gu, hx, hua, u0, hrow⟩ := (HUB.out.same (HC2.out.trans HC.out)).getN hl
      subst hna hua
      have HIN := Lib.hid hin
      have HN0 := Lib.hid (show _ ∧ _ from ⟨n0, u0⟩)
      have HROW := Lib.hid hrow
      have hll := HFR.out.l l (List.mem_of_getElem? hl)
      clear hl hin n0 u0 hrow
      obtain ⟨q0, q1, q2, q3⟩ := HT2.out wr HC.out
      obtain ⟨p0, p1, p2, p3⟩ := HU2.out wr HC.out
      go_upto_region 6 with (fail)
      clear q0 q1 q2 q3 p0 p1 p2 p3
      refine wp_region_same (fun w' => Chg (fun _ => False) wr w') (by kernel_rfl) (by kernel_rfl) ?_ ?_
      · exact (Chg.refl _ _).drew
      (refine wpC_read rfl (fun _ _ _ h => h) (fun K hK => ?_); apply Exists.intro; refine ⟨fun _ w' _ hC => ?_, ?_⟩; ((skip); go_simp; try with_reducible rfl); (try go_simp); refine hK _ ?_; clear hK K); (refine wpC_read rfl (fun _ _ _ h => h) (fun K hK => ?_); apply Exists.intro; refine ⟨fun _ w' _ hC => ?_, ?_⟩; ((obtain ⟨q0, q1, q2, q3⟩ := HT2.out w' (HC.out.trans hC); obtain ⟨p0, p1, p2, p3⟩ := HU2.out w' (HC.out.trans hC); have n0 := hC.cellS HN0.out.1 (fun h => h); have u0 := hC.cellS HN0.out.2 (fun h => h)); go_simp; try with_reducible rfl); (try go_simp); refine hK _ ?_; clear hK K); (refine wpC_read rfl (fun _ _ _ h => h) (fun K hK => ?_); apply Exists.intro; refine ⟨fun _ w' _ hC => ?_, ?_⟩; ((skip); go_simp; try with_reducible rfl); (try go_simp); refine hK _ ?_; clear hK K); (refine wpC_read rfl (fun _ _ _ h => h) (fun K hK => ?_); apply Exists.intro; refine ⟨fun _ w' _ hC => ?_, ?_⟩; ((skip); go_simp; try with_reducible rfl); (try go_simp); refine hK _ ?_; clear hK K); (refine wpC_read rfl (fun _ _ _ h => h) (fun K hK => ?_); apply Exists.intro; refine ⟨fun _ w' _ hC => ?_, ?_⟩; ((obtain ⟨q0, q1, q2, q3⟩ := HT2.out w' (HC.out.trans hC); obtain ⟨p0, p1, p2, p3⟩ := HU2.out w' (HC.out.trans hC); have n0 := hC.cellS HN0.out.1 (fun h => h); have u0 := hC.cellS HN0.out.2 (fun h => h)); go_simp; try with_reducible rfl); (try go_simp); refine hK _ ?_; clear hK K); (refine wpC_read rfl (fun _ _ _ h => h) (fun K hK => ?_); apply Exists.intro; refine ⟨fun _ w' _ hC => ?_, ?_⟩; ((skip); go_simp; try with_reducible rfl); (try go_simp); refine hK _ ?_; clear hK K); (refine wpC_read rfl (fun _ _ _ h => h) (fun K hK => ?_); apply Exists.intro; refine ⟨fun _ w' _ hC => ?_, ?_⟩; ((obtain ⟨q0, q1, q2, q3⟩ := HT2.out w' (HC.out.trans hC); obtain ⟨p0, p1, p2, p3⟩ := HU2.out w' (HC.out.trans hC); have n0 := hC.cellS HN0.out.1 (fun h => h); have u0 := hC.cellS HN0.out.2 (fun h => h)); go_simp; try with_reducible rfl); (try go_simp); refine hK _ ?_; clear hK K); (refine wpC_read rfl (fun _ _ _ h => h) (fun K hK => ?_); apply Exists.intro; refine ⟨fun _ w' _ hC => ?_, ?_⟩; ((skip); go_simp; try with_reducible rfl); (try go_simp); refine hK _ ?_; clear hK K); (refine wpC_read rfl (fun _ _ _ h => h) (fun K hK => ?_); apply Exists.intro; refine ⟨fun _ w' _ hC => ?_, ?_⟩; ((skip); go_simp; try with_reducible rfl); (try go_simp); refine hK _ ?_; clear hK K); (refine wpC_read rfl (fun _ _ _ h => h) (fun K hK => ?_); apply Exists.intro; refine ⟨fun _ w' _ hC => ?_, ?_⟩; ((obtain ⟨q0, q1, q2, q3⟩ := HT2.out w' (HC.out.trans hC); obtain ⟨p0, p1, p2, p3⟩ := HU2.out w' (HC.out.trans hC); have n0 := hC.cellS HN0.out.1 (fun h => h); have u0 := hC.cellS HN0.out.2 (fun h => h)); go_simp; try with_reducible rfl); (try go_simp); refine hK _ ?_; clear hK K)
      refine wpC_call rfl (Value.bool true )  45  ( #[.slice (some ⟨hx, 0, none⟩) l.length (l.length + 2), .slice la l.length lc]) (fun w' => by go_simp) (fun _ w' _ hC => ?_) (fun K hK => ?_)
      · refine (leftInt l la hx lc B w' (HROW.out.chg hC (fun h => h)) (HIN.out.same hC) hll).mono ?_
        rintro e w2 ⟨rfl, hc⟩
        exact ⟨rfl, hC.trans hc⟩
      ((try go_simp); refine hK _ ?_; clear hK K)
      (refine wpC_read rfl (fun _ _ _ h => h) (fun K hK => ?_); apply Exists.intro; refine ⟨fun _ w' _ hC => ?_, ?_⟩; ((skip); go_simp; try with_reducible rfl); (try go_simp); refine hK _ ?_; clear hK K)
      refine wpC_nil ?_
      intro w6 hC2
      have HCW := Lib.hid (HC.out.trans hC2)
      clear hC2
      go_wp2
      go_roundw
      case rel => exact ⟨k + 1, by omega, by go_num, HCW.out⟩
      case measure => simp [intOf]; omega
    · obtain rfl : k = t.n.length := by omega
      have b1 : decide ((t.n.length : Int) < (t.n.length : Int)) = false := by simp
      obtain ⟨q0, q1, q2, q3⟩ := HT2.out wr HC.out
      have HCW := Lib.hid (HC2.out.trans HC.out)
      go_wp2
      go_ret
      exact ⟨rfl, HCW.out⟩
end Go.Proofs.Ytodohgckncnipaa
