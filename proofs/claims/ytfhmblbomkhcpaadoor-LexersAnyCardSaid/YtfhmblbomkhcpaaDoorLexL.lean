/- The chapter's examples: harbingerlaw11.lives. -/
import Derived.Test.YtfhmblbomkhcpaaDoorNewP
namespace Go.Proofs.YtfhmblbomkhcpaaDoor
open Go.RowKit

def livesD : TabD := ⟨[(97, 97)], [0], [[1], [2], [1]], [-1, 0, 0]⟩
theorem livesOk : newOk livesD [false] = true := by kernel_rfl
theorem livesA : toksL livesD [false] ⟨#[97, 97, 97]⟩ = ([(0, ⟨#[97, 97, 97]⟩, 0)], 3, 0) := by kernel_rfl
theorem livesB : toksL livesD [false] ⟨#[97, 97, 98]⟩ = ([], 2, 9) := by kernel_rfl
theorem livesC : toksL livesD [false] ⟨#[]⟩ = ([], 0, 0) := by kernel_rfl
theorem livesFair : Fair livesD := ⟨by decide, by decide, by decide, by decide, by intro l hl; simp only [livesD, List.mem_cons, List.not_mem_nil, or_false] at hl; rcases hl with rfl | rfl | rfl <;> decide⟩

theorem Elt.In.lit {α : Type} (E : Elt α) (w : World) (Y : List α) (e : TypeId) (hY : ∀ a ∈ Y, E.ok a) (n b : Nat) (hn : n = Y.length) (hb : b = w.heap.size) : E.In (w.alloc (.cells (E.encs Y).toArray e)) 0 (some ⟨b, 0, none⟩, n, n) Y := by
  subst hn hb
  exact ⟨rfl, Nat.le_refl _, _, 0, E.lit w Y e hY, fun _ => ⟨rfl, Nat.zero_le _⟩⟩
theorem livesTab (w : World) (e1 e2 e3 e4 e5 e6 e7 : TypeId) : TabIn (((((((w.alloc (.cells #[.int .i32 97, .int .i32 97] e1)).alloc (.cells #[.int .i64 0] e2)).alloc (.cells #[.int .i64 1] e3)).alloc (.cells #[.int .i64 2] e4)).alloc (.cells #[.int .i64 1] e5)).alloc (.cells #[.slice (some ⟨w.heap.size + 1 + 1, 0, none⟩) 1 1, .slice (some ⟨w.heap.size + 1 + 1 + 1, 0, none⟩) 1 1, .slice (some ⟨w.heap.size + 1 + 1 + 1 + 1, 0, none⟩) 1 1] e6)).alloc (.cells #[.int .i64 (-1), .int .i64 0, .int .i64 0] e7)) 0
    (some ⟨w.heap.size, 0, none⟩, 1, 1) (some ⟨w.heap.size + 1, 0, none⟩, 1, 1) (some ⟨w.heap.size + 1 + 1 + 1 + 1 + 1, 0, none⟩, 3, 3) (some ⟨w.heap.size + 1 + 1 + 1 + 1 + 1 + 1, 0, none⟩, 3, 3) livesD := by
  have al : ∀ (w : World) (o : Obj), Chg (fun _ => False) w (w.alloc o) := fun w o => (Chg.refl _ _).alloc o
  obtain ⟨a1, h1⟩ : ∃ x, x = w.alloc (.cells #[.int .i32 97, .int .i32 97] e1) := ⟨_, rfl⟩
  obtain ⟨a2, h2⟩ : ∃ x, x = a1.alloc (.cells #[.int .i64 0] e2) := ⟨_, rfl⟩
  obtain ⟨a3, h3⟩ : ∃ x, x = a2.alloc (.cells #[.int .i64 1] e3) := ⟨_, rfl⟩
  obtain ⟨a4, h4⟩ : ∃ x, x = a3.alloc (.cells #[.int .i64 2] e4) := ⟨_, rfl⟩
  obtain ⟨a5, h5⟩ : ∃ x, x = a4.alloc (.cells #[.int .i64 1] e5) := ⟨_, rfl⟩
  obtain ⟨a6, h6⟩ : ∃ x, x = a5.alloc (.cells #[.slice (some ⟨w.heap.size + 1 + 1, 0, none⟩) 1 1, .slice (some ⟨w.heap.size + 1 + 1 + 1, 0, none⟩) 1 1, .slice (some ⟨w.heap.size + 1 + 1 + 1 + 1, 0, none⟩) 1 1] e6) := ⟨_, rfl⟩
  obtain ⟨a7, h7⟩ : ∃ x, x = a6.alloc (.cells #[.int .i64 (-1), .int .i64 0, .int .i64 0] e7) := ⟨_, rfl⟩
  have s1 : a1.heap.size = w.heap.size + 1 := by rw [h1]; simp
  have s2 : a2.heap.size = w.heap.size + 2 := by rw [h2]; simp [s1]
  have s3 : a3.heap.size = w.heap.size + 3 := by rw [h3]; simp [s2]
  have s4 : a4.heap.size = w.heap.size + 4 := by rw [h4]; simp [s3]
  have s5 : a5.heap.size = w.heap.size + 5 := by rw [h5]; simp [s4]
  have s6 : a6.heap.size = w.heap.size + 6 := by rw [h6]; simp [s5]
  have C := Elt.In.lit intE a1 [0] e2 (show ∀ a ∈ ([0] : List Int), I.Byte a by decide) 1 (w.heap.size + 1) rfl s1.symm
  have N1 := Elt.In.lit intE a2 [1] e3 (show ∀ a ∈ ([1] : List Int), I.Byte a by decide) 1 (w.heap.size + 1 + 1) rfl (by omega)
  have N2 := Elt.In.lit intE a3 [2] e4 (show ∀ a ∈ ([2] : List Int), I.Byte a by decide) 1 (w.heap.size + 1 + 1 + 1) rfl (by omega)
  have N3 := Elt.In.lit intE a4 [1] e5 (show ∀ a ∈ ([1] : List Int), I.Byte a by decide) 1 (w.heap.size + 1 + 1 + 1 + 1) rfl (by omega)
  have NN := Elt.In.lit listE a5 [(some ⟨w.heap.size + 1 + 1, 0, none⟩, 1, 1), (some ⟨w.heap.size + 1 + 1 + 1, 0, none⟩, 1, 1), (some ⟨w.heap.size + 1 + 1 + 1 + 1, 0, none⟩, 1, 1)] e6 (fun _ _ => trivial) 3 (w.heap.size + 1 + 1 + 1 + 1 + 1) rfl (by omega)
  have EE := Elt.In.lit intE a6 [-1, 0, 0] e7 (show ∀ a ∈ ([-1, 0, 0] : List Int), I.Byte a by decide) 3 (w.heap.size + 1 + 1 + 1 + 1 + 1 + 1) rfl (by omega)
  have R : rngE.In a1 0 (some ⟨w.heap.size, 0, none⟩, 1, 1) [(97, 97)] := by rw [h1]; exact Elt.In.lit rngE w [(97, 97)] e1 (show ∀ a ∈ ([(97, 97)] : List (Int × Int)), okRng a by decide) 1 w.heap.size rfl rfl
  have C : intE.In a2 0 (some ⟨w.heap.size + 1, 0, none⟩, 1, 1) [0] := by rw [h2]; exact C
  have N1 : intE.In a3 0 (some ⟨w.heap.size + 1 + 1, 0, none⟩, 1, 1) [1] := by rw [h3]; exact N1
  have N2 : intE.In a4 0 (some ⟨w.heap.size + 1 + 1 + 1, 0, none⟩, 1, 1) [2] := by rw [h4]; exact N2
  have N3 : intE.In a5 0 (some ⟨w.heap.size + 1 + 1 + 1 + 1, 0, none⟩, 1, 1) [1] := by rw [h5]; exact N3
  have NN : listE.In a6 0 (some ⟨w.heap.size + 1 + 1 + 1 + 1 + 1, 0, none⟩, 3, 3) [(some ⟨w.heap.size + 1 + 1, 0, none⟩, 1, 1), (some ⟨w.heap.size + 1 + 1 + 1, 0, none⟩, 1, 1), (some ⟨w.heap.size + 1 + 1 + 1 + 1, 0, none⟩, 1, 1)] := by rw [h6]; exact NN
  have EE : intE.In a7 0 (some ⟨w.heap.size + 1 + 1 + 1 + 1 + 1 + 1, 0, none⟩, 3, 3) [-1, 0, 0] := by rw [h7]; exact EE
  have c2 : Chg (fun _ => False) a1 a2 := by rw [h2]; exact al _ _
  have c3 : Chg (fun _ => False) a2 a3 := by rw [h3]; exact al _ _
  have c4 : Chg (fun _ => False) a3 a4 := by rw [h4]; exact al _ _
  have c5 : Chg (fun _ => False) a4 a5 := by rw [h5]; exact al _ _
  have c6 : Chg (fun _ => False) a5 a6 := by rw [h6]; exact al _ _
  have c7 : Chg (fun _ => False) a6 a7 := by rw [h7]; exact al _ _
  rw [← h1, ← h2, ← h3, ← h4, ← h5, ← h6, ← h7]
  refine ⟨R.same (c2.trans (c3.trans (c4.trans (c5.trans (c6.trans c7))))), C.same (c3.trans (c4.trans (c5.trans (c6.trans c7)))), ⟨_, NN.same c7, rfl, fun j x l hx hl => ?_⟩, EE⟩
  match j with
  | 0 =>
    simp [livesD] at hx hl
    subst hx hl
    exact N1.same (c4.trans (c5.trans (c6.trans c7)))
  | 1 =>
    simp [livesD] at hx hl
    subst hx hl
    exact N2.same (c5.trans (c6.trans c7))
  | 2 =>
    simp [livesD] at hx hl
    subst hx hl
    exact N3.same (c6.trans c7)
  | j + 3 => simp at hx

set_option maxRecDepth 100000 in
set_option maxHeartbeats 8000000 in
theorem lives_any (w : World) (hT : Tabs w) : Calls Tryd.prog 8 #[] w fun e w' => e = .returned (.bool true) ∧ Chg (fun _ => False) w w' := by
  have HT := Lib.hid hT
  have HTB := Lib.hid (livesTab w 63 3 3 3 3 23 3)
  obtain ⟨wt, hwt⟩ : ∃ x, x = (((((((w.alloc (.cells #[.int .i32 97, .int .i32 97] 63)).alloc (.cells #[.int .i64 0] 3)).alloc (.cells #[.int .i64 1] 3)).alloc (.cells #[.int .i64 2] 3)).alloc (.cells #[.int .i64 1] 3)).alloc (.cells #[.slice (some ⟨w.heap.size + 1 + 1, 0, none⟩) 1 1, .slice (some ⟨w.heap.size + 1 + 1 + 1, 0, none⟩) 1 1, .slice (some ⟨w.heap.size + 1 + 1 + 1 + 1, 0, none⟩) 1 1] 23)).alloc (.cells #[.int .i64 (-1), .int .i64 0, .int .i64 0] 3)) := ⟨_, rfl⟩
  rw [← hwt] at HTB
  have HC0 : Hid (Chg (fun _ => False) w wt) := Lib.hid (by rw [hwt]; exact (((((((Chg.refl _ _).alloc _).alloc _).alloc _).alloc _).alloc _).alloc _).alloc _)
  have HWT := Lib.hid hwt
  clear hT hwt
  go_enter Tryd.func8, Tryd.ntmps8
  go_upto_region 2 with (fail)
  rw [← HWT.out]
  obtain ⟨wb, hwb⟩ : ∃ x, wt.alloc (.cells #[.slice (some ⟨w.heap.size, 0, none⟩) 1 1, .slice (some ⟨w.heap.size + 1, 0, none⟩) 1 1, .slice (some ⟨w.heap.size + 1 + 1 + 1 + 1 + 1, 0, none⟩) 3 3, .slice (some ⟨w.heap.size + 1 + 1 + 1 + 1 + 1 + 1, 0, none⟩) 3 3] 26) = x := ⟨_, rfl⟩
  have hsz : wt.heap.size = w.heap.size + 1 + 1 + 1 + 1 + 1 + 1 + 1 := by rw [HWT.out]; simp
  have HCB : Hid (Chg (fun _ => False) wt wb) := Lib.hid (by rw [← hwb]; exact (Chg.refl _ _).alloc _)
  obtain ⟨q0, q1, q2, q3⟩ := tabBox wt (some ⟨w.heap.size, 0, none⟩, 1, 1) (some ⟨w.heap.size + 1, 0, none⟩, 1, 1) (some ⟨w.heap.size + 1 + 1 + 1 + 1 + 1, 0, none⟩, 3, 3) (some ⟨w.heap.size + 1 + 1 + 1 + 1 + 1 + 1, 0, none⟩, 3, 3) 26
  simp only at q0 q1 q2 q3
  rw [hwb, hsz] at q0 q1 q2 q3
  have HTW := Lib.hid (HTB.out.same HCB.out)
  have HBD : Hid (boolE.In (wb.alloc (.cells #[.bool false] 4)) 0 (some ⟨wb.heap.size, 0, none⟩, 1, 1) [false]) := Lib.hid (Elt.In.lit boolE wb [false] 4 (fun _ _ => trivial) 1 _ rfl rfl)
  have HCC := Lib.hid ((HC0.out.trans HCB.out).alloc (.cells #[.bool false] 4))
  rw [hwb]
  clear hwb hsz
  go_wp2_with fail
  refine (new_any livesD [false] _ _ _ _ (some ⟨wb.heap.size, 0, none⟩, 1, 1) 0 _ (HTW.out.same ((Chg.refl _ _).alloc _)) livesFair HBD.out (by decide)).mono ?_
  intro e w1 hp
  unfold NewPostP at hp
  rw [if_pos livesOk] at hp
  obtain ⟨b, rs, cs, ns, es, ds, rfl, hlex, -, -, hc⟩ := hp
  have HLX := Lib.hid hlex
  have HC1 := Lib.hid (HCC.out.trans hc)
  clear hlex hc q0 q1 q2 q3
  go_wp2_with fail
  refine (toks_any b _ rs cs ns es ds livesD [false] ⟨#[97, 97, 97]⟩ w1 HLX.out livesFair (newOk_spec livesOk).1 (HT.out.same HC1.out) (by decide) (newOk_spec livesOk).2).mono ?_
  rintro e w2 ⟨v, rfl, ho, hc⟩
  rw [livesA] at ho ⊢
  simp only at ho ⊢
  obtain ⟨va, vc, rfl, -, -⟩ := ho.clip
  obtain ⟨-, -, g, o, hat, hal⟩ := ho.in' (c' := 1) (Nat.le_refl _)
  obtain ⟨rfl, -⟩ := hal (by decide)
  have k0 := hat.c 0 _ rfl
  have k1 := hat.c 1 _ rfl
  have k2 := hat.c 2 _ rfl
  have HK := Lib.hid (show _ ∧ _ ∧ _ from ⟨k0, k1, k2⟩)
  have HC2 := Lib.hid (HC1.out.trans hc)
  have HL2 := Lib.hid (HLX.out.same hc)
  clear ho hc hat hal k0 k1 k2
  go_wp2_with fail
  refine (toks_any b _ rs cs ns es ds livesD [false] ⟨#[97, 97, 98]⟩ w2 HL2.out livesFair (newOk_spec livesOk).1 (HT.out.same HC2.out) (by decide) (newOk_spec livesOk).2).mono ?_
  rintro e w3 ⟨v, rfl, ho, hc⟩
  rw [livesB] at ho ⊢
  simp only at ho ⊢
  obtain ⟨vb, vcb, rfl, -, -⟩ := ho.clip
  have HC3 := Lib.hid (HC2.out.trans hc)
  have HC23 := Lib.hid hc
  have HL3 := Lib.hid (HL2.out.same hc)
  clear ho hc
  go_wp2_with fail
  refine (toks_any b _ rs cs ns es ds livesD [false] ⟨#[]⟩ w3 HL3.out livesFair (newOk_spec livesOk).1 (HT.out.same HC3.out) (by decide) (newOk_spec livesOk).2).mono ?_
  rintro e w4 ⟨v, rfl, ho, hc⟩
  rw [livesC] at ho ⊢
  simp only at ho ⊢
  obtain ⟨vb', vcb', rfl, -, -⟩ := ho.clip
  have HC4 := Lib.hid (HC3.out.trans hc)
  obtain ⟨k0, k1, k2⟩ := HK.out
  have k0 := (HC23.out.trans hc).cellS k0 (fun h => h)
  have k1 := (HC23.out.trans hc).cellS k1 (fun h => h)
  have k2 := (HC23.out.trans hc).cellS k2 (fun h => h)
  clear ho hc
  simp only [Nat.add_zero] at k0 k1 k2
  go_wp2
  go_ret
  exact ⟨rfl, HC4.out⟩
end Go.Proofs.YtfhmblbomkhcpaaDoor
