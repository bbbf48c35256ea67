/- A number taken: rows' taking.num, the document's Reader.Num (printed by wip/gen/takew.py). -/
import Derived.Test.YtkfakkonlnjckaaTakeQ
import Derived.Test.YtkfakkonlnjckaaTakeB
import Derived.Test.YtkfakkonlnjckaaRowsR
namespace Go.Proofs.Ytkfakkonlnjckaa
open Go.RowKit

/-- A reader of bytes at b. -/
structure RdAt (w : World) (b : Nat) (v : Value) (s : Rd) : Prop where
  c0 : w.cell? ⟨b, 0, none⟩ = some v
  c1 : w.cell? ⟨b, 1, none⟩ = some (.int .i64 s.1)
  c2 : w.cell? ⟨b, 2, none⟩ = some (.bool s.2)
  z : ∀ j, w.frozen? ⟨b, j, none⟩ = false
theorem RdAt.lt {w : World} {b : Nat} {v : Value} {s : Rd} (h : RdAt w b v s) : b < w.heap.size := World.block_lt_of_cell? _ _ h.c0
theorem RdAt.chg {S : Nat → Prop} {w w' : World} {b : Nat} {v : Value} {s : Rd} (h : RdAt w b v s) (hc : Chg S w w') (hs : ¬ S b) : RdAt w' b v s :=
  ⟨hc.cellS h.c0 hs, hc.cellS h.c1 hs, hc.cellS h.c2 hs, fun j => (hc.frozen (p := ⟨b, j, none⟩) h.lt hs).trans (h.z j)⟩
theorem RdAt.bad {w : World} {b : Nat} {v : Value} {s : Rd} (h : RdAt w b v s) : RdAt (w.setCell ⟨b, 2, none⟩ (.bool true)) b v (s.1, true) :=
  ⟨Chg.cellNe h.c0 (by intro e; injection e with _ e; cases e), Chg.cellNe h.c1 (by intro e; injection e with _ e; cases e), World.cell?_setCell_same _ _ _ h.c2, fun j => (World.frozen?_setCell _ _ _ _).trans (h.z j)⟩
theorem RdAt.step {w : World} {b : Nat} {v : Value} {s : Rd} (h : RdAt w b v s) (n : Nat) : RdAt (w.setCell ⟨b, 1, none⟩ (.int .i64 n)) b v (n, s.2) :=
  ⟨Chg.cellNe h.c0 (by intro e; injection e with _ e; cases e), World.cell?_setCell_same _ _ _ h.c1, Chg.cellNe h.c2 (by intro e; injection e with _ e; cases e), fun j => (World.frozen?_setCell _ _ _ _).trans (h.z j)⟩
theorem numP_nil {Z : List Int} {m : Nat} {s : Rd} (h : Z.length ≤ s.1) : numP Z m s = (0, s.1, true) := by
  unfold numP
  rw [List.drop_eq_nil_of_le h]
  rfl
theorem BytesAt.drop {w : World} {g o k : Nat} {Z : List Int} (h : BytesAt w g o Z) : BytesAt w g (o + k) (Z.drop k) :=
  ⟨fun j a hj => by
    rw [List.getElem?_drop] at hj
    have := h.c (k + j) a hj
    rwa [← Nat.add_assoc] at this, fun hne => h.lt (by intro e; rw [e] at hne; simp at hne)⟩

set_option maxRecDepth 100000 in
set_option maxHeartbeats 4000000 in
theorem num_left (Z : List Int) (g o c b m : Nat) (s : Rd) (w : World) (hz : BytesAt w g o Z) (hc : s.1 < c) (hcz : Z.length ≤ c) (hl : Z.length ≤ 100000000) (hs : s.1 ≤ Z.length) (hm : m < 4294967296) (hr : RdAt w b (.slice (some ⟨g, o, none⟩) Z.length c) s) :
    Calls Try.prog 63 #[.pointer (some ⟨b, 0, none⟩), .int .i64 m] w fun e w' => e = .returned (.int .i64 (numP Z m s).1) ∧ RdAt w' b (.slice (some ⟨g, o, none⟩) Z.length c) (numP Z m s).2 ∧ Chg (fun j => j = b) w w' := by
  obtain ⟨at', wr⟩ := s
  have HZ := Lib.hid hz
  have HR := Lib.hid hr
  simp only at hc hs
  have hwm : IntKind.u32.wrap (m : Int) = m := by simp [IntKind.wrap, IntKind.bits, IntKind.signed]; omega
  cases hT : takeL 0 0 (Z.drop at') with
  | none =>
    have HNP : Hid (numP Z m (at', wr) = (0, at', true)) := Lib.hid (by unfold numP; simp only [hT])
    have HTK : Hid (∀ w', Chg (fun _ => False) w w' → Calls Try.prog 71 #[.slice (some ⟨g, o + at', none⟩) (Z.length - at') (c - at')] w' fun e w'' => e = .returned (.tuple #[.int .u32 0, .int .i64 0, .int .i64 4]) ∧ Chg (fun _ => False) w' w'') := Lib.hid (fun w' hc' => by
      have := take_any (Z.drop at') (some ⟨g, o + at', none⟩) g (o + at') (c - at') w' (HZ.out.drop.chg hc' (fun _ h => h)) (fun _ => rfl) (by rw [List.length_drop]; omega) (by rw [List.length_drop]; omega)
      rw [hT] at this
      rwa [List.length_drop] at this)
    have hi8 : (at' : Int) ≤ (Z.length : Int) := by omega
    have hi9 : ¬ c = at' := by omega
    have HSZ := Lib.hid hs
    clear hz hr
    clear hT
    go_enter Try.func63, Try.ntmps63
    go_upto_region 1 with (fail)
    refine wp_region_same (fun w' => Chg (fun _ => False) w w') (by kernel_rfl) (by kernel_rfl) ?_ ?_
    · exact (Chg.refl _ _).drew
    (refine wpC_read rfl (fun _ _ _ h => h) (fun K hK => ?_); apply Exists.intro; refine ⟨fun _ w' _ hC => ?_, ?_⟩; ((skip); go_simp; try with_reducible rfl); (try go_simp); refine hK _ ?_; clear hK K)
    (refine wpC_read rfl (fun _ _ _ h => h) (fun K hK => ?_); apply Exists.intro; refine ⟨fun _ w' _ hC => ?_, ?_⟩; ((skip); go_simp; try with_reducible rfl); (try go_simp); refine hK _ ?_; clear hK K)
    (refine wpC_read rfl (fun _ _ _ h => h) (fun K hK => ?_); apply Exists.intro; refine ⟨fun _ w' _ hC => ?_, ?_⟩; ((skip); go_simp; try with_reducible rfl); (try go_simp); refine hK _ ?_; clear hK K)
    (refine wpC_read rfl (fun _ _ _ h => h) (fun K hK => ?_); apply Exists.intro; refine ⟨fun _ w' _ hC => ?_, ?_⟩; ((have q := hC.cellS HR.out.c0 (fun h => h)); go_simp; try with_reducible rfl); (try go_simp); refine hK _ ?_; clear hK K)
    (refine wpC_read rfl (fun _ _ _ h => h) (fun K hK => ?_); apply Exists.intro; refine ⟨fun _ w' _ hC => ?_, ?_⟩; ((skip); go_simp; try with_reducible rfl); (try go_simp); refine hK _ ?_; clear hK K)
    (refine wpC_read rfl (fun _ _ _ h => h) (fun K hK => ?_); apply Exists.intro; refine ⟨fun _ w' _ hC => ?_, ?_⟩; ((skip); go_simp; try with_reducible rfl); (try go_simp); refine hK _ ?_; clear hK K)
    (refine wpC_read rfl (fun _ _ _ h => h) (fun K hK => ?_); apply Exists.intro; refine ⟨fun _ w' _ hC => ?_, ?_⟩; ((skip); go_simp; try with_reducible rfl); (try go_simp); refine hK _ ?_; clear hK K)
    (refine wpC_read rfl (fun _ _ _ h => h) (fun K hK => ?_); apply Exists.intro; refine ⟨fun _ w' _ hC => ?_, ?_⟩; ((have q := hC.cellS HR.out.c1 (fun h => h)); go_simp; try with_reducible rfl); (try go_simp); refine hK _ ?_; clear hK K)
    (refine wpC_read rfl (fun _ _ _ h => h) (fun K hK => ?_); apply Exists.intro; refine ⟨fun _ w' _ hC => ?_, ?_⟩; ((skip); go_simp; try with_reducible rfl); (try go_simp); refine hK _ ?_; clear hK K)
    refine wpC_call rfl (.tuple #[.int .u32 0, .int .i64 0, .int .i64 4] )  71  ( #[.slice (some ⟨g, o + at', none⟩) (Z.length - at') (c - at')]) (fun w' => by go_simp) (fun _ w' _ hC => ?_) (fun K hK => ?_)
    · refine (HTK.out w' hC).mono ?_
      rintro e w1 ⟨rfl, h2⟩
      exact ⟨rfl, hC.trans h2⟩
    ((try go_simp); refine hK _ ?_; clear hK K)
    iterate 7 (refine wpC_read rfl (fun _ _ _ h => h) (fun K hK => ?_); apply Exists.intro; refine ⟨fun _ w' _ hC => ?_, ?_⟩; ((skip); go_simp; try with_reducible rfl); (try go_simp); refine hK _ ?_; clear hK K)
    refine wpC_nil ?_
    intro w1 hC1
    have HC1 := Lib.hid hC1
    have HR1 := Lib.hid (HR.out.chg hC1 (fun h => h))
    have c0 := HR1.out.c0
    have c1 := HR1.out.c1
    have c2 := HR1.out.c2
    have z1 := HR1.out.z 1
    have z2 := HR1.out.z 2
    clear hC1
    go_wp2
    go_ret
    rw [HNP.out]
    exact ⟨rfl, HR1.out.bad, HC1.out.any.trans (setCellChg _ _ _ _)⟩
  | some p =>
    obtain ⟨n, k⟩ := p
    have h9 := takeL_some hT
    rw [List.length_drop] at h9
    obtain ⟨h91, h92, h93⟩ := h9
    have HTK : Hid (∀ w', Chg (fun _ => False) w w' → Calls Try.prog 71 #[.slice (some ⟨g, o + at', none⟩) (Z.length - at') (c - at')] w' fun e w'' => e = .returned (.tuple #[.int .u32 n, .int .i64 k, .int .i64 0]) ∧ Chg (fun _ => False) w' w'') := Lib.hid (fun w' hc' => by
      have := take_any (Z.drop at') (some ⟨g, o + at', none⟩) g (o + at') (c - at') w' (HZ.out.drop.chg hc' (fun _ h => h)) (fun _ => rfl) (by rw [List.length_drop]; omega) (by rw [List.length_drop]; omega)
      rw [hT] at this
      rwa [List.length_drop] at this)
    by_cases hnm : n ≤ m
    · have HNP : Hid (numP Z m (at', wr) = (n, at' + k, wr)) := Lib.hid (by unfold numP; simp only [hT]; rw [if_pos hnm])
      have b28 : decide ((m : Int) < (n : Int)) = false := by simp; omega
      have hi8 : (at' : Int) ≤ (Z.length : Int) := by omega
      have hi9 : ¬ c = at' := by omega
      have HSZ := Lib.hid hs
      clear hz hr
      clear hT
      go_enter Try.func63, Try.ntmps63
      go_upto_region 1 with (fail)
      refine wp_region_same (fun w' => Chg (fun _ => False) w w') (by kernel_rfl) (by kernel_rfl) ?_ ?_
      · exact (Chg.refl _ _).drew
      (refine wpC_read rfl (fun _ _ _ h => h) (fun K hK => ?_); apply Exists.intro; refine ⟨fun _ w' _ hC => ?_, ?_⟩; ((skip); go_simp; try with_reducible rfl); (try go_simp); refine hK _ ?_; clear hK K)
      (refine wpC_read rfl (fun _ _ _ h => h) (fun K hK => ?_); apply Exists.intro; refine ⟨fun _ w' _ hC => ?_, ?_⟩; ((skip); go_simp; try with_reducible rfl); (try go_simp); refine hK _ ?_; clear hK K)
      (refine wpC_read rfl (fun _ _ _ h => h) (fun K hK => ?_); apply Exists.intro; refine ⟨fun _ w' _ hC => ?_, ?_⟩; ((skip); go_simp; try with_reducible rfl); (try go_simp); refine hK _ ?_; clear hK K)
      (refine wpC_read rfl (fun _ _ _ h => h) (fun K hK => ?_); apply Exists.intro; refine ⟨fun _ w' _ hC => ?_, ?_⟩; ((have q := hC.cellS HR.out.c0 (fun h => h)); go_simp; try with_reducible rfl); (try go_simp); refine hK _ ?_; clear hK K)
      (refine wpC_read rfl (fun _ _ _ h => h) (fun K hK => ?_); apply Exists.intro; refine ⟨fun _ w' _ hC => ?_, ?_⟩; ((skip); go_simp; try with_reducible rfl); (try go_simp); refine hK _ ?_; clear hK K)
      (refine wpC_read rfl (fun _ _ _ h => h) (fun K hK => ?_); apply Exists.intro; refine ⟨fun _ w' _ hC => ?_, ?_⟩; ((skip); go_simp; try with_reducible rfl); (try go_simp); refine hK _ ?_; clear hK K)
      (refine wpC_read rfl (fun _ _ _ h => h) (fun K hK => ?_); apply Exists.intro; refine ⟨fun _ w' _ hC => ?_, ?_⟩; ((skip); go_simp; try with_reducible rfl); (try go_simp); refine hK _ ?_; clear hK K)
      (refine wpC_read rfl (fun _ _ _ h => h) (fun K hK => ?_); apply Exists.intro; refine ⟨fun _ w' _ hC => ?_, ?_⟩; ((have q := hC.cellS HR.out.c1 (fun h => h)); go_simp; try with_reducible rfl); (try go_simp); refine hK _ ?_; clear hK K)
      (refine wpC_read rfl (fun _ _ _ h => h) (fun K hK => ?_); apply Exists.intro; refine ⟨fun _ w' _ hC => ?_, ?_⟩; ((skip); go_simp; try with_reducible rfl); (try go_simp); refine hK _ ?_; clear hK K)
      refine wpC_call rfl (.tuple #[.int .u32 n, .int .i64 k, .int .i64 0] )  71  ( #[.slice (some ⟨g, o + at', none⟩) (Z.length - at') (c - at')]) (fun w' => by go_simp) (fun _ w' _ hC => ?_) (fun K hK => ?_)
      · refine (HTK.out w' hC).mono ?_
        rintro e w1 ⟨rfl, h2⟩
        exact ⟨rfl, hC.trans h2⟩
      ((try go_simp); refine hK _ ?_; clear hK K)
      iterate 7 (refine wpC_read rfl (fun _ _ _ h => h) (fun K hK => ?_); apply Exists.intro; refine ⟨fun _ w' _ hC => ?_, ?_⟩; ((skip); go_simp; try with_reducible rfl); (try go_simp); refine hK _ ?_; clear hK K)
      refine wpC_nil ?_
      intro w1 hC1
      have HC1 := Lib.hid hC1
      have HR1 := Lib.hid (HR.out.chg hC1 (fun h => h))
      have c0 := HR1.out.c0
      have c1 := HR1.out.c1
      have c2 := HR1.out.c2
      have z1 := HR1.out.z 1
      have z2 := HR1.out.z 2
      clear hC1
      go_wp2
      go_ret
      rw [HNP.out]
      exact ⟨by go_num, by have := HR1.out.step (at' + k); simpa using this, HC1.out.any.trans (by have := setCellChg w1 b 1 (.int .i64 ((at' + k : Nat) : Int)); simpa using this)⟩
    · have HNP : Hid (numP Z m (at', wr) = (0, at', true)) := Lib.hid (by unfold numP; simp only [hT]; rw [if_neg hnm])
      have b28 : decide ((m : Int) < (n : Int)) = true := by simp; omega
      have hi8 : (at' : Int) ≤ (Z.length : Int) := by omega
      have hi9 : ¬ c = at' := by omega
      have HSZ := Lib.hid hs
      clear hz hr
      clear hT
      go_enter Try.func63, Try.ntmps63
      go_upto_region 1 with (fail)
      refine wp_region_same (fun w' => Chg (fun _ => False) w w') (by kernel_rfl) (by kernel_rfl) ?_ ?_
      · exact (Chg.refl _ _).drew
      (refine wpC_read rfl (fun _ _ _ h => h) (fun K hK => ?_); apply Exists.intro; refine ⟨fun _ w' _ hC => ?_, ?_⟩; ((skip); go_simp; try with_reducible rfl); (try go_simp); refine hK _ ?_; clear hK K)
      (refine wpC_read rfl (fun _ _ _ h => h) (fun K hK => ?_); apply Exists.intro; refine ⟨fun _ w' _ hC => ?_, ?_⟩; ((skip); go_simp; try with_reducible rfl); (try go_simp); refine hK _ ?_; clear hK K)
      (refine wpC_read rfl (fun _ _ _ h => h) (fun K hK => ?_); apply Exists.intro; refine ⟨fun _ w' _ hC => ?_, ?_⟩; ((skip); go_simp; try with_reducible rfl); (try go_simp); refine hK _ ?_; clear hK K)
      (refine wpC_read rfl (fun _ _ _ h => h) (fun K hK => ?_); apply Exists.intro; refine ⟨fun _ w' _ hC => ?_, ?_⟩; ((have q := hC.cellS HR.out.c0 (fun h => h)); go_simp; try with_reducible rfl); (try go_simp); refine hK _ ?_; clear hK K)
      (refine wpC_read rfl (fun _ _ _ h => h) (fun K hK => ?_); apply Exists.intro; refine ⟨fun _ w' _ hC => ?_, ?_⟩; ((skip); go_simp; try with_reducible rfl); (try go_simp); refine hK _ ?_; clear hK K)
      (refine wpC_read rfl (fun _ _ _ h => h) (fun K hK => ?_); apply Exists.intro; refine ⟨fun _ w' _ hC => ?_, ?_⟩; ((skip); go_simp; try with_reducible rfl); (try go_simp); refine hK _ ?_; clear hK K)
      (refine wpC_read rfl (fun _ _ _ h => h) (fun K hK => ?_); apply Exists.intro; refine ⟨fun _ w' _ hC => ?_, ?_⟩; ((skip); go_simp; try with_reducible rfl); (try go_simp); refine hK _ ?_; clear hK K)
      (refine wpC_read rfl (fun _ _ _ h => h) (fun K hK => ?_); apply Exists.intro; refine ⟨fun _ w' _ hC => ?_, ?_⟩; ((have q := hC.cellS HR.out.c1 (fun h => h)); go_simp; try with_reducible rfl); (try go_simp); refine hK _ ?_; clear hK K)
      (refine wpC_read rfl (fun _ _ _ h => h) (fun K hK => ?_); apply Exists.intro; refine ⟨fun _ w' _ hC => ?_, ?_⟩; ((skip); go_simp; try with_reducible rfl); (try go_simp); refine hK _ ?_; clear hK K)
      refine wpC_call rfl (.tuple #[.int .u32 n, .int .i64 k, .int .i64 0] )  71  ( #[.slice (some ⟨g, o + at', none⟩) (Z.length - at') (c - at')]) (fun w' => by go_simp) (fun _ w' _ hC => ?_) (fun K hK => ?_)
      · refine (HTK.out w' hC).mono ?_
        rintro e w1 ⟨rfl, h2⟩
        exact ⟨rfl, hC.trans h2⟩
      ((try go_simp); refine hK _ ?_; clear hK K)
      iterate 7 (refine wpC_read rfl (fun _ _ _ h => h) (fun K hK => ?_); apply Exists.intro; refine ⟨fun _ w' _ hC => ?_, ?_⟩; ((skip); go_simp; try with_reducible rfl); (try go_simp); refine hK _ ?_; clear hK K)
      refine wpC_nil ?_
      intro w1 hC1
      have HC1 := Lib.hid hC1
      have HR1 := Lib.hid (HR.out.chg hC1 (fun h => h))
      have c0 := HR1.out.c0
      have c1 := HR1.out.c1
      have c2 := HR1.out.c2
      have z1 := HR1.out.z 1
      have z2 := HR1.out.z 2
      clear hC1
      go_wp2
      go_ret
      rw [HNP.out]
      exact ⟨rfl, HR1.out.bad, HC1.out.any.trans (setCellChg _ _ _ _)⟩

set_option maxRecDepth 100000 in
set_option maxHeartbeats 4000000 in
theorem num_full (Z : List Int) (g o c b m : Nat) (sp) (s : Rd) (w : World) (hc : c = s.1 ∧ s.1 = Z.length) (_hl : Z.length ≤ 100000000) (hs : s.1 ≤ Z.length) (hm : m < 4294967296) (hr : RdAt w b (.slice (some ⟨g, o, sp⟩) Z.length c) s) :
    Calls Try.prog 63 #[.pointer (some ⟨b, 0, none⟩), .int .i64 m] w fun e w' => e = .returned (.int .i64 (numP Z m s).1) ∧ RdAt w' b (.slice (some ⟨g, o, sp⟩) Z.length c) (numP Z m s).2 ∧ Chg (fun j => j = b) w w' := by
  obtain ⟨at', wr⟩ := s
  simp only at hc hs
  obtain ⟨rfl, rfl⟩ := hc
  have HR := Lib.hid hr
  have hwm : IntKind.u32.wrap (m : Int) = m := by simp [IntKind.wrap, IntKind.bits, IntKind.signed]; omega
  have HTK : Hid (∀ w', Chg (fun _ => False) w w' → Calls Try.prog 71 #[.slice (some ⟨g, o, sp⟩) 0 0] w' fun e w'' => e = .returned (.tuple #[.int .u32 0, .int .i64 0, .int .i64 4]) ∧ Chg (fun _ => False) w' w'') := Lib.hid (fun w' hc' => by
    have := take_any [] (some ⟨g, o, sp⟩) 0 0 0 w' ⟨fun k a hk => by simp at hk, fun h => absurd rfl h⟩ (fun h => absurd h (by simp)) (Nat.zero_le _) (Nat.zero_le _)
    exact this)
  have HNP : Hid (numP Z m (Z.length, wr) = (0, Z.length, true)) := Lib.hid (numP_nil (Nat.le_refl _))
  clear hr
  go_enter Try.func63, Try.ntmps63
  go_upto_region 1 with (fail)
  refine wp_region_same (fun w' => Chg (fun _ => False) w w') (by kernel_rfl) (by kernel_rfl) ?_ ?_
  · exact (Chg.refl _ _).drew
  (refine wpC_read rfl (fun _ _ _ h => h) (fun K hK => ?_); apply Exists.intro; refine ⟨fun _ w' _ hC => ?_, ?_⟩; ((skip); go_simp; try with_reducible rfl); (try go_simp); refine hK _ ?_; clear hK K)
  (refine wpC_read rfl (fun _ _ _ h => h) (fun K hK => ?_); apply Exists.intro; refine ⟨fun _ w' _ hC => ?_, ?_⟩; ((skip); go_simp; try with_reducible rfl); (try go_simp); refine hK _ ?_; clear hK K)
  (refine wpC_read rfl (fun _ _ _ h => h) (fun K hK => ?_); apply Exists.intro; refine ⟨fun _ w' _ hC => ?_, ?_⟩; ((skip); go_simp; try with_reducible rfl); (try go_simp); refine hK _ ?_; clear hK K)
  (refine wpC_read rfl (fun _ _ _ h => h) (fun K hK => ?_); apply Exists.intro; refine ⟨fun _ w' _ hC => ?_, ?_⟩; ((have q := hC.cellS HR.out.c0 (fun h => h)); go_simp; try with_reducible rfl); (try go_simp); refine hK _ ?_; clear hK K)
  (refine wpC_read rfl (fun _ _ _ h => h) (fun K hK => ?_); apply Exists.intro; refine ⟨fun _ w' _ hC => ?_, ?_⟩; ((skip); go_simp; try with_reducible rfl); (try go_simp); refine hK _ ?_; clear hK K)
  (refine wpC_read rfl (fun _ _ _ h => h) (fun K hK => ?_); apply Exists.intro; refine ⟨fun _ w' _ hC => ?_, ?_⟩; ((skip); go_simp; try with_reducible rfl); (try go_simp); refine hK _ ?_; clear hK K)
  (refine wpC_read rfl (fun _ _ _ h => h) (fun K hK => ?_); apply Exists.intro; refine ⟨fun _ w' _ hC => ?_, ?_⟩; ((skip); go_simp; try with_reducible rfl); (try go_simp); refine hK _ ?_; clear hK K)
  (refine wpC_read rfl (fun _ _ _ h => h) (fun K hK => ?_); apply Exists.intro; refine ⟨fun _ w' _ hC => ?_, ?_⟩; ((have q := hC.cellS HR.out.c1 (fun h => h)); go_simp; try with_reducible rfl); (try go_simp); refine hK _ ?_; clear hK K)
  (refine wpC_read rfl (fun _ _ _ h => h) (fun K hK => ?_); apply Exists.intro; refine ⟨fun _ w' _ hC => ?_, ?_⟩; ((skip); go_simp; try with_reducible rfl); (try go_simp); refine hK _ ?_; clear hK K)
  refine wpC_call rfl (.tuple #[.int .u32 0, .int .i64 0, .int .i64 4] )  71  ( #[.slice (some ⟨g, o, sp⟩) 0 0]) (fun w' => by go_simp) (fun _ w' _ hC => ?_) (fun K hK => ?_)
  · refine (HTK.out w' hC).mono ?_
    rintro e w1 ⟨rfl, h2⟩
    exact ⟨rfl, hC.trans h2⟩
  ((try go_simp); refine hK _ ?_; clear hK K)
  iterate 7 (refine wpC_read rfl (fun _ _ _ h => h) (fun K hK => ?_); apply Exists.intro; refine ⟨fun _ w' _ hC => ?_, ?_⟩; ((skip); go_simp; try with_reducible rfl); (try go_simp); refine hK _ ?_; clear hK K)
  refine wpC_nil ?_
  intro w1 hC1
  have HC1 := Lib.hid hC1
  have HR1 := Lib.hid (HR.out.chg hC1 (fun h => h))
  have c0 := HR1.out.c0
  have c1 := HR1.out.c1
  have c2 := HR1.out.c2
  have z1 := HR1.out.z 1
  have z2 := HR1.out.z 2
  clear hC1
  go_wp2
  go_ret
  rw [HNP.out]
  exact ⟨rfl, HR1.out.bad, HC1.out.any.trans (setCellChg _ _ _ _)⟩

set_option maxRecDepth 100000 in
set_option maxHeartbeats 4000000 in
theorem num_room (Z : List Int) (g o c b m : Nat) (sp) (s : Rd) (w : World) (hc : Z = [] ∧ s.1 = 0 ∧ 0 < c) (_hl : Z.length ≤ 100000000) (hs : s.1 ≤ Z.length) (hm : m < 4294967296) (hr : RdAt w b (.slice (some ⟨g, o, sp⟩) Z.length c) s) :
    Calls Try.prog 63 #[.pointer (some ⟨b, 0, none⟩), .int .i64 m] w fun e w' => e = .returned (.int .i64 (numP Z m s).1) ∧ RdAt w' b (.slice (some ⟨g, o, sp⟩) Z.length c) (numP Z m s).2 ∧ Chg (fun j => j = b) w w' := by
  obtain ⟨at', wr⟩ := s
  simp only at hc hs
  obtain ⟨rfl, rfl, hc⟩ := hc
  have hi9 : ¬ c = 0 := by omega
  have HR := Lib.hid hr
  have hwm : IntKind.u32.wrap (m : Int) = m := by simp [IntKind.wrap, IntKind.bits, IntKind.signed]; omega
  have HTK : Hid (∀ w', Chg (fun _ => False) w w' → Calls Try.prog 71 #[.slice (some ⟨g, o, sp⟩) 0 c] w' fun e w'' => e = .returned (.tuple #[.int .u32 0, .int .i64 0, .int .i64 4]) ∧ Chg (fun _ => False) w' w'') := Lib.hid (fun w' hc' => by
    have := take_any [] (some ⟨g, o, sp⟩) 0 0 c w' ⟨fun k a hk => by simp at hk, fun h => absurd rfl h⟩ (fun h => absurd h (by simp)) (Nat.zero_le _) (Nat.zero_le _)
    exact this)
  have HNP : Hid (numP [] m (0, wr) = (0, 0, true)) := Lib.hid (numP_nil (Nat.le_refl _))
  clear hr
  go_enter Try.func63, Try.ntmps63
  go_upto_region 1 with (fail)
  refine wp_region_same (fun w' => Chg (fun _ => False) w w') (by kernel_rfl) (by kernel_rfl) ?_ ?_
  · exact (Chg.refl _ _).drew
  (refine wpC_read rfl (fun _ _ _ h => h) (fun K hK => ?_); apply Exists.intro; refine ⟨fun _ w' _ hC => ?_, ?_⟩; ((skip); go_simp; try with_reducible rfl); (try go_simp); refine hK _ ?_; clear hK K)
  (refine wpC_read rfl (fun _ _ _ h => h) (fun K hK => ?_); apply Exists.intro; refine ⟨fun _ w' _ hC => ?_, ?_⟩; ((skip); go_simp; try with_reducible rfl); (try go_simp); refine hK _ ?_; clear hK K)
  (refine wpC_read rfl (fun _ _ _ h => h) (fun K hK => ?_); apply Exists.intro; refine ⟨fun _ w' _ hC => ?_, ?_⟩; ((skip); go_simp; try with_reducible rfl); (try go_simp); refine hK _ ?_; clear hK K)
  (refine wpC_read rfl (fun _ _ _ h => h) (fun K hK => ?_); apply Exists.intro; refine ⟨fun _ w' _ hC => ?_, ?_⟩; ((have q := hC.cellS HR.out.c0 (fun h => h)); go_simp; try with_reducible rfl); (try go_simp); refine hK _ ?_; clear hK K)
  (refine wpC_read rfl (fun _ _ _ h => h) (fun K hK => ?_); apply Exists.intro; refine ⟨fun _ w' _ hC => ?_, ?_⟩; ((skip); go_simp; try with_reducible rfl); (try go_simp); refine hK _ ?_; clear hK K)
  (refine wpC_read rfl (fun _ _ _ h => h) (fun K hK => ?_); apply Exists.intro; refine ⟨fun _ w' _ hC => ?_, ?_⟩; ((skip); go_simp; try with_reducible rfl); (try go_simp); refine hK _ ?_; clear hK K)
  (refine wpC_read rfl (fun _ _ _ h => h) (fun K hK => ?_); apply Exists.intro; refine ⟨fun _ w' _ hC => ?_, ?_⟩; ((skip); go_simp; try with_reducible rfl); (try go_simp); refine hK _ ?_; clear hK K)
  (refine wpC_read rfl (fun _ _ _ h => h) (fun K hK => ?_); apply Exists.intro; refine ⟨fun _ w' _ hC => ?_, ?_⟩; ((have q := hC.cellS HR.out.c1 (fun h => h)); go_simp; try with_reducible rfl); (try go_simp); refine hK _ ?_; clear hK K)
  (refine wpC_read rfl (fun _ _ _ h => h) (fun K hK => ?_); apply Exists.intro; refine ⟨fun _ w' _ hC => ?_, ?_⟩; ((skip); go_simp; try with_reducible rfl); (try go_simp); refine hK _ ?_; clear hK K)
  refine wpC_call rfl (.tuple #[.int .u32 0, .int .i64 0, .int .i64 4] )  71  ( #[.slice (some ⟨g, o, sp⟩) 0 c]) (fun w' => by go_simp) (fun _ w' _ hC => ?_) (fun K hK => ?_)
  · refine (HTK.out w' hC).mono ?_
    rintro e w1 ⟨rfl, h2⟩
    exact ⟨rfl, hC.trans h2⟩
  ((try go_simp); refine hK _ ?_; clear hK K)
  iterate 7 (refine wpC_read rfl (fun _ _ _ h => h) (fun K hK => ?_); apply Exists.intro; refine ⟨fun _ w' _ hC => ?_, ?_⟩; ((skip); go_simp; try with_reducible rfl); (try go_simp); refine hK _ ?_; clear hK K)
  refine wpC_nil ?_
  intro w1 hC1
  have HC1 := Lib.hid hC1
  have HR1 := Lib.hid (HR.out.chg hC1 (fun h => h))
  have c0 := HR1.out.c0
  have c1 := HR1.out.c1
  have c2 := HR1.out.c2
  have z1 := HR1.out.z 1
  have z2 := HR1.out.z 2
  clear hC1
  go_wp2
  go_ret
  rw [HNP.out]
  exact ⟨rfl, HR1.out.bad, HC1.out.any.trans (setCellChg _ _ _ _)⟩

set_option maxRecDepth 100000 in
set_option maxHeartbeats 4000000 in
theorem num_none (Z : List Int) (_g _o c b m : Nat) (s : Rd) (w : World) (hc : Z = [] ∧ s.1 = 0 ∧ c = 0) (_hl : Z.length ≤ 100000000) (hs : s.1 ≤ Z.length) (hm : m < 4294967296) (hr : RdAt w b (.slice none Z.length c) s) :
    Calls Try.prog 63 #[.pointer (some ⟨b, 0, none⟩), .int .i64 m] w fun e w' => e = .returned (.int .i64 (numP Z m s).1) ∧ RdAt w' b (.slice none Z.length c) (numP Z m s).2 ∧ Chg (fun j => j = b) w w' := by
  obtain ⟨at', wr⟩ := s
  simp only at hc hs
  obtain ⟨rfl, rfl, rfl⟩ := hc
  have HR := Lib.hid hr
  have hwm : IntKind.u32.wrap (m : Int) = m := by simp [IntKind.wrap, IntKind.bits, IntKind.signed]; omega
  have HTK : Hid (∀ w', Chg (fun _ => False) w w' → Calls Try.prog 71 #[.slice none 0 0] w' fun e w'' => e = .returned (.tuple #[.int .u32 0, .int .i64 0, .int .i64 4]) ∧ Chg (fun _ => False) w' w'') := Lib.hid (fun w' hc' => by
    have := take_any [] none 0 0 0 w' ⟨fun k a hk => by simp at hk, fun h => absurd rfl h⟩ (fun h => absurd h (by simp)) (Nat.zero_le _) (Nat.zero_le _)
    exact this)
  have HNP : Hid (numP [] m (0, wr) = (0, 0, true)) := Lib.hid (numP_nil (Nat.le_refl _))
  clear hr
  go_enter Try.func63, Try.ntmps63
  go_upto_region 1 with (fail)
  refine wp_region_same (fun w' => Chg (fun _ => False) w w') (by kernel_rfl) (by kernel_rfl) ?_ ?_
  · exact (Chg.refl _ _).drew
  (refine wpC_read rfl (fun _ _ _ h => h) (fun K hK => ?_); apply Exists.intro; refine ⟨fun _ w' _ hC => ?_, ?_⟩; ((skip); go_simp; try with_reducible rfl); (try go_simp); refine hK _ ?_; clear hK K)
  (refine wpC_read rfl (fun _ _ _ h => h) (fun K hK => ?_); apply Exists.intro; refine ⟨fun _ w' _ hC => ?_, ?_⟩; ((skip); go_simp; try with_reducible rfl); (try go_simp); refine hK _ ?_; clear hK K)
  (refine wpC_read rfl (fun _ _ _ h => h) (fun K hK => ?_); apply Exists.intro; refine ⟨fun _ w' _ hC => ?_, ?_⟩; ((skip); go_simp; try with_reducible rfl); (try go_simp); refine hK _ ?_; clear hK K)
  (refine wpC_read rfl (fun _ _ _ h => h) (fun K hK => ?_); apply Exists.intro; refine ⟨fun _ w' _ hC => ?_, ?_⟩; ((have q := hC.cellS HR.out.c0 (fun h => h)); go_simp; try with_reducible rfl); (try go_simp); refine hK _ ?_; clear hK K)
  (refine wpC_read rfl (fun _ _ _ h => h) (fun K hK => ?_); apply Exists.intro; refine ⟨fun _ w' _ hC => ?_, ?_⟩; ((skip); go_simp; try with_reducible rfl); (try go_simp); refine hK _ ?_; clear hK K)
  (refine wpC_read rfl (fun _ _ _ h => h) (fun K hK => ?_); apply Exists.intro; refine ⟨fun _ w' _ hC => ?_, ?_⟩; ((skip); go_simp; try with_reducible rfl); (try go_simp); refine hK _ ?_; clear hK K)
  (refine wpC_read rfl (fun _ _ _ h => h) (fun K hK => ?_); apply Exists.intro; refine ⟨fun _ w' _ hC => ?_, ?_⟩; ((skip); go_simp; try with_reducible rfl); (try go_simp); refine hK _ ?_; clear hK K)
  (refine wpC_read rfl (fun _ _ _ h => h) (fun K hK => ?_); apply Exists.intro; refine ⟨fun _ w' _ hC => ?_, ?_⟩; ((have q := hC.cellS HR.out.c1 (fun h => h)); go_simp; try with_reducible rfl); (try go_simp); refine hK _ ?_; clear hK K)
  (refine wpC_read rfl (fun _ _ _ h => h) (fun K hK => ?_); apply Exists.intro; refine ⟨fun _ w' _ hC => ?_, ?_⟩; ((skip); go_simp; try with_reducible rfl); (try go_simp); refine hK _ ?_; clear hK K)
  refine wpC_call rfl (.tuple #[.int .u32 0, .int .i64 0, .int .i64 4] )  71  ( #[.slice none 0 0]) (fun w' => by go_simp) (fun _ w' _ hC => ?_) (fun K hK => ?_)
  · refine (HTK.out w' hC).mono ?_
    rintro e w1 ⟨rfl, h2⟩
    exact ⟨rfl, hC.trans h2⟩
  ((try go_simp); refine hK _ ?_; clear hK K)
  iterate 7 (refine wpC_read rfl (fun _ _ _ h => h) (fun K hK => ?_); apply Exists.intro; refine ⟨fun _ w' _ hC => ?_, ?_⟩; ((skip); go_simp; try with_reducible rfl); (try go_simp); refine hK _ ?_; clear hK K)
  refine wpC_nil ?_
  intro w1 hC1
  have HC1 := Lib.hid hC1
  have HR1 := Lib.hid (HR.out.chg hC1 (fun h => h))
  have c0 := HR1.out.c0
  have c1 := HR1.out.c1
  have c2 := HR1.out.c2
  have z1 := HR1.out.z 1
  have z2 := HR1.out.z 2
  clear hC1
  go_wp2
  go_ret
  rw [HNP.out]
  exact ⟨rfl, HR1.out.bad, HC1.out.any.trans (setCellChg _ _ _ _)⟩

theorem num_all (Z : List Int) (a : Option Addr) (g o c b m : Nat) (s : Rd) (w : World) (hz : BytesAt w g o Z) (ha : 0 < Z.length → a = some ⟨g, o, none⟩) (hcz : Z.length ≤ c) (hn : a = none → c = 0) (hl : Z.length ≤ 100000000) (hs : s.1 ≤ Z.length) (hm : m < 4294967296) (hr : RdAt w b (.slice a Z.length c) s) :
    Calls Try.prog 63 #[.pointer (some ⟨b, 0, none⟩), .int .i64 m] w fun e w' => e = .returned (.int .i64 (numP Z m s).1) ∧ RdAt w' b (.slice a Z.length c) (numP Z m s).2 ∧ Chg (fun j => j = b) w w' := by
  cases a with
  | none =>
    have h0 : Z = [] := by
      cases Z with
      | nil => rfl
      | cons z Z => have := ha (by simp); cases this
    subst h0
    exact num_none [] 0 0 c b m s w ⟨rfl, by simpa using hs, hn rfl⟩ hl hs hm hr
  | some p =>
    obtain ⟨g', o', sp⟩ := p
    by_cases h0 : Z = []
    · subst h0
      have h1 : s.1 = 0 := by simpa using hs
      by_cases h2 : c = 0
      · exact num_full [] g' o' c b m sp s w ⟨by omega, by simpa using h1⟩ hl hs hm hr
      · exact num_room [] g' o' c b m sp s w ⟨rfl, h1, by omega⟩ hl hs hm hr
    · have h1 : 0 < Z.length := by
        cases Z with
        | nil => exact absurd rfl h0
        | cons z Z => simp
      have h2 := ha h1
      injection h2 with h2
      injection h2 with h3 h4 h5
      subst h3 h4 h5
      by_cases h6 : s.1 < c
      · exact num_left Z g' o' c b m s w hz h6 hcz hl hs hm hr
      · exact num_full Z g' o' c b m none s w ⟨by omega, by omega⟩ hl hs hm hr

set_option maxRecDepth 100000 in
set_option maxHeartbeats 4000000 in
theorem refNum_left (Z : List Int) (g o c b : Nat) (s : Rd) (w : World) (hz : BytesAt w g o Z) (hc : s.1 < c) (hcz : Z.length ≤ c) (hl : Z.length ≤ 100000000) (hs : s.1 ≤ Z.length) (hr : RdAt w b (.slice (some ⟨g, o, none⟩) Z.length c) s) :
    Calls Try.prog 65 #[.pointer (some ⟨b, 0, none⟩)] w fun e w' => e = .returned (.int .i64 (numP Z 4294967295 s).1) ∧ RdAt w' b (.slice (some ⟨g, o, none⟩) Z.length c) (numP Z 4294967295 s).2 ∧ Chg (fun j => j = b) w w' := by
  obtain ⟨at', wr⟩ := s
  have HZ := Lib.hid hz
  have HR := Lib.hid hr
  simp only at hc hs
  cases hT : takeL 0 0 (Z.drop at') with
  | none =>
    have HNP : Hid (numP Z 4294967295 (at', wr) = (0, at', true)) := Lib.hid (by unfold numP; simp only [hT])
    have HTK : Hid (∀ w', Chg (fun _ => False) w w' → Calls Try.prog 72 #[.slice (some ⟨g, o + at', none⟩) (Z.length - at') (c - at')] w' fun e w'' => e = .returned (.tuple #[.int .u32 0, .int .i64 0, .int .i64 4]) ∧ Chg (fun _ => False) w' w'') := Lib.hid (fun w' hc' => by
      have := refTake_any (Z.drop at') (some ⟨g, o + at', none⟩) g (o + at') (c - at') w' (HZ.out.drop.chg hc' (fun _ h => h)) (fun _ => rfl) (by rw [List.length_drop]; omega) (by rw [List.length_drop]; omega)
      rw [hT] at this
      rwa [List.length_drop] at this)
    have hi8 : (at' : Int) ≤ (Z.length : Int) := by omega
    have hi9 : ¬ c = at' := by omega
    have HSZ := Lib.hid hs
    clear hz hr
    clear hT
    go_enter Try.func65, Try.ntmps65
    go_upto_region 1 with (fail)
    refine wp_region_same (fun w' => Chg (fun _ => False) w w') (by kernel_rfl) (by kernel_rfl) ?_ ?_
    · exact (Chg.refl _ _).drew
    (refine wpC_read rfl (fun _ _ _ h => h) (fun K hK => ?_); apply Exists.intro; refine ⟨fun _ w' _ hC => ?_, ?_⟩; ((skip); go_simp; try with_reducible rfl); (try go_simp); refine hK _ ?_; clear hK K)
    (refine wpC_read rfl (fun _ _ _ h => h) (fun K hK => ?_); apply Exists.intro; refine ⟨fun _ w' _ hC => ?_, ?_⟩; ((skip); go_simp; try with_reducible rfl); (try go_simp); refine hK _ ?_; clear hK K)
    (refine wpC_read rfl (fun _ _ _ h => h) (fun K hK => ?_); apply Exists.intro; refine ⟨fun _ w' _ hC => ?_, ?_⟩; ((skip); go_simp; try with_reducible rfl); (try go_simp); refine hK _ ?_; clear hK K)
    (refine wpC_read rfl (fun _ _ _ h => h) (fun K hK => ?_); apply Exists.intro; refine ⟨fun _ w' _ hC => ?_, ?_⟩; ((have q := hC.cellS HR.out.c0 (fun h => h)); go_simp; try with_reducible rfl); (try go_simp); refine hK _ ?_; clear hK K)
    (refine wpC_read rfl (fun _ _ _ h => h) (fun K hK => ?_); apply Exists.intro; refine ⟨fun _ w' _ hC => ?_, ?_⟩; ((skip); go_simp; try with_reducible rfl); (try go_simp); refine hK _ ?_; clear hK K)
    (refine wpC_read rfl (fun _ _ _ h => h) (fun K hK => ?_); apply Exists.intro; refine ⟨fun _ w' _ hC => ?_, ?_⟩; ((skip); go_simp; try with_reducible rfl); (try go_simp); refine hK _ ?_; clear hK K)
    (refine wpC_read rfl (fun _ _ _ h => h) (fun K hK => ?_); apply Exists.intro; refine ⟨fun _ w' _ hC => ?_, ?_⟩; ((skip); go_simp; try with_reducible rfl); (try go_simp); refine hK _ ?_; clear hK K)
    (refine wpC_read rfl (fun _ _ _ h => h) (fun K hK => ?_); apply Exists.intro; refine ⟨fun _ w' _ hC => ?_, ?_⟩; ((have q := hC.cellS HR.out.c1 (fun h => h)); go_simp; try with_reducible rfl); (try go_simp); refine hK _ ?_; clear hK K)
    (refine wpC_read rfl (fun _ _ _ h => h) (fun K hK => ?_); apply Exists.intro; refine ⟨fun _ w' _ hC => ?_, ?_⟩; ((skip); go_simp; try with_reducible rfl); (try go_simp); refine hK _ ?_; clear hK K)
    refine wpC_call rfl (.tuple #[.int .u32 0, .int .i64 0, .int .i64 4] )  72  ( #[.slice (some ⟨g, o + at', none⟩) (Z.length - at') (c - at')]) (fun w' => by go_simp) (fun _ w' _ hC => ?_) (fun K hK => ?_)
    · refine (HTK.out w' hC).mono ?_
      rintro e w1 ⟨rfl, h2⟩
      exact ⟨rfl, hC.trans h2⟩
    ((try go_simp); refine hK _ ?_; clear hK K)
    iterate 7 (refine wpC_read rfl (fun _ _ _ h => h) (fun K hK => ?_); apply Exists.intro; refine ⟨fun _ w' _ hC => ?_, ?_⟩; ((skip); go_simp; try with_reducible rfl); (try go_simp); refine hK _ ?_; clear hK K)
    refine wpC_nil ?_
    intro w1 hC1
    have HC1 := Lib.hid hC1
    have HR1 := Lib.hid (HR.out.chg hC1 (fun h => h))
    have c0 := HR1.out.c0
    have c1 := HR1.out.c1
    have c2 := HR1.out.c2
    have z1 := HR1.out.z 1
    have z2 := HR1.out.z 2
    clear hC1
    go_wp2
    go_ret
    rw [HNP.out]
    exact ⟨rfl, HR1.out.bad, HC1.out.any.trans (setCellChg _ _ _ _)⟩
  | some p =>
    obtain ⟨n, k⟩ := p
    have h9 := takeL_some hT
    rw [List.length_drop] at h9
    obtain ⟨h91, h92, h93⟩ := h9
    have HTK : Hid (∀ w', Chg (fun _ => False) w w' → Calls Try.prog 72 #[.slice (some ⟨g, o + at', none⟩) (Z.length - at') (c - at')] w' fun e w'' => e = .returned (.tuple #[.int .u32 n, .int .i64 k, .int .i64 0]) ∧ Chg (fun _ => False) w' w'') := Lib.hid (fun w' hc' => by
      have := refTake_any (Z.drop at') (some ⟨g, o + at', none⟩) g (o + at') (c - at') w' (HZ.out.drop.chg hc' (fun _ h => h)) (fun _ => rfl) (by rw [List.length_drop]; omega) (by rw [List.length_drop]; omega)
      rw [hT] at this
      rwa [List.length_drop] at this)
    have HNP : Hid (numP Z 4294967295 (at', wr) = (n, at' + k, wr)) := Lib.hid (by unfold numP; simp only [hT]; rw [if_pos (by omega)])
    have hi8 : (at' : Int) ≤ (Z.length : Int) := by omega
    have hi9 : ¬ c = at' := by omega
    have HSZ := Lib.hid hs
    clear hz hr
    clear hT
    go_enter Try.func65, Try.ntmps65
    go_upto_region 1 with (fail)
    refine wp_region_same (fun w' => Chg (fun _ => False) w w') (by kernel_rfl) (by kernel_rfl) ?_ ?_
    · exact (Chg.refl _ _).drew
    (refine wpC_read rfl (fun _ _ _ h => h) (fun K hK => ?_); apply Exists.intro; refine ⟨fun _ w' _ hC => ?_, ?_⟩; ((skip); go_simp; try with_reducible rfl); (try go_simp); refine hK _ ?_; clear hK K)
    (refine wpC_read rfl (fun _ _ _ h => h) (fun K hK => ?_); apply Exists.intro; refine ⟨fun _ w' _ hC => ?_, ?_⟩; ((skip); go_simp; try with_reducible rfl); (try go_simp); refine hK _ ?_; clear hK K)
    (refine wpC_read rfl (fun _ _ _ h => h) (fun K hK => ?_); apply Exists.intro; refine ⟨fun _ w' _ hC => ?_, ?_⟩; ((skip); go_simp; try with_reducible rfl); (try go_simp); refine hK _ ?_; clear hK K)
    (refine wpC_read rfl (fun _ _ _ h => h) (fun K hK => ?_); apply Exists.intro; refine ⟨fun _ w' _ hC => ?_, ?_⟩; ((have q := hC.cellS HR.out.c0 (fun h => h)); go_simp; try with_reducible rfl); (try go_simp); refine hK _ ?_; clear hK K)
    (refine wpC_read rfl (fun _ _ _ h => h) (fun K hK => ?_); apply Exists.intro; refine ⟨fun _ w' _ hC => ?_, ?_⟩; ((skip); go_simp; try with_reducible rfl); (try go_simp); refine hK _ ?_; clear hK K)
    (refine wpC_read rfl (fun _ _ _ h => h) (fun K hK => ?_); apply Exists.intro; refine ⟨fun _ w' _ hC => ?_, ?_⟩; ((skip); go_simp; try with_reducible rfl); (try go_simp); refine hK _ ?_; clear hK K)
    (refine wpC_read rfl (fun _ _ _ h => h) (fun K hK => ?_); apply Exists.intro; refine ⟨fun _ w' _ hC => ?_, ?_⟩; ((skip); go_simp; try with_reducible rfl); (try go_simp); refine hK _ ?_; clear hK K)
    (refine wpC_read rfl (fun _ _ _ h => h) (fun K hK => ?_); apply Exists.intro; refine ⟨fun _ w' _ hC => ?_, ?_⟩; ((have q := hC.cellS HR.out.c1 (fun h => h)); go_simp; try with_reducible rfl); (try go_simp); refine hK _ ?_; clear hK K)
    (refine wpC_read rfl (fun _ _ _ h => h) (fun K hK => ?_); apply Exists.intro; refine ⟨fun _ w' _ hC => ?_, ?_⟩; ((skip); go_simp; try with_reducible rfl); (try go_simp); refine hK _ ?_; clear hK K)
    refine wpC_call rfl (.tuple #[.int .u32 n, .int .i64 k, .int .i64 0] )  72  ( #[.slice (some ⟨g, o + at', none⟩) (Z.length - at') (c - at')]) (fun w' => by go_simp) (fun _ w' _ hC => ?_) (fun K hK => ?_)
    · refine (HTK.out w' hC).mono ?_
      rintro e w1 ⟨rfl, h2⟩
      exact ⟨rfl, hC.trans h2⟩
    ((try go_simp); refine hK _ ?_; clear hK K)
    iterate 7 (refine wpC_read rfl (fun _ _ _ h => h) (fun K hK => ?_); apply Exists.intro; refine ⟨fun _ w' _ hC => ?_, ?_⟩; ((skip); go_simp; try with_reducible rfl); (try go_simp); refine hK _ ?_; clear hK K)
    refine wpC_nil ?_
    intro w1 hC1
    have HC1 := Lib.hid hC1
    have HR1 := Lib.hid (HR.out.chg hC1 (fun h => h))
    have c0 := HR1.out.c0
    have c1 := HR1.out.c1
    have c2 := HR1.out.c2
    have z1 := HR1.out.z 1
    have z2 := HR1.out.z 2
    clear hC1
    go_wp2
    go_ret
    rw [HNP.out]
    exact ⟨by go_num, by have := HR1.out.step (at' + k); simpa using this, HC1.out.any.trans (by have := setCellChg w1 b 1 (.int .i64 ((at' + k : Nat) : Int)); simpa using this)⟩

set_option maxRecDepth 100000 in
set_option maxHeartbeats 4000000 in
theorem refNum_full (Z : List Int) (g o c b : Nat) (sp) (s : Rd) (w : World) (hc : c = s.1 ∧ s.1 = Z.length) (_hl : Z.length ≤ 100000000) (hs : s.1 ≤ Z.length) (hr : RdAt w b (.slice (some ⟨g, o, sp⟩) Z.length c) s) :
    Calls Try.prog 65 #[.pointer (some ⟨b, 0, none⟩)] w fun e w' => e = .returned (.int .i64 (numP Z 4294967295 s).1) ∧ RdAt w' b (.slice (some ⟨g, o, sp⟩) Z.length c) (numP Z 4294967295 s).2 ∧ Chg (fun j => j = b) w w' := by
  obtain ⟨at', wr⟩ := s
  simp only at hc hs
  obtain ⟨rfl, rfl⟩ := hc
  have HR := Lib.hid hr
  have HTK : Hid (∀ w', Chg (fun _ => False) w w' → Calls Try.prog 72 #[.slice (some ⟨g, o, sp⟩) 0 0] w' fun e w'' => e = .returned (.tuple #[.int .u32 0, .int .i64 0, .int .i64 4]) ∧ Chg (fun _ => False) w' w'') := Lib.hid (fun w' hc' => by
    have := refTake_any [] (some ⟨g, o, sp⟩) 0 0 0 w' ⟨fun k a hk => by simp at hk, fun h => absurd rfl h⟩ (fun h => absurd h (by simp)) (Nat.zero_le _) (Nat.zero_le _)
    exact this)
  have HNP : Hid (numP Z 4294967295 (Z.length, wr) = (0, Z.length, true)) := Lib.hid (numP_nil (Nat.le_refl _))
  clear hr
  go_enter Try.func65, Try.ntmps65
  go_upto_region 1 with (fail)
  refine wp_region_same (fun w' => Chg (fun _ => False) w w') (by kernel_rfl) (by kernel_rfl) ?_ ?_
  · exact (Chg.refl _ _).drew
  (refine wpC_read rfl (fun _ _ _ h => h) (fun K hK => ?_); apply Exists.intro; refine ⟨fun _ w' _ hC => ?_, ?_⟩; ((skip); go_simp; try with_reducible rfl); (try go_simp); refine hK _ ?_; clear hK K)
  (refine wpC_read rfl (fun _ _ _ h => h) (fun K hK => ?_); apply Exists.intro; refine ⟨fun _ w' _ hC => ?_, ?_⟩; ((skip); go_simp; try with_reducible rfl); (try go_simp); refine hK _ ?_; clear hK K)
  (refine wpC_read rfl (fun _ _ _ h => h) (fun K hK => ?_); apply Exists.intro; refine ⟨fun _ w' _ hC => ?_, ?_⟩; ((skip); go_simp; try with_reducible rfl); (try go_simp); refine hK _ ?_; clear hK K)
  (refine wpC_read rfl (fun _ _ _ h => h) (fun K hK => ?_); apply Exists.intro; refine ⟨fun _ w' _ hC => ?_, ?_⟩; ((have q := hC.cellS HR.out.c0 (fun h => h)); go_simp; try with_reducible rfl); (try go_simp); refine hK _ ?_; clear hK K)
  (refine wpC_read rfl (fun _ _ _ h => h) (fun K hK => ?_); apply Exists.intro; refine ⟨fun _ w' _ hC => ?_, ?_⟩; ((skip); go_simp; try with_reducible rfl); (try go_simp); refine hK _ ?_; clear hK K)
  (refine wpC_read rfl (fun _ _ _ h => h) (fun K hK => ?_); apply Exists.intro; refine ⟨fun _ w' _ hC => ?_, ?_⟩; ((skip); go_simp; try with_reducible rfl); (try go_simp); refine hK _ ?_; clear hK K)
  (refine wpC_read rfl (fun _ _ _ h => h) (fun K hK => ?_); apply Exists.intro; refine ⟨fun _ w' _ hC => ?_, ?_⟩; ((skip); go_simp; try with_reducible rfl); (try go_simp); refine hK _ ?_; clear hK K)
  (refine wpC_read rfl (fun _ _ _ h => h) (fun K hK => ?_); apply Exists.intro; refine ⟨fun _ w' _ hC => ?_, ?_⟩; ((have q := hC.cellS HR.out.c1 (fun h => h)); go_simp; try with_reducible rfl); (try go_simp); refine hK _ ?_; clear hK K)
  (refine wpC_read rfl (fun _ _ _ h => h) (fun K hK => ?_); apply Exists.intro; refine ⟨fun _ w' _ hC => ?_, ?_⟩; ((skip); go_simp; try with_reducible rfl); (try go_simp); refine hK _ ?_; clear hK K)
  refine wpC_call rfl (.tuple #[.int .u32 0, .int .i64 0, .int .i64 4] )  72  ( #[.slice (some ⟨g, o, sp⟩) 0 0]) (fun w' => by go_simp) (fun _ w' _ hC => ?_) (fun K hK => ?_)
  · refine (HTK.out w' hC).mono ?_
    rintro e w1 ⟨rfl, h2⟩
    exact ⟨rfl, hC.trans h2⟩
  ((try go_simp); refine hK _ ?_; clear hK K)
  iterate 7 (refine wpC_read rfl (fun _ _ _ h => h) (fun K hK => ?_); apply Exists.intro; refine ⟨fun _ w' _ hC => ?_, ?_⟩; ((skip); go_simp; try with_reducible rfl); (try go_simp); refine hK _ ?_; clear hK K)
  refine wpC_nil ?_
  intro w1 hC1
  have HC1 := Lib.hid hC1
  have HR1 := Lib.hid (HR.out.chg hC1 (fun h => h))
  have c0 := HR1.out.c0
  have c1 := HR1.out.c1
  have c2 := HR1.out.c2
  have z1 := HR1.out.z 1
  have z2 := HR1.out.z 2
  clear hC1
  go_wp2
  go_ret
  rw [HNP.out]
  exact ⟨rfl, HR1.out.bad, HC1.out.any.trans (setCellChg _ _ _ _)⟩

set_option maxRecDepth 100000 in
set_option maxHeartbeats 4000000 in
theorem refNum_room (Z : List Int) (g o c b : Nat) (sp) (s : Rd) (w : World) (hc : Z = [] ∧ s.1 = 0 ∧ 0 < c) (_hl : Z.length ≤ 100000000) (hs : s.1 ≤ Z.length) (hr : RdAt w b (.slice (some ⟨g, o, sp⟩) Z.length c) s) :
    Calls Try.prog 65 #[.pointer (some ⟨b, 0, none⟩)] w fun e w' => e = .returned (.int .i64 (numP Z 4294967295 s).1) ∧ RdAt w' b (.slice (some ⟨g, o, sp⟩) Z.length c) (numP Z 4294967295 s).2 ∧ Chg (fun j => j = b) w w' := by
  obtain ⟨at', wr⟩ := s
  simp only at hc hs
  obtain ⟨rfl, rfl, hc⟩ := hc
  have hi9 : ¬ c = 0 := by omega
  have HR := Lib.hid hr
  have HTK : Hid (∀ w', Chg (fun _ => False) w w' → Calls Try.prog 72 #[.slice (some ⟨g, o, sp⟩) 0 c] w' fun e w'' => e = .returned (.tuple #[.int .u32 0, .int .i64 0, .int .i64 4]) ∧ Chg (fun _ => False) w' w'') := Lib.hid (fun w' hc' => by
    have := refTake_any [] (some ⟨g, o, sp⟩) 0 0 c w' ⟨fun k a hk => by simp at hk, fun h => absurd rfl h⟩ (fun h => absurd h (by simp)) (Nat.zero_le _) (Nat.zero_le _)
    exact this)
  have HNP : Hid (numP [] 4294967295 (0, wr) = (0, 0, true)) := Lib.hid (numP_nil (Nat.le_refl _))
  clear hr
  go_enter Try.func65, Try.ntmps65
  go_upto_region 1 with (fail)
  refine wp_region_same (fun w' => Chg (fun _ => False) w w') (by kernel_rfl) (by kernel_rfl) ?_ ?_
  · exact (Chg.refl _ _).drew
  (refine wpC_read rfl (fun _ _ _ h => h) (fun K hK => ?_); apply Exists.intro; refine ⟨fun _ w' _ hC => ?_, ?_⟩; ((skip); go_simp; try with_reducible rfl); (try go_simp); refine hK _ ?_; clear hK K)
  (refine wpC_read rfl (fun _ _ _ h => h) (fun K hK => ?_); apply Exists.intro; refine ⟨fun _ w' _ hC => ?_, ?_⟩; ((skip); go_simp; try with_reducible rfl); (try go_simp); refine hK _ ?_; clear hK K)
  (refine wpC_read rfl (fun _ _ _ h => h) (fun K hK => ?_); apply Exists.intro; refine ⟨fun _ w' _ hC => ?_, ?_⟩; ((skip); go_simp; try with_reducible rfl); (try go_simp); refine hK _ ?_; clear hK K)
  (refine wpC_read rfl (fun _ _ _ h => h) (fun K hK => ?_); apply Exists.intro; refine ⟨fun _ w' _ hC => ?_, ?_⟩; ((have q := hC.cellS HR.out.c0 (fun h => h)); go_simp; try with_reducible rfl); (try go_simp); refine hK _ ?_; clear hK K)
  (refine wpC_read rfl (fun _ _ _ h => h) (fun K hK => ?_); apply Exists.intro; refine ⟨fun _ w' _ hC => ?_, ?_⟩; ((skip); go_simp; try with_reducible rfl); (try go_simp); refine hK _ ?_; clear hK K)
  (refine wpC_read rfl (fun _ _ _ h => h) (fun K hK => ?_); apply Exists.intro; refine ⟨fun _ w' _ hC => ?_, ?_⟩; ((skip); go_simp; try with_reducible rfl); (try go_simp); refine hK _ ?_; clear hK K)
  (refine wpC_read rfl (fun _ _ _ h => h) (fun K hK => ?_); apply Exists.intro; refine ⟨fun _ w' _ hC => ?_, ?_⟩; ((skip); go_simp; try with_reducible rfl); (try go_simp); refine hK _ ?_; clear hK K)
  (refine wpC_read rfl (fun _ _ _ h => h) (fun K hK => ?_); apply Exists.intro; refine ⟨fun _ w' _ hC => ?_, ?_⟩; ((have q := hC.cellS HR.out.c1 (fun h => h)); go_simp; try with_reducible rfl); (try go_simp); refine hK _ ?_; clear hK K)
  (refine wpC_read rfl (fun _ _ _ h => h) (fun K hK => ?_); apply Exists.intro; refine ⟨fun _ w' _ hC => ?_, ?_⟩; ((skip); go_simp; try with_reducible rfl); (try go_simp); refine hK _ ?_; clear hK K)
  refine wpC_call rfl (.tuple #[.int .u32 0, .int .i64 0, .int .i64 4] )  72  ( #[.slice (some ⟨g, o, sp⟩) 0 c]) (fun w' => by go_simp) (fun _ w' _ hC => ?_) (fun K hK => ?_)
  · refine (HTK.out w' hC).mono ?_
    rintro e w1 ⟨rfl, h2⟩
    exact ⟨rfl, hC.trans h2⟩
  ((try go_simp); refine hK _ ?_; clear hK K)
  iterate 7 (refine wpC_read rfl (fun _ _ _ h => h) (fun K hK => ?_); apply Exists.intro; refine ⟨fun _ w' _ hC => ?_, ?_⟩; ((skip); go_simp; try with_reducible rfl); (try go_simp); refine hK _ ?_; clear hK K)
  refine wpC_nil ?_
  intro w1 hC1
  have HC1 := Lib.hid hC1
  have HR1 := Lib.hid (HR.out.chg hC1 (fun h => h))
  have c0 := HR1.out.c0
  have c1 := HR1.out.c1
  have c2 := HR1.out.c2
  have z1 := HR1.out.z 1
  have z2 := HR1.out.z 2
  clear hC1
  go_wp2
  go_ret
  rw [HNP.out]
  exact ⟨rfl, HR1.out.bad, HC1.out.any.trans (setCellChg _ _ _ _)⟩

set_option maxRecDepth 100000 in
set_option maxHeartbeats 4000000 in
theorem refNum_none (Z : List Int) (_g _o c b : Nat) (s : Rd) (w : World) (hc : Z = [] ∧ s.1 = 0 ∧ c = 0) (_hl : Z.length ≤ 100000000) (hs : s.1 ≤ Z.length) (hr : RdAt w b (.slice none Z.length c) s) :
    Calls Try.prog 65 #[.pointer (some ⟨b, 0, none⟩)] w fun e w' => e = .returned (.int .i64 (numP Z 4294967295 s).1) ∧ RdAt w' b (.slice none Z.length c) (numP Z 4294967295 s).2 ∧ Chg (fun j => j = b) w w' := by
  obtain ⟨at', wr⟩ := s
  simp only at hc hs
  obtain ⟨rfl, rfl, rfl⟩ := hc
  have HR := Lib.hid hr
  have HTK : Hid (∀ w', Chg (fun _ => False) w w' → Calls Try.prog 72 #[.slice none 0 0] w' fun e w'' => e = .returned (.tuple #[.int .u32 0, .int .i64 0, .int .i64 4]) ∧ Chg (fun _ => False) w' w'') := Lib.hid (fun w' hc' => by
    have := refTake_any [] none 0 0 0 w' ⟨fun k a hk => by simp at hk, fun h => absurd rfl h⟩ (fun h => absurd h (by simp)) (Nat.zero_le _) (Nat.zero_le _)
    exact this)
  have HNP : Hid (numP [] 4294967295 (0, wr) = (0, 0, true)) := Lib.hid (numP_nil (Nat.le_refl _))
  clear hr
  go_enter Try.func65, Try.ntmps65
  go_upto_region 1 with (fail)
  refine wp_region_same (fun w' => Chg (fun _ => False) w w') (by kernel_rfl) (by kernel_rfl) ?_ ?_
  · exact (Chg.refl _ _).drew
  (refine wpC_read rfl (fun _ _ _ h => h) (fun K hK => ?_); apply Exists.intro; refine ⟨fun _ w' _ hC => ?_, ?_⟩; ((skip); go_simp; try with_reducible rfl); (try go_simp); refine hK _ ?_; clear hK K)
  (refine wpC_read rfl (fun _ _ _ h => h) (fun K hK => ?_); apply Exists.intro; refine ⟨fun _ w' _ hC => ?_, ?_⟩; ((skip); go_simp; try with_reducible rfl); (try go_simp); refine hK _ ?_; clear hK K)
  (refine wpC_read rfl (fun _ _ _ h => h) (fun K hK => ?_); apply Exists.intro; refine ⟨fun _ w' _ hC => ?_, ?_⟩; ((skip); go_simp; try with_reducible rfl); (try go_simp); refine hK _ ?_; clear hK K)
  (refine wpC_read rfl (fun _ _ _ h => h) (fun K hK => ?_); apply Exists.intro; refine ⟨fun _ w' _ hC => ?_, ?_⟩; ((have q := hC.cellS HR.out.c0 (fun h => h)); go_simp; try with_reducible rfl); (try go_simp); refine hK _ ?_; clear hK K)
  (refine wpC_read rfl (fun _ _ _ h => h) (fun K hK => ?_); apply Exists.intro; refine ⟨fun _ w' _ hC => ?_, ?_⟩; ((skip); go_simp; try with_reducible rfl); (try go_simp); refine hK _ ?_; clear hK K)
  (refine wpC_read rfl (fun _ _ _ h => h) (fun K hK => ?_); apply Exists.intro; refine ⟨fun _ w' _ hC => ?_, ?_⟩; ((skip); go_simp; try with_reducible rfl); (try go_simp); refine hK _ ?_; clear hK K)
  (refine wpC_read rfl (fun _ _ _ h => h) (fun K hK => ?_); apply Exists.intro; refine ⟨fun _ w' _ hC => ?_, ?_⟩; ((skip); go_simp; try with_reducible rfl); (try go_simp); refine hK _ ?_; clear hK K)
  (refine wpC_read rfl (fun _ _ _ h => h) (fun K hK => ?_); apply Exists.intro; refine ⟨fun _ w' _ hC => ?_, ?_⟩; ((have q := hC.cellS HR.out.c1 (fun h => h)); go_simp; try with_reducible rfl); (try go_simp); refine hK _ ?_; clear hK K)
  (refine wpC_read rfl (fun _ _ _ h => h) (fun K hK => ?_); apply Exists.intro; refine ⟨fun _ w' _ hC => ?_, ?_⟩; ((skip); go_simp; try with_reducible rfl); (try go_simp); refine hK _ ?_; clear hK K)
  refine wpC_call rfl (.tuple #[.int .u32 0, .int .i64 0, .int .i64 4] )  72  ( #[.slice none 0 0]) (fun w' => by go_simp) (fun _ w' _ hC => ?_) (fun K hK => ?_)
  · refine (HTK.out w' hC).mono ?_
    rintro e w1 ⟨rfl, h2⟩
    exact ⟨rfl, hC.trans h2⟩
  ((try go_simp); refine hK _ ?_; clear hK K)
  iterate 7 (refine wpC_read rfl (fun _ _ _ h => h) (fun K hK => ?_); apply Exists.intro; refine ⟨fun _ w' _ hC => ?_, ?_⟩; ((skip); go_simp; try with_reducible rfl); (try go_simp); refine hK _ ?_; clear hK K)
  refine wpC_nil ?_
  intro w1 hC1
  have HC1 := Lib.hid hC1
  have HR1 := Lib.hid (HR.out.chg hC1 (fun h => h))
  have c0 := HR1.out.c0
  have c1 := HR1.out.c1
  have c2 := HR1.out.c2
  have z1 := HR1.out.z 1
  have z2 := HR1.out.z 2
  clear hC1
  go_wp2
  go_ret
  rw [HNP.out]
  exact ⟨rfl, HR1.out.bad, HC1.out.any.trans (setCellChg _ _ _ _)⟩

theorem refNum_all (Z : List Int) (a : Option Addr) (g o c b : Nat) (s : Rd) (w : World) (hz : BytesAt w g o Z) (ha : 0 < Z.length → a = some ⟨g, o, none⟩) (hcz : Z.length ≤ c) (hn : a = none → c = 0) (hl : Z.length ≤ 100000000) (hs : s.1 ≤ Z.length) (hr : RdAt w b (.slice a Z.length c) s) :
    Calls Try.prog 65 #[.pointer (some ⟨b, 0, none⟩)] w fun e w' => e = .returned (.int .i64 (numP Z 4294967295 s).1) ∧ RdAt w' b (.slice a Z.length c) (numP Z 4294967295 s).2 ∧ Chg (fun j => j = b) w w' := by
  cases a with
  | none =>
    have h0 : Z = [] := by
      cases Z with
      | nil => rfl
      | cons z Z => have := ha (by simp); cases this
    subst h0
    exact refNum_none [] 0 0 c b s w ⟨rfl, by simpa using hs, hn rfl⟩ hl hs hr
  | some p =>
    obtain ⟨g', o', sp⟩ := p
    by_cases h0 : Z = []
    · subst h0
      have h1 : s.1 = 0 := by simpa using hs
      by_cases h2 : c = 0
      · exact refNum_full [] g' o' c b sp s w ⟨by omega, by simpa using h1⟩ hl hs hr
      · exact refNum_room [] g' o' c b sp s w ⟨rfl, h1, by omega⟩ hl hs hr
    · have h1 : 0 < Z.length := by
        cases Z with
        | nil => exact absurd rfl h0
        | cons z Z => simp
      have h2 := ha h1
      injection h2 with h2
      injection h2 with h3 h4 h5
      subst h3 h4 h5
      by_cases h6 : s.1 < c
      · exact refNum_left Z g' o' c b s w hz h6 hcz hl hs hr
      · exact refNum_full Z g' o' c b none s w ⟨by omega, by omega⟩ hl hs hr
end Go.Proofs.Ytkfakkonlnjckaa
