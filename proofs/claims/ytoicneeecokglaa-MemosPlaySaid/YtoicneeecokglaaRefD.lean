/- The reference's memo: said; let go; made. -/
import Derived.Test.YtoicneeecokglaaRefC
namespace Go.Proofs.Ytoicneeecokglaa
open Go.RowKit Go.Maps

theorem cell_three_new (w : World) (a b c : Value) (t : TypeId) : ∀ j u, [a, b, c][j]? = some u → (w.alloc (.cells #[a, b, c] t)).cell? ((⟨w.heap.size, 0, none⟩ : Addr).add j) = some u := by
  intro j u h
  rw [Addr.add_lit, Nat.zero_add, World.cell?_alloc_new]
  simpa using h
theorem slice_of_own {w : World} {B e size n : Nat} {v : Value} {xs : List Value} (h : w.ownsRow B e size v n xs) : ∃ a k c, v = .slice a k c := by
  rcases h.2 with ⟨rfl, _⟩ | ⟨g, cap, cur, rfl, _⟩
  · exact ⟨_, _, _, rfl⟩
  · exact ⟨_, _, _, rfl⟩
theorem three_oneCell (x y z : Int) : ∀ u ∈ ([.int .i64 x, .int .i64 y, .int .i64 z] : List Value), u.oneCell' = true := by simp [Value.oneCell']

set_option maxHeartbeats 2000000 in
theorem refSayR_yes (N : Nat → Prop) (b : Nat) (s : RS) (x y z : Int) (w : World) (H : RefAt w N b s) (hF : s.Fine) (hok : s.okR x y z = true) :
    Calls Try.prog 10 #[.pointer (some ⟨b, 0, none⟩), .int .i64 x, .int .i64 y, .int .i64 z] w fun e w' => e = .returned (.int .i64 0) ∧ RefAt w' N b (s.sayR x y z) ∧ Chg (fun k => ¬ N k) w w' := by
  obtain ⟨vR, vP, H⟩ := H
  have hb : b < w.heap.size := World.block_lt_of_cell? _ _ H.c0
  have c0 := H.c0
  have c2 := H.c2
  have c3 : w.cell? ⟨b, 3, none⟩ = some vR := H.c3
  have E1 : Hid (s.sayR x y z = { s with R := s.R ++ [(x, y, z)] }) := Lib.hid (by simp [RS.sayR, hok])
  have HH := Lib.hid H
  have hlen := hF.lr
  obtain ⟨i0, hi, hz0, hz1, hz2⟩ := info_parts infoSaid
  have HN := Lib.hid (cell_three_new w (.int .i64 x) (.int .i64 y) (.int .i64 z) 67)
  have HO := Lib.hid (three_oneCell x y z)
  have HA : Hid (RefIs (w.alloc (.cells #[.int .i64 x, .int .i64 y, .int .i64 z] 67)) N b vR vP s) := Lib.hid (H.chg ((Chg.refl (fun _ => False) w).alloc _) (fun _ h => h.elim))
  have HFIN : Hid (∀ v' w1, w1.ownsRow 0 67 3 v' (s.R.length + 1) (saidCells s.R ++ [.int .i64 x, .int .i64 y, .int .i64 z]) → (w.alloc (.cells #[.int .i64 x, .int .i64 y, .int .i64 z] 67)).grownBy w1 vR.ownBlock → (vR.ownBlock = v'.ownBlock ∨ v'.ownBlock = some (w.heap.size + 1)) →
      RefAt (w1.setCell ⟨b, 3, none⟩ v') N b (s.sayR x y z) ∧ Chg (fun k => ¬ N k) w (w1.setCell ⟨b, 3, none⟩ v')) := by
    intro v' w1 h1 h2 h3
    have h1' : w1.ownsRow 0 67 3 v' (s.R ++ [(x, y, z)]).length (saidCells (s.R ++ [(x, y, z)])) := by rw [saidCells_append, List.length_append]; exact h1
    obtain ⟨r1, r2⟩ := HA.out.said3 h1' h2 (fun k hk => by
      rcases h3 with e | e
      · exact .inl (e.trans hk)
      · rw [e] at hk; right; simp at hk ⊢; omega)
    rw [E1.out]
    exact ⟨⟨_, _, r1⟩, ((Chg.refl _ w).alloc _).trans r2⟩
  have HCELL : Hid (∀ w1, (w.alloc (.cells #[.int .i64 x, .int .i64 y, .int .i64 z] 67)).grownBy w1 vR.ownBlock → w1.cell? ⟨b, 3, none⟩ = some vR ∧ w1.frozen? ⟨b, 3, none⟩ = false) := by
    intro w1 hg
    have hnb : some b ≠ vR.ownBlock := fun e => by
      have := (H.dR b e.symm).1
      exact this rfl
    exact ⟨hg.cell HA.out.c3 hnb, (World.frozen?_of_block (hg.block b (World.block_lt_of_cell? _ _ HA.out.c0) hnb)).trans (HA.out.fz 3)⟩
  clear H hF
  have h4 : (0 ≤ x ∧ x < s.nr ∧ 0 ≤ y ∧ y ≤ s.nt) ∧ (z = -1 ∨ (y ≤ z ∧ z ≤ s.nt)) := by
    simp only [RS.okR, hasB, Bool.and_eq_true, decide_eq_true_eq, Bool.not_eq_true', Bool.and_eq_false_iff, Bool.or_eq_false_iff, bne_eq_false_iff_eq, decide_eq_false_iff_not] at hok
    refine ⟨hok.1, hok.2.imp id (fun h => by omega)⟩
  obtain ⟨⟨h41, h42, h43, h44⟩, h5⟩ := h4
  clear hok
  by_cases h6 : z = -1
  · have q1 : (z != -1) = false := by simpa using h6
    clear h5 h6
    go_enter Try.func10, Try.ntmps10
    go_wp2_with (at_builtin; refine wpList_append_own_at _ rfl _ _ 39 rfl 0 67 i0 (.agg #[.int .i64 0, .int .i64 0, .int .i64 0]) 3 24 Try.underlying39 hi hz0 hz1 hz2 rfl (by decide) _ _ _ rfl HA.out.oR ⟨w.heap.size, 0, none⟩ 1 1 [.int .i64 x, .int .i64 y, .int .i64 z] rfl rfl HN.out HO.out ?c1 ?c2 ?c3 ?_)
    case c1 => unfold maxLen; omega
    case c2 => omega
    case c3 => omega
    intro v' w1 hown hgrow _ hloc
    have HFF := Lib.hid (HFIN.out v' w1 hown hgrow (hloc.imp (fun h => h.symm) (fun h => by simpa using h)))
    obtain ⟨k1, k2⟩ := HCELL.out w1 hgrow
    obtain ⟨va, vn, vc, hv⟩ := slice_of_own hown
    rw [hv] at HFF ⊢
    clear hown hgrow hloc HN HO HA HFIN HCELL hv
    go_wp2
    go_ret
    exact ⟨rfl, HFF.out.1, HFF.out.2⟩
  · have q1 : (z != -1) = true := by simpa using h6
    have h7 : y ≤ z ∧ z ≤ s.nt := h5.resolve_left h6
    obtain ⟨h71, h72⟩ := h7
    clear h5 h6
    go_enter Try.func10, Try.ntmps10
    go_wp2_with (at_builtin; refine wpList_append_own_at _ rfl _ _ 39 rfl 0 67 i0 (.agg #[.int .i64 0, .int .i64 0, .int .i64 0]) 3 24 Try.underlying39 hi hz0 hz1 hz2 rfl (by decide) _ _ _ rfl HA.out.oR ⟨w.heap.size, 0, none⟩ 1 1 [.int .i64 x, .int .i64 y, .int .i64 z] rfl rfl HN.out HO.out ?c1 ?c2 ?c3 ?_)
    case c1 => unfold maxLen; omega
    case c2 => omega
    case c3 => omega
    intro v' w1 hown hgrow _ hloc
    have HFF := Lib.hid (HFIN.out v' w1 hown hgrow (hloc.imp (fun h => h.symm) (fun h => by simpa using h)))
    obtain ⟨k1, k2⟩ := HCELL.out w1 hgrow
    obtain ⟨va, vn, vc, hv⟩ := slice_of_own hown
    rw [hv] at HFF ⊢
    clear hown hgrow hloc HN HO HA HFIN HCELL hv
    go_wp2
    go_ret
    exact ⟨rfl, HFF.out.1, HFF.out.2⟩
set_option maxHeartbeats 2000000 in
theorem refSayP_yes (N : Nat → Prop) (b : Nat) (s : RS) (x y z : Int) (w : World) (H : RefAt w N b s) (hF : s.Fine) (hok : s.okP x y z = true) :
    Calls Try.prog 12 #[.pointer (some ⟨b, 0, none⟩), .int .i64 x, .int .i64 y, .int .i64 z] w fun e w' => e = .returned (.int .i64 0) ∧ RefAt w' N b (s.sayP x y z) ∧ Chg (fun k => ¬ N k) w w' := by
  obtain ⟨vR, vP, H⟩ := H
  have hb : b < w.heap.size := World.block_lt_of_cell? _ _ H.c0
  have c0 := H.c1
  have c2 := H.c2
  have c3 : w.cell? ⟨b, 4, none⟩ = some vP := H.c4
  have E1 : Hid (s.sayP x y z = { s with P := s.P ++ [(x, y, z)] }) := Lib.hid (by simp [RS.sayP, hok])
  have HH := Lib.hid H
  have hlen := hF.lp
  obtain ⟨i0, hi, hz0, hz1, hz2⟩ := info_parts infoSaid
  have HN := Lib.hid (cell_three_new w (.int .i64 x) (.int .i64 y) (.int .i64 z) 67)
  have HO := Lib.hid (three_oneCell x y z)
  have HA : Hid (RefIs (w.alloc (.cells #[.int .i64 x, .int .i64 y, .int .i64 z] 67)) N b vR vP s) := Lib.hid (H.chg ((Chg.refl (fun _ => False) w).alloc _) (fun _ h => h.elim))
  have HFIN : Hid (∀ v' w1, w1.ownsRow 0 67 3 v' (s.P.length + 1) (saidCells s.P ++ [.int .i64 x, .int .i64 y, .int .i64 z]) → (w.alloc (.cells #[.int .i64 x, .int .i64 y, .int .i64 z] 67)).grownBy w1 vP.ownBlock → (vP.ownBlock = v'.ownBlock ∨ v'.ownBlock = some (w.heap.size + 1)) →
      RefAt (w1.setCell ⟨b, 4, none⟩ v') N b (s.sayP x y z) ∧ Chg (fun k => ¬ N k) w (w1.setCell ⟨b, 4, none⟩ v')) := by
    intro v' w1 h1 h2 h3
    have h1' : w1.ownsRow 0 67 3 v' (s.P ++ [(x, y, z)]).length (saidCells (s.P ++ [(x, y, z)])) := by rw [saidCells_append, List.length_append]; exact h1
    obtain ⟨r1, r2⟩ := HA.out.said4 h1' h2 (fun k hk => by
      rcases h3 with e | e
      · exact .inl (e.trans hk)
      · rw [e] at hk; right; simp at hk ⊢; omega)
    rw [E1.out]
    exact ⟨⟨_, _, r1⟩, ((Chg.refl _ w).alloc _).trans r2⟩
  have HCELL : Hid (∀ w1, (w.alloc (.cells #[.int .i64 x, .int .i64 y, .int .i64 z] 67)).grownBy w1 vP.ownBlock → w1.cell? ⟨b, 4, none⟩ = some vP ∧ w1.frozen? ⟨b, 4, none⟩ = false) := by
    intro w1 hg
    have hnb : some b ≠ vP.ownBlock := fun e => by
      have := (H.dP b e.symm).1
      exact this rfl
    exact ⟨hg.cell HA.out.c4 hnb, (World.frozen?_of_block (hg.block b (World.block_lt_of_cell? _ _ HA.out.c0) hnb)).trans (HA.out.fz 4)⟩
  clear H hF
  have h4 : (0 ≤ x ∧ x < s.np ∧ 0 ≤ y ∧ y ≤ s.nt) ∧ -1 ≤ z ∧ z < 32 := by
    simp only [RS.okP, hasB, Bool.and_eq_true, decide_eq_true_eq, Bool.not_eq_true', decide_eq_false_iff_not] at hok
    refine ⟨hok.1.1, by omega, by omega⟩
  obtain ⟨⟨h41, h42, h43, h44⟩, h51, h52⟩ := h4
  clear hok
  go_enter Try.func12, Try.ntmps12
  go_wp2_with (at_builtin; refine wpList_append_own_at _ rfl _ _ 39 rfl 0 67 i0 (.agg #[.int .i64 0, .int .i64 0, .int .i64 0]) 3 24 Try.underlying39 hi hz0 hz1 hz2 rfl (by decide) _ _ _ rfl HA.out.oP ⟨w.heap.size, 0, none⟩ 1 1 [.int .i64 x, .int .i64 y, .int .i64 z] rfl rfl HN.out HO.out ?c1 ?c2 ?c3 ?_)
  case c1 => unfold maxLen; omega
  case c2 => omega
  case c3 => omega
  intro v' w1 hown hgrow _ hloc
  have HFF := Lib.hid (HFIN.out v' w1 hown hgrow (hloc.imp (fun h => h.symm) (fun h => by simpa using h)))
  obtain ⟨k1, k2⟩ := HCELL.out w1 hgrow
  obtain ⟨va, vn, vc, hv⟩ := slice_of_own hown
  rw [hv] at HFF ⊢
  clear hown hgrow hloc HN HO HA HFIN HCELL hv
  go_wp2
  go_ret
  exact ⟨rfl, HFF.out.1, HFF.out.2⟩
end Go.Proofs.Ytoicneeecokglaa
