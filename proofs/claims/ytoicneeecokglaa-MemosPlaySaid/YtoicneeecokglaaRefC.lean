/- The reference's memo: asked, said, let go, made. -/
import Derived.Test.YtoicneeecokglaaRefB
namespace Go.Proofs.Ytoicneeecokglaa
open Go.RowKit Go.Maps

def RS.askR (s : RS) (x y : Int) : RS := if hasB s.nr s.nt x y then { s with asked := s.asked + 1, known := s.known + (if (findL s.R x y).isSome then 1 else 0) } else s
def RS.askP (s : RS) (x y : Int) : RS := if hasB s.np s.nt x y then { s with asked := s.asked + 1, known := s.known + (if (findL s.P x y).isSome then 1 else 0) } else s
def RS.okR (s : RS) (x y z : Int) : Bool := hasB s.nr s.nt x y && !(z != -1 && (decide (z < y) || decide (s.nt < z)))
def RS.okP (s : RS) (x y z : Int) : Bool := hasB s.np s.nt x y && !(decide (z < -1)) && !(decide (32 ≤ z))
def RS.sayR (s : RS) (x y z : Int) : RS := if s.okR x y z then { s with R := s.R ++ [(x, y, z)] } else s
def RS.sayP (s : RS) (x y z : Int) : RS := if s.okP x y z then { s with P := s.P ++ [(x, y, z)] } else s
def RS.cleared (s : RS) : RS := { s with R := [], P := [], asked := 0, known := 0 }
def RS.new (r p t : Int) : RS := ⟨r, p, t, [], [], 0, 0⟩

set_option maxHeartbeats 2000000 in
theorem refRuleR_at (N : Nat → Prop) (b : Nat) (s : RS) (x y : Int) (w : World) (H : RefAt w N b s) (hF : s.Fine) :
    Calls Try.prog 16 #[.pointer (some ⟨b, 0, none⟩), .int .i64 x, .int .i64 y] w fun e w' => e = .returned (.tuple #[.int .i64 (valOf (hasB s.nr s.nt x y) (findL s.R x y)), .bool (flagOf (hasB s.nr s.nt x y) (findL s.R x y))]) ∧ RefAt w' N b (s.askR x y) ∧ Chg (fun k => ¬ N k) w w' := by
  obtain ⟨vR, vP, H⟩ := H
  have c0 := H.c0
  have c2 := H.c2
  have c3 : w.cell? ⟨b, 3, none⟩ = some vR := H.c3
  have HH := Lib.hid H
  have HF := Lib.hid hF
  clear hF
  by_cases hB : hasB s.nr s.nt x y = true
  · have h4 : 0 ≤ x ∧ x < s.nr ∧ 0 ≤ y ∧ y ≤ s.nt := by simpa [hasB] using hB
    obtain ⟨h41, h42, h43, h44⟩ := h4
    have e1 : s.askR x y = { s with asked := s.asked + 1, known := s.known + (if (findL s.R x y).isSome then 1 else 0) } := by simp [RS.askR, hB]
    have e2 : valOf true (findL s.R x y) = fndV (findL s.R x y) := rfl
    have e3 : flagOf true (findL s.R x y) = fndB (findL s.R x y) := by simp [flagOf, fndB]
    have E1 := Lib.hid e1
    rw [hB, e2, e3]
    clear e1 e2 e3 hB H
    go_enter Try.func16, Try.ntmps16
    go_wp2_with fail
    refine (find_any 0 vR s.R x y w HH.out.oR (by have := HF.out.lr; omega)).mono ?_
    rintro e w1 ⟨rfl, rfl⟩
    go_wp2_with fail
    refine (count_any N b vR vP s _ _ w HH.out HF.out).mono ?_
    rintro e w1 ⟨rfl, hm, hc⟩
    have HM := Lib.hid hm
    have HC : Hid (Chg (fun k => ¬ N k) w w1) := Lib.hid (hc.mono (fun k _ e => by rw [e]; exact HH.out.nb))
    clear hm hc
    go_wp2
    go_ret2
    exact ⟨rfl, by rw [E1.out]; exact ⟨_, _, HM.out⟩, HC.out⟩
  · have hB' : hasB s.nr s.nt x y = false := by simpa using hB
    have h4 : ¬ (0 ≤ x ∧ x < s.nr ∧ 0 ≤ y ∧ y ≤ s.nt) := by simpa [hasB] using hB
    have e1 : s.askR x y = s := by simp [RS.askR, hB']
    have e2 : valOf false (findL s.R x y) = 0 := rfl
    have e3 : flagOf false (findL s.R x y) = false := rfl
    rw [hB', e1, e2, e3]
    clear e1 e2 e3 hB hB' H
    go_enter Try.func16, Try.ntmps16
    go_wp2_with fail
    all_goals first | (exfalso; simp at *; omega) | (exfalso; omega) | skip
    all_goals go_ret2
    all_goals exact ⟨rfl, ⟨_, _, HH.out⟩, Chg.refl _ _⟩
set_option maxHeartbeats 2000000 in
theorem refRuleP_at (N : Nat → Prop) (b : Nat) (s : RS) (x y : Int) (w : World) (H : RefAt w N b s) (hF : s.Fine) :
    Calls Try.prog 18 #[.pointer (some ⟨b, 0, none⟩), .int .i64 x, .int .i64 y] w fun e w' => e = .returned (.tuple #[.int .i64 (valOf (hasB s.np s.nt x y) (findL s.P x y)), .bool (flagOf (hasB s.np s.nt x y) (findL s.P x y))]) ∧ RefAt w' N b (s.askP x y) ∧ Chg (fun k => ¬ N k) w w' := by
  obtain ⟨vR, vP, H⟩ := H
  have c0 := H.c1
  have c2 := H.c2
  have c3 : w.cell? ⟨b, 4, none⟩ = some vP := H.c4
  have HH := Lib.hid H
  have HF := Lib.hid hF
  clear hF
  by_cases hB : hasB s.np s.nt x y = true
  · have h4 : 0 ≤ x ∧ x < s.np ∧ 0 ≤ y ∧ y ≤ s.nt := by simpa [hasB] using hB
    obtain ⟨h41, h42, h43, h44⟩ := h4
    have e1 : s.askP x y = { s with asked := s.asked + 1, known := s.known + (if (findL s.P x y).isSome then 1 else 0) } := by simp [RS.askP, hB]
    have e2 : valOf true (findL s.P x y) = fndV (findL s.P x y) := rfl
    have e3 : flagOf true (findL s.P x y) = fndB (findL s.P x y) := by simp [flagOf, fndB]
    have E1 := Lib.hid e1
    rw [hB, e2, e3]
    clear e1 e2 e3 hB H
    go_enter Try.func18, Try.ntmps18
    go_wp2_with fail
    refine (find_any 0 vP s.P x y w HH.out.oP (by have := HF.out.lp; omega)).mono ?_
    rintro e w1 ⟨rfl, rfl⟩
    go_wp2_with fail
    refine (count_any N b vR vP s _ _ w HH.out HF.out).mono ?_
    rintro e w1 ⟨rfl, hm, hc⟩
    have HM := Lib.hid hm
    have HC : Hid (Chg (fun k => ¬ N k) w w1) := Lib.hid (hc.mono (fun k _ e => by rw [e]; exact HH.out.nb))
    clear hm hc
    go_wp2
    go_ret2
    exact ⟨rfl, by rw [E1.out]; exact ⟨_, _, HM.out⟩, HC.out⟩
  · have hB' : hasB s.np s.nt x y = false := by simpa using hB
    have h4 : ¬ (0 ≤ x ∧ x < s.np ∧ 0 ≤ y ∧ y ≤ s.nt) := by simpa [hasB] using hB
    have e1 : s.askP x y = s := by simp [RS.askP, hB']
    have e2 : valOf false (findL s.P x y) = 0 := rfl
    have e3 : flagOf false (findL s.P x y) = false := rfl
    rw [hB', e1, e2, e3]
    clear e1 e2 e3 hB hB' H
    go_enter Try.func18, Try.ntmps18
    go_wp2_with fail
    all_goals first | (exfalso; simp at *; omega) | (exfalso; omega) | skip
    all_goals go_ret2
    all_goals exact ⟨rfl, ⟨_, _, HH.out⟩, Chg.refl _ _⟩

theorem infoSaid : (Try.prog.info? 67).map (fun i => (i.zero, i.size, i.bytes)) = some (some (.agg #[.int .i64 0, .int .i64 0, .int .i64 0]), 3, 24) := by kernel_rfl
theorem RefIs.said3 {N : Nat → Prop} {w w1 : World} {b : Nat} {vR vP v' : Value} {s : RS} (h : RefIs w N b vR vP s) {l : List Sd} (hown : w1.ownsRow 0 67 3 v' l.length (saidCells l)) (hg : w.grownBy w1 vR.ownBlock) (hloc : ∀ k, v'.ownBlock = some k → vR.ownBlock = some k ∨ w.heap.size ≤ k) :
    RefIs (w1.setCell ⟨b, 3, none⟩ v') N b v' vP { s with R := l } ∧ Chg (fun k => ¬ N k) w (w1.setCell ⟨b, 3, none⟩ v') := by
  have hb : b < w.heap.size := World.block_lt_of_cell? _ _ h.c0
  have hnb : some b ≠ vR.ownBlock := fun e => (h.dR b e.symm).1 rfl
  have k : ∀ {i u}, w.cell? ⟨b, i, none⟩ = some u → w1.cell? ⟨b, i, none⟩ = some u := fun hc => hg.cell hc hnb
  have hv : ∀ k, v'.ownBlock = some k → k ≠ b ∧ vP.ownBlock ≠ some k ∧ ¬ N k := fun k hk => by
    rcases hloc k hk with e | e
    · exact h.dR k e
    · refine ⟨by omega, fun e' => ?_, fun e' => ?_⟩
      · have := ownsRow_lt h.oP e'; omega
      · have := h.lt k e'; omega
  have o : ∀ i, i ≠ 3 → (w1.setCell ⟨b, 3, none⟩ v').cell? ⟨b, i, none⟩ = w1.cell? ⟨b, i, none⟩ := fun i hi => World.cell?_setCell_other _ _ _ _ (by intro e; injection e with _ e; exact hi e.symm)
  have hc := Chg.setCell (S := (· = b)) (p := ⟨b, 3, none⟩) (Chg.refl _ w1) (.inr rfl) v'
  refine ⟨⟨(o 0 (by omega)).trans (k h.c0), (o 1 (by omega)).trans (k h.c1), (o 2 (by omega)).trans (k h.c2), World.cell?_setCell_same _ _ _ (k h.c3), (o 4 (by omega)).trans (k h.c4), (o 5 (by omega)).trans (k h.c5), (o 6 (by omega)).trans (k h.c6),
    fun i => (World.frozen?_setCell _ _ _ _).trans ((World.frozen?_of_block (hg.block b hb hnb)).trans (h.fz i)), ownsRow_chg hown hc (fun k hk e => (hv k hk).1 e), ownsRow_chg (h.oP.kept hg ?_) hc (fun k hk e => (h.dP k hk).1 e), hv, h.dP, h.nb, fun k hk => ?_⟩, ?_⟩
  · cases hp : vP.ownBlock with
    | none => exact .inl rfl
    | some kp => exact .inr (fun e => (h.dR kp e.symm).2.1 hp)
  · have := h.lt k hk; have := hg.size; simp; omega
  · refine Chg.setCell (S := fun k => ¬ N k) (p := ⟨b, 3, none⟩) ((Chg.refl _ w).grown hg (fun k hk => .inr (h.dR k hk).2.2)) (.inr h.nb) v'
theorem RefIs.said4 {N : Nat → Prop} {w w1 : World} {b : Nat} {vR vP v' : Value} {s : RS} (h : RefIs w N b vR vP s) {l : List Sd} (hown : w1.ownsRow 0 67 3 v' l.length (saidCells l)) (hg : w.grownBy w1 vP.ownBlock) (hloc : ∀ k, v'.ownBlock = some k → vP.ownBlock = some k ∨ w.heap.size ≤ k) :
    RefIs (w1.setCell ⟨b, 4, none⟩ v') N b vR v' { s with P := l } ∧ Chg (fun k => ¬ N k) w (w1.setCell ⟨b, 4, none⟩ v') := by
  have hb : b < w.heap.size := World.block_lt_of_cell? _ _ h.c0
  have hnb : some b ≠ vP.ownBlock := fun e => (h.dP b e.symm).1 rfl
  have k : ∀ {i u}, w.cell? ⟨b, i, none⟩ = some u → w1.cell? ⟨b, i, none⟩ = some u := fun hc => hg.cell hc hnb
  have hv : ∀ k, v'.ownBlock = some k → k ≠ b ∧ vR.ownBlock ≠ some k ∧ ¬ N k := fun k hk => by
    rcases hloc k hk with e | e
    · exact ⟨(h.dP k e).1, fun e' => (h.dR k e').2.1 e, (h.dP k e).2⟩
    · refine ⟨by omega, fun e' => ?_, fun e' => ?_⟩
      · have := ownsRow_lt h.oR e'; omega
      · have := h.lt k e'; omega
  have o : ∀ i, i ≠ 4 → (w1.setCell ⟨b, 4, none⟩ v').cell? ⟨b, i, none⟩ = w1.cell? ⟨b, i, none⟩ := fun i hi => World.cell?_setCell_other _ _ _ _ (by intro e; injection e with _ e; exact hi e.symm)
  have hc := Chg.setCell (S := (· = b)) (p := ⟨b, 4, none⟩) (Chg.refl _ w1) (.inr rfl) v'
  refine ⟨⟨(o 0 (by omega)).trans (k h.c0), (o 1 (by omega)).trans (k h.c1), (o 2 (by omega)).trans (k h.c2), (o 3 (by omega)).trans (k h.c3), World.cell?_setCell_same _ _ _ (k h.c4), (o 5 (by omega)).trans (k h.c5), (o 6 (by omega)).trans (k h.c6),
    fun i => (World.frozen?_setCell _ _ _ _).trans ((World.frozen?_of_block (hg.block b hb hnb)).trans (h.fz i)), ownsRow_chg (h.oR.kept hg ?_) hc (fun k hk e => (h.dR k hk).1 e), ownsRow_chg hown hc (fun k hk e => (hv k hk).1 e), fun k hk => ⟨(h.dR k hk).1, fun e => (hv k e).2.1 hk, (h.dR k hk).2.2⟩, fun k hk => ⟨(hv k hk).1, (hv k hk).2.2⟩, h.nb, fun k hk => ?_⟩, ?_⟩
  · cases hp : vR.ownBlock with
    | none => exact .inl rfl
    | some kp => exact .inr (fun e => (h.dR kp hp).2.1 e.symm)
  · have := h.lt k hk; have := hg.size; simp; omega
  · refine Chg.setCell (S := fun k => ¬ N k) (p := ⟨b, 4, none⟩) ((Chg.refl _ w).grown hg (fun k hk => .inr (h.dP k hk).2)) (.inr h.nb) v'
end Go.Proofs.Ytoicneeecokglaa
