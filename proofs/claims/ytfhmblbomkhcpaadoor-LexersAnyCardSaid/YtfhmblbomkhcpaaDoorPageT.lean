/- Pages of a book: lists of tokens that are written over. A row of one's own whose element is set. -/
import Derived.Test.YtfhmblbomkhcpaaDoorOther9
namespace Go.Proofs.YtfhmblbomkhcpaaDoor
open Go.RowKit

section
variable {α : Type} {E : Elt α}
/-- Y is laid over R1. -/
theorem Elt.Row.over {w : World} {g : Nat} {X Y R1 R2 : List α} (h : E.Row w g (X ++ (R1 ++ R2))) (hR1 : R1.length = Y.length) (hY : ∀ a ∈ Y, E.ok a) :
    E.Row (w.setCells g (X.length * E.sz) (E.encs Y)) g (X ++ Y ++ R2) := by
  have e1 : (E.encs R1).length = (E.encs Y).length := by rw [E.encs_length, E.encs_length, hR1]
  have e2 : (E.encs X).length = X.length * E.sz := E.encs_length X
  refine ⟨fun k a hk => ?_, fun j => (World.frozen?_setCells _ _ _ _ _).trans (h.z j), Nat.lt_of_lt_of_le h.lt (setCellsChg _ _ _ _).size, fun a ha => ?_⟩
  · have hin : ∀ j, j < (E.encs Y).length → (w.cell? ⟨g, X.length * E.sz + j, none⟩).isSome = true := fun j hj => by
      have hj' : X.length * E.sz + j < (E.encs (X ++ (R1 ++ R2))).length := by rw [E.encs_append, E.encs_append, List.length_append, List.length_append]; omega
      rw [h.c (X.length * E.sz + j) _ (List.getElem?_eq_getElem hj')]
      rfl
    rw [E.encs_append, E.encs_append] at hk
    by_cases h1 : k < X.length * E.sz
    · rw [World.cell?_setCells_out g (E.encs Y) (X.length * E.sz) w ⟨g, k, none⟩ (fun _ _ => .inl h1)]
      refine h.c k a ?_
      rw [List.append_assoc, List.getElem?_append_left (by omega)] at hk
      rw [E.encs_append, List.getElem?_append_left (by omega)]
      exact hk
    · by_cases h2 : k < X.length * E.sz + (E.encs Y).length
      · obtain ⟨j, rfl⟩ : ∃ j, k = X.length * E.sz + j := ⟨k - X.length * E.sz, by omega⟩
        rw [World.cell?_setCells_in g (E.encs Y) (X.length * E.sz) w hin j (by omega)]
        rw [List.append_assoc, List.getElem?_append_right (by omega), e2, Nat.add_sub_cancel_left, List.getElem?_append_left (by omega)] at hk
        have := (List.getElem?_eq_some_iff.1 hk).2
        simp [this]
      · rw [World.cell?_setCells_out g (E.encs Y) (X.length * E.sz) w ⟨g, k, none⟩ (fun _ _ => .inr (by show X.length * E.sz + (E.encs Y).length ≤ k; omega))]
        refine h.c k a ?_
        rw [List.getElem?_append_right (by rw [List.length_append]; omega)] at hk
        rw [E.encs_append, E.encs_append, ← List.append_assoc, List.getElem?_append_right (by rw [List.length_append]; omega), ← hk, List.length_append, List.length_append, e1]
  · simp only [List.mem_append] at ha
    rcases ha with (ha | ha) | ha
    · exact h.ok a (by simp [ha])
    · exact hY a ha
    · exact h.ok a (by simp [ha])
/-- One element is set. -/
theorem Elt.Row.set {w : World} {g : Nat} {C : List α} (h : E.Row w g C) {k : Nat} (hk : k < C.length) {x : α} (hx : E.ok x) : E.Row (w.setCells g (k * E.sz) (E.enc x)) g (C.set k x) := by
  have e : C = C.take k ++ ([C[k]] ++ C.drop (k + 1)) := by
    rw [List.singleton_append, ← List.drop_eq_getElem_cons hk, List.take_append_drop]
  have hl : (C.take k).length = k := by rw [List.length_take]; omega
  rw [e] at h
  have := Elt.Row.over (Y := [x]) h rfl (fun a ha => by rw [List.mem_singleton] at ha; rw [ha]; exact hx)
  rw [hl] at this
  have e2 : C.set k x = C.take k ++ [x] ++ C.drop (k + 1) := by
    rw [List.set_eq_take_append_cons_drop, if_pos hk, List.append_assoc, List.singleton_append]
  have e3 : E.encs [x] = E.enc x := by unfold Elt.encs; simp
  rw [e2, ← e3]
  exact this
end
/-- A page of tokens: its block, length, room, marks. -/
structure PgT where
  g : Option Nat
  len : Nat
  cap : Nat
  mark : TokD
  behind : TokD
def PgT.v (p : PgT) : Value := .slice (p.g.map fun g => ⟨g, 0, none⟩) p.len p.cap
def PgT.row (p : PgT) : Value := .agg #[p.v, .int .i64 p.mark.1, .string p.mark.2.1, .int .i64 p.mark.2.2, .int .i64 p.behind.1, .string p.behind.2.1, .int .i64 p.behind.2.2]
/-- How far it is: 1: written over; 2: what stands behind it too. -/
structure PageTSt (w : World) (p : PgT) (s : Nat) : Prop where
  len : p.len ≤ p.cap
  none : p.g = none → p.cap = 0
  max : p.cap ≤ 1000000000000
  row : ∀ g, p.g = some g → ∃ C : List TokD, tokE.Row w g C ∧ C.length = p.cap ∧ (1 ≤ s → ∀ k, k < p.len → C[k]? = some p.mark) ∧ (2 ≤ s → ∀ k, p.len ≤ k → k < p.cap → C[k]? = some p.behind)
theorem PageTSt.chg {S : Nat → Prop} {w w' : World} {p : PgT} {s : Nat} (h : PageTSt w p s) (hc : Chg S w w') (hs : ∀ g, p.g = some g → ¬ S g) : PageTSt w' p s :=
  ⟨h.len, h.none, h.max, fun g hg => by
    obtain ⟨C, h1, h2⟩ := h.row g hg
    exact ⟨C, h1.chg hc (hs g hg), h2⟩⟩
/-- One token is set, cell by cell. -/
theorem tokSet {w : World} {g : Nat} {C : List TokD} (h : tokE.Row w g C) {k : Nat} (hk : k < C.length) (m : TokD) :
    tokE.Row (((w.setCell ⟨g, k * 3, none⟩ (.int .i64 m.1)).setCell ⟨g, k * 3 + 1, none⟩ (.string m.2.1)).setCell ⟨g, k * 3 + 2, none⟩ (.int .i64 m.2.2)) g (C.set k m) ∧ Chg (fun x => x = g) w (((w.setCell ⟨g, k * 3, none⟩ (.int .i64 m.1)).setCell ⟨g, k * 3 + 1, none⟩ (.string m.2.1)).setCell ⟨g, k * 3 + 2, none⟩ (.int .i64 m.2.2)) :=
  ⟨Elt.Row.set h hk (x := m) trivial, ((setCellChg _ _ _ _).trans (setCellChg _ _ _ _)).trans (setCellChg _ _ _ _)⟩
end Go.Proofs.YtfhmblbomkhcpaaDoor
