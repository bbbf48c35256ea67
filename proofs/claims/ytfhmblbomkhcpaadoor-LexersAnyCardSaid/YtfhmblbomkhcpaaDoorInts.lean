/- Lists of ints as lists of elements of one cell; one of them written over. -/
import Derived.Test.YtfhmblbomkhcpaaDoorList
import Derived.Test.YtfhmblbomkhcpaaDoorTwinsI
namespace Go.Proofs.YtfhmblbomkhcpaaDoor
open Go.RowKit

def intE : Elt Int where
  enc := fun n => [.int .i64 n]
  sz := 1
  bs := 8
  e := 3
  sl := 23
  z := 0
  zv := .int .i64 0
  ok := I.Byte
  pos := by omega
  len := fun _ => rfl
  one := fun a u hu => by
    simp only [List.mem_cons, List.not_mem_nil, or_false] at hu
    subst hu; rfl
  zok := by decide
  info := by kernel_rfl
  zc := rfl
  und := by kernel_rfl
  bsl := by omega
theorem intEncs (L : List Int) : intE.encs L = I.bytesV L := by
  induction L with
  | nil => rfl
  | cons x L ih =>
    have : intE.encs (x :: L) = [.int .i64 x] ++ intE.encs L := rfl
    rw [this, ih]
    rfl
theorem intRow {w : World} {g : Nat} {C : List Int} : intE.Row w g C ↔ I.Row w g C := by
  refine ⟨fun h => ⟨fun k a hk => h.c k _ (by rw [intEncs]; simp [I.bytesV, hk]), h.z, h.lt, h.ok⟩, fun h => ⟨fun j u hj => ?_, h.z, h.lt, h.byte⟩⟩
  rw [intEncs] at hj
  obtain ⟨a, ha, rfl⟩ := I.bytesV_get hj
  exact h.c j a ha
theorem intAt {w : World} {g o : Nat} {L : List Int} : intE.At w g o L ↔ I.BytesAt w g o L := by
  refine ⟨fun h => ⟨fun k a hk => ⟨h.c k _ (by rw [intEncs]; simp [I.bytesV, hk]), h.ok a (List.mem_of_getElem? hk)⟩, h.lt⟩, fun h => ⟨fun j u hj => ?_, h.byte, h.lt⟩⟩
  rw [intEncs] at hj
  obtain ⟨a, ha, rfl⟩ := I.bytesV_get hj
  exact (h.c j a ha).1
/-- Number k of a list of one's own. -/
theorem intOwn_get {w : World} {B : Nat} {a : Option Addr} {n c : Nat} {X : List Int} (h : intE.Own w B (.slice a n c) X) {k : Nat} (hk : k < X.length) :
    ∃ g x, n = X.length ∧ X.length ≤ c ∧ a = some ⟨g, 0, none⟩ ∧ X[k]? = some x ∧ w.cell? ⟨g, k, none⟩ = some (.int .i64 x) ∧ w.frozen? ⟨g, k, none⟩ = false ∧ -9223372036854775808 ≤ x ∧ x ≤ 9223372036854775807 ∧ B ≤ g ∧ g < w.heap.size := by
  rcases h with ⟨h, rfl⟩ | ⟨g, C, h1, h2, h3, h4, h5⟩
  · simp at hk
  · injection h1 with e1 e2 e3
    subst e1 e2 e3
    have hx : X[k]? = some X[k] := List.getElem?_eq_getElem hk
    have hR := intRow.1 h3
    have hb := (hR.bytes h4).c k _ hx
    rw [Nat.zero_add] at hb
    exact ⟨g, X[k], rfl, h4.length_le, rfl, hx, hb.1, hR.z k, hb.2.1, hb.2.2, h2, h3.lt⟩
/-- Number k is written over. -/
theorem intOwn_set {w : World} {B g k : Nat} {n c : Nat} {X : List Int} (h : intE.Own w B (.slice (some ⟨g, 0, none⟩) n c) X) (hk : k < X.length) {x : Int} (hx : I.Byte x) :
    intE.Own (w.setCell ⟨g, k, none⟩ (.int .i64 x)) B (.slice (some ⟨g, 0, none⟩) n c) (X.set k x) := by
  rcases h with ⟨h, _⟩ | ⟨g', C, h1, h2, h3, h4, h5⟩
  · cases h
  · injection h1 with e1 e2 e3
    injection e1 with e1
    injection e1 with e1
    subst e1 e2 e3
    have hR := intRow.1 h3
    obtain ⟨R, rfl⟩ := h4
    refine .inr ⟨g, (X ++ R).set k x, by rw [List.length_set, List.length_set], h2, intRow.2 ⟨fun j a hj => ?_, fun j => (World.frozen?_setCell _ _ _ _).trans (hR.z j), Nat.lt_of_lt_of_le hR.lt (setCellChg _ _ _ _).size, fun a ha => ?_⟩, ?_, by rw [List.length_set]; exact h5⟩
    · have hkl : k < (X ++ R).length := by rw [List.length_append]; omega
      by_cases he : j = k
      · subst he
        rw [List.getElem?_set_self hkl] at hj
        obtain rfl := Option.some.inj hj
        exact World.cell?_setCell_same _ _ _ (hR.c j _ (List.getElem?_eq_getElem hkl))
      · rw [List.getElem?_set_ne (Ne.symm he)] at hj
        rw [World.cell?_setCell_other _ _ _ _ (by intro e; injection e with _ e; exact he e.symm)]
        exact hR.c j a hj
    · rcases List.mem_or_eq_of_mem_set ha with h1 | rfl
      · exact hR.byte a h1
      · exact hx
    · rw [List.set_append_left _ _ hk]
      exact List.prefix_append _ _

/-- Bytes likewise. -/
def byteE : Elt Int where
  enc := fun n => [.int .u8 n]
  sz := 1
  bs := 1
  e := 5
  sl := 109
  z := 0
  zv := .int .u8 0
  ok := Byte
  pos := by omega
  len := fun _ => rfl
  one := fun a u hu => by
    simp only [List.mem_cons, List.not_mem_nil, or_false] at hu
    subst hu; rfl
  zok := by decide
  info := by kernel_rfl
  zc := rfl
  und := by kernel_rfl
  bsl := by omega
theorem byteEncs (L : List Int) : byteE.encs L = bytesV L := by
  induction L with
  | nil => rfl
  | cons x L ih =>
    have : byteE.encs (x :: L) = [.int .u8 x] ++ byteE.encs L := rfl
    rw [this, ih]
    rfl
theorem byteRow {w : World} {g : Nat} {C : List Int} : byteE.Row w g C ↔ Row w g C := by
  refine ⟨fun h => ⟨fun k a hk => h.c k _ (by rw [byteEncs]; simp [bytesV, hk]), h.z, h.lt, h.ok⟩, fun h => ⟨fun j u hj => ?_, h.z, h.lt, h.byte⟩⟩
  rw [byteEncs] at hj
  obtain ⟨a, ha, rfl⟩ := bytesV_get hj
  exact h.c j a ha
theorem byteOwn {w : World} {B : Nat} {v : Value} {X : List Int} : byteE.Own w B v X ↔ Own w B v X := by
  refine ⟨fun h => ?_, fun h => ?_⟩
  · rcases h with h | ⟨g, C, h1, h2, h3, h4⟩
    · exact .inl h
    · exact .inr ⟨g, C, h1, h2, byteRow.1 h3, h4⟩
  · rcases h with h | ⟨g, C, h1, h2, h3, h4⟩
    · exact .inl h
    · exact .inr ⟨g, C, h1, h2, byteRow.2 h3, h4⟩
end Go.Proofs.YtfhmblbomkhcpaaDoor
