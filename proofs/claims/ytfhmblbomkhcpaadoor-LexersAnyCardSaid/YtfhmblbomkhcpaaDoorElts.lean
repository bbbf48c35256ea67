/- Ranges, bools, tokens as elements of some cells; a table in memory. -/
import Derived.Test.YtfhmblbomkhcpaaDoorTab
namespace Go.Proofs.YtfhmblbomkhcpaaDoor
open Go.RowKit

abbrev I32 (a : Int) : Prop := -2147483648 ≤ a ∧ a ≤ 2147483647
abbrev okRng (p : Int × Int) : Prop := I32 p.1 ∧ I32 p.2
def encRng (p : Int × Int) : List Value := [.int .i32 p.1, .int .i32 p.2]
def rngE : Elt (Int × Int) where
  enc := encRng
  sz := 2
  bs := 8
  e := 63
  sl := 22
  z := (0, 0)
  zv := .agg #[.int .i32 0, .int .i32 0]
  ok := okRng
  pos := by omega
  len := fun _ => rfl
  one := fun a u hu => by
    simp only [encRng, List.mem_cons, List.not_mem_nil, or_false] at hu
    rcases hu with rfl | rfl <;> rfl
  zok := by decide
  info := by kernel_rfl
  zc := rfl
  und := by kernel_rfl
  bsl := by omega

/-- A table in memory. -/
structure TabIn (w : World) (B : Nat) (rs cs ns es : Sl) (t : TabD) : Prop where
  r : rngE.In w B rs t.r
  c : intE.In w B cs t.c
  n : ListsIn w B ns t.n
  e : intE.In w B es t.e
theorem TabIn.same {w w' : World} {B : Nat} {rs cs ns es : Sl} {t : TabD} (h : TabIn w B rs cs ns es t) (hc : Chg (fun _ => False) w w') : TabIn w' B rs cs ns es t :=
  ⟨h.r.same hc, h.c.same hc, h.n.same hc, h.e.same hc⟩
theorem Elt.In.chgB {α : Type} {E : Elt α} {S : Nat → Prop} {w w' : World} {B : Nat} {s : Sl} {L : List α} (h : E.In w B s L) (hc : Chg S w w') (hs : ∀ g, B ≤ g → ¬ S g) : E.In w' B s L := by
  obtain ⟨h1, h2, g, o, h3, h4⟩ := h
  exact ⟨h1, h2, g, o, h3.chg hc (fun hne => hs g (h4 (by cases L with
    | nil => exact absurd rfl hne
    | cons x L => simp)).2), h4⟩
theorem ListsIn.chgB {S : Nat → Prop} {w w' : World} {B : Nat} {s : Sl} {LL : List (List Int)} (h : ListsIn w B s LL) (hc : Chg S w w') (hs : ∀ g, B ≤ g → ¬ S g) : ListsIn w' B s LL := by
  obtain ⟨X, h1, h2, h3⟩ := h
  exact ⟨X, h1.chgB hc hs, h2, fun j x r hx hr => (h3 j x r hx hr).chgB hc hs⟩
theorem ListsIn.lower {w : World} {B B' : Nat} {s : Sl} {LL : List (List Int)} (h : ListsIn w B s LL) (hB : B' ≤ B) : ListsIn w B' s LL := by
  obtain ⟨X, h1, h2, h3⟩ := h
  exact ⟨X, h1.lower hB, h2, fun j x r hx hr => (h3 j x r hx hr).lower hB⟩
theorem TabIn.chgB {S : Nat → Prop} {w w' : World} {B : Nat} {rs cs ns es : Sl} {t : TabD} (h : TabIn w B rs cs ns es t) (hc : Chg S w w') (hs : ∀ g, B ≤ g → ¬ S g) : TabIn w' B rs cs ns es t :=
  ⟨h.r.chgB hc hs, h.c.chgB hc hs, h.n.chgB hc hs, h.e.chgB hc hs⟩
theorem TabIn.lower {w : World} {B B' : Nat} {rs cs ns es : Sl} {t : TabD} (h : TabIn w B rs cs ns es t) (hB : B' ≤ B) : TabIn w B' rs cs ns es t :=
  ⟨h.r.lower hB, h.c.lower hB, h.n.lower hB, h.e.lower hB⟩
/-- One of some ints, ranges. -/
theorem Elt.In.len {α : Type} {E : Elt α} {w : World} {B : Nat} {a : Option Addr} {n c : Nat} {L : List α} (h : E.In w B (a, n, c) L) : n = L.length ∧ n ≤ c := ⟨h.1, h.2.1⟩
theorem Elt.In.getI {w : World} {B : Nat} {a : Option Addr} {n c : Nat} {L : List Int} (h : intE.In w B (a, n, c) L) {k : Nat} (hk : k < L.length) :
    ∃ (x : Int) (g o : Nat), L[k]? = some x ∧ a = some ⟨g, o, none⟩ ∧ w.cell? ⟨g, o + k, none⟩ = some (.int .i64 x) ∧ -9223372036854775808 ≤ x ∧ x ≤ 9223372036854775807 ∧ B ≤ g ∧ g < w.heap.size := by
  obtain ⟨h1, h2, g, o, h3, h4⟩ := h
  have hx : L[k]? = some L[k] := List.getElem?_eq_getElem hk
  have hc := h3.get hx (i := 0) (u := .int .i64 L[k]) rfl
  rw [Nat.add_zero, show intE.sz = 1 from rfl, Nat.mul_one] at hc
  obtain ⟨h5, h6⟩ := h4 (by omega)
  have hok := h3.ok _ (List.getElem_mem hk)
  exact ⟨L[k], g, o, hx, h5, hc, hok.1, hok.2, h6, h3.lt (by intro e; rw [e] at hk; simp at hk)⟩
theorem Elt.In.getR {w : World} {B : Nat} {a : Option Addr} {n c : Nat} {L : List (Int × Int)} (h : rngE.In w B (a, n, c) L) {k : Nat} (hk : k < L.length) :
    ∃ (x y : Int) (g o : Nat), L[k]? = some (x, y) ∧ a = some ⟨g, o, none⟩ ∧ w.cell? ⟨g, o + k * 2, none⟩ = some (.int .i32 x) ∧ w.cell? ⟨g, o + k * 2 + 1, none⟩ = some (.int .i32 y) ∧ (-2147483648 ≤ x ∧ x ≤ 2147483647) ∧ (-2147483648 ≤ y ∧ y ≤ 2147483647) ∧ B ≤ g ∧ g < w.heap.size := by
  obtain ⟨x, g, o, u, v, hx, ha, he, c0, c1, hok, hB, hg⟩ := h.get2 rfl hk
  obtain ⟨x, y⟩ := x
  have he : [Value.int .i32 x, Value.int .i32 y] = [u, v] := he
  injection he with e1 he
  injection he with e2
  subst e1 e2
  exact ⟨x, y, g, o, hx, ha, c0, c1, hok.1, hok.2, hB, hg⟩
/-- The table's block: four lists. -/
def TabAt (w : World) (b : Nat) (rs cs ns es : Sl) : Prop :=
  w.cell? ⟨b, 0, none⟩ = some (.slice rs.1 rs.2.1 rs.2.2) ∧ w.cell? ⟨b, 1, none⟩ = some (.slice cs.1 cs.2.1 cs.2.2) ∧ w.cell? ⟨b, 2, none⟩ = some (.slice ns.1 ns.2.1 ns.2.2) ∧ w.cell? ⟨b, 3, none⟩ = some (.slice es.1 es.2.1 es.2.2)
theorem tabBox (w : World) (rs cs ns es : Sl) (e : TypeId) : TabAt (w.alloc (.cells #[.slice rs.1 rs.2.1 rs.2.2, .slice cs.1 cs.2.1 cs.2.2, .slice ns.1 ns.2.1 ns.2.2, .slice es.1 es.2.1 es.2.2] e)) w.heap.size rs cs ns es := by
  refine ⟨?_, ?_, ?_, ?_⟩ <;> · rw [World.cell?_alloc_new]; rfl
theorem TabAt.chg {S : Nat → Prop} {w w' : World} {b : Nat} {rs cs ns es : Sl} (h : TabAt w b rs cs ns es) (hc : Chg S w w') (hs : ¬ S b) : TabAt w' b rs cs ns es :=
  ⟨hc.cellS h.1 hs, hc.cellS h.2.1 hs, hc.cellS h.2.2.1 hs, hc.cellS h.2.2.2 hs⟩
def tabV (rs cs ns es : Sl) : Value := .agg #[.slice rs.1 rs.2.1 rs.2.2, .slice cs.1 cs.2.1 cs.2.2, .slice ns.1 ns.2.1 ns.2.2, .slice es.1 es.2.1 es.2.2]
end Go.Proofs.YtfhmblbomkhcpaaDoor
