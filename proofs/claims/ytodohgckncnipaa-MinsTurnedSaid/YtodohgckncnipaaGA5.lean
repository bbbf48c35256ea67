/- Bools as elements; a square of bools of one's own. The document's ends and goes. The document's told: which pairs of states some text tells apart. The document's told: the walk. Lists of one's own, kept apart by marks on their blocks. A row of numbers, told by a function; the states that are found, step by step; their numbers. -/
import Derived.Test.YtodohgckncnipaaGA4
/- Bools as elements; a square of bools of one's own. -/
namespace Go.Proofs.Ytodohgckncnipaa
open Go.RowKit

def boolE : Elt Bool where
  enc := fun b => [.bool b]
  sz := 1
  bs := 1
  e := 4
  sl := 47
  z := false
  zv := .bool false
  ok := fun _ => True
  pos := by omega
  len := fun _ => rfl
  one := fun a u hu => by
    simp only [List.mem_cons, List.not_mem_nil, or_false] at hu
    subst hu; rfl
  zok := trivial
  info := by kernel_rfl
  zc := rfl
  und := by kernel_rfl
  bsl := by omega
/-- Rows of bools, as elements. -/
def boolsE : Elt Sl where
  enc := fun s => [slV s]
  sz := 1
  bs := 24
  e := 47
  sl := 46
  z := (none, 0, 0)
  zv := .slice none 0 0
  ok := fun _ => True
  pos := by omega
  len := fun _ => rfl
  one := fun a u hu => by
    simp only [List.mem_cons, List.not_mem_nil, or_false] at hu
    subst hu; rfl
  zok := trivial
  info := by kernel_rfl
  zc := rfl
  und := by kernel_rfl
  bsl := by omega

theorem Elt.Row.cell {α : Type} {E : Elt α} {w : World} {g : Nat} {C : List α} (h : E.Row w g C) {k i j : Nat} {x : α} {u : Value} (hx : C[k]? = some x) (hu : (E.enc x)[i]? = some u) (hj : j = k * E.sz + i) : w.cell? ⟨g, j, none⟩ = some u := by
  have := (h.at' (List.prefix_refl _)).get hx hu
  rw [Nat.zero_add] at this
  rw [hj]
  exact this
/-- One element of one cell is set. -/
theorem Elt.Row.set1 {α : Type} {E : Elt α} {w : World} {g : Nat} {C : List α} (h : E.Row w g C) {k : Nat} (hk : k < C.length) {x : α} {u : Value} (hx : E.ok x) (hz : E.sz = 1) (hu : E.enc x = [u]) : E.Row (w.setCell ⟨g, k, none⟩ u) g (C.set k x) := by
  have ei : ∀ (L : List α) (j : Nat), (E.encs L)[j]? = (L[j]?).bind fun y => (E.enc y)[0]? := fun L => by
    induction L with
    | nil => intro j; simp [Elt.encs]
    | cons y L ih =>
      intro j
      have e : E.encs (y :: L) = E.enc y ++ E.encs L := rfl
      have hl := E.len y
      rw [hz] at hl
      rw [e]
      cases j with
      | zero => rw [List.getElem?_append_left (by omega)]; rfl
      | succ j => rw [List.getElem?_append_right (by omega), hl, Nat.add_sub_cancel, ih j]; rfl
  refine ⟨fun j u' hj => ?_, fun j => (World.frozen?_setCell _ _ _ _).trans (h.z j), Nat.lt_of_lt_of_le h.lt (setCellChg _ _ _ _).size, fun a ha => ?_⟩
  · rw [ei] at hj
    by_cases he : j = k
    · subst he
      rw [List.getElem?_set_self hk] at hj
      simp only [Option.bind_some, hu, List.getElem?_cons_zero, Option.some.injEq] at hj
      subst hj
      have hl := E.len C[j]
      rw [hz] at hl
      have hold : (E.encs C)[j]? = some ((E.enc C[j])[0]'(by omega)) := by
        rw [ei, List.getElem?_eq_getElem hk]
        simp only [Option.bind_some]
        exact List.getElem?_eq_getElem _
      exact World.cell?_setCell_same _ _ _ (h.c j _ hold)
    · rw [List.getElem?_set_ne (Ne.symm he)] at hj
      rw [World.cell?_setCell_other _ _ _ _ (by intro e; injection e with _ e; exact he e.symm)]
      exact h.c j u' (by rw [ei]; exact hj)
  · rcases List.mem_or_eq_of_mem_set ha with h1 | rfl
    · exact h.ok a h1
    · exact hx
theorem Elt.Row.get1 {α : Type} {E : Elt α} {w : World} {g : Nat} {C : List α} (h : E.Row w g C) {k : Nat} {x : α} {u : Value} (hk : C[k]? = some x) (hz : E.sz = 1) (hu : E.enc x = [u]) : w.cell? ⟨g, k, none⟩ = some u :=
  h.cell hk (i := 0) (by rw [hu]; rfl) (by rw [hz]; omega)

/-- A square of bools of one's own. -/
structure MatAt (w : World) (B : Nat) (v : Value) (M : Nat → Nat → Bool) (m n : Nat) : Prop where
  x : ∃ X : List Sl, boolsE.Own w B v X ∧ X.length = m ∧ ∀ (j : Nat) y, X[j]? = some y → ∃ g, y = (some ⟨g, 0, none⟩, n, n) ∧ B ≤ g ∧ v.ownBlock ≠ some g ∧ boolE.Row w g ((List.range n).map (M j)) ∧ ∀ (i : Nat) z, X[i]? = some z → i ≠ j → z ≠ y
theorem MatAt.same {w w' : World} {B : Nat} {v : Value} {M : Nat → Nat → Bool} {m n : Nat} (h : MatAt w B v M m n) (hc : Chg (fun _ => False) w w') : MatAt w' B v M m n := by
  obtain ⟨X, h1, h2, h3⟩ := h.x
  refine ⟨X, h1.chg hc (fun _ _ _ h => h), h2, fun j y hy => ?_⟩
  obtain ⟨g, k1, k2, k3, k4, k5⟩ := h3 j y hy
  exact ⟨g, k1, k2, k3, k4.chg hc (fun h => h), k5⟩
theorem MatAt.chgB {S : Nat → Prop} {w w' : World} {B : Nat} {v : Value} {M : Nat → Nat → Bool} {m n : Nat} (h : MatAt w B v M m n) (hc : Chg S w w') (hs : ∀ g, B ≤ g → g < w.heap.size → ¬ S g) : MatAt w' B v M m n := by
  obtain ⟨X, h1, h2, h3⟩ := h.x
  refine ⟨X, h1.chg hc hs, h2, fun j y hy => ?_⟩
  obtain ⟨g, k1, k2, k3, k4, k5⟩ := h3 j y hy
  exact ⟨g, k1, k2, k3, k4.chg hc (hs g k2 k4.lt), k5⟩
theorem MatAt.shape {w : World} {B : Nat} {v : Value} {M : Nat → Nat → Bool} {m n : Nat} (h : MatAt w B v M m n) : ∃ a c, v = .slice a m c := by
  obtain ⟨X, h1, h2, h3⟩ := h.x
  obtain ⟨a, c, e⟩ := h1.shape
  exact ⟨a, c, by rw [e, h2]⟩
/-- One of them. -/
theorem MatAt.get {w : World} {B : Nat} {a : Option Addr} {c : Nat} {M : Nat → Nat → Bool} {m n : Nat} (h : MatAt w B (.slice a m c) M m n) {i : Nat} (hi : i < m) :
    ∃ g gr, a = some ⟨g, 0, none⟩ ∧ w.cell? ⟨g, i, none⟩ = some (.slice (some ⟨gr, 0, none⟩) n n) ∧ B ≤ gr ∧ gr < w.heap.size ∧ (∀ j, w.frozen? ⟨gr, j, none⟩ = false) ∧ ∀ j, j < n → w.cell? ⟨gr, j, none⟩ = some (.bool (M i j)) := by
  obtain ⟨X, h1, h2, h3⟩ := h.x
  have hx : X[i]? = some X[i] := List.getElem?_eq_getElem (by omega)
  obtain ⟨gr, e1, e2, e3, e4, -⟩ := h3 i _ hx
  obtain ⟨a', g, c', hv, hc, hat, h0⟩ := h1.at'
  injection hv with v1 v2 v3
  obtain ⟨h4, h5⟩ := h0 (by omega)
  have hcell := hat.get hx (i := 0) rfl
  rw [e1, show boolsE.sz = 1 from rfl, Nat.mul_one, Nat.add_zero, Nat.zero_add] at hcell
  exact ⟨g, gr, by rw [v1, h4], hcell, e2, e4.lt, e4.z, fun j hj => e4.get1 (x := M i j) (by simp [hj]) rfl rfl⟩
def setM (M : Nat → Nat → Bool) (i j : Nat) (b : Bool) : Nat → Nat → Bool := fun a c => if a = i ∧ c = j then b else M a c
/-- One of them is set. -/
theorem MatAt.set {w : World} {B : Nat} {a : Option Addr} {c : Nat} {M : Nat → Nat → Bool} {m n : Nat} (h : MatAt w B (.slice a m c) M m n) {i j g gr : Nat} (hi : i < m) (hj : j < n) (b : Bool) (ha : a = some ⟨g, 0, none⟩) (hcell : w.cell? ⟨g, i, none⟩ = some (.slice (some ⟨gr, 0, none⟩) n n)) :
    MatAt (w.setCell ⟨gr, j, none⟩ (.bool b)) B (.slice a m c) (setM M i j b) m n ∧ Chg (fun k => k = gr) w (w.setCell ⟨gr, j, none⟩ (.bool b)) ∧ B ≤ gr := by
  obtain ⟨X, h1, h2, h3⟩ := h.x
  have hx : X[i]? = some X[i] := List.getElem?_eq_getElem (by omega)
  obtain ⟨gr', e1, e2, e3, e4, e5⟩ := h3 i _ hx
  obtain ⟨a', g', c', hv, hc, hat, h0⟩ := h1.at'
  injection hv with v1 v2 v3
  obtain ⟨h4, h5⟩ := h0 (by omega)
  have hcell' := hat.get hx (i := 0) rfl
  rw [e1, show boolsE.sz = 1 from rfl, Nat.mul_one, Nat.add_zero, Nat.zero_add] at hcell'
  obtain rfl : g = g' := by
    rw [← v1, ha] at h4
    injection h4 with h4
    injection h4
  rw [hcell] at hcell'
  obtain rfl : gr = gr' := by
    injection hcell' with k
    unfold slV at k
    injection k with k
    injection k with k
    injection k
  have hch := setCellChg w gr j (.bool b)
  have hrow := e4.set1 (k := j) (x := b) (u := .bool b) (by simp [hj]) trivial rfl rfl
  have hne : ∀ (k : Nat) y, X[k]? = some y → k ≠ i → y ≠ X[i] := fun k y hk hki => e5 k y hk hki
  refine ⟨⟨X, h1.chgB hch (fun g0 hg0 e => e3 (by rw [hg0, e])), h2, fun k y hy => ?_⟩, hch, e2⟩
  obtain ⟨gk, f1, f2, f3, f4, f5⟩ := h3 k y hy
  by_cases hk : k = i
  · subst hk
    rw [hx] at hy
    obtain rfl := Option.some.inj hy
    refine ⟨gr, e1, e2, e3, ?_, e5⟩
    have e : ((List.range n).map (M k)).set j b = (List.range n).map (setM M k j b k) := by
      apply List.ext_getElem?
      intro q
      by_cases hq : q < n
      · rw [List.getElem?_map, List.getElem?_range hq]
        by_cases hqj : q = j
        · subst hqj
          rw [List.getElem?_set_self (by simp [hq])]
          simp [setM]
        · rw [List.getElem?_set_ne (Ne.symm hqj), List.getElem?_map, List.getElem?_range hq]
          simp [setM, hqj]
      · rw [List.getElem?_eq_none (by simp; omega), List.getElem?_eq_none (by simp; omega)]
    rw [← e]
    exact hrow
  · refine ⟨gk, f1, f2, f3, ?_, f5⟩
    have hgk : gk ≠ gr := fun e => hne k y hy hk (by rw [f1, e1, e])
    have e : (List.range n).map (setM M i j b k) = (List.range n).map (M k) := List.map_congr_left fun q _ => by simp [setM, hk]
    rw [e]
    exact f4.chg hch hgk
end Go.Proofs.Ytodohgckncnipaa
/- The document's ends and goes. -/
namespace Go.Proofs.Ytodohgckncnipaa
open Go.RowKit

theorem may_row {t : TabD} (h : MayS t) {s : Nat} {l : List Int} (hs : t.n[s]? = some l) : l.length = colsN t ∧ ∀ (c : Nat) x, l[c]? = some x → -1 ≤ x ∧ x < t.n.length := by
  obtain ⟨h1, h2⟩ := h.row l (List.mem_of_getElem? hs)
  unfold colsN
  exact ⟨by omega, fun c x hx => h2 x (List.mem_of_getElem? hx)⟩
theorem goN_at {t : TabD} {s c : Nat} {l : List Int} {x : Int} (hs : t.n[s]? = some l) (hx : l[c]? = some x) : goN t s c = if 0 ≤ x then x.toNat else t.n.length := by
  have hl := (List.getElem?_eq_some_iff.1 hs).1
  have e1 : t.n.getD s [] = l := by rw [List.getD_eq_getElem?_getD, hs]; rfl
  have e2 : l.getD c (-1) = x := by rw [List.getD_eq_getElem?_getD, hx]; rfl
  unfold goN
  rw [e1, e2]
  by_cases h : 0 ≤ x
  · rw [if_pos ⟨hl, h⟩, if_pos h]
  · rw [if_neg (fun k => h k.2), if_neg h]
theorem endN_at {t : TabD} (h : MayS t) {s : Nat} {e : Int} (he : t.e[s]? = some e) : endN t s = e := by
  have := (List.getElem?_eq_some_iff.1 he).1
  unfold endN
  rw [if_pos (by have := h.el; omega), List.getD_eq_getElem?_getD, he]
  rfl

set_option maxRecDepth 100000 in
set_option maxHeartbeats 2000000 in
theorem refEnds_any (t : TabD) (rs cs ns es : Sl) (B a : Nat) (w : World) (h : TabIn w B rs cs ns es t) (hm : MayS t) (ha : a ≤ t.n.length) :
    Calls Try.prog 65 #[tabV rs cs ns es, .int .i64 a] w fun e w' => e = .returned (.int .i64 (endN t a)) ∧ Chg (fun _ => False) w w' := by
  have HTB := Lib.hid h
  have HM := Lib.hid hm
  obtain ⟨ra, rn, rc⟩ := rs
  obtain ⟨ca, cn, cc⟩ := cs
  obtain ⟨na, nn, nc⟩ := ns
  obtain ⟨ea, en, ec⟩ := es
  obtain ⟨rfl, hn1⟩ := h.n.len
  obtain ⟨rfl, he1⟩ := h.e.len
  have hel := hm.el
  clear h hm
  obtain ⟨wa, hwa⟩ : ∃ x, x = w.alloc (.cells #[.slice ra rn rc, .slice ca cn cc, .slice na t.n.length nc, .slice ea t.e.length ec] 33) := ⟨_, rfl⟩
  have HC0 : Hid (Chg (fun _ => False) w wa) := Lib.hid (by rw [hwa]; exact (Chg.refl _ _).alloc _)
  obtain ⟨q0, q1, q2, q3⟩ : wa.cell? ⟨w.heap.size, 0, none⟩ = some (.slice ra rn rc) ∧ wa.cell? ⟨w.heap.size, 1, none⟩ = some (.slice ca cn cc) ∧ wa.cell? ⟨w.heap.size, 2, none⟩ = some (.slice na t.n.length nc) ∧ wa.cell? ⟨w.heap.size, 3, none⟩ = some (.slice ea t.e.length ec) := by
    rw [hwa]
    exact tabBox w (ra, rn, rc) (ca, cn, cc) (na, t.n.length, nc) (ea, t.e.length, ec) _
  have HWA := Lib.hid hwa
  have HEL := Lib.hid hel
  clear hwa hel
  show Calls Try.prog 65 #[.agg #[.slice ra rn rc, .slice ca cn cc, .slice na t.n.length nc, .slice ea t.e.length ec], .int .i64 a] w _
  by_cases hal : a < t.n.length
  · have d1 : ((a : Int) == (t.n.length : Int)) = false := by simp; omega
    have d2 : (a == t.n.length) = false := by simp; omega
    obtain ⟨x, g, o, hx, hea, c0, x0, x1, -, -⟩ := (HTB.out.same HC0.out).e.getI (k := a) (by have := HEL.out; omega)
    subst hea
    have HX : Hid (endN t a = x) := Lib.hid (endN_at HM.out hx)
    have hael : a < t.e.length := by have := HEL.out; omega
    clear hx
    go_enter Try.func65, Try.ntmps65
    go_upto_region 1 with (fail)
    rw [← HWA.out]
    go_wp2
    go_ret
    exact ⟨by rw [HX.out]; rfl, HC0.out⟩
  · obtain rfl : a = t.n.length := by omega
    have HX : Hid (endN t t.n.length = -1) := Lib.hid (endN_none t)
    go_enter Try.func65, Try.ntmps65
    go_upto_region 1 with (fail)
    rw [← HWA.out]
    go_wp2
    go_ret
    exact ⟨by rw [HX.out]; rfl, HC0.out⟩

set_option maxRecDepth 100000 in
set_option maxHeartbeats 2000000 in
theorem refGoes_any (t : TabD) (rs cs ns es : Sl) (B a c : Nat) (w : World) (h : TabIn w B rs cs ns es t) (hm : MayS t) (ha : a ≤ t.n.length) (hc : c < colsN t) :
    Calls Try.prog 40 #[tabV rs cs ns es, .int .i64 a, .int .i64 c] w fun e w' => e = .returned (.int .i64 (goN t a c)) ∧ Chg (fun _ => False) w w' := by
  have HTB := Lib.hid h
  have HM := Lib.hid hm
  obtain ⟨ra, rn, rc⟩ := rs
  obtain ⟨ca, cn, cc⟩ := cs
  obtain ⟨na, nn, nc⟩ := ns
  obtain ⟨ea, en, ec⟩ := es
  obtain ⟨rfl, hn1⟩ := h.n.len
  clear h hm
  obtain ⟨wa, hwa⟩ : ∃ x, x = w.alloc (.cells #[.slice ra rn rc, .slice ca cn cc, .slice na t.n.length nc, .slice ea en ec] 33) := ⟨_, rfl⟩
  have HC0 : Hid (Chg (fun _ => False) w wa) := Lib.hid (by rw [hwa]; exact (Chg.refl _ _).alloc _)
  obtain ⟨q0, q1, q2, q3⟩ : wa.cell? ⟨w.heap.size, 0, none⟩ = some (.slice ra rn rc) ∧ wa.cell? ⟨w.heap.size, 1, none⟩ = some (.slice ca cn cc) ∧ wa.cell? ⟨w.heap.size, 2, none⟩ = some (.slice na t.n.length nc) ∧ wa.cell? ⟨w.heap.size, 3, none⟩ = some (.slice ea en ec) := by
    rw [hwa]
    exact tabBox w (ra, rn, rc) (ca, cn, cc) (na, t.n.length, nc) (ea, en, ec) _
  have HWA := Lib.hid hwa
  clear hwa
  show Calls Try.prog 40 #[.agg #[.slice ra rn rc, .slice ca cn cc, .slice na t.n.length nc, .slice ea en ec], .int .i64 a, .int .i64 c] w _
  by_cases hal : a < t.n.length
  · have d1 : ((a : Int) == (t.n.length : Int)) = false := by simp; omega
    have d2 : (a == t.n.length) = false := by simp; omega
    obtain ⟨l, gn, on, la, lc, hl, hna, n0, hin, -, -⟩ := (HTB.out.same HC0.out).n.getIn hal
    subst hna
    obtain ⟨hll, hlb⟩ := may_row HM.out hl
    obtain ⟨x, g, o, hx, hea, c0, x0, x1, -, -⟩ := hin.getI (k := c) (by omega)
    subst hea
    have hcl2 : c < l.length := by omega
    have HL : Hid (l.length = colsN t) := Lib.hid hll
    have HXB := Lib.hid (hlb c x hx)
    by_cases hx0 : x < 0
    · have HX : Hid (goN t a c = t.n.length) := Lib.hid (by rw [goN_at hl hx, if_neg (by omega)])
      have d3 : decide (x < 0) = true := by simpa using hx0
      clear hl hin hx hll hlb
      go_enter Try.func40, Try.ntmps40
      go_upto_region 1 with (fail)
      rw [← HWA.out]
      go_wp2
      go_ret
      exact ⟨by rw [HX.out]; rfl, HC0.out⟩
    · have HX : Hid (goN t a c = x.toNat) := Lib.hid (by rw [goN_at hl hx, if_pos (by omega)])
      have d3 : decide (x < 0) = false := by simpa using hx0
      clear hl hin hx hll hlb
      go_enter Try.func40, Try.ntmps40
      go_upto_region 1 with (fail)
      rw [← HWA.out]
      go_wp2
      go_ret
      exact ⟨by rw [HX.out, Int.toNat_of_nonneg (by omega)]; rfl, HC0.out⟩
  · obtain rfl : a = t.n.length := by omega
    have HX : Hid (goN t t.n.length c = t.n.length) := Lib.hid (goN_none t c)
    go_enter Try.func40, Try.ntmps40
    go_upto_region 1 with (fail)
    rw [← HWA.out]
    go_wp2
    go_ret
    exact ⟨by rw [HX.out]; rfl, HC0.out⟩
end Go.Proofs.Ytodohgckncnipaa
/- The document's told: which pairs of states some text tells apart. -/
namespace Go.Proofs.Ytodohgckncnipaa
open Go.RowKit

/-- What is told stays within what some text tells, and holds what texts of so many columns tell. -/
structure ToldM (t : TabD) (r : Nat) (M : Nat → Nat → Bool) : Prop where
  sound : ∀ a b, a ≤ t.n.length → b ≤ t.n.length → M a b = true → eqB t a b = false
  low : ∀ a b, a ≤ t.n.length → b ≤ t.n.length → relE t r a b = false → M a b = true
/-- Ahead of a pair. -/
def Bef (i j a b : Nat) : Prop := a < i ∨ (a = i ∧ b < j)
/-- Within a round. -/
structure ToldR (t : TabD) (r i j : Nat) (ch : Bool) (M : Nat → Nat → Bool) : Prop extends ToldM t r M where
  up : ∀ a b, a ≤ t.n.length → b ≤ t.n.length → Bef i j a b → relE t (r + 1) a b = false → M a b = true
  cl : ch = false → ∀ a b, a ≤ t.n.length → b ≤ t.n.length → Bef i j a b → ∀ c, c < colsN t → M (goN t a c) (goN t b c) = true → M a b = true
theorem ToldM.start {t : TabD} {M : Nat → Nat → Bool} (h : ∀ a b, a ≤ t.n.length → b ≤ t.n.length → M a b = !decide (endN t a = endN t b)) : ToldM t 0 M :=
  ⟨fun a b ha hb hm => by
    rw [h a b ha hb] at hm
    cases he : eqB t a b with
    | false => rfl
    | true => rw [eqB_end he] at hm; simp at hm, fun a b ha hb hr => by rw [h a b ha hb]; unfold relE at hr; rw [hr]; rfl⟩
theorem ToldR.start {t : TabD} {r : Nat} {M : Nat → Nat → Bool} (h : ToldM t r M) : ToldR t r 0 0 false M :=
  ⟨h, fun a b _ _ hb => by rcases hb with h | ⟨_, h⟩ <;> exact absurd h (Nat.not_lt_zero _), fun _ a b _ _ hb => by rcases hb with h | ⟨_, h⟩ <;> exact absurd h (Nat.not_lt_zero _)⟩
/-- A row's end. -/
theorem ToldR.row {t : TabD} {r i : Nat} {ch : Bool} {M : Nat → Nat → Bool} (h : ToldR t r i (t.n.length + 1) ch M) : ToldR t r (i + 1) 0 ch M := by
  have hb : ∀ a b, b ≤ t.n.length → Bef (i + 1) 0 a b → Bef i (t.n.length + 1) a b := fun a b hb hh => by
    rcases hh with h | ⟨_, h⟩
    · by_cases e : a = i
      · exact .inr ⟨e, by omega⟩
      · exact .inl (by omega)
    · exact absurd h (Nat.not_lt_zero _)
  exact ⟨h.toToldM, fun a b ha hb' hh => h.up a b ha hb' (hb a b hb' hh), fun hc a b ha hb' hh => h.cl hc a b ha hb' (hb a b hb' hh)⟩
theorem ToldR.next {t : TabD} {r : Nat} {M : Nat → Nat → Bool} {ch : Bool} (h : ToldR t r (t.n.length + 1) 0 ch M) : ToldM t (r + 1) M :=
  ⟨h.sound, fun a b ha hb hr => h.up a b ha hb (.inl (by omega)) hr⟩
/-- Nothing has changed: it is all. -/
theorem ToldR.done {t : TabD} (ht : MayS t) {r : Nat} {M : Nat → Nat → Bool} (h : ToldR t r (t.n.length + 1) 0 false M) {a b : Nat} (ha : a ≤ t.n.length) (hb : b ≤ t.n.length) : M a b = !eqB t a b := by
  cases hm : M a b with
  | true => rw [h.sound a b ha hb hm]; rfl
  | false =>
    have : eqB t a b = true := by
      refine eqB_max (fun a b => a ≤ t.n.length ∧ b ≤ t.n.length ∧ M a b = false) (fun a b ⟨h1, h2, h3⟩ => ?_) (fun a b ⟨h1, h2, h3⟩ c hc => ⟨goN_le ht _ _, goN_le ht _ _, ?_⟩) ⟨ha, hb, hm⟩
      · refine Classical.byContradiction fun hne => ?_
        have : relE t 0 a b = false := by simp [relE, hne]
        have hr : relE t r a b = false := by
          cases hh : relE t r a b with
          | false => rfl
          | true => rw [relE_down (Nat.zero_le _) hh] at this; cases this
        rw [h.low a b h1 h2 hr] at h3
        cases h3
      · cases hh : M (goN t a c) (goN t b c) with
        | false => rfl
        | true => rw [h.cl rfl a b h1 h2 (.inl (by omega)) c hc hh] at h3; cases h3
    rw [this]; rfl
theorem ToldM.done {t : TabD} {M : Nat → Nat → Bool} (h : ToldM t (t.n.length + 1) M) {a b : Nat} (ha : a ≤ t.n.length) (hb : b ≤ t.n.length) : M a b = !eqB t a b := by
  cases hm : M a b with
  | true => rw [h.sound a b ha hb hm]; rfl
  | false =>
    cases he : eqB t a b with
    | true => rfl
    | false => rw [h.low a b ha hb he] at hm; cases hm
/-- A pair, told or not. -/
theorem bef_next {i j a b : Nat} (h : Bef i (j + 1) a b) : Bef i j a b ∨ (a = i ∧ b = j) := by
  rcases h with h | ⟨h, h'⟩
  · exact .inl (.inl h)
  · by_cases e : b = j
    · exact .inr ⟨h, e⟩
    · exact .inl (.inr ⟨h, by omega⟩)
theorem ToldR.skip {t : TabD} (ht : MayS t) {r i j : Nat} {ch : Bool} {M : Nat → Nat → Bool} (h : ToldR t r i j ch M) (hi : i ≤ t.n.length) (hj : j ≤ t.n.length) (hs : M i j = true ∨ ∀ c, c < colsN t → M (goN t i c) (goN t j c) = false) : ToldR t r i (j + 1) ch M := by
  refine ⟨h.toToldM, fun a b ha hb hh hr => ?_, fun hc a b ha hb hh c hcc hm => ?_⟩
  · rcases bef_next hh with hh | ⟨rfl, rfl⟩
    · exact h.up a b ha hb hh hr
    · rcases hs with hs | hs
      · exact hs
      · refine Classical.byContradiction fun hno => ?_
        have hM : M a b = false := by simpa using hno
        have hr0 : relE t r a b = true := by
          cases he : relE t r a b with
          | true => rfl
          | false => rw [h.low a b ha hb he] at hM; cases hM
        have : relE t (r + 1) a b = true := relE_succ.2 ⟨hr0, fun c hc => by
          cases he : relE t r (goN t a c) (goN t b c) with
          | true => rfl
          | false =>
            have := h.low _ _ (goN_le ht a c) (goN_le ht b c) he
            rw [hs c hc] at this; cases this⟩
        rw [this] at hr; cases hr
  · rcases bef_next hh with hh | ⟨rfl, rfl⟩
    · exact h.cl hc a b ha hb hh c hcc hm
    · rcases hs with hs | hs
      · exact hs
      · rw [hs c hcc] at hm; cases hm
theorem setM_at (M : Nat → Nat → Bool) (i j : Nat) (b : Bool) : setM M i j b i j = b := by simp [setM]
theorem setM_keep {M : Nat → Nat → Bool} {i j a b : Nat} (h : M a b = true) : setM M i j true a b = true := by
  unfold setM
  split
  · rfl
  · exact h
theorem setM_cases {M : Nat → Nat → Bool} {i j a b : Nat} (h : setM M i j true a b = true) : M a b = true ∨ (a = i ∧ b = j) := by
  unfold setM at h
  split at h
  · rename_i hh; exact .inr hh
  · exact .inl h
theorem ToldR.set {t : TabD} (ht : MayS t) {r i j : Nat} {ch : Bool} {M : Nat → Nat → Bool} (h : ToldR t r i j ch M) (hi : i ≤ t.n.length) (hj : j ≤ t.n.length) {c : Nat} (hc : c < colsN t) (hm : M (goN t i c) (goN t j c) = true) : ToldR t r i j true (setM M i j true) := by
  refine ⟨⟨fun a b ha hb hh => ?_, fun a b ha hb hr => setM_keep (h.low a b ha hb hr)⟩, fun a b ha hb hh hr => setM_keep (h.up a b ha hb hh hr), fun hc => by cases hc⟩
  rcases setM_cases hh with hh | ⟨rfl, rfl⟩
  · exact h.sound a b ha hb hh
  · cases he : eqB t a b with
    | false => rfl
    | true =>
      have := eqB_go ht ha hb he hc
      rw [h.sound _ _ (goN_le ht a c) (goN_le ht b c) hm] at this
      cases this
end Go.Proofs.Ytodohgckncnipaa
/- The document's told: the walk. -/
namespace Go.Proofs.Ytodohgckncnipaa
open Go.RowKit

theorem MatAt.lower {w : World} {B B' : Nat} {v : Value} {M : Nat → Nat → Bool} {m n : Nat} (h : MatAt w B v M m n) (hB : B' ≤ B) : MatAt w B' v M m n := by
  obtain ⟨X, h1, h2, h3⟩ := h.x
  refine ⟨X, h1.lower hB, h2, fun j y hy => ?_⟩
  obtain ⟨g, k1, k2, k3⟩ := h3 j y hy
  exact ⟨g, k1, by omega, k3⟩
theorem MatAt.congr {w : World} {B : Nat} {v : Value} {M M' : Nat → Nat → Bool} {m n : Nat} (h : MatAt w B v M m n) (he : ∀ i j, i < m → j < n → M i j = M' i j) : MatAt w B v M' m n := by
  obtain ⟨X, h1, h2, h3⟩ := h.x
  refine ⟨X, h1, h2, fun j y hy => ?_⟩
  obtain ⟨g, k1, k2, k3, k4, k5⟩ := h3 j y hy
  have hj := (List.getElem?_eq_some_iff.1 hy).1
  refine ⟨g, k1, k2, k3, ?_, k5⟩
  have e : (List.range n).map (M j) = (List.range n).map (M' j) := List.map_congr_left fun q hq => he j q (by omega) (List.mem_range.1 hq)
  rw [← e]
  exact k4
/-- A row more. -/
theorem MatAt.push {w0 w w1 : World} {B : Nat} {v v' : Value} {M : Nat → Nat → Bool} {m n g : Nat} {X : List Sl} (hX : boolsE.Own w0 B v X) (hXl : X.length = m)
    (hXn : ∀ (j : Nat) y, X[j]? = some y → ∃ g, y = (some ⟨g, 0, none⟩, n, n) ∧ B ≤ g ∧ v.ownBlock ≠ some g ∧ boolE.Row w0 g ((List.range n).map (M j)) ∧ ∀ (i : Nat) z, X[i]? = some z → i ≠ j → z ≠ y)
    (hc0 : Chg (fun _ => False) w0 w) (hg : w0.heap.size ≤ g) (hB : B ≤ w0.heap.size) (hrow : boolE.Row w g (List.replicate n false)) (ho : boolsE.Own w1 B v' (X ++ [(some ⟨g, 0, none⟩, n, n)])) (hc : Chg (fun k => v.ownBlock = some k) w w1) (hv : v'.ownBlock = v.ownBlock ∨ v'.ownBlock = some w.heap.size) :
    MatAt w1 B v' (fun a b => if a = m then false else M a b) (m + 1) n := by
  have hvg : v.ownBlock ≠ some g := fun e => by have := (hX.blk e).2; omega
  have hgw := hrow.lt
  have far : ∀ {k : Nat}, v.ownBlock ≠ some k → k < w.heap.size → v'.ownBlock ≠ some k := fun {k} k1 k2 e => by
    rcases hv with hv | hv
    · rw [hv] at e; exact k1 e
    · rw [hv] at e
      have := Option.some.inj e
      omega
  have hsz := hc0.size
  refine ⟨X ++ [(some ⟨g, 0, none⟩, n, n)], ho, by simp [hXl], fun j y hy => ?_⟩
  by_cases hj : j < X.length
  · rw [List.getElem?_append_left hj] at hy
    obtain ⟨gj, k1, k2, k3, k4, k5⟩ := hXn j y hy
    have hlt := k4.lt
    refine ⟨gj, k1, k2, far k3 (by omega), ?_, fun i z hz hij => ?_⟩
    · have e : (List.range n).map ((fun a b => if a = m then false else M a b) j) = (List.range n).map (M j) := List.map_congr_left fun q _ => by simp; intro e; omega
      rw [e]
      exact (k4.chg hc0 (fun h => h)).chg hc k3
    · by_cases hi : i < X.length
      · rw [List.getElem?_append_left hi] at hz
        exact k5 i z hz hij
      · have hi' : i = X.length := by
          have := (List.getElem?_eq_some_iff.1 hz).1
          simp at this; omega
        subst hi'
        rw [List.getElem?_append_right (Nat.le_refl _), Nat.sub_self] at hz
        simp only [List.getElem?_cons_zero, Option.some.injEq] at hz
        subst hz
        rw [k1]
        intro e
        injection e with e
        injection e with e
        injection e with e
        omega
  · have hj' : j = X.length := by
      have := (List.getElem?_eq_some_iff.1 hy).1
      simp at this; omega
    subst hj'
    rw [List.getElem?_append_right (Nat.le_refl _), Nat.sub_self] at hy
    simp only [List.getElem?_cons_zero, Option.some.injEq] at hy
    subst hy
    refine ⟨g, rfl, by omega, far hvg hgw, ?_, fun i z hz hij => ?_⟩
    · have e : (List.range n).map ((fun a b => if a = m then false else M a b) X.length) = List.replicate n false := by
        rw [hXl]
        apply List.ext_getElem?
        intro q
        by_cases hq : q < n
        · simp [hq]
        · rw [List.getElem?_eq_none (by simp; omega), List.getElem?_eq_none (by simp; omega)]
      rw [e]
      exact hrow.chg hc hvg
    · have hi : i < X.length := by
        have := (List.getElem?_eq_some_iff.1 hz).1
        simp at this; omega
      rw [List.getElem?_append_left hi] at hz
      obtain ⟨gi, k1, k2, k3, k4, k5⟩ := hXn i z hz
      have hlt := k4.lt
      rw [k1]
      intro e
      injection e with e
      injection e with e
      injection e with e
      omega

/-- What is told at first. -/
def m0 (t : TabD) (a b : Nat) : Bool := !decide (endN t a = endN t b)

set_option maxRecDepth 100000 in
set_option maxHeartbeats 16000000 in
theorem told_any (t : TabD) (rs cs ns es : Sl) (B : Nat) (w : World) (h : TabIn w B rs cs ns es t) (hm : MayS t) (hn : t.n.length ≤ 1000000000) (hcn : colsN t ≤ 1000000000) :
    Calls Try.prog 39 #[tabV rs cs ns es] w fun e w' => ∃ a c, e = .returned (.slice a (t.n.length + 1) c) ∧ MatAt w' w.heap.size (.slice a (t.n.length + 1) c) (fun a b => !eqB t a b) (t.n.length + 1) (t.n.length + 1) ∧ Chg (fun _ => False) w w' := by
  have HTB := Lib.hid h
  have HM := Lib.hid hm
  obtain ⟨ra, rn, rc⟩ := rs
  obtain ⟨ca, cn, cc⟩ := cs
  obtain ⟨na, nn, nc⟩ := ns
  obtain ⟨ea, en, ec⟩ := es
  obtain ⟨rfl, hn1⟩ := h.n.len
  have hn0 := hm.nl
  clear h hm
  obtain ⟨wa, hwa⟩ : ∃ x, x = w.alloc (.cells #[.slice ra rn rc, .slice ca cn cc, .slice na t.n.length nc, .slice ea en ec] 33) := ⟨_, rfl⟩
  have HC0 : Hid (Chg (fun _ => False) w wa) := Lib.hid (by rw [hwa]; exact (Chg.refl _ _).alloc _)
  have HT0 : Hid (∀ wx, Chg (fun k => wa.heap.size ≤ k) wa wx → wx.cell? ⟨w.heap.size, 0, none⟩ = some (.slice ra rn rc) ∧ wx.cell? ⟨w.heap.size, 1, none⟩ = some (.slice ca cn cc) ∧ wx.cell? ⟨w.heap.size, 2, none⟩ = some (.slice na t.n.length nc) ∧ wx.cell? ⟨w.heap.size, 3, none⟩ = some (.slice ea en ec)) := Lib.hid (fun wx hx => by
    have hx := hx.fresh
    subst hwa
    exact (tabBox w (ra, rn, rc) (ca, cn, cc) (na, t.n.length, nc) (ea, en, ec) 33).chg hx (fun h => h))
  have HSA : Hid (wa.heap.size = w.heap.size + 1) := Lib.hid (by rw [hwa]; simp)
  have HWA := Lib.hid hwa
  clear hwa
  obtain ⟨q0, q1, q2, q3⟩ := HT0.out wa (Chg.refl _ _)
  show Calls Try.prog 39 #[.agg #[.slice ra rn rc, .slice ca cn cc, .slice na t.n.length nc, .slice ea en ec]] w _
  go_enter Try.func39, Try.ntmps39
  go_upto_region 1 with (fail)
  rw [← HWA.out]
  go_wp2
  go_loopw [4, 5] (fun v q wr => ∃ (i : Nat) (M : Nat → Nat → Bool), i ≤ t.n.length + 1 ∧ q = .int .i64 i ∧ MatAt wr wa.heap.size v M i (t.n.length + 1) ∧ (∀ a b, a < i → b ≤ t.n.length → M a b = m0 t a b) ∧ Chg (fun k => wa.heap.size ≤ k) wa wr) (fun _ q _ => t.n.length + 1 - (intOf q).toNat)
  case atStart => exact ⟨0, fun _ _ => false, by omega, rfl, ⟨[], .nil _ _, rfl, fun j y hy => by simp at hy⟩, fun a b h => absurd h (Nat.not_lt_zero _), Chg.refl _ _⟩
  case round =>
    clear q0 q1 q2 q3
    obtain ⟨i, M, hi, rfl, hmat, hMv, hc⟩ := hrel
    have HMV := Lib.hid hMv
    have HC := Lib.hid hc
    clear hMv hc
    obtain ⟨q0, q1, q2, q3⟩ := HT0.out wr HC.out
    by_cases hil : i < t.n.length + 1
    · have b1 : decide ((i : Int) < (t.n.length : Int) + 1) = true := by simp; omega
      have hszr := HC.out.size
      obtain ⟨X, hX, hXl, hXn⟩ := hmat.x
      obtain ⟨va, vc, rfl⟩ := hmat.shape
      have HX := Lib.hid (show _ ∧ _ ∧ _ from ⟨hX, hXl, hXn⟩)
      clear hX hXl hXn hmat q0 q1 q2 q3
      go_wp2_with (first | (at_make; refine boolE.wpList_make rfl _ _ _ rfl rfl _ _ _ _ (t.n.length + 1) (t.n.length + 1) rfl rfl rfl (by omega) (by omega) (by omega) ?_; intro w1 HR1 HC1) | (at_builtin; refine Elt.wpList_append2 boolsE rfl _ _ 46 46 rfl rfl wa.heap.size (.slice va i vc) X [(some ⟨wr.heap.size, 0, none⟩, t.n.length + 1, t.n.length + 1)] (.slice (some ⟨w1.heap.size, 0, none⟩) 1 1) rfl rfl ((HX.out.1.chg HC1.out.any (fun _ _ _ h => h)).chg ((Chg.refl (fun _ => False) _).alloc _) (fun _ _ _ h => h)) (by have := HC1.out.size; simp; omega) (boolsE.srcLit (Y := [(some ⟨wr.heap.size, 0, none⟩, t.n.length + 1, t.n.length + 1)]) 1 (fun _ _ => trivial)) (fun _ _ => trivial) (by have := HX.out.2.1; simp; omega) ?_; intro v' w2 HO2 HC2 HC2b))
      have HMT : Hid (MatAt w2 wa.heap.size v' (fun a b => if a = i then false else M a b) (i + 1) (t.n.length + 1)) := Lib.hid (by
        refine MatAt.push HX.out.1 HX.out.2.1 HX.out.2.2 (HC1.out.any.trans ((Chg.refl (fun _ => False) _).alloc _)) (Nat.le_refl _) hszr ?_ HO2.out HC2b.out.1 HC2b.out.2
        exact HR1.out.chg ((Chg.refl (fun _ => False) _).alloc _) (fun h => h))
      have HCW : Hid (Chg (fun k => wa.heap.size ≤ k) wa w2) := Lib.hid (HC.out.trans ((HC1.out.any.trans (((Chg.refl (fun k => wa.heap.size ≤ k) _).alloc _))).trans HC2.out))
      have HSZ : Hid (wr.heap.size < w2.heap.size) := Lib.hid (by have := HR1.out.lt; have := HC2.out.size; simp at this; omega)
      clear HX HC1 HR1 HO2 HC2 HC2b
      go_loopw [6] (fun q wy => ∃ (j : Nat) (M' : Nat → Nat → Bool), j ≤ t.n.length + 1 ∧ q = .int .i64 j ∧ MatAt wy wa.heap.size v' M' (i + 1) (t.n.length + 1) ∧ (∀ a b, a < i → b ≤ t.n.length → M' a b = m0 t a b) ∧ (∀ b, b < j → M' i b = m0 t i b) ∧ Chg (fun k => wa.heap.size ≤ k) wa wy) (fun q _ => t.n.length + 1 - (intOf q).toNat)
      case atStart => exact ⟨0, _, by omega, rfl, HMT.out, fun a b ha hb => by rw [if_neg (by omega)]; exact HMV.out a b ha hb, fun b hb => absurd hb (Nat.not_lt_zero _), HCW.out⟩
      case round =>
        clear HMT HCW
        obtain ⟨j, M', hj, rfl, hmat, hM1, hM2, hc⟩ := hrel
        obtain ⟨va', vc', rfl⟩ := hmat.shape
        have HMAT := Lib.hid hmat
        have HM1 := Lib.hid hM1
        have HM2 := Lib.hid hM2
        have HCY := Lib.hid hc
        clear hmat hM1 hM2 hc
        by_cases hjl : j < t.n.length + 1
        · have b2 : decide ((j : Int) < (t.n.length : Int) + 1) = true := by simp; omega
          have i1 : (i : Int) < (i : Int) + 1 := by omega
          have j1 : (j : Int) < (t.n.length : Int) + 1 := by omega
          obtain ⟨g, gr, rfl, hcell, hgB, hglt, hgz, hgc⟩ := HMAT.out.get (i := i) (by omega)
          have HCELL := Lib.hid hcell
          have HGC := Lib.hid (hgc j (by omega))
          have HGZ := Lib.hid hgz
          clear hcell hgc hgz
          obtain ⟨q0, q1, q2, q3⟩ := HT0.out _ HCY.out
          go_upto_region 10 with (fail)
          clear q0 q1 q2 q3
          obtain ⟨wd, hwd⟩ : ∃ x, wr.drew = x := ⟨_, rfl⟩
          have HDD : Hid (Chg (fun _ => False) wr wd) := Lib.hid (by rw [← hwd]; exact (Chg.refl _ _).drew)
          have HCD := Lib.hid (HCY.out.trans HDD.out.any)
          refine wp_region_late (fun x => Chg (fun _ => False) wd x) (fun i => decide (13 ≤ i)) (by kernel_rfl) ?_
          show wpAnyL _ _ _ _ _ _ 14 (Array.replicate 14 false) _ wr.drew
          rw [hwd]
          clear hwd
          have HSS : Hid (Chg (fun _ => False) wd wd) := Lib.hid (Chg.refl _ _)
          (refine late_read (i := 0) rfl (by kernel_rfl) (fun _ _ _ _ h => h) rfl HSS.out (fun K hK => ?_); apply Exists.intro; refine ⟨fun w' hC => ?_, ?_⟩; ((skip); go_simp; try with_reducible rfl); (try go_simp); refine hK _ ?_; clear hK K)
          (refine late_read (i := 1) rfl (by kernel_rfl) (fun _ _ _ _ h => h) rfl HSS.out (fun K hK => ?_); apply Exists.intro; refine ⟨fun w' hC => ?_, ?_⟩; ((skip); go_simp; try with_reducible rfl); (try go_simp); refine hK _ ?_; clear hK K)
          (refine late_read (i := 2) rfl (by kernel_rfl) (fun _ _ _ _ h => h) rfl HSS.out (fun K hK => ?_); apply Exists.intro; refine ⟨fun w' hC => ?_, ?_⟩; ((skip); go_simp; try with_reducible rfl); (try go_simp); refine hK _ ?_; clear hK K)
          (refine late_read (i := 3) rfl (by kernel_rfl) (fun _ _ _ _ h => h) rfl HSS.out (fun K hK => ?_); apply Exists.intro; refine ⟨fun w' hC => ?_, ?_⟩; ((have q := (HDD.out.trans hC).cellS HCELL.out (fun h => h)); go_simp; try with_reducible rfl); (try go_simp); refine hK _ ?_; clear hK K)
          (refine late_read (i := 4) rfl (by kernel_rfl) (fun _ _ _ _ h => h) rfl HSS.out (fun K hK => ?_); apply Exists.intro; refine ⟨fun w' hC => ?_, ?_⟩; ((skip); go_simp; try with_reducible rfl); (try go_simp); refine hK _ ?_; clear hK K)
          (refine late_read (i := 5) rfl (by kernel_rfl) (fun _ _ _ _ h => h) rfl HSS.out (fun K hK => ?_); apply Exists.intro; refine ⟨fun w' hC => ?_, ?_⟩; ((obtain ⟨q0, q1, q2, q3⟩ := HT0.out w' (HCD.out.trans hC.any)); go_simp; try with_reducible rfl); (try go_simp); refine hK _ ?_; clear hK K)
          (refine late_read (i := 6) rfl (by kernel_rfl) (fun _ _ _ _ h => h) rfl HSS.out (fun K hK => ?_); apply Exists.intro; refine ⟨fun w' hC => ?_, ?_⟩; ((skip); go_simp; try with_reducible rfl); (try go_simp); refine hK _ ?_; clear hK K)
          (refine late_read (i := 8) rfl (by kernel_rfl) (fun _ _ _ _ h => h) rfl HSS.out (fun K hK => ?_); apply Exists.intro; refine ⟨fun w' hC => ?_, ?_⟩; ((obtain ⟨q0, q1, q2, q3⟩ := HT0.out w' (HCD.out.trans hC.any)); go_simp; try with_reducible rfl); (try go_simp); refine hK _ ?_; clear hK K)
          (refine late_read (i := 9) rfl (by kernel_rfl) (fun _ _ _ _ h => h) rfl HSS.out (fun K hK => ?_); apply Exists.intro; refine ⟨fun w' hC => ?_, ?_⟩; ((skip); go_simp; try with_reducible rfl); (try go_simp); refine hK _ ?_; clear hK K)
          refine late_call (i := 7) (by kernel_rfl) rfl rfl 65 #[.agg #[.slice ra rn rc, .slice ca cn cc, .slice na t.n.length nc, .slice ea en ec], .int .i64 i] (fun v w'' => v = .int .i64 (endN t i) ∧ Chg (fun _ => False) wd w'') (by go_simp) ?_ ?_
          · refine (refEnds_any t (ra, rn, rc) (ca, cn, cc) (na, t.n.length, nc) (ea, en, ec) B i wd (HTB.out.same (HC0.out.trans HCD.out.fresh)) HM.out (by omega)).mono ?_
            rintro e wy ⟨rfl, hc⟩
            exact ⟨_, rfl, fun _ => hc, rfl, hc⟩
          rintro v w5 - ⟨rfl, hc⟩ K hK
          have HX5 := Lib.hid hc
          clear hc
          (try go_simp)
          refine hK _ ?_
          clear hK K
          refine late_call (i := 10) (by kernel_rfl) rfl rfl 65 #[.agg #[.slice ra rn rc, .slice ca cn cc, .slice na t.n.length nc, .slice ea en ec], .int .i64 j] (fun v w'' => v = .int .i64 (endN t j) ∧ Chg (fun _ => False) w5 w'') (by go_simp) ?_ ?_
          · refine (refEnds_any t (ra, rn, rc) (ca, cn, cc) (na, t.n.length, nc) (ea, en, ec) B j w5 (HTB.out.same (HC0.out.trans (HCD.out.trans HX5.out.any).fresh)) HM.out (by omega)).mono ?_
            rintro e wy ⟨rfl, hc⟩
            exact ⟨_, rfl, fun _ => HX5.out.trans hc, rfl, hc⟩
          rintro v w6 - ⟨rfl, hc⟩ K hK
          have HX6 := Lib.hid (HX5.out.trans hc)
          clear hc HX5
          (try go_simp)
          refine hK _ ?_
          clear hK K
          have HSS := HX6
          (refine late_turn (i := 11) (by kernel_rfl) rfl rfl (fun K hK => ?_); apply Exists.intro; apply Exists.intro; refine ⟨?_, ?_, ?_⟩; ((skip); go_simp; try first | with_reducible rfl | exact ⟨rfl, rfl⟩); (exact fun _ => HX6.out); (try go_simp); refine hK _ _ ?_; clear hK K)
          (refine late_read (i := 12) rfl (by kernel_rfl) (fun _ _ _ _ h => h) rfl HSS.out (fun K hK => ?_); apply Exists.intro; refine ⟨fun w' hC => ?_, ?_⟩; ((skip); go_simp; try with_reducible rfl); (try go_simp); refine hK _ ?_; clear hK K)
          have HD6 := Lib.hid (HDD.out.trans HX6.out)
          obtain ⟨hset, hsc, -⟩ := (HMAT.out.same HD6.out).set (i := i) (j := j) (by omega) (by omega) (m0 t i j) rfl (HD6.out.cellS HCELL.out (fun h => h))
          have k1 := HD6.out.cellS HGC.out (fun h => h)
          have k2 := (HD6.out.frozen (p := ⟨gr, j, none⟩) hglt (fun h => h)).trans (HGZ.out j)
          have hmm : (endN t i != endN t j) = m0 t i j := by unfold m0; by_cases h : endN t i = endN t j <;> simp [h]
          have HSET := Lib.hid hset
          have HSC := Lib.hid (HCY.out.trans (HD6.out.any.trans (hsc.mono (T := fun k => wa.heap.size ≤ k) (fun k _ e => by omega))))
          clear hset hsc
          (refine late_store (i := 13) (by kernel_rfl) rfl rfl (fun K hK => ?_); apply Exists.intro; refine ⟨?_, (fun h => absurd h (by decide)), ?_⟩; ((skip); go_simp; try first | with_reducible rfl | exact ⟨rfl, rfl⟩); (try go_simp); refine hK _ _ ?_; clear hK K)
          refine late_done (by kernel_rfl) ?_ _
          clear k1 k2
          have HB1 : Hid (∀ a b, a < i → b ≤ t.n.length → setM M' i j (m0 t i j) a b = m0 t a b) := Lib.hid (fun a b ha hb => by unfold setM; rw [if_neg (by omega)]; exact HM1.out a b ha hb)
          have HB2 : Hid (∀ b, b < j + 1 → setM M' i j (m0 t i j) i b = m0 t i b) := Lib.hid (fun b hb => by
            unfold setM
            by_cases e : b = j
            · rw [if_pos ⟨rfl, e⟩, e]
            · rw [if_neg (fun h => e h.2)]; exact HM2.out b (by omega))
          go_wp2
          go_roundw
          case rel => exact ⟨j + 1, _, by omega, by go_num, HSET.out, HB1.out, HB2.out, HSC.out⟩
          case measure => simp [intOf]; omega
        · obtain rfl : j = t.n.length + 1 := by omega
          have b2 : decide (((t.n.length + 1 : Nat) : Int) < (t.n.length : Int) + 1) = false := by simp
          have HB1 : Hid (∀ a b, a < i + 1 → b ≤ t.n.length → M' a b = m0 t a b) := Lib.hid (fun a b ha hb => by
            by_cases e : a = i
            · subst e; exact HM2.out b (by omega)
            · exact HM1.out a b (by omega) hb)
          go_wp2
          go_roundw
          case rel => exact ⟨i + 1, _, by omega, by go_num, HMAT.out, HB1.out, HCY.out⟩
          case measure => simp [intOf]; omega
    · obtain rfl : i = t.n.length + 1 := by omega
      have b1 : decide ((t.n.length : Int) + 1 < (t.n.length : Int) + 1) = false := by simp
      have ecast : ((t.n.length + 1 : Nat) : Int) = (t.n.length : Int) + 1 := rfl
      rw [ecast]
      clear ecast
      obtain ⟨va, vc, rfl⟩ := hmat.shape
      have HMAT := Lib.hid hmat
      have HTM : Hid (ToldM t 0 M) := Lib.hid (ToldM.start (fun a b ha hb => HMV.out a b (by omega) hb))
      clear hmat HMV
      clear q0 q1 q2 q3
      obtain ⟨wp, hwp⟩ : ∃ x, x = wr := ⟨_, rfl⟩
      rw [← hwp] at HC HMAT ⊢
      clear hwp
      obtain ⟨q0, q1, q2, q3⟩ := HT0.out wp HC.out
      go_wp2
      go_loopw [7] (fun q wr => ∃ (r : Nat) (M : Nat → Nat → Bool), r ≤ t.n.length + 1 ∧ q = .int .i64 r ∧ MatAt wr wa.heap.size (.slice va (t.n.length + 1) vc) M (t.n.length + 1) (t.n.length + 1) ∧ ToldM t r M ∧ Chg (fun k => wa.heap.size ≤ k) wa wr) (fun q _ => t.n.length + 1 - (intOf q).toNat)
      case atStart => exact ⟨0, M, by omega, rfl, HMAT.out, HTM.out, HC.out⟩
      case round =>
        clear q0 q1 q2 q3 HMAT HTM
        obtain ⟨r, M, hr, rfl, hmat, htm, hc⟩ := hrel
        have HMAT := Lib.hid hmat
        have HTR := Lib.hid (ToldR.start htm)
        have HTM := Lib.hid htm
        have HC := Lib.hid hc
        clear hmat htm hc
        by_cases hrl : r < t.n.length + 1
        · have b3 : decide ((r : Int) < (t.n.length : Int) + 1) = true := by simp; omega
          obtain ⟨wo1, rfl⟩ : ∃ wo : World, wo = wr := ⟨_, rfl⟩
          go_wp2
          go_loopw [8, 9] (fun ch q wr => ∃ (i : Nat) (b : Bool) (M : Nat → Nat → Bool), i ≤ t.n.length + 1 ∧ q = .int .i64 i ∧ ch = .bool b ∧ MatAt wr wa.heap.size (.slice va (t.n.length + 1) vc) M (t.n.length + 1) (t.n.length + 1) ∧ ToldR t r i 0 b M ∧ Chg (fun k => wa.heap.size ≤ k) wa wr) (fun _ q _ => t.n.length + 1 - (intOf q).toNat)
          case atStart => exact ⟨0, false, M, by omega, rfl, rfl, HMAT.out, HTR.out, HC.out⟩
          case round =>
            clear HMAT HTR HTM HC
            obtain ⟨i, ch, M, hi, rfl, rfl, hmat, htr, hc⟩ := hrel
            have HMAT := Lib.hid hmat
            have HTR := Lib.hid htr
            have HC := Lib.hid hc
            clear hmat htr hc
            by_cases hil : i < t.n.length + 1
            · have b4 : decide ((i : Int) < (t.n.length : Int) + 1) = true := by simp; omega
              obtain ⟨wo2, rfl⟩ : ∃ wo : World, wo = wr := ⟨_, rfl⟩
              go_wp2
              go_loopw [8, 10] (fun ch q wr => ∃ (j : Nat) (b : Bool) (M : Nat → Nat → Bool), j ≤ t.n.length + 1 ∧ q = .int .i64 j ∧ ch = .bool b ∧ MatAt wr wa.heap.size (.slice va (t.n.length + 1) vc) M (t.n.length + 1) (t.n.length + 1) ∧ ToldR t r i j b M ∧ Chg (fun k => wa.heap.size ≤ k) wa wr) (fun _ q _ => t.n.length + 1 - (intOf q).toNat)
              case atStart => exact ⟨0, ch, M, by omega, rfl, rfl, HMAT.out, HTR.out, HC.out⟩
              case round =>
                clear HMAT HTR HC
                obtain ⟨j, ch, M, hj, rfl, rfl, hmat, htr, hc⟩ := hrel
                have HMAT := Lib.hid hmat
                have HTR := Lib.hid htr
                have HC := Lib.hid hc
                clear hmat htr hc
                by_cases hjl : j < t.n.length + 1
                · have b5 : decide ((j : Int) < (t.n.length : Int) + 1) = true := by simp; omega
                  obtain ⟨wo3, rfl⟩ : ∃ wo : World, wo = wr := ⟨_, rfl⟩
                  go_wp2
                  go_loopw [8, 11] (fun ch q wr => ∃ (c : Nat) (b : Bool) (M : Nat → Nat → Bool), c ≤ colsN t ∧ q = .int .i64 c ∧ ch = .bool b ∧ MatAt wr wa.heap.size (.slice va (t.n.length + 1) vc) M (t.n.length + 1) (t.n.length + 1) ∧ ToldR t r i j b M ∧ (M i j = false → ∀ c', c' < c → M (goN t i c') (goN t j c') = false) ∧ Chg (fun k => wa.heap.size ≤ k) wa wr) (fun _ q _ => colsN t - (intOf q).toNat)
                  case atStart => exact ⟨0, ch, M, by omega, rfl, rfl, HMAT.out, HTR.out, fun _ c' h => absurd h (Nat.not_lt_zero _), HC.out⟩
                  case round =>
                    clear HMAT HTR HC
                    obtain ⟨c, ch, M, hcl, rfl, rfl, hmat, htr, hcc, hc⟩ := hrel
                    have HMAT := Lib.hid hmat
                    have HTR := Lib.hid htr
                    have HCC := Lib.hid hcc
                    have HC := Lib.hid hc
                    clear hmat htr hcc hc
                    obtain ⟨q0, q1, q2, q3⟩ := HT0.out wr HC.out
                    obtain ⟨l, gn, on, la, lc, hl, hna, n0, hin, -, -⟩ := (HTB.out.same (HC0.out.trans HC.out.fresh)).n.getIn (k := 0) hn0
                    subst hna
                    have HLL : Hid (l.length = colsN t) := Lib.hid (may_row HM.out hl).1
                    rw [Nat.add_zero] at n0
                    have i1 : (i : Int) < (t.n.length : Int) + 1 := by omega
                    have j1 : (j : Int) < (t.n.length : Int) + 1 := by omega
                    obtain ⟨g, gr, rfl, hcell, hgB, hglt, hgz, hgc⟩ := HMAT.out.get (i := i) (by omega)
                    have k0 := hgc j (by omega)
                    have HCELL := Lib.hid hcell
                    have HGZ := Lib.hid (show _ ∧ _ from ⟨hgz, hgc⟩)
                    clear hl hin hgz hgc
                    cases hmij : M i j with
                    | true =>
                      have HX := Lib.hid (HTR.out.skip HM.out (show i ≤ t.n.length by omega) (show j ≤ t.n.length by omega) (.inl hmij))
                      rw [hmij] at k0
                      clear hmij
                      by_cases hcl2 : c < colsN t
                      · have b6 : c < l.length := by have := HLL.out; omega
                        go_wp2
                        go_roundw
                        case rel => exact ⟨j + 1, ch, M, by omega, by go_num, rfl, HMAT.out, HX.out, HC.out⟩
                        case measure => simp [intOf]; omega
                      · have b6 : ¬ c < l.length := by have := HLL.out; omega
                        go_wp2
                        go_roundw
                        case rel => exact ⟨j + 1, ch, M, by omega, by go_num, rfl, HMAT.out, HX.out, HC.out⟩
                        case measure => simp [intOf]; omega
                    | false =>
                      rw [hmij] at k0
                      by_cases hcl2 : c < colsN t
                      · have b6 : c < l.length := by have := HLL.out; omega
                        have hga := goN_le HM.out i c
                        have hgb := goN_le HM.out j c
                        have HMIJ := Lib.hid hmij
                        clear hmij
                        obtain ⟨ga, ha⟩ : ∃ x, goN t i c = x := ⟨_, rfl⟩
                        obtain ⟨gb, hb⟩ : ∃ x, goN t j c = x := ⟨_, rfl⟩
                        rw [ha] at hga
                        rw [hb] at hgb
                        have HGA := Lib.hid (show _ ∧ _ from ⟨ha, hb⟩)
                        obtain ⟨g', gr2, hg', hcell2, -, -, -, hgc2⟩ := HMAT.out.get (i := ga) (by omega)
                        obtain rfl : g = g' := by injection hg' with e; injection e
                        have HK2 := Lib.hid (show _ ∧ _ from ⟨hcell2, hgc2 gb (by omega)⟩)
                        have i2 : (ga : Int) < (t.n.length : Int) + 1 := by omega
                        have j2 : (gb : Int) < (t.n.length : Int) + 1 := by omega
                        clear ha hb hg' hcell2 hgc2
                        go_upto_region 24 with (fail)
                        clear q0 q1 q2 q3 n0 k0 hcell
                        refine wp_region_same (fun w' => Chg (fun _ => False) wr w') (by kernel_rfl) (by kernel_rfl) ?_ ?_
                        · exact (Chg.refl _ _).drew
                        (refine wpC_read rfl (fun _ _ _ h => h) (fun K hK => ?_); apply Exists.intro; refine ⟨fun _ w' _ hC => ?_, ?_⟩; ((skip); go_simp; try with_reducible rfl); (try go_simp); refine hK _ ?_; clear hK K); (refine wpC_read rfl (fun _ _ _ h => h) (fun K hK => ?_); apply Exists.intro; refine ⟨fun _ w' _ hC => ?_, ?_⟩; ((obtain ⟨q0, q1, q2, q3⟩ := HT0.out w' (HC.out.trans hC.any)); go_simp; try with_reducible rfl); (try go_simp); refine hK _ ?_; clear hK K); (refine wpC_read rfl (fun _ _ _ h => h) (fun K hK => ?_); apply Exists.intro; refine ⟨fun _ w' _ hC => ?_, ?_⟩; ((skip); go_simp; try with_reducible rfl); (try go_simp); refine hK _ ?_; clear hK K); (refine wpC_read rfl (fun _ _ _ h => h) (fun K hK => ?_); apply Exists.intro; refine ⟨fun _ w' _ hC => ?_, ?_⟩; ((skip); go_simp; try with_reducible rfl); (try go_simp); refine hK _ ?_; clear hK K)
                        refine wpC_call rfl (Value.int .i64 ga )  40  ( #[.agg #[.slice ra rn rc, .slice ca cn cc, .slice (some ⟨gn, on, none⟩) t.n.length nc, .slice ea en ec], .int .i64 i, .int .i64 c]) (fun w' => by go_simp) (fun _ w' _ hC => ?_) (fun K hK => ?_)
                        · refine (refGoes_any t (ra, rn, rc) (ca, cn, cc) (some ⟨gn, on, none⟩, t.n.length, nc) (ea, en, ec) B i c w' (HTB.out.same (HC0.out.trans (HC.out.trans hC.any).fresh)) HM.out (by omega) hcl2).mono ?_
                          rintro e w2 ⟨rfl, hc⟩
                          exact ⟨by rw [HGA.out.1], hC.trans hc⟩
                        ((try go_simp); refine hK _ ?_; clear hK K)
                        (refine wpC_read rfl (fun _ _ _ h => h) (fun K hK => ?_); apply Exists.intro; refine ⟨fun _ w' _ hC => ?_, ?_⟩; ((skip); go_simp; try with_reducible rfl); (try go_simp); refine hK _ ?_; clear hK K); (refine wpC_read rfl (fun _ _ _ h => h) (fun K hK => ?_); apply Exists.intro; refine ⟨fun _ w' _ hC => ?_, ?_⟩; ((have hcell2 := hC.cellS HK2.out.1 (fun h => h); obtain ⟨q0, q1, q2, q3⟩ := HT0.out w' (HC.out.trans hC.any)); go_simp; try with_reducible rfl); (try go_simp); refine hK _ ?_; clear hK K); (refine wpC_read rfl (fun _ _ _ h => h) (fun K hK => ?_); apply Exists.intro; refine ⟨fun _ w' _ hC => ?_, ?_⟩; ((have hcell2 := hC.cellS HK2.out.1 (fun h => h); obtain ⟨q0, q1, q2, q3⟩ := HT0.out w' (HC.out.trans hC.any)); go_simp; try with_reducible rfl); (try go_simp); refine hK _ ?_; clear hK K); (refine wpC_read rfl (fun _ _ _ h => h) (fun K hK => ?_); apply Exists.intro; refine ⟨fun _ w' _ hC => ?_, ?_⟩; ((skip); go_simp; try with_reducible rfl); (try go_simp); refine hK _ ?_; clear hK K); (refine wpC_read rfl (fun _ _ _ h => h) (fun K hK => ?_); apply Exists.intro; refine ⟨fun _ w' _ hC => ?_, ?_⟩; ((skip); go_simp; try with_reducible rfl); (try go_simp); refine hK _ ?_; clear hK K)
                        refine wpC_call rfl (Value.int .i64 gb )  40  ( #[.agg #[.slice ra rn rc, .slice ca cn cc, .slice (some ⟨gn, on, none⟩) t.n.length nc, .slice ea en ec], .int .i64 j, .int .i64 c]) (fun w' => by go_simp) (fun _ w' _ hC => ?_) (fun K hK => ?_)
                        · refine (refGoes_any t (ra, rn, rc) (ca, cn, cc) (some ⟨gn, on, none⟩, t.n.length, nc) (ea, en, ec) B j c w' (HTB.out.same (HC0.out.trans (HC.out.trans hC.any).fresh)) HM.out (by omega) hcl2).mono ?_
                          rintro e w2 ⟨rfl, hc⟩
                          exact ⟨by rw [HGA.out.2], hC.trans hc⟩
                        ((try go_simp); refine hK _ ?_; clear hK K)
                        (refine wpC_read rfl (fun _ _ _ h => h) (fun K hK => ?_); apply Exists.intro; refine ⟨fun _ w' _ hC => ?_, ?_⟩; ((skip); go_simp; try with_reducible rfl); (try go_simp); refine hK _ ?_; clear hK K); (refine wpC_read rfl (fun _ _ _ h => h) (fun K hK => ?_); apply Exists.intro; refine ⟨fun _ w' _ hC => ?_, ?_⟩; ((have hgc2 := hC.cellS HK2.out.2 (fun h => h)); go_simp; try with_reducible rfl); (try go_simp); refine hK _ ?_; clear hK K)
                        refine wpC_nil ?_
                        intro w2 hC2
                        have HC2 := Lib.hid hC2
                        clear hC2
                        cases hmg : M ga gb with
                        | true =>
                          have HX := Lib.hid (HTR.out.set HM.out (show i ≤ t.n.length by omega) (show j ≤ t.n.length by omega) hcl2 (by rw [HGA.out.1, HGA.out.2]; exact hmg))
                          have hcell := HC2.out.cellS HCELL.out (fun h => h)
                          obtain ⟨hset, hsc, -⟩ := (HMAT.out.same HC2.out).set (i := i) (j := j) (by omega) (by omega) true rfl hcell
                          have k0 := HC2.out.cellS (HGZ.out.2 j (by omega)) (fun h => h)
                          have z0 := (HC2.out.frozen (p := ⟨gr, j, none⟩) hglt (fun h => h)).trans (HGZ.out.1 j)
                          have HSET := Lib.hid hset
                          have HSC := Lib.hid (HC.out.trans (HC2.out.any.trans (hsc.mono (T := fun k => wa.heap.size ≤ k) (fun k _ e => by omega))))
                          clear hset hsc hmg
                          go_wp2
                          go_roundw
                          case rel => exact ⟨c + 1, true, _, by omega, by go_num, rfl, HSET.out, HX.out, (fun h => by rw [setM_at] at h; cases h), HSC.out⟩
                          case measure => simp [intOf]; omega
                        | false =>
                          have HX : Hid (M i j = false → ∀ c', c' < c + 1 → M (goN t i c') (goN t j c') = false) := Lib.hid (fun h c' hc' => by
                            by_cases e : c' = c
                            · subst e; rw [HGA.out.1, HGA.out.2]; exact hmg
                            · exact HCC.out h c' (by omega))
                          have HSM := Lib.hid (HMAT.out.same HC2.out)
                          have HSC := Lib.hid (HC.out.trans HC2.out.any)
                          clear hmg
                          go_wp2
                          go_roundw
                          case rel => exact ⟨c + 1, ch, M, by omega, by go_num, rfl, HSM.out, HTR.out, HX.out, HSC.out⟩
                          case measure => simp [intOf]; omega
                      · obtain rfl : c = colsN t := by omega
                        have b6 : ¬ colsN t < l.length := by have := HLL.out; omega
                        have HX := Lib.hid (HTR.out.skip HM.out (show i ≤ t.n.length by omega) (show j ≤ t.n.length by omega) (.inr (HCC.out hmij)))
                        clear hmij
                        go_wp2
                        go_roundw
                        case rel => exact ⟨j + 1, ch, M, by omega, by go_num, rfl, HMAT.out, HX.out, HC.out⟩
                        case measure => simp [intOf]; omega
                · obtain rfl : j = t.n.length + 1 := by omega
                  have b5 : decide (((t.n.length + 1 : Nat) : Int) < (t.n.length : Int) + 1) = false := by simp
                  have HX := Lib.hid HTR.out.row
                  go_wp2
                  go_roundw
                  case rel => exact ⟨i + 1, ch, M, by omega, by go_num, rfl, HMAT.out, HX.out, HC.out⟩
                  case measure => simp [intOf]; omega
            · obtain rfl : i = t.n.length + 1 := by omega
              have b4 : decide (((t.n.length + 1 : Nat) : Int) < (t.n.length : Int) + 1) = false := by simp
              cases ch with
              | false =>
                have HX : Hid (MatAt wr wa.heap.size (.slice va (t.n.length + 1) vc) (fun a b => !eqB t a b) (t.n.length + 1) (t.n.length + 1)) := Lib.hid (HMAT.out.congr (fun a b ha hb => HTR.out.done HM.out (by omega) (by omega)))
                have HCE := Lib.hid (HC0.out.trans HC.out.fresh)
                go_wp2
                go_ret
                exact ⟨va, vc, rfl, HX.out.lower (by have := HSA.out; omega), HCE.out⟩
              | true =>
                have HX := Lib.hid HTR.out.next
                go_wp2
                go_roundw
                case rel => exact ⟨r + 1, M, by omega, by go_num, HMAT.out, HX.out, HC.out⟩
                case measure => simp [intOf]; omega
        · obtain rfl : r = t.n.length + 1 := by omega
          have b3 : decide (((t.n.length + 1 : Nat) : Int) < (t.n.length : Int) + 1) = false := by simp
          have HX : Hid (MatAt wr wa.heap.size (.slice va (t.n.length + 1) vc) (fun a b => !eqB t a b) (t.n.length + 1) (t.n.length + 1)) := Lib.hid (HMAT.out.congr (fun a b ha hb => HTM.out.done (by omega) (by omega)))
          have HCE := Lib.hid (HC0.out.trans HC.out.fresh)
          go_wp2
          go_ret
          exact ⟨va, vc, rfl, HX.out.lower (by have := HSA.out; omega), HCE.out⟩
end Go.Proofs.Ytodohgckncnipaa
/- Lists of one's own, kept apart by marks on their blocks. -/
namespace Go.Proofs.Ytodohgckncnipaa
open Go.RowKit

section
variable {α : Type} {E : Elt α}
/-- A list of one's own whose block bears the mark k. -/
structure TOwn (E : Elt α) (w : World) (B : Nat) (τ : Nat → Nat) (k : Nat) (v : Value) (X : List α) : Prop where
  own : E.Own w B v X
  tag : ∀ g, v.ownBlock = some g → τ g = k
def upd (τ : Nat → Nat) (g k : Nat) : Nat → Nat := fun x => if x = g then k else τ x
theorem upd_lt {τ : Nat → Nat} {g k x : Nat} (h : x < g) : upd τ g k x = τ x := by unfold upd; rw [if_neg (by omega)]
theorem TOwn.nil (E : Elt α) (w : World) (B : Nat) (τ : Nat → Nat) (k : Nat) : TOwn E w B τ k (.slice none 0 0) [] := ⟨.nil _ _, fun g h => by cases h⟩
theorem TOwn.same {w w' : World} {B : Nat} {τ : Nat → Nat} {k : Nat} {v : Value} {X : List α} (h : TOwn E w B τ k v X) (hc : Chg (fun _ => False) w w') : TOwn E w' B τ k v X := ⟨h.own.chg hc (fun _ _ _ h => h), h.tag⟩
theorem TOwn.chg {S : Nat → Prop} {w w' : World} {B : Nat} {τ : Nat → Nat} {k : Nat} {v : Value} {X : List α} (h : TOwn E w B τ k v X) (hc : Chg S w w') (hs : ∀ g, B ≤ g → τ g = k → ¬ S g) : TOwn E w' B τ k v X :=
  ⟨h.own.chgB hc (fun g hg => hs g (h.own.blk hg).1 (h.tag g hg)), h.tag⟩
/-- It was appended to. -/
theorem TOwn.app {w w' : World} {B : Nat} {τ : Nat → Nat} {k : Nat} {v v' : Value} {X X' : List α} (h : TOwn E w B τ k v X) (ho : E.Own w' B v' X') (hv : v'.ownBlock = v.ownBlock ∨ v'.ownBlock = some w.heap.size) : TOwn E w' B (upd τ w.heap.size k) k v' X' :=
  ⟨ho, fun g hg => by
    rcases hv with hv | hv
    · rw [hv] at hg
      rw [upd_lt (h.own.blk hg).2]
      exact h.tag g hg
    · rw [hv] at hg
      obtain rfl := Option.some.inj hg
      simp [upd]⟩
/-- Another one was. -/
theorem TOwn.keep {β : Type} {F : Elt β} {w w' : World} {B : Nat} {τ : Nat → Nat} {k j : Nat} {v u : Value} {X : List α} {Y : List β} (h : TOwn E w B τ k v X) (hu : TOwn F w B τ j u Y) (hj : j ≠ k) (hc : Chg (fun x => v.ownBlock = some x) w w') : TOwn F w' B (upd τ w.heap.size k) j u Y :=
  ⟨hu.own.chgB hc (fun g hg e => hj ((hu.tag g hg).symm.trans (h.tag g e))), fun g hg => by rw [upd_lt (hu.own.blk hg).2]; exact hu.tag g hg⟩
theorem TOwn.shape {w : World} {B : Nat} {τ : Nat → Nat} {k : Nat} {v : Value} {X : List α} (h : TOwn E w B τ k v X) : ∃ a c, v = .slice a X.length c ∧ X.length ≤ c := by
  obtain ⟨a, c, h1, h2, _⟩ := h.own.clip
  exact ⟨a, c, h1, h2⟩
theorem TOwn.mark {w : World} {B : Nat} {τ τ' : Nat → Nat} {k : Nat} {v : Value} {X : List α} (h : TOwn E w B τ k v X) (ht : ∀ g, B ≤ g → g < w.heap.size → τ' g = τ g) : TOwn E w B τ' k v X := ⟨h.own, fun g hg => by rw [ht g (h.own.blk hg).1 (h.own.blk hg).2]; exact h.tag g hg⟩
end
/-- A list of lists, likewise. -/
structure LTOwn (w : World) (B : Nat) (τ : Nat → Nat) (k r : Nat) (v : Value) (LL : List (List Int)) : Prop where
  x : ∃ X : List Sl, TOwn listE w B τ k v X ∧ X.length = LL.length ∧ ∀ (j : Nat) y l, X[j]? = some y → LL[j]? = some l → TOwn intE w B τ r (slV y) l
theorem LTOwn.nil (w : World) (B : Nat) (τ : Nat → Nat) (k r : Nat) : LTOwn w B τ k r (.slice none 0 0) [] := ⟨[], .nil _ _ _ _ _, rfl, fun j y l h => by simp at h⟩
theorem LTOwn.same {w w' : World} {B : Nat} {τ : Nat → Nat} {k r : Nat} {v : Value} {LL : List (List Int)} (h : LTOwn w B τ k r v LL) (hc : Chg (fun _ => False) w w') : LTOwn w' B τ k r v LL := by
  obtain ⟨X, h1, h2, h3⟩ := h.x
  exact ⟨X, h1.same hc, h2, fun j y l hy hl => (h3 j y l hy hl).same hc⟩
theorem LTOwn.chg {S : Nat → Prop} {w w' : World} {B : Nat} {τ : Nat → Nat} {k r : Nat} {v : Value} {LL : List (List Int)} (h : LTOwn w B τ k r v LL) (hc : Chg S w w') (hs : ∀ g, B ≤ g → τ g = k ∨ τ g = r → ¬ S g) : LTOwn w' B τ k r v LL := by
  obtain ⟨X, h1, h2, h3⟩ := h.x
  exact ⟨X, h1.chg hc (fun g hg ht => hs g hg (.inl ht)), h2, fun j y l hy hl => (h3 j y l hy hl).chg hc (fun g hg ht => hs g hg (.inr ht))⟩
theorem LTOwn.keep {α : Type} {E : Elt α} {w w' : World} {B : Nat} {τ : Nat → Nat} {k j r : Nat} {v u : Value} {X : List α} {LL : List (List Int)} (h : TOwn E w B τ k v X) (hu : LTOwn w B τ j r u LL) (hj : j ≠ k) (hr : r ≠ k) (hc : Chg (fun x => v.ownBlock = some x) w w') : LTOwn w' B (upd τ w.heap.size k) j r u LL := by
  obtain ⟨X, h1, h2, h3⟩ := hu.x
  exact ⟨X, h.keep h1 hj hc, h2, fun q y l hy hl => h.keep (h3 q y l hy hl) hr hc⟩
theorem LTOwn.shape {w : World} {B : Nat} {τ : Nat → Nat} {k r : Nat} {v : Value} {LL : List (List Int)} (h : LTOwn w B τ k r v LL) : ∃ a c, v = .slice a LL.length c ∧ LL.length ≤ c := by
  obtain ⟨X, h1, h2, h3⟩ := h.x
  obtain ⟨a, c, e, hc⟩ := h1.shape
  exact ⟨a, c, by rw [e, h2], by omega⟩
theorem LTOwn.lists {w : World} {B : Nat} {τ : Nat → Nat} {k r : Nat} {a : Option Addr} {n c : Nat} {LL : List (List Int)} (h : LTOwn w B τ k r (.slice a n c) LL) : ListsIn w B (a, n, c) LL := by
  obtain ⟨X, h1, h2, h3⟩ := h.x
  obtain ⟨a', c', e, hc⟩ := h1.shape
  injection e with e1 e2 e3
  subst e1 e2 e3
  refine ⟨X, h1.own.in' hc, h2, fun j y l hy hl => ?_⟩
  have ho := (h3 j y l hy hl).own
  obtain ⟨y1, y2, y3⟩ := y
  obtain ⟨a2, c2, e2, hc2, _⟩ := ho.clip
  unfold slV at e2
  injection e2 with f1 f2 f3
  simp only at f1 f2 f3
  subst f1 f2 f3
  exact ho.in' hc2
/-- A row more. -/
theorem LTOwn.app {w w' : World} {B : Nat} {τ : Nat → Nat} {k r : Nat} {v v' : Value} {LL : List (List Int)} {X : List Sl} {y : Sl} {l : List Int} (hk : r ≠ k) (h1 : TOwn listE w B τ k v X) (h2 : X.length = LL.length) (h3 : ∀ (j : Nat) y l, X[j]? = some y → LL[j]? = some l → TOwn intE w B τ r (slV y) l)
    (hy : TOwn intE w B τ r (slV y) l) (ho : listE.Own w' B v' (X ++ [y])) (hc : Chg (fun x => v.ownBlock = some x) w w') (hv : v'.ownBlock = v.ownBlock ∨ v'.ownBlock = some w.heap.size) : LTOwn w' B (upd τ w.heap.size k) k r v' (LL ++ [l]) := by
  refine ⟨X ++ [y], h1.app ho hv, by simp [h2], fun j z m hz hm => ?_⟩
  by_cases hj : j < X.length
  · rw [List.getElem?_append_left hj] at hz
    rw [List.getElem?_append_left (by omega)] at hm
    exact h1.keep (h3 j z m hz hm) hk hc
  · have hj' : j = X.length := by
      have := (List.getElem?_eq_some_iff.1 hz).1
      simp only [List.length_append, List.length_singleton] at this
      omega
    subst hj'
    rw [List.getElem?_append_right (Nat.le_refl _), Nat.sub_self] at hz
    rw [h2, List.getElem?_append_right (Nat.le_refl _), Nat.sub_self] at hm
    simp only [List.getElem?_cons_zero, Option.some.injEq] at hz hm
    subst hz hm
    exact h1.keep hy hk hc
theorem LTOwn.mark {w : World} {B : Nat} {τ τ' : Nat → Nat} {k r : Nat} {v : Value} {LL : List (List Int)} (h : LTOwn w B τ k r v LL) (ht : ∀ g, B ≤ g → g < w.heap.size → τ' g = τ g) : LTOwn w B τ' k r v LL := by
  obtain ⟨X, h1, h2, h3⟩ := h.x
  exact ⟨X, h1.mark ht, h2, fun j y l hy hl => (h3 j y l hy hl).mark ht⟩

set_option maxRecDepth 100000 in
set_option maxHeartbeats 2000000 in
theorem like_any (X Y : List Int) (a b : Option Addr) (ca cb Ba Bb : Nat) (w : World) (hx : intE.In w Ba (a, X.length, ca) X) (hy : intE.In w Bb (b, Y.length, cb) Y) (hl : X.length = Y.length) (hl2 : X.length ≤ 1000000000) :
    Calls Try.prog 41 #[.slice a X.length ca, .slice b Y.length cb] w fun e w' => e = .returned (.bool (decide (X = Y))) ∧ Chg (fun _ => False) w w' := by
  have HX := Lib.hid hx
  have HY := Lib.hid hy
  have HL := Lib.hid hl
  clear hx hy hl
  go_enter Try.func41, Try.ntmps41
  go_wp2
  go_loopw [5] (fun i wr => ∃ k : Nat, k ≤ X.length ∧ i = .int .i64 k ∧ (∀ j, j < k → X[j]? = Y[j]?) ∧ Chg (fun _ => False) w wr) (fun i _ => X.length - (intOf i).toNat)
  case atStart => exact ⟨0, by omega, rfl, fun j h => absurd h (Nat.not_lt_zero _), Chg.refl _ _⟩
  case round =>
    obtain ⟨k, hk, rfl, hb, hc⟩ := hrel
    have HC := Lib.hid hc
    have HB := Lib.hid hb
    clear hb hc
    by_cases hkl : k < X.length
    · have b14 : decide ((k : Int) < (X.length : Int)) = true := by simp; omega
      have hky : k < Y.length := by have := HL.out; omega
      obtain ⟨x, g, o, hx, rfl, c0, x0, x1, -, -⟩ := (HX.out.same HC.out).getI hkl
      obtain ⟨y, g2, o2, hy, rfl, c1, y0, y1, -, -⟩ := (HY.out.same HC.out).getI hky
      have HXY := Lib.hid (show _ ∧ _ from ⟨hx, hy⟩)
      have HCC := Lib.hid (show _ ∧ _ from ⟨c0, c1⟩)
      clear hx hy c0 c1
      go_upto_region 4 with (fail)
      refine wp_region_same (fun w' => Chg (fun _ => False) wr w') (by kernel_rfl) (by kernel_rfl) ?_ ?_
      · exact (Chg.refl _ _).drew
      (refine wpC_read rfl (fun _ _ _ h => h) (fun K hK => ?_); apply Exists.intro; refine ⟨fun _ w' _ hC => ?_, ?_⟩; ((skip); go_simp; try with_reducible rfl); (try go_simp); refine hK _ ?_; clear hK K); (refine wpC_read rfl (fun _ _ _ h => h) (fun K hK => ?_); apply Exists.intro; refine ⟨fun _ w' _ hC => ?_, ?_⟩; ((skip); go_simp; try with_reducible rfl); (try go_simp); refine hK _ ?_; clear hK K); (refine wpC_read rfl (fun _ _ _ h => h) (fun K hK => ?_); apply Exists.intro; refine ⟨fun _ w' _ hC => ?_, ?_⟩; ((skip); go_simp; try with_reducible rfl); (try go_simp); refine hK _ ?_; clear hK K); (refine wpC_read rfl (fun _ _ _ h => h) (fun K hK => ?_); apply Exists.intro; refine ⟨fun _ w' _ hC => ?_, ?_⟩; ((have c0 := hC.cellS HCC.out.1 (fun h => h); have c1 := hC.cellS HCC.out.2 (fun h => h)); go_simp; try with_reducible rfl); (try go_simp); refine hK _ ?_; clear hK K); (refine wpC_read rfl (fun _ _ _ h => h) (fun K hK => ?_); apply Exists.intro; refine ⟨fun _ w' _ hC => ?_, ?_⟩; ((skip); go_simp; try with_reducible rfl); (try go_simp); refine hK _ ?_; clear hK K); (refine wpC_read rfl (fun _ _ _ h => h) (fun K hK => ?_); apply Exists.intro; refine ⟨fun _ w' _ hC => ?_, ?_⟩; ((skip); go_simp; try with_reducible rfl); (try go_simp); refine hK _ ?_; clear hK K); (refine wpC_read rfl (fun _ _ _ h => h) (fun K hK => ?_); apply Exists.intro; refine ⟨fun _ w' _ hC => ?_, ?_⟩; ((skip); go_simp; try with_reducible rfl); (try go_simp); refine hK _ ?_; clear hK K); (refine wpC_read rfl (fun _ _ _ h => h) (fun K hK => ?_); apply Exists.intro; refine ⟨fun _ w' _ hC => ?_, ?_⟩; ((have c0 := hC.cellS HCC.out.1 (fun h => h); have c1 := hC.cellS HCC.out.2 (fun h => h)); go_simp; try with_reducible rfl); (try go_simp); refine hK _ ?_; clear hK K); (refine wpC_read rfl (fun _ _ _ h => h) (fun K hK => ?_); apply Exists.intro; refine ⟨fun _ w' _ hC => ?_, ?_⟩; ((skip); go_simp; try with_reducible rfl); (try go_simp); refine hK _ ?_; clear hK K)
      refine wpC_nil ?_
      intro w2 hC2
      have HC2 := Lib.hid (HC.out.trans hC2)
      clear hC2
      by_cases he : x = y
      · have d1 : (x != y) = false := by simp [he]
        have HB2 : Hid (∀ j, j < k + 1 → X[j]? = Y[j]?) := Lib.hid (fun j hj => by
          by_cases e : j = k
          · subst e; rw [HXY.out.1, HXY.out.2, he]
          · exact HB.out j (by omega))
        clear he
        go_wp2
        go_roundw
        case rel => exact ⟨k + 1, by omega, by go_num, HB2.out, HC2.out⟩
        case measure => simp [intOf]; omega
      · have d1 : (x != y) = true := by simp [he]
        have HF : Hid (decide (X = Y) = false) := Lib.hid (by
          rw [decide_eq_false_iff_not]
          intro e
          have h1 := HXY.out.1
          rw [e, HXY.out.2] at h1
          exact he (Option.some.inj h1).symm)
        clear he
        go_wp2
        go_ret
        exact ⟨by rw [HF.out]; rfl, HC2.out⟩
    · obtain rfl : k = X.length := by omega
      have b14 : decide ((X.length : Int) < (X.length : Int)) = false := by simp
      have HF : Hid (decide (X = Y) = true) := Lib.hid (by
        rw [decide_eq_true_iff]
        apply List.ext_getElem?
        intro j
        by_cases hj : j < X.length
        · exact HB.out j hj
        · rw [List.getElem?_eq_none (by omega), List.getElem?_eq_none (by have := HL.out; omega)])
      go_wp2
      go_ret
      exact ⟨by rw [HF.out]; rfl, HC.out⟩
end Go.Proofs.Ytodohgckncnipaa
/- A row of numbers, told by a function; the states that are found, step by step; their numbers. -/
namespace Go.Proofs.Ytodohgckncnipaa
open Go.RowKit

/-- A row of so many numbers. -/
def NumAt (w : World) (g n : Nat) (f : Nat → Int) : Prop := intE.Row w g ((List.range n).map f)
theorem NumAt.same {w w' : World} {g n : Nat} {f : Nat → Int} (h : NumAt w g n f) (hc : Chg (fun _ => False) w w') : NumAt w' g n f := Elt.Row.chg h hc (fun h => h)
theorem NumAt.get {w : World} {g n : Nat} {f : Nat → Int} (h : NumAt w g n f) {j : Nat} (hj : j < n) : w.cell? ⟨g, j, none⟩ = some (.int .i64 (f j)) ∧ w.frozen? ⟨g, j, none⟩ = false ∧ I.Byte (f j) := by
  have hx : ((List.range n).map f)[j]? = some (f j) := by simp [hj]
  exact ⟨Elt.Row.get1 h hx rfl rfl, h.z j, h.ok _ (List.mem_of_getElem? hx)⟩
theorem NumAt.set {w : World} {g n : Nat} {f : Nat → Int} (h : NumAt w g n f) {j : Nat} (hj : j < n) {v : Int} (hv : I.Byte v) : NumAt (w.setCell ⟨g, j, none⟩ (.int .i64 v)) g n (fun s => if s = j then v else f s) := by
  have := Elt.Row.set1 h (k := j) (x := v) (u := .int .i64 v) (by simp [hj]) hv rfl rfl
  have e : ((List.range n).map f).set j v = (List.range n).map (fun s => if s = j then v else f s) := by
    apply List.ext_getElem?
    intro q
    by_cases hq : q < n
    · rw [List.getElem?_map, List.getElem?_range hq]
      by_cases hqj : q = j
      · subst hqj
        rw [List.getElem?_set_self (by simp [hq])]
        simp
      · rw [List.getElem?_set_ne (Ne.symm hqj), List.getElem?_map, List.getElem?_range hq]
        simp [hqj]
    · rw [List.getElem?_eq_none (by simp; omega), List.getElem?_eq_none (by simp; omega)]
  rw [e] at this
  exact this
theorem NumAt.congr {w : World} {g n : Nat} {f f' : Nat → Int} (h : NumAt w g n f) (he : ∀ s, s < n → f s = f' s) : NumAt w g n f' := by
  have e : (List.range n).map f = (List.range n).map f' := List.map_congr_left fun s hs => he s (List.mem_range.1 hs)
  unfold NumAt at h ⊢
  rw [← e]
  exact h
section
variable {t : TabD}
/-- A state's number: which of those found is like it. -/
theorem numT_one (t : TabD) (s : Nat) : numT t [0] s = if eqB t s 0 then 0 else -1 := by
  unfold numT
  cases h : eqB t s 0 with
  | true => exact idxV_found (x := 0) rfl h (fun j y hj => absurd hj (Nat.not_lt_zero _))
  | false => exact idxV_none (fun j y hj hy => by
      match j with
      | 0 => simp at hy; subst hy; exact h
      | j + 1 => simp at hy)
theorem numT_app {o : List Nat} {d : Nat} (hd : o.any (eqB t d) = false) (s : Nat) : numT t (o ++ [d]) s = if eqB t s d then (o.length : Int) else numT t o s := by
  unfold numT
  rw [List.any_eq_false] at hd
  have hno : eqB t s d = true → ∀ x ∈ o, eqB t s x = false := fun h x hx => by
    cases he : eqB t s x with
    | false => rfl
    | true => exact absurd (eqB_trans (eqB_symm h) he) (by simpa using hd x hx)
  cases h : eqB t s d with
  | true =>
    rw [if_pos rfl]
    exact idxV_found (x := d) (by simp) h (fun j y hj hy => by
      rw [List.getElem?_append_left hj] at hy
      exact hno h y (List.mem_of_getElem? hy))
  | false =>
    rw [if_neg (by simp)]
    rcases idx_cases (eqB t s) o with ⟨k, x, h1, h2, h3, -⟩ | ⟨h3, h4, -⟩
    · rw [h3]
      refine idxV_found (x := x) (by rw [List.getElem?_append_left (List.getElem?_eq_some_iff.1 h1).1]; exact h1) h2 (fun j y hj hy => ?_)
      have hjo : j < o.length := by have := (List.getElem?_eq_some_iff.1 h1).1; omega
      rw [List.getElem?_append_left hjo] at hy
      cases he : eqB t s y with
      | false => rfl
      | true =>
        have hk : idxV (eqB t s) o = (k : Int) := h3
        exfalso
        have hle : o.findIdx (eqB t s) ≤ j := by
          refine Nat.le_of_not_lt fun hlt => ?_
          have := List.not_of_lt_findIdx hlt
          have e : o[j] = y := by
            rw [List.getElem?_eq_getElem hjo] at hy
            exact Option.some.inj hy
          rw [e] at this
          simp [he] at this
        unfold idxV at hk
        split at hk <;> omega
    · rw [h3]
      rw [List.find?_eq_none] at h4
      refine idxV_none (fun j y hj hy => ?_)
      by_cases hjo : j < o.length
      · rw [List.getElem?_append_left hjo] at hy
        have := h4 y (List.mem_of_getElem? hy)
        simpa using this
      · have hj' : j = o.length := by simp at hj; omega
        subst hj'
        rw [List.getElem?_append_right (Nat.le_refl _), Nat.sub_self] at hy
        simp at hy
        subst hy
        exact h
theorem numT_any (t : TabD) (o : List Nat) (s : Nat) : (0 ≤ numT t o s ↔ o.any (eqB t s) = true) ∧ -1 ≤ numT t o s ∧ numT t o s < (o.length : Int) + 1 := by
  unfold numT
  rcases idx_cases (eqB t s) o with ⟨k, x, h1, h2, h3, -, h4⟩ | ⟨h3, -, h4⟩
  · rw [h3]
    have := (List.getElem?_eq_some_iff.1 h1).1
    exact ⟨⟨fun _ => h4, fun _ => by omega⟩, by omega, by omega⟩
  · rw [h3]
    exact ⟨⟨fun h => absurd h (by omega), fun h => by rw [h4] at h; cases h⟩, by omega, by omega⟩
/-- What is found, column by column. -/
def rowK (t : TabD) (s k : Nat) (o : List Nat) : List Nat := (t.c.take k).foldl (fun o c => insN t o (goN t s c.toNat)) o
theorem rowK_zero (t : TabD) (s : Nat) (o : List Nat) : rowK t s 0 o = o := rfl
theorem rowK_step {s k : Nat} {c : Int} (h : t.c[k]? = some c) (o : List Nat) : rowK t s (k + 1) o = insN t (rowK t s k o) (goN t s c.toNat) := by
  unfold rowK
  rw [List.take_add_one, h]
  simp
theorem rowK_all (t : TabD) (s : Nat) (o : List Nat) : rowK t s t.c.length o = bfsRow t s o := by unfold rowK bfsRow; rw [List.take_length]
theorem rowK_ok (ht : MayS t) {o : List Nat} (ho : Ord t o) (s k : Nat) : Ord t (rowK t s k o) ∧ o <+: rowK t s k o := by
  obtain ⟨h1, h2, -⟩ := fold_ins ht s (t.c.take k) o ho
  exact ⟨h1, h2⟩
/-- So far as to state i. -/
def FoundTo (t : TabD) (i : Nat) (o : List Nat) : Prop := Ord t o ∧ i ≤ o.length ∧ ∃ f, f + i = t.n.length ∧ bfsF t f i o = orderT t
theorem FoundTo.start (ht : MayS t) : FoundTo t 0 [0] := ⟨Ord.start ht, Nat.zero_le _, t.n.length, rfl, rfl⟩
theorem FoundTo.next (ht : MayS t) {i s : Nat} {o : List Nat} (h : FoundTo t i o) (hi : o[i]? = some s) : FoundTo t (i + 1) (bfsRow t s o) := by
  obtain ⟨h1, h2, f, hf, hb⟩ := h
  have hil := (List.getElem?_eq_some_iff.1 hi).1
  have hl := h1.len_le
  obtain ⟨k1, k2⟩ := rowK_ok ht h1 s t.c.length
  rw [rowK_all] at k1 k2
  refine ⟨k1, Nat.lt_of_lt_of_le hil k2.length_le, ?_⟩
  cases f with
  | zero => omega
  | succ f =>
    refine ⟨f, by omega, ?_⟩
    rw [bfsF, if_pos hil] at hb
    have e : o.getD i 0 = s := by rw [List.getD_eq_getElem?_getD, hi]; rfl
    rw [e] at hb
    exact hb
theorem FoundTo.done {o : List Nat} (h : FoundTo t o.length o) : orderT t = o := by
  obtain ⟨h1, h2, f, hf, hb⟩ := h
  rw [← hb]
  cases f with
  | zero => rfl
  | succ f => rw [bfsF, if_neg (by omega)]
end
def natsI (o : List Nat) : List Int := o.map fun s : Nat => (s : Int)
theorem natsI_get {o : List Nat} {i s : Nat} (h : o[i]? = some s) : (natsI o)[i]? = some (s : Int) := by unfold natsI; rw [List.getElem?_map, h]; rfl
theorem natsI_len (o : List Nat) : (natsI o).length = o.length := by unfold natsI; simp
theorem natsI_app (o : List Nat) (d : Nat) : natsI (o ++ [d]) = natsI o ++ [(d : Int)] := by unfold natsI; simp
end Go.Proofs.Ytodohgckncnipaa
