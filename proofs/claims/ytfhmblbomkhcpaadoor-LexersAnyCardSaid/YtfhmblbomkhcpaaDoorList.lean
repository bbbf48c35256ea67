/- Lists of elements of some cells each: what came in (At), a block of one's own, known to its last cell (Row), a slice of one's own (Own), appended to. -/
import Derived.Test.YtfhmblbomkhcpaaDoorBytes
namespace Go.Proofs.YtfhmblbomkhcpaaDoor
open Go.RowKit

/-- How an element is spelled in cells. -/
structure Elt (α : Type) where
  enc : α → List Value
  sz : Nat
  bs : Nat
  e : TypeId
  sl : TypeId
  z : α
  zv : Value
  ok : α → Prop
  pos : 0 < sz
  len : ∀ a, (enc a).length = sz
  one : ∀ a, ∀ u ∈ enc a, u.oneCell' = true
  zok : ok z
  info : (Tryd.prog.info? e).map (fun i => (i.zero, i.size, i.bytes)) = some (some zv, sz, bs)
  zc : zv.cells = (enc z).toArray
  und : Tryd.prog.underlying sl = some (.slice e)
  bsl : bs ≤ 100

variable {α : Type} (E : Elt α)
def Elt.encs (L : List α) : List Value := L.flatMap E.enc
theorem Elt.encs_length (L : List α) : (E.encs L).length = L.length * E.sz := by
  induction L with
  | nil => simp [encs]
  | cons x L ih =>
    have : (E.encs (x :: L)) = E.enc x ++ E.encs L := rfl
    rw [this, List.length_append, E.len, ih, List.length_cons, Nat.succ_mul, Nat.add_comm]
theorem Elt.encs_append (X Y : List α) : E.encs (X ++ Y) = E.encs X ++ E.encs Y := by simp [encs]
theorem Elt.encs_one (L : List α) : ∀ u ∈ E.encs L, u.oneCell' = true := fun u hu => by
  obtain ⟨x, _, hx⟩ := List.mem_flatMap.1 hu
  exact E.one x u hx
theorem Elt.encs_at : ∀ {L : List α} {k : Nat} {x : α} {i : Nat} {u : Value}, L[k]? = some x → (E.enc x)[i]? = some u → (E.encs L)[k * E.sz + i]? = some u
  | y :: L, 0, x, i, u, hk, hi => by
    simp at hk
    subst hk
    have : (E.encs (y :: L)) = E.enc y ++ E.encs L := rfl
    rw [this, Nat.zero_mul, Nat.zero_add, List.getElem?_append_left (List.getElem?_eq_some_iff.1 hi).1]
    exact hi
  | y :: L, k + 1, x, i, u, hk, hi => by
    have : (E.encs (y :: L)) = E.enc y ++ E.encs L := rfl
    rw [this, Nat.succ_mul, List.getElem?_append_right (by rw [E.len]; omega), E.len, show k * E.sz + E.sz + i - E.sz = k * E.sz + i by omega]
    exact encs_at (by simpa using hk) hi

/-- What came in. -/
structure Elt.At (w : World) (g o : Nat) (L : List α) : Prop where
  c : ∀ j u, (E.encs L)[j]? = some u → w.cell? ⟨g, o + j, none⟩ = some u
  ok : ∀ x ∈ L, E.ok x
  lt : L ≠ [] → g < w.heap.size
variable {E}
theorem Elt.At.chg {S : Nat → Prop} {w w' : World} {g o : Nat} {L : List α} (h : E.At w g o L) (hc : Chg S w w') (hs : L ≠ [] → ¬ S g) : E.At w' g o L :=
  ⟨fun j u hj => hc.cellS (h.c j u hj) (hs (by intro e; rw [e] at hj; simp [encs] at hj)), h.ok, fun hz => Nat.lt_of_lt_of_le (h.lt hz) hc.size⟩
theorem Elt.At.get {w : World} {g o : Nat} {L : List α} (h : E.At w g o L) {k : Nat} {x : α} {i : Nat} {u : Value} (hk : L[k]? = some x) (hi : (E.enc x)[i]? = some u) : w.cell? ⟨g, o + (k * E.sz + i), none⟩ = some u :=
  h.c _ _ (E.encs_at hk hi)
theorem Elt.At.nil (E : Elt α) (w : World) (g o : Nat) : E.At w g o [] := ⟨fun j u h => by simp [encs] at h, (fun _ h => by cases h), fun h => (h rfl).elim⟩

/-- A block of one's own. -/
structure Elt.Row (E : Elt α) (w : World) (g : Nat) (C : List α) : Prop where
  c : ∀ j u, (E.encs C)[j]? = some u → w.cell? ⟨g, j, none⟩ = some u
  z : ∀ j, w.frozen? ⟨g, j, none⟩ = false
  lt : g < w.heap.size
  ok : ∀ x ∈ C, E.ok x
theorem Elt.Row.chg {S : Nat → Prop} {w w' : World} {g : Nat} {C : List α} (h : E.Row w g C) (hc : Chg S w w') (hs : ¬ S g) : E.Row w' g C :=
  ⟨fun k a hk => hc.cellS (h.c k a hk) hs, fun j => (hc.frozen (p := ⟨g, j, none⟩) h.lt hs).trans (h.z j), Nat.lt_of_lt_of_le h.lt hc.size, h.ok⟩
theorem Elt.Row.at' {w : World} {g : Nat} {C X : List α} (h : E.Row w g C) (hp : X <+: C) : E.At w g 0 X :=
  ⟨fun k a hk => by
    obtain ⟨Y, rfl⟩ := hp
    have hk' : (E.encs (X ++ Y))[k]? = some a := by rw [E.encs_append, List.getElem?_append_left (List.getElem?_eq_some_iff.1 hk).1]; exact hk
    rw [Nat.zero_add]
    exact h.c k a hk', fun x hx => h.ok x (hp.subset hx), fun _ => h.lt⟩
theorem Elt.Row.alloc (w : World) (C : List α) (e : TypeId) (hb : ∀ a ∈ C, E.ok a) : E.Row (w.alloc (.cells (E.encs C).toArray e)) w.heap.size C :=
  ⟨fun k a hk => by
    rw [World.cell?_alloc_new]
    simp [hk], fun j => World.frozen?_alloc_new _ _ _ _, by simp, hb⟩

/-- Y is laid over X ++ .. behind X. -/
theorem Elt.Row.put {w : World} {g : Nat} {C X Y : List α} (h : E.Row w g C) (hp : X <+: C) (hl : X.length + Y.length ≤ C.length) (hY : ∀ a ∈ Y, E.ok a) :
    ∃ C', E.Row (w.setCells g (X.length * E.sz) (E.encs Y)) g C' ∧ C'.length = C.length ∧ X ++ Y <+: C' := by
  obtain ⟨R, rfl⟩ := hp
  have hYR : Y.length ≤ R.length := by simp only [List.length_append] at hl; omega
  obtain ⟨R1, R2, rfl, hR1⟩ : ∃ R1 R2, R = R1 ++ R2 ∧ R1.length = Y.length := ⟨R.take Y.length, R.drop Y.length, (List.take_append_drop _ _).symm, by rw [List.length_take]; omega⟩
  have e1 : (E.encs R1).length = (E.encs Y).length := by rw [E.encs_length, E.encs_length, hR1]
  have e2 : (E.encs X).length = X.length * E.sz := E.encs_length X
  refine ⟨X ++ Y ++ R2, ⟨fun k a hk => ?_, fun j => (World.frozen?_setCells _ _ _ _ _).trans (h.z j), Nat.lt_of_lt_of_le h.lt (setCellsChg _ _ _ _).size, fun a ha => ?_⟩, by simp only [List.length_append] at *; omega, ⟨_, rfl⟩⟩
  · have hin : ∀ j, j < (E.encs Y).length → (w.cell? ⟨g, X.length * E.sz + j, none⟩).isSome = true := fun j hj => by
      have hj' : X.length * E.sz + j < (E.encs (X ++ (R1 ++ R2))).length := by rw [E.encs_append, E.encs_append, List.length_append, List.length_append]; omega
      rw [h.c (X.length * E.sz + j) _ (List.getElem?_eq_getElem hj')]
      rfl
    rw [E.encs_append, E.encs_append] at hk
    by_cases h1 : k < X.length * E.sz
    · rw [World.cell?_setCells_out g (E.encs Y) (X.length * E.sz) w ⟨g, k, none⟩ (fun _ _ => .inl h1)]
      refine h.c k a ?_
      rw [List.append_assoc, List.getElem?_append_left (by omega)] at hk
      rw [E.encs_append, List.getElem?_append_left (by omega)]
      exact hk
    · by_cases h2 : k < X.length * E.sz + (E.encs Y).length
      · obtain ⟨j, rfl⟩ : ∃ j, k = X.length * E.sz + j := ⟨k - X.length * E.sz, by omega⟩
        rw [World.cell?_setCells_in g (E.encs Y) (X.length * E.sz) w hin j (by omega)]
        rw [List.append_assoc, List.getElem?_append_right (by omega), e2, Nat.add_sub_cancel_left, List.getElem?_append_left (by omega)] at hk
        have := (List.getElem?_eq_some_iff.1 hk).2
        simp [this]
      · rw [World.cell?_setCells_out g (E.encs Y) (X.length * E.sz) w ⟨g, k, none⟩ (fun _ _ => .inr (by show X.length * E.sz + (E.encs Y).length ≤ k; omega))]
        refine h.c k a ?_
        rw [List.getElem?_append_right (by rw [List.length_append]; omega)] at hk
        rw [E.encs_append, E.encs_append, ← List.append_assoc, List.getElem?_append_right (by rw [List.length_append]; omega), ← hk, List.length_append, List.length_append, e1]
  · simp only [List.mem_append] at ha
    rcases ha with (ha | ha) | ha
    · exact h.ok a (by simp [ha])
    · exact hY a ha
    · exact h.ok a (by simp [ha])

/-- A slice of one's own, known up to its capacity. -/
def Elt.Own (E : Elt α) (w : World) (B : Nat) (v : Value) (X : List α) : Prop :=
  (v = .slice none 0 0 ∧ X = []) ∨ ∃ (g : Nat) (C : List α), v = .slice (some ⟨g, 0, none⟩) X.length C.length ∧ B ≤ g ∧ E.Row w g C ∧ X <+: C ∧ C.length ≤ maxLen
theorem Elt.Own.chg {S : Nat → Prop} {w w' : World} {B : Nat} {v : Value} {X : List α} (h : E.Own w B v X) (hc : Chg S w w') (hs : ∀ g, B ≤ g → g < w.heap.size → ¬ S g) : E.Own w' B v X := by
  rcases h with h | ⟨g, C, h1, h2, h3, h4, h5⟩
  · exact .inl h
  · exact .inr ⟨g, C, h1, h2, h3.chg hc (hs g h2 h3.lt), h4, h5⟩
theorem Elt.Own.chgB {S : Nat → Prop} {w w' : World} {B : Nat} {v : Value} {X : List α} (h : E.Own w B v X) (hc : Chg S w w') (hs : ∀ g, v.ownBlock = some g → ¬ S g) : E.Own w' B v X := by
  rcases h with h | ⟨g, C, h1, h2, h3, h4, h5⟩
  · exact .inl h
  · exact .inr ⟨g, C, h1, h2, h3.chg hc (hs g (by rw [h1]; rfl)), h4, h5⟩
theorem Elt.Own.blk {w : World} {B : Nat} {v : Value} {X : List α} (h : E.Own w B v X) {g : Nat} (hg : v.ownBlock = some g) : B ≤ g ∧ g < w.heap.size := by
  rcases h with ⟨rfl, _⟩ | ⟨g', C, rfl, h2, h3, _⟩
  · cases hg
  · obtain rfl : g' = g := by simpa [Value.ownBlock] using hg
    exact ⟨h2, h3.lt⟩
theorem Elt.Own.shape {w : World} {B : Nat} {v : Value} {X : List α} (h : E.Own w B v X) : ∃ a c, v = .slice a X.length c := by
  rcases h with ⟨rfl, rfl⟩ | ⟨g, C, h1, _⟩
  · exact ⟨_, _, rfl⟩
  · exact ⟨_, _, h1⟩
theorem Elt.Own.shape3 {w : World} {B : Nat} {v : Value} {X : List α} (h : E.Own w B v X) : ∃ a n c, v = .slice a n c := by
  obtain ⟨a, c, h⟩ := h.shape
  exact ⟨a, _, c, h⟩
theorem Elt.Own.lower {w : World} {B B' : Nat} {v : Value} {X : List α} (h : E.Own w B v X) (hB : B' ≤ B) : E.Own w B' v X := by
  rcases h with h | ⟨g, C, h1, h2, h3⟩
  · exact .inl h
  · exact .inr ⟨g, C, h1, by omega, h3⟩
theorem Elt.Own.nil (w : World) (B : Nat) : E.Own w B (.slice none 0 0) [] := .inl ⟨rfl, rfl⟩
/-- Where its elements lie. -/
theorem Elt.Own.at' {w : World} {B : Nat} {v : Value} {X : List α} (h : E.Own w B v X) : ∃ a g c, v = .slice a X.length c ∧ X.length ≤ c ∧ E.At w g 0 X ∧ (0 < X.length → a = some ⟨g, 0, none⟩ ∧ B ≤ g) := by
  rcases h with ⟨rfl, rfl⟩ | ⟨g, C, rfl, hB, hR, hp, _⟩
  · exact ⟨none, 0, 0, rfl, by simp, .nil _ _ _ _, fun h => by simp at h⟩
  · exact ⟨_, g, _, rfl, hp.length_le, hR.at' hp, fun _ => ⟨rfl, hB⟩⟩

/-- What is appended. -/
theorem Elt.At.src {w : World} {g o : Nat} {Y : List α} {a : Option Addr} {c : Nat} (h : E.At w g o Y) (ha : 0 < Y.length → a = some ⟨g, o, none⟩) : Src Tryd.prog E.sz E.sl (.slice a Y.length c) Y.length (E.encs Y) w := by
  cases a with
  | none =>
    have h0 : Y = [] := List.length_eq_zero_iff.1 (by rcases Nat.eq_zero_or_pos Y.length with h | h; · exact h
                                                      · cases ha h)
    subst h0
    exact Src.ofNil w E.und c
  | some ad =>
    refine Src.ofSlice w E.und ad Y.length c (E.encs Y) (E.encs_length Y) (fun j u hu => ?_) (E.encs_one Y)
    have h0 : 0 < Y.length := by
      cases Y with
      | nil => simp [encs] at hu
      | cons x Y => simp
    obtain rfl := Option.some.inj (ha h0)
    rw [Addr.add_lit]
    exact h.c j u hu

theorem Elt.zeros (n : Nat) : Builtin.zeroCells E.zv.cells (n * 1) = Builtin.zeroCells E.zv.cells n := by rw [Nat.mul_one]
theorem Elt.encs_rep (x : α) : ∀ (n j : Nat), (E.encs (List.replicate n x))[j]? = if j < n * E.sz then (E.enc x)[j % E.sz]? else none
  | 0, j => by simp [encs]
  | n + 1, j => by
    have hp := E.pos
    have : E.encs (List.replicate (n + 1) x) = E.enc x ++ E.encs (List.replicate n x) := rfl
    rw [this]
    by_cases h : j < E.sz
    · rw [List.getElem?_append_left (by rw [E.len]; exact h), if_pos (by rw [Nat.succ_mul]; omega), Nat.mod_eq_of_lt h]
    · rw [List.getElem?_append_right (by rw [E.len]; omega), E.len, encs_rep x n]
      rw [Nat.succ_mul, show j % E.sz = (j - E.sz) % E.sz from Nat.mod_eq_sub_mod (by omega)]
      by_cases h2 : j < n * E.sz + E.sz
      · rw [if_pos (by omega), if_pos h2]
      · rw [if_neg (by omega), if_neg h2]
theorem Elt.zeroCellsE (n : Nat) : Builtin.zeroCells E.zv.cells n = (E.encs (List.replicate n E.z)).toArray := by
  have hp := E.pos
  apply Array.ext'
  apply List.ext_getElem?
  intro j
  rw [E.zc, List.toList_toArray, encs_rep]
  simp only [Builtin.zeroCells, List.size_toArray, E.len]
  by_cases h : j < n * E.sz
  · rw [if_pos h]
    have hm := Nat.mod_lt j hp
    simp [h, E.len, hm]
  · rw [if_neg h]
    simp
    omega

/-- A NEW ROW: what stood, what is appended, zeros. -/
theorem Elt.grow {w : World} (v : Value) (X : List α) (base : Option Addr) (cap : Nat) (hv : v = .slice base X.length cap) (hold : ∀ w' : World, Chg (fun _ => False) w w' → (Builtin.firstCells E.sz X.length v).run Tryd.prog w' = .ok (E.encs X).toArray w')
    (hX : ∀ a ∈ X, E.ok a) (tx : TypeId) (x : Value) (Y : List α) (hs : Src Tryd.prog E.sz tx x Y.length (E.encs Y) w) (hY : ∀ a ∈ Y, E.ok a) (hg : cap < X.length + Y.length) (hlen : X.length + Y.length ≤ 1000000000000) (ty : TypeId) :
    ∃ (w' : World) (C : List α), (Builtin.append_ #[E.sl, tx] ty #[v, x]).run Tryd.prog w = .ok (.slice (some ⟨w.heap.size, 0, none⟩) (X ++ Y).length C.length) w' ∧ E.Row w' w.heap.size C ∧ X ++ Y <+: C ∧ C.length ≤ maxLen ∧ Chg (fun _ => False) w w' := by
  obtain ⟨i, hi, hz, h1, h2⟩ := info_parts E.info
  subst hv
  have hG := grownCap_ge w (X.length + Y.length) cap E.e
  have hG2 := grownCap_le_maxLen w (X.length + Y.length) cap E.e (by unfold maxLen; omega)
  have hbs : (X.length + Y.length) * E.bs ≤ 1000000000000 * 100 := Nat.mul_le_mul hlen E.bsl
  have hrun := run_append_grow_src (P := Tryd.prog) w E.sl tx ty E.e i E.zv E.und hi hz base X.length cap (E.encs X) (by rw [h1]; exact hold _ (Chg.refl _ _).drew) x Y.length (E.encs Y) (by rw [h1]; exact hs) hg (by omega)
    (by rw [h2]; exact growslice_fits hg (by omega))
  rw [zeroCellsE, ← E.encs_append, List.append_toArray, ← E.encs_append] at hrun
  obtain ⟨C, hC⟩ : ∃ C, C = X ++ Y ++ List.replicate (grownCap w (X.length + Y.length) cap E.e - (X.length + Y.length)) E.z := ⟨_, rfl⟩
  rw [← hC] at hrun
  refine ⟨w.drew.alloc (.cells (E.encs C).toArray E.e), C, ?_, Elt.Row.alloc w.drew _ _ (fun a ha => ?_), ⟨_, hC.symm⟩, ?_, (Chg.refl _ _).drew.alloc _⟩
  all_goals subst hC
  · rw [hrun]
    simp only [List.length_append, List.length_replicate]
    rw [Nat.add_sub_cancel' hG]
  · simp only [List.mem_append, List.mem_replicate] at ha
    rcases ha with (ha | ha) | ⟨_, rfl⟩
    · exact hX a ha
    · exact hY a ha
    · exact E.zok
  · simp only [List.length_append, List.length_replicate]
    omega

/-- There is room. -/
theorem Elt.room {w : World} {g : Nat} {C X : List α} (hR : E.Row w g C) (hp : X <+: C) (tx : TypeId) (x : Value) (Y : List α) (hs : Src Tryd.prog E.sz tx x Y.length (E.encs Y) w) (hY : ∀ a ∈ Y, E.ok a) (hl : X.length + Y.length ≤ C.length) (ty : TypeId) :
    ∃ (w' : World) (C' : List α), (Builtin.append_ #[E.sl, tx] ty #[.slice (some ⟨g, 0, none⟩) X.length C.length, x]).run Tryd.prog w = .ok (.slice (some ⟨g, 0, none⟩) (X ++ Y).length C'.length) w' ∧ E.Row w' g C' ∧ C'.length = C.length ∧ X ++ Y <+: C' ∧ Chg (· = g) w w' := by
  obtain ⟨i, hi, hz, h1, h2⟩ := info_parts E.info
  obtain ⟨C', hR', hl', hp'⟩ := hR.put hp hl hY
  have hle : X.length * E.sz + Y.length * E.sz ≤ C.length * E.sz := by rw [← Nat.add_mul]; exact Nat.mul_le_mul_right _ hl
  have hcell : ∀ j, j < (E.encs Y).length → (w.cell? ⟨g, 0 + X.length * i.size + j, none⟩).isSome = true := fun j hj => by
    rw [h1, Nat.zero_add, hR.c (X.length * E.sz + j) _ (List.getElem?_eq_getElem (by rw [E.encs_length] at hj ⊢; omega))]
    rfl
  have hrun := run_append_room_src (P := Tryd.prog) w E.sl tx ty E.e i E.und hi g 0 X.length C.length x Y.length (E.encs Y) (by rw [h1]; exact hs) hl hcell (fun j _ => hR.z _)
  refine ⟨_, C', ?_, hR', hl', hp', setCellsChg _ _ _ _⟩
  rw [hrun, h1, Nat.zero_add, hl', List.length_append]

theorem Elt.Row.first {w : World} {g : Nat} {C X : List α} (hR : E.Row w g C) (hp : X <+: C) (cap : Nat) (w' : World) (hc : Chg (fun _ => False) w w') : (Builtin.firstCells E.sz X.length (.slice (some ⟨g, 0, none⟩) X.length cap)).run Tryd.prog w' = .ok (E.encs X).toArray w' := by
  have hb := (hR.at' hp).chg hc (fun _ h => h)
  refine run_firstCells_some w' E.sz X.length ⟨g, 0, none⟩ X.length cap (E.encs X) (E.encs_length X) (fun j u hu => ?_)
  rw [Addr.add_lit]
  exact hb.c j u hu

/-- append. -/
theorem Elt.Own.append {w : World} {B : Nat} {v : Value} {X : List α} (h : E.Own w B v X) (hB : B ≤ w.heap.size) (tx : TypeId) (x : Value) (Y : List α) (hs : Src Tryd.prog E.sz tx x Y.length (E.encs Y) w) (hY : ∀ a ∈ Y, E.ok a) (hlen : X.length + Y.length ≤ 1000000000000) (ty : TypeId) :
    ∃ v' w', (Builtin.append_ #[E.sl, tx] ty #[v, x]).run Tryd.prog w = .ok v' w' ∧ E.Own w' B v' (X ++ Y) ∧ Chg (fun k => B ≤ k) w w' ∧ (Chg (fun k => v.ownBlock = some k) w w' ∧ (v'.ownBlock = v.ownBlock ∨ v'.ownBlock = some w.heap.size)) ∧ (v' = .slice none 0 0 → v = .slice none 0 0) := by
  rcases h with ⟨rfl, rfl⟩ | ⟨g, C, rfl, hBg, hR, hp, hC⟩
  · rcases Nat.eq_zero_or_pos Y.length with h0 | h0
    · have hY0 := List.length_eq_zero_iff.1 h0
      subst hY0
      obtain ⟨i, hi, hz, h1, h2⟩ := info_parts E.info
      refine ⟨_, _, run_append_nothing (P := Tryd.prog) w E.sl tx ty E.e i E.und hi none 0 0 (Nat.le_refl _) x (by rw [h1]; exact hs), .inl ⟨rfl, rfl⟩, Chg.refl _ _, ⟨Chg.refl _ _, .inl rfl⟩, fun _ => rfl⟩
    · obtain ⟨w', C, hrun, hR, hp, hC, hc⟩ := Elt.grow (E := E) (.slice none 0 0) [] none 0 rfl (fun w' _ => run_firstCells_none w' E.sz 0 0 0) (fun _ h => by cases h) tx x Y hs hY (by simp; omega) hlen ty
      exact ⟨_, _, hrun, .inr ⟨_, C, rfl, hB, hR, hp, hC⟩, hc.any, ⟨hc.any, .inr rfl⟩, fun h => by cases h⟩
  · by_cases hl : X.length + Y.length ≤ C.length
    · obtain ⟨w', C', hrun, hR', hl', hp', hc⟩ := Elt.room hR hp tx x Y hs hY hl ty
      exact ⟨_, _, hrun, .inr ⟨g, C', rfl, hBg, hR', hp', by omega⟩, hc.mono (fun k _ e => by omega), ⟨hc.mono (fun k _ e => by subst e; rfl), .inl rfl⟩, fun h => by cases h⟩
    · obtain ⟨w', C', hrun, hR', hp', hC', hc⟩ := Elt.grow (E := E) _ X _ C.length rfl (fun w' hc => hR.first hp _ w' hc) (fun a ha => hR.ok a (hp.subset ha)) tx x Y hs hY (by omega) hlen ty
      exact ⟨_, _, hrun, .inr ⟨_, C', rfl, hB, hR', hp', hC'⟩, hc.any, ⟨hc.any, .inr rfl⟩, fun h => by cases h⟩

/-- append, at the operation. -/
theorem Elt.wpList_append (E : Elt α) {ops : Array Oper} {rest : List Oper} {o : Oper} {a : Act} {w : World} {Q : Exit → Act → World → Prop} (hgd : o.guard = none) (s x : Operand) (tl tx : TypeId) (htl : tl = E.sl)
    (ho : o.op = .call { callee := .builtin .append, args := #[s, x], argTypes := #[tl, tx] }) (B : Nat) (v : Value) (X Y : List α) (u : Value) (hv : a.eval s = v) (hu : a.eval x = u)
    (h : E.Own w B v X) (hB : B ≤ w.heap.size) (hs : Src Tryd.prog E.sz tx u Y.length (E.encs Y) w) (hY : ∀ a ∈ Y, E.ok a) (hlen : X.length + Y.length ≤ 1000000000000)
    (hK : ∀ v' w', Hid (E.Own w' B v' (X ++ Y)) → Hid (Chg (fun k => B ≤ k) w w') → Hid (v' = .slice none 0 0 → v = .slice none 0 0) → wpList Tryd.prog ops Q rest (a.put o.dst v') w') : wpList Tryd.prog ops Q (o :: rest) a w := by
  subst htl
  obtain ⟨v', w', hrun, h1, h2, _, h3⟩ := h.append hB tx u Y hs hY hlen o.type
  exact Lib.wpList_append_run w hgd s x E.sl tx ho v u hv hu v' w' hrun (hK v' w' (Lib.hid h1) (Lib.hid h2) (Lib.hid h3))
/-- The same, a store's address told too. -/
theorem Elt.wpList_append2 (E : Elt α) {ops : Array Oper} {rest : List Oper} {o : Oper} {a : Act} {w : World} {Q : Exit → Act → World → Prop} (hgd : o.guard = none) (s x : Operand) (tl tx : TypeId) (htl : tl = E.sl)
    (ho : o.op = .call { callee := .builtin .append, args := #[s, x], argTypes := #[tl, tx] }) (B : Nat) (v : Value) (X Y : List α) (u : Value) (hv : a.eval s = v) (hu : a.eval x = u)
    (h : E.Own w B v X) (hB : B ≤ w.heap.size) (hs : Src Tryd.prog E.sz tx u Y.length (E.encs Y) w) (hY : ∀ a ∈ Y, E.ok a) (hlen : X.length + Y.length ≤ 1000000000000)
    (hK : ∀ v' w', Hid (E.Own w' B v' (X ++ Y)) → Hid (Chg (fun k => B ≤ k) w w') → Hid (Chg (fun k => v.ownBlock = some k) w w' ∧ (v'.ownBlock = v.ownBlock ∨ v'.ownBlock = some w.heap.size)) → wpList Tryd.prog ops Q rest (a.put o.dst v') w') : wpList Tryd.prog ops Q (o :: rest) a w := by
  subst htl
  obtain ⟨v', w', hrun, h1, h2, h4, h3⟩ := h.append hB tx u Y hs hY hlen o.type
  exact Lib.wpList_append_run w hgd s x E.sl tx ho v u hv hu v' w' hrun (hK v' w' (Lib.hid h1) (Lib.hid h2) (Lib.hid h4))

/-- Some elements are written out. -/
theorem Elt.lit (E : Elt α) (w : World) (Y : List α) (e : TypeId) (hY : ∀ a ∈ Y, E.ok a) : E.At (w.alloc (.cells (E.encs Y).toArray e)) w.heap.size 0 Y := (Elt.Row.alloc w Y e hY).at' (List.prefix_refl _)
theorem Elt.srcLit (E : Elt α) {w : World} {Y : List α} {e : TypeId} (c : Nat) (hY : ∀ a ∈ Y, E.ok a) : Src Tryd.prog E.sz E.sl (.slice (some ⟨w.heap.size, 0, none⟩) Y.length c) Y.length (E.encs Y) (w.alloc (.cells (E.encs Y).toArray e)) := (E.lit w Y e hY).src (fun _ => rfl)

theorem Elt.madeCellsE (n : Nat) : madeCells E.zv.cells (n * E.sz) = (E.encs (List.replicate n E.z)).toArray := by
  have hp := E.pos
  apply Array.ext'
  apply List.ext_getElem?
  intro j
  rw [E.zc, List.toList_toArray, encs_rep]
  by_cases h : j < n * E.sz
  · rw [if_pos h]
    have hm := Nat.mod_lt j hp
    simp [madeCells, h, E.len, hm]
  · rw [if_neg h]
    simp [madeCells]
    omega
/-- make, at the operation. -/
theorem Elt.wpList_make (E : Elt α) {ops : Array Oper} {rest : List Oper} {o : Oper} {a : Act} {w : World} {Q : Exit → Act → World → Prop} (hgd : o.guard = none) (l c : Operand) (tl : TypeId) (htl : tl = E.sl) (hop : o.op = Op.makeSlice tl l c)
    (kl kc : IntKind) (L N : Int) (k n : Nat) (hl : a.eval l = .int kl L) (hc : a.eval c = .int kc N) (hL : L = k) (hN : N = n) (hkn : k ≤ n) (hn : n ≤ 1000000000000)
    (hK : ∀ w', Hid (E.Row w' w.heap.size (List.replicate n E.z)) → Hid (Chg (fun _ => False) w w') → wpList Tryd.prog ops Q rest (a.put o.dst (.slice (some ⟨w.heap.size, 0, none⟩) k n)) w') : wpList Tryd.prog ops Q (o :: rest) a w := by
  subst hL hN htl
  obtain ⟨i, hi, hz, h1, h2⟩ := info_parts E.info
  have hbs : i.bytes * n ≤ 100 * 1000000000000 := Nat.mul_le_mul (by rw [h2]; exact E.bsl) hn
  have hr := run_make (P := Tryd.prog) w E.sl E.e i E.zv E.und hi hz kl kc k n (by omega) (by omega) (by rw [← Int.natCast_mul]; omega) (by omega)
  rw [h1] at hr
  simp only [Int.toNat_natCast] at hr
  rw [madeCellsE] at hr
  refine wpList_plain hgd fun K hK' => ?_
  unfold Oper.wp
  simp [execOp, hop, hl, hc, hr, Result.andThen]
  exact hK' _ _ (hK _ (Lib.hid (Elt.Row.alloc w _ _ (fun a ha => by rw [List.mem_replicate] at ha; rw [ha.2]; exact E.zok))) (Lib.hid ((Chg.refl _ _).alloc _)))
end Go.Proofs.YtfhmblbomkhcpaaDoor
