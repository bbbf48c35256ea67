/- A list of bytes in memory: what came in (BytesAt), a block of one's own, known to its last cell (Row), a slice of one's own (Own), appended to. -/
import Derived.Test.YtfhmblbomkhcpaaDoorBase
import Derived.Test.YtfhmblbomkhcpaaDoorRows
import Derived.ProofKit
import Derived.Deep.AppendSrc
import Derived.Deep.Upon
import Derived.Lib.AppendZerosOnto
namespace Go.Proofs.YtfhmblbomkhcpaaDoor
open Go.RowKit

theorem own : ownKnob Tryd.prog.godebug = none := by kernel_rfl
theorem laidOut : laidOutB Tryd.prog = true := by kernel_rfl

abbrev Byte (a : Int) : Prop := 0 ≤ a ∧ a ≤ 255
def bytesV (Z : List Int) : List Value := Z.map (Value.int .u8)
@[simp] theorem bytesV_length (Z : List Int) : (bytesV Z).length = Z.length := by simp [bytesV]
theorem bytesV_append (X Y : List Int) : bytesV (X ++ Y) = bytesV X ++ bytesV Y := by simp [bytesV]
theorem bytesV_get {Z : List Int} {j : Nat} {u : Value} (h : (bytesV Z)[j]? = some u) : ∃ a, Z[j]? = some a ∧ u = .int .u8 a := by
  simp only [bytesV, List.getElem?_map, Option.map_eq_some_iff] at h
  obtain ⟨a, h1, h2⟩ := h
  exact ⟨a, h1, h2.symm⟩
theorem bytesV_one {Z : List Int} : ∀ u ∈ bytesV Z, u.oneCell' = true := fun u hu => by
  obtain ⟨a, _, rfl⟩ := List.mem_map.1 hu
  rfl

/-- The bytes that came in. -/
structure BytesAt (w : World) (g o : Nat) (Z : List Int) : Prop where
  c : ∀ k a, Z[k]? = some a → w.cell? ⟨g, o + k, none⟩ = some (.int .u8 a) ∧ Byte a
  lt : Z ≠ [] → g < w.heap.size
theorem BytesAt.chg {S : Nat → Prop} {w w' : World} {g o : Nat} {Z : List Int} (h : BytesAt w g o Z) (hc : Chg S w w') (hs : Z ≠ [] → ¬ S g) : BytesAt w' g o Z :=
  ⟨fun k a hk => ⟨hc.cellS (h.c k a hk).1 (hs (by intro e; rw [e] at hk; simp at hk)), (h.c k a hk).2⟩, fun hz => Nat.lt_of_lt_of_le (h.lt hz) hc.size⟩
theorem BytesAt.get {w : World} {g o : Nat} {Z : List Int} (h : BytesAt w g o Z) {k : Nat} (hk : k < Z.length) : ∃ a, Z[k]? = some a ∧ w.cell? ⟨g, o + k, none⟩ = some (.int .u8 a) ∧ 0 ≤ a ∧ a ≤ 255 :=
  ⟨Z[k], by simp, (h.c k _ (by simp)).1, (h.c k _ (by simp)).2⟩
theorem BytesAt.byte {w : World} {g o : Nat} {Z : List Int} (h : BytesAt w g o Z) : ∀ a ∈ Z, Byte a := fun a ha => by
  obtain ⟨k, hk, rfl⟩ := List.getElem_of_mem ha
  exact (h.c k _ (by simp)).2

/-- A block of one's own: its first cells. -/
structure Row (w : World) (g : Nat) (C : List Int) : Prop where
  c : ∀ k a, C[k]? = some a → w.cell? ⟨g, k, none⟩ = some (.int .u8 a)
  z : ∀ j, w.frozen? ⟨g, j, none⟩ = false
  lt : g < w.heap.size
  byte : ∀ a ∈ C, Byte a
theorem Row.chg {S : Nat → Prop} {w w' : World} {g : Nat} {C : List Int} (h : Row w g C) (hc : Chg S w w') (hs : ¬ S g) : Row w' g C :=
  ⟨fun k a hk => hc.cellS (h.c k a hk) hs, fun j => (hc.frozen (p := ⟨g, j, none⟩) h.lt hs).trans (h.z j), Nat.lt_of_lt_of_le h.lt hc.size, h.byte⟩
theorem Row.bytes {w : World} {g : Nat} {C X : List Int} (h : Row w g C) (hp : X <+: C) : BytesAt w g 0 X :=
  ⟨fun k a hk => by
    obtain ⟨Y, rfl⟩ := hp
    have hk' : (X ++ Y)[k]? = some a := by rw [List.getElem?_append_left (List.getElem?_eq_some_iff.1 hk).1]; exact hk
    rw [Nat.zero_add]
    exact ⟨h.c k a hk', h.byte a (List.mem_of_getElem? hk')⟩, fun _ => h.lt⟩
theorem Row.alloc (w : World) (C : List Int) (e : TypeId) (hb : ∀ a ∈ C, Byte a) : Row (w.alloc (.cells (bytesV C).toArray e)) w.heap.size C :=
  ⟨fun k a hk => by
    rw [World.cell?_alloc_new]
    simp [bytesV, hk], fun j => World.frozen?_alloc_new _ _ _ _, by simp, hb⟩

theorem Chg.fresh {w w' : World} (h : Chg (fun k => w.heap.size ≤ k) w w') : Chg (fun _ => False) w w' := h.mono (fun k hk e => by omega)
theorem Chg.any {S : Nat → Prop} {w w' : World} (h : Chg (fun _ => False) w w') : Chg S w w' := h.mono (fun _ _ e => e.elim)
theorem setCellChg (w : World) (t j : Nat) (v : Value) : Chg (· = t) w (w.setCell ⟨t, j, none⟩ v) := Chg.setCell (S := (· = t)) (p := ⟨t, j, none⟩) (Chg.refl _ w) (.inr rfl) v
theorem setCellsChg (b : Nat) : ∀ (vs : List Value) (o : Nat) (w : World), Chg (· = b) w (w.setCells b o vs)
  | [], _, w => Chg.refl _ w
  | v :: r, o, w => (setCellChg w b o v).trans (setCellsChg b r (o + 1) _)

/-- Y is laid over X ++ .. behind X. -/
theorem Row.put {w : World} {g : Nat} {C X Y : List Int} (h : Row w g C) (hp : X <+: C) (hl : X.length + Y.length ≤ C.length) (hY : ∀ a ∈ Y, Byte a) :
    ∃ C', Row (w.setCells g X.length (bytesV Y)) g C' ∧ C'.length = C.length ∧ X ++ Y <+: C' := by
  obtain ⟨R, rfl⟩ := hp
  refine ⟨X ++ Y ++ R.drop Y.length, ⟨fun k a hk => ?_, fun j => (World.frozen?_setCells _ _ _ _ _).trans (h.z j), Nat.lt_of_lt_of_le h.lt (setCellsChg _ _ _ _).size, fun a ha => ?_⟩, by simp only [List.length_append, List.length_drop] at *; omega, ⟨_, rfl⟩⟩
  · have hin : ∀ j, j < (bytesV Y).length → (w.cell? ⟨g, X.length + j, none⟩).isSome = true := fun j hj => by
      have hj' : X.length + j < (X ++ R).length := by simp only [bytesV_length, List.length_append] at *; omega
      rw [h.c (X.length + j) _ (List.getElem?_eq_getElem hj')]
      rfl
    by_cases h1 : k < X.length
    · rw [World.cell?_setCells_out g (bytesV Y) X.length w ⟨g, k, none⟩ (fun _ _ => .inl h1)]
      refine h.c k a ?_
      rw [List.append_assoc, List.getElem?_append_left h1] at hk
      rw [List.getElem?_append_left h1]
      exact hk
    · by_cases h2 : k < X.length + Y.length
      · obtain ⟨j, rfl⟩ : ∃ j, k = X.length + j := ⟨k - X.length, by omega⟩
        rw [World.cell?_setCells_in g (bytesV Y) X.length w hin j (by simp; omega)]
        rw [List.append_assoc, List.getElem?_append_right (by omega), Nat.add_sub_cancel_left, List.getElem?_append_left (by omega)] at hk
        have := (List.getElem?_eq_some_iff.1 hk).2
        simp [bytesV, this]
      · rw [World.cell?_setCells_out g (bytesV Y) X.length w ⟨g, k, none⟩ (fun _ _ => .inr (by simp; omega))]
        refine h.c k a ?_
        rw [List.getElem?_append_right (by simp; omega), List.getElem?_drop] at hk
        rw [List.getElem?_append_right (by omega), ← hk]
        congr 1
        simp
        omega
  · simp only [List.mem_append] at ha
    rcases ha with (ha | ha) | ha
    · exact h.byte a (by simp [ha])
    · exact hY a ha
    · exact h.byte a (by simp [List.mem_of_mem_drop ha])

/-- A slice of one's own, known up to its capacity. -/
def Own (w : World) (B : Nat) (v : Value) (X : List Int) : Prop :=
  (v = .slice none 0 0 ∧ X = []) ∨ ∃ (g : Nat) (C : List Int), v = .slice (some ⟨g, 0, none⟩) X.length C.length ∧ B ≤ g ∧ Row w g C ∧ X <+: C ∧ C.length ≤ maxLen
theorem Own.chg {S : Nat → Prop} {w w' : World} {B : Nat} {v : Value} {X : List Int} (h : Own w B v X) (hc : Chg S w w') (hs : ∀ g, B ≤ g → g < w.heap.size → ¬ S g) : Own w' B v X := by
  rcases h with h | ⟨g, C, h1, h2, h3, h4, h5⟩
  · exact .inl h
  · exact .inr ⟨g, C, h1, h2, h3.chg hc (hs g h2 h3.lt), h4, h5⟩
theorem Own.shape {w : World} {B : Nat} {v : Value} {X : List Int} (h : Own w B v X) : ∃ a c, v = .slice a X.length c := by
  rcases h with ⟨rfl, rfl⟩ | ⟨g, C, h1, _⟩
  · exact ⟨_, _, rfl⟩
  · exact ⟨_, _, h1⟩
theorem Own.lower {w : World} {B B' : Nat} {v : Value} {X : List Int} (h : Own w B v X) (hB : B' ≤ B) : Own w B' v X := by
  rcases h with h | ⟨g, C, h1, h2, h3⟩
  · exact .inl h
  · exact .inr ⟨g, C, h1, by omega, h3⟩

theorem info8 : (Tryd.prog.info? 5).map (fun i => (i.zero, i.size, i.bytes)) = some (some (.int .u8 0), 1, 1) := by kernel_rfl

/-- What is appended: bytes that lie somewhere. -/
theorem srcBytes {w : World} {g o : Nat} {Y : List Int} {a : Option Addr} {c : Nat} (h : BytesAt w g o Y) (ha : 0 < Y.length → a = some ⟨g, o, none⟩) : Src Tryd.prog 1 109 (.slice a Y.length c) Y.length (bytesV Y) w := by
  cases a with
  | none =>
    have h0 : Y = [] := List.length_eq_zero_iff.1 (by rcases Nat.eq_zero_or_pos Y.length with h | h; · exact h
                                                      · cases ha h)
    subst h0
    exact Src.ofNil w Tryd.underlying109 c
  | some ad =>
    refine Src.ofSlice w Tryd.underlying109 ad Y.length c (bytesV Y) (by simp) (fun j u hu => ?_) bytesV_one
    obtain ⟨x, hx, rfl⟩ := bytesV_get hu
    have hj := (List.getElem?_eq_some_iff.1 hx).1
    obtain rfl := Option.some.inj (ha (by omega))
    rw [Addr.add_lit]
    exact (h.c j x hx).1

theorem zeroCells8 (n : Nat) : Builtin.zeroCells (Value.int .u8 0).cells n = (bytesV (List.replicate n 0)).toArray := by
  apply Array.ext
  · simp [Builtin.zeroCells, Value.cells, bytesV]
  · intro i h1 h2
    simp [Builtin.zeroCells, Value.cells, bytesV, Nat.mod_one]

/-- A NEW ROW: what stood, what is appended, zeros. -/
theorem grow8 {w : World} (v : Value) (X : List Int) (base : Option Addr) (cap : Nat) (hv : v = .slice base X.length cap) (hold : ∀ w' : World, Chg (fun _ => False) w w' → (Builtin.firstCells 1 X.length v).run Tryd.prog w' = .ok (bytesV X).toArray w')
    (hX : ∀ a ∈ X, Byte a) (tx : TypeId) (x : Value) (Y : List Int) (hs : Src Tryd.prog 1 tx x Y.length (bytesV Y) w) (hY : ∀ a ∈ Y, Byte a) (hg : cap < X.length + Y.length) (hlen : X.length + Y.length ≤ 1000000000000) (ty : TypeId) :
    ∃ (w' : World) (C : List Int), (Builtin.append_ #[109, tx] ty #[v, x]).run Tryd.prog w = .ok (.slice (some ⟨w.heap.size, 0, none⟩) (X ++ Y).length C.length) w' ∧ Row w' w.heap.size C ∧ X ++ Y <+: C ∧ C.length ≤ maxLen ∧ Chg (fun _ => False) w w' := by
  obtain ⟨i, hi, hz, h1, h2⟩ := info_parts info8
  subst hv
  have hG := grownCap_ge w (X.length + Y.length) cap 5
  have hG2 := grownCap_le_maxLen w (X.length + Y.length) cap 5 (by unfold maxLen; omega)
  have hrun := run_append_grow_src (P := Tryd.prog) w 109 tx ty 5 i (.int .u8 0) Tryd.underlying109 hi hz base X.length cap (bytesV X) (by rw [h1]; exact hold _ (Chg.refl _ _).drew) x Y.length (bytesV Y) (by rw [h1]; exact hs) hg (by omega)
    (by rw [h2]; exact growslice_fits hg (by omega))
  rw [zeroCells8, ← bytesV_append, List.append_toArray, ← bytesV_append] at hrun
  obtain ⟨C, hC⟩ : ∃ C, C = X ++ Y ++ List.replicate (grownCap w (X.length + Y.length) cap 5 - (X.length + Y.length)) 0 := ⟨_, rfl⟩
  rw [← hC] at hrun
  refine ⟨w.drew.alloc (.cells (bytesV C).toArray 5), C, ?_, Row.alloc w.drew _ _ (fun a ha => ?_), ⟨_, hC.symm⟩, ?_, (Chg.refl _ _).drew.alloc _⟩
  all_goals subst hC
  · rw [hrun]
    simp only [List.length_append, List.length_replicate]
    rw [Nat.add_sub_cancel' hG]
  · simp only [List.mem_append, List.mem_replicate] at ha
    rcases ha with (ha | ha) | ⟨_, rfl⟩
    · exact hX a ha
    · exact hY a ha
    · exact ⟨by omega, by omega⟩
  · simp only [List.length_append, List.length_replicate]
    omega

/-- There is room. -/
theorem room8 {w : World} {g : Nat} {C X : List Int} (hR : Row w g C) (hp : X <+: C) (tx : TypeId) (x : Value) (Y : List Int) (hs : Src Tryd.prog 1 tx x Y.length (bytesV Y) w) (hY : ∀ a ∈ Y, Byte a) (hl : X.length + Y.length ≤ C.length) (ty : TypeId) :
    ∃ (w' : World) (C' : List Int), (Builtin.append_ #[109, tx] ty #[.slice (some ⟨g, 0, none⟩) X.length C.length, x]).run Tryd.prog w = .ok (.slice (some ⟨g, 0, none⟩) (X ++ Y).length C'.length) w' ∧ Row w' g C' ∧ C'.length = C.length ∧ X ++ Y <+: C' ∧ Chg (· = g) w w' := by
  obtain ⟨i, hi, hz, h1, h2⟩ := info_parts info8
  obtain ⟨C', hR', hl', hp'⟩ := hR.put hp hl hY
  have hcell : ∀ j, j < (bytesV Y).length → (w.cell? ⟨g, 0 + X.length * i.size + j, none⟩).isSome = true := fun j hj => by
    rw [h1, Nat.mul_one, Nat.zero_add, hR.c (X.length + j) _ (List.getElem?_eq_getElem (by simp at hj; omega))]
    rfl
  have hrun := run_append_room_src (P := Tryd.prog) w 109 tx ty 5 i Tryd.underlying109 hi g 0 X.length C.length x Y.length (bytesV Y) (by rw [h1]; exact hs) hl hcell (fun j _ => hR.z _)
  refine ⟨_, C', ?_, hR', hl', hp', setCellsChg _ _ _ _⟩
  rw [hrun, h1, Nat.mul_one, Nat.zero_add, hl', List.length_append]

theorem Row.first {w : World} {g : Nat} {C X : List Int} (hR : Row w g C) (hp : X <+: C) (cap : Nat) (w' : World) (hc : Chg (fun _ => False) w w') : (Builtin.firstCells 1 X.length (.slice (some ⟨g, 0, none⟩) X.length cap)).run Tryd.prog w' = .ok (bytesV X).toArray w' := by
  have hb := (hR.bytes hp).chg hc (fun _ h => h)
  refine run_firstCells_some w' 1 X.length ⟨g, 0, none⟩ X.length cap (bytesV X) (by simp) (fun j u hu => ?_)
  obtain ⟨x, hx, rfl⟩ := bytesV_get hu
  rw [Addr.add_lit]
  exact (hb.c j x hx).1

/-- append. -/
theorem Own.append {w : World} {B : Nat} {v : Value} {X : List Int} (h : Own w B v X) (hB : B ≤ w.heap.size) (tx : TypeId) (x : Value) (Y : List Int) (hs : Src Tryd.prog 1 tx x Y.length (bytesV Y) w) (hY : ∀ a ∈ Y, Byte a) (hlen : X.length + Y.length ≤ 1000000000000) (ty : TypeId) :
    ∃ v' w', (Builtin.append_ #[109, tx] ty #[v, x]).run Tryd.prog w = .ok v' w' ∧ Own w' B v' (X ++ Y) ∧ Chg (fun k => B ≤ k) w w' ∧ (v' = .slice none 0 0 → v = .slice none 0 0) := by
  rcases h with ⟨rfl, rfl⟩ | ⟨g, C, rfl, hBg, hR, hp, hC⟩
  · rcases Nat.eq_zero_or_pos Y.length with h0 | h0
    · have hY0 := List.length_eq_zero_iff.1 h0
      subst hY0
      obtain ⟨i, hi, hz, h1, h2⟩ := info_parts info8
      refine ⟨_, _, run_append_nothing (P := Tryd.prog) w 109 tx ty 5 i Tryd.underlying109 hi none 0 0 (Nat.le_refl _) x (by rw [h1]; exact hs), .inl ⟨rfl, rfl⟩, Chg.refl _ _, fun _ => rfl⟩
    · obtain ⟨w', C, hrun, hR, hp, hC, hc⟩ := grow8 (.slice none 0 0) [] none 0 rfl (fun w' _ => run_firstCells_none w' 1 0 0 0) (fun _ h => by cases h) tx x Y hs hY (by simp; omega) hlen ty
      exact ⟨_, _, hrun, .inr ⟨_, C, rfl, hB, hR, hp, hC⟩, hc.mono (fun _ _ h => h.elim), fun h => by cases h⟩
  · by_cases hl : X.length + Y.length ≤ C.length
    · obtain ⟨w', C', hrun, hR', hl', hp', hc⟩ := room8 hR hp tx x Y hs hY hl ty
      exact ⟨_, _, hrun, .inr ⟨g, C', rfl, hBg, hR', hp', by omega⟩, hc.mono (fun k _ e => by omega), fun h => by cases h⟩
    · obtain ⟨w', C', hrun, hR', hp', hC', hc⟩ := grow8 _ X _ C.length rfl (fun w' hc => hR.first hp _ w' hc) (fun a ha => hR.byte a (hp.subset ha)) tx x Y hs hY (by omega) hlen ty
      exact ⟨_, _, hrun, .inr ⟨_, C', rfl, hB, hR', hp', hC'⟩, hc.mono (fun _ _ h => h.elim), fun h => by cases h⟩

/-- append, at the operation. -/
theorem wpList_append8 {ops : Array Oper} {rest : List Oper} {o : Oper} {a : Act} {w : World} {Q : Exit → Act → World → Prop} (hgd : o.guard = none) (s x : Operand) (tx : TypeId)
    (ho : o.op = .call { callee := .builtin .append, args := #[s, x], argTypes := #[109, tx] }) (B : Nat) (v : Value) (X Y : List Int) (u : Value) (hv : a.eval s = v) (hu : a.eval x = u)
    (h : Own w B v X) (hB : B ≤ w.heap.size) (hs : Src Tryd.prog 1 tx u Y.length (bytesV Y) w) (hY : ∀ a ∈ Y, Byte a) (hlen : X.length + Y.length ≤ 1000000000000)
    (hK : ∀ v' w', Hid (Own w' B v' (X ++ Y)) → Hid (Chg (fun k => B ≤ k) w w') → Hid (v' = .slice none 0 0 → v = .slice none 0 0) → wpList Tryd.prog ops Q rest (a.put o.dst v') w') : wpList Tryd.prog ops Q (o :: rest) a w := by
  obtain ⟨v', w', hrun, h1, h2, h3⟩ := h.append hB tx u Y hs hY hlen o.type
  exact Lib.wpList_append_run w hgd s x 109 tx ho v u hv hu v' w' hrun (hK v' w' (Lib.hid h1) (Lib.hid h2) (Lib.hid h3))

/-- append where there is room, at the operation. -/
theorem wpList_room8 {ops : Array Oper} {rest : List Oper} {o : Oper} {a : Act} {w : World} {Q : Exit → Act → World → Prop} (hgd : o.guard = none) (s x : Operand) (tx : TypeId)
    (ho : o.op = .call { callee := .builtin .append, args := #[s, x], argTypes := #[109, tx] }) (g : Nat) (C X Y : List Int) (n m cap : Nat) (u : Value) (hv : a.eval s = .slice (some ⟨g, 0, none⟩) n cap) (hn : n = X.length) (hm : m = Y.length) (hcap : cap = C.length) (hu : a.eval x = u)
    (hR : Row w g C) (hp : X <+: C) (hs : Src Tryd.prog 1 tx u Y.length (bytesV Y) w) (hY : ∀ a ∈ Y, Byte a) (hl : X.length + Y.length ≤ C.length)
    (hK : ∀ w' C', Hid (Row w' g C') → Hid (C'.length = cap) → Hid (X ++ Y <+: C') → Hid (Chg (· = g) w w') → wpList Tryd.prog ops Q rest (a.put o.dst (.slice (some ⟨g, 0, none⟩) (n + m) cap)) w') : wpList Tryd.prog ops Q (o :: rest) a w := by
  subst hn hcap hm
  obtain ⟨w', C', hrun, h1, h2, h3, h4⟩ := room8 hR hp tx u Y hs hY hl o.type
  refine Lib.wpList_append_run w hgd s x 109 tx ho _ u hv hu _ w' hrun ?_
  rw [h2, List.length_append]
  exact hK w' C' (Lib.hid h1) (Lib.hid h2) (Lib.hid h3) (Lib.hid h4)

theorem madeCells8 (n : Nat) : madeCells (Value.int .u8 0).cells n = (bytesV (List.replicate n 0)).toArray := by
  apply Array.ext
  · simp [madeCells, Value.cells, bytesV]
  · intro i h1 h2
    simp [madeCells, Value.cells, bytesV, Nat.mod_one]
/-- make, at the operation. -/
theorem wpList_make8 {ops : Array Oper} {rest : List Oper} {o : Oper} {a : Act} {w : World} {Q : Exit → Act → World → Prop} (hgd : o.guard = none) (l c : Operand) (hop : o.op = Op.makeSlice 109 l c)
    (kl kc : IntKind) (L N : Int) (k n : Nat) (hl : a.eval l = .int kl L) (hc : a.eval c = .int kc N) (hL : L = k) (hN : N = n) (hkn : k ≤ n) (hn : n ≤ 1000000000000)
    (hK : ∀ w', Hid (Row w' w.heap.size (List.replicate n 0)) → Hid (Chg (fun _ => False) w w') → wpList Tryd.prog ops Q rest (a.put o.dst (.slice (some ⟨w.heap.size, 0, none⟩) k n)) w') : wpList Tryd.prog ops Q (o :: rest) a w := by
  subst hL hN
  obtain ⟨i, hi, hz, h1, h2⟩ := info_parts info8
  have hr := run_make (P := Tryd.prog) w 109 5 i (.int .u8 0) Tryd.underlying109 hi hz kl kc k n (by omega) (by omega) (by rw [h2]; omega) (by omega)
  rw [h1] at hr
  simp only [Int.toNat_natCast, Nat.mul_one] at hr
  rw [madeCells8] at hr
  refine wpList_plain hgd fun K hK' => ?_
  unfold Oper.wp
  simp [execOp, hop, hl, hc, hr, Result.andThen]
  exact hK' _ _ (hK _ (Lib.hid (Row.alloc w _ _ (fun a ha => by rw [List.mem_replicate] at ha; rw [ha.2]; exact ⟨by omega, by omega⟩))) (Lib.hid ((Chg.refl _ _).alloc _)))

/-- Some bytes are written out. -/
theorem lit8 (w : World) (Y : List Int) (e : TypeId) (hY : ∀ a ∈ Y, Byte a) : BytesAt (w.alloc (.cells (bytesV Y).toArray e)) w.heap.size 0 Y := (Row.alloc w Y e hY).bytes (List.prefix_refl _)
theorem srcLit {w : World} {Y : List Int} {e : TypeId} (c : Nat) (hY : ∀ a ∈ Y, Byte a) : Src Tryd.prog 1 109 (.slice (some ⟨w.heap.size, 0, none⟩) Y.length c) Y.length (bytesV Y) (w.alloc (.cells (bytesV Y).toArray e)) := srcBytes (lit8 w Y e hY) (fun _ => rfl)
theorem prefix_whole {X C : List Int} (h : X <+: C) (hl : C.length = X.length) : C = X := (h.eq_of_length hl.symm).symm
end Go.Proofs.YtfhmblbomkhcpaaDoor
