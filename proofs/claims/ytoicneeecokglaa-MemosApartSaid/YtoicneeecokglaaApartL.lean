/- 'MemosApart': what stands in memory at each of its loops. -/
import Derived.Test.YtoicneeecokglaaApartA
import Derived.Deep.MidRow
namespace Go.Proofs.Ytoicneeecokglaa
open Go.RowKit Go.Maps

/-- What is wanted of each spot, in memory. -/
structure WantAt (w : World) (b : Nat) (f : Nat → Nat → Int) : Prop where
  c : ∀ i k, i < 16 → k < 13 → w.cell? ⟨b, i * 13 + k, none⟩ = some (.int .i64 (f i k))
  z : ∀ j, w.frozen? ⟨b, j, none⟩ = false
theorem WantAt.chg {S : Nat → Prop} {w w' : World} {b : Nat} {f : Nat → Nat → Int} (h : WantAt w b f) (hc : Chg S w w') (hs : ¬ S b) : WantAt w' b f :=
  ⟨fun i k hi hk => hc.cellS (h.c i k hi hk) hs, fun j => (hc.frozen (p := ⟨b, j, none⟩) (by have := World.block_lt_of_cell? _ _ (h.c 0 0 (by omega) (by omega)); exact this) hs).trans (h.z j)⟩
theorem WantAt.set {w : World} {b : Nat} {f : Nat → Nat → Int} (h : WantAt w b f) {i k : Nat} (hi : i < 16) (hk : k < 13) (v : Int) : WantAt (w.setCell ⟨b, i * 13 + k, none⟩ (.int .i64 v)) b (updW f i k v) := by
  refine ⟨fun i' k' hi' hk' => ?_, fun j => (World.frozen?_setCell _ _ _ _).trans (h.z j)⟩
  unfold updW
  by_cases he : i' = i ∧ k' = k
  · obtain ⟨rfl, rfl⟩ := he
    rw [if_pos ⟨rfl, rfl⟩]
    exact World.cell?_setCell_same _ _ _ (h.c _ _ hi hk)
  · rw [if_neg he, World.cell?_setCell_other _ _ _ _ (by intro e; injection e with _ e; exact he ⟨by omega, by omega⟩)]
    exact h.c i' k' hi' hk'

def zeros208 : Array Value := Array.replicate 208 (.int .i64 0)
theorem zeroWant (w : World) : (zeroValue 59).run Try.prog w = .ok (.agg zeros208) w := by kernel_rfl
theorem WantAt.made (w : World) : WantAt (w.alloc (.cells zeros208 59)) w.heap.size (fun _ _ => 0) := by
  refine ⟨fun i k hi hk => ?_, fun j => World.frozen?_alloc_new _ _ _ _⟩
  rw [World.cell?_alloc_new]
  have h : i * 13 + k < 208 := by omega
  simp [zeros208, h]

/-- The bytes that came in. -/
structure BytesAt (w : World) (g o : Nat) (Z : List Int) : Prop where
  c : ∀ k a, Z[k]? = some a → w.cell? ⟨g, o + k, none⟩ = some (.int .u8 a) ∧ 0 ≤ a ∧ a ≤ 255
  lt : Z ≠ [] → g < w.heap.size
theorem BytesAt.chg {S : Nat → Prop} {w w' : World} {g o : Nat} {Z : List Int} (h : BytesAt w g o Z) (hc : Chg S w w') (hs : ¬ S g) : BytesAt w' g o Z :=
  ⟨fun k a hk => ⟨hc.cellS (h.c k a hk).1 hs, (h.c k a hk).2⟩, fun hz => Nat.lt_of_lt_of_le (h.lt hz) hc.size⟩

/-- Spots ahead of (i, k) are filled. -/
structure FillSt (w0 w : World) (b br bp t : Nat) (r p : Int) (f : Nat → Nat → Int) (s : MS) (i k : Nat) : Prop where
  m : MemoAt w b br bp s
  rel : RelW (maskW f i k) s r p
  want : WantAt w t f
  a : s.asked = 0
  n : s.known = 0
  sz : s.sz ≤ 26 * i + 2 * k
  g : Chg (fun j => w0.heap.size ≤ j) w0 w
  h0 : w0.heap.size ≤ t
  h1 : w0.heap.size ≤ b ∧ w0.heap.size ≤ br ∧ w0.heap.size ≤ bp
  h2 : t ≠ b ∧ t ≠ br ∧ t ≠ bp
theorem FillSt.fine {w0 w : World} {b br bp t : Nat} {r p : Int} {f : Nat → Nat → Int} {s : MS} {i k : Nat} (h : FillSt w0 w b br bp t r p f s i k) (hi : i ≤ 16) (hk : k ≤ 13) : s.Fine := by
  have := h.a; have := h.n; have := h.sz
  exact ⟨by omega, by omega, by omega, by omega, by omega⟩
theorem setChg (w : World) (t j : Nat) (v : Value) : Chg (· = t) w (w.setCell ⟨t, j, none⟩ v) := Chg.setCell (S := (· = t)) (p := ⟨t, j, none⟩) (Chg.refl _ w) (.inr rfl) v
/-- The cell is set, nothing else. -/
theorem FillSt.put {w0 w : World} {b br bp t : Nat} {r p : Int} {f : Nat → Nat → Int} {s : MS} {i k : Nat} (h : FillSt w0 w b br bp t r p f s i k) (hi : i < 16) (hk : k < 13) (v : Int) : FillSt w0 (w.setCell ⟨t, i * 13 + k, none⟩ (.int .i64 v)) b br bp t r p (updW f i k v) s i k := by
  obtain ⟨m, rel, want, a, n, sz, g, h0, h1, h2⟩ := h
  refine ⟨m.chg (setChg w t _ _) (fun e => h2.1 e.symm) (fun e => h2.2.1 e.symm) (fun e => h2.2.2 e.symm), rel.congr (fun i' k' _ _ => ?_), want.set hi hk v, a, n, sz, g.trans ((setChg w t _ _).mono (fun j _ e => by rw [e]; exact h0)), h0, h1, h2⟩
  unfold maskW updW
  by_cases h3 : i' < i ∨ (i' = i ∧ k' < k)
  · rw [if_pos h3, if_pos h3, if_neg (by omega)]
  · rw [if_neg h3, if_neg h3]
theorem updW_updW (f : Nat → Nat → Int) (i k : Nat) (u v : Int) : updW (updW f i k u) i k v = updW f i k v := by
  funext a b
  unfold updW
  split <;> rfl
/-- Nothing is said. -/
theorem FillSt.skip {w0 w : World} {b br bp t : Nat} {r p : Int} {f : Nat → Nat → Int} {s : MS} {i k : Nat} (h : FillSt w0 w b br bp t r p (updW f i k (-9)) s i k) : FillSt w0 w b br bp t r p (updW f i k (-9)) s i (k + 1) := by
  obtain ⟨m, rel, want, a, n, sz, g, h0, h1, h2⟩ := h
  have := rel.skip
  rw [updW_updW] at this
  exact ⟨m, this, want, a, n, by omega, g, h0, h1, h2⟩
theorem FillSt.line {w0 w : World} {b br bp t : Nat} {r p : Int} {f : Nat → Nat → Int} {s : MS} {i : Nat} (h : FillSt w0 w b br bp t r p f s i 13) : FillSt w0 w b br bp t r p f s (i + 1) 0 := by
  obtain ⟨m, rel, want, a, n, sz, g, h0, h1, h2⟩ := h
  exact ⟨m, rel.line, want, a, n, by omega, g, h0, h1, h2⟩

/-- Something is said, twice. -/
theorem FillSt.said {w0 w w' : World} {b br bp t : Nat} {r p : Int} {f : Nat → Nat → Int} {s s' : MS} {i k : Nat} (h : FillSt w0 w b br bp t r p f s i k) (hm : MemoAt w' b br bp s') (hc : Chg (fun j => j = br ∨ j = bp) w w') (hr : RelW (maskW f i (k + 1)) s' r p) (e1 : s'.asked = s.asked) (e2 : s'.known = s.known) (e3 : s'.sz = s.sz + 2) : FillSt w0 w' b br bp t r p f s' i (k + 1) := by
  obtain ⟨m, rel, want, a, n, sz, g, h0, h1, h2⟩ := h
  exact ⟨hm, hr, want.chg hc (by omega), by omega, by omega, by omega, g.trans (hc.mono (fun j _ e => by omega)), h0, h1, h2⟩

/-- All spots are filled; so much was asked, so much known. -/
structure QSt (w0 w : World) (b br bp t : Nat) (r p : Int) (f : Nat → Nat → Int) (s : MS) (A K : Int) : Prop where
  m : MemoAt w b br bp s
  rel : RelW f s r p
  want : WantAt w t f
  a : s.asked = A
  n : s.known = K
  sz : s.sz ≤ 1000
  g : Chg (fun j => w0.heap.size ≤ j) w0 w
  h0 : w0.heap.size ≤ t
  h1 : w0.heap.size ≤ b ∧ w0.heap.size ≤ br ∧ w0.heap.size ≤ bp
  h2 : t ≠ b ∧ t ≠ br ∧ t ≠ bp
theorem FillSt.whole {w0 w : World} {b br bp t : Nat} {r p : Int} {f : Nat → Nat → Int} {s : MS} (h : FillSt w0 w b br bp t r p f s 16 0) : QSt w0 w b br bp t r p f s 0 0 :=
  ⟨h.m, h.rel.whole, h.want, h.a, h.n, by have := h.sz; omega, h.g, h.h0, h.h1, h.h2⟩
theorem QSt.fine {w0 w : World} {b br bp t : Nat} {r p : Int} {f : Nat → Nat → Int} {s : MS} {A K : Int} (h : QSt w0 w b br bp t r p f s A K) (hA : 0 ≤ A ∧ A ≤ 1000) (hK : 0 ≤ K ∧ K ≤ 1000) : s.Fine := by
  have := h.a; have := h.n; have := h.sz
  exact ⟨by omega, by omega, by omega, by omega, by omega⟩
theorem QSt.asked {w0 w w' : World} {b br bp t : Nat} {r p : Int} {f : Nat → Nat → Int} {s s' : MS} {A K A' K' : Int} (h : QSt w0 w b br bp t r p f s A K) (hm : MemoAt w' b br bp s') (hr : RelW f s' r p) (hc : Chg (· = b) w w') (e1 : s'.asked = A') (e2 : s'.known = K') (e3 : s'.sz = s.sz) : QSt w0 w' b br bp t r p f s' A' K' := by
  obtain ⟨m, rel, want, a, n, sz, g, h0, h1, h2⟩ := h
  exact ⟨hm, hr, want.chg hc (by omega), e1, e2, by omega, g.trans (hc.mono (fun j _ e => by omega)), h0, h1, h2⟩


/-! ### A line of it is written over -/
def neg13 : Array Value := #[.int .i64 (-9), .int .i64 (-9), .int .i64 (-9), .int .i64 (-9), .int .i64 (-9), .int .i64 (-9), .int .i64 (-9), .int .i64 (-9), .int .i64 (-9), .int .i64 (-9), .int .i64 (-9), .int .i64 (-9), .int .i64 (-9)]
theorem neg13_build (w : World) : (Instr.build 58 #[(0, .int .i64 (-9)), (1, .int .i64 (-9)), (2, .int .i64 (-9)), (3, .int .i64 (-9)), (4, .int .i64 (-9)), (5, .int .i64 (-9)), (6, .int .i64 (-9)), (7, .int .i64 (-9)), (8, .int .i64 (-9)), (9, .int .i64 (-9)), (10, .int .i64 (-9)), (11, .int .i64 (-9)), (12, .int .i64 (-9))]).run Try.prog w = .ok (.agg neg13) w := by kernel_rfl
theorem neg13_at {j : Nat} (hj : j < neg13.toList.length) : neg13.toList[j] = .int .i64 (-9) := by
  have : neg13.toList = List.replicate 13 (.int .i64 (-9)) := rfl
  simp only [this, List.getElem_replicate]
theorem setCellsChg (b : Nat) : ∀ (vs : List Value) (o : Nat) (w : World), Chg (· = b) w (w.setCells b o vs)
  | [], _, w => Chg.refl _ w
  | v :: r, o, w => (setChg w b o v).trans (setCellsChg b r (o + 1) _)
theorem WantAt.there {w : World} {b : Nat} {f : Nat → Nat → Int} (h : WantAt w b f) {i : Nat} (hi : i < 16) : w.there b (i * 13) 13 := fun k hk => ⟨by rw [h.c i k hi hk]; rfl, h.z _⟩
theorem WantAt.storeRow {w : World} {b : Nat} {f : Nat → Nat → Int} (h : WantAt w b f) {i : Nat} (hi : i < 16) :
    (Instr.storeAt 58 (.pointer (some ⟨b, i * 13, none⟩)) (.agg neg13)).run Try.prog w = .ok () (w.setCells b (i * 13) neg13.toList) :=
  run_storeAt_mid w b (i * 13) _ neg13 (h.there hi) (by kernel_rfl) (by kernel_rfl)
theorem WantAt.row {w : World} {b : Nat} {f : Nat → Nat → Int} (h : WantAt w b f) {i : Nat} (hi : i < 16) : WantAt (w.setCells b (i * 13) neg13.toList) b (fun a k => if a = i then -9 else f a k) := by
  refine ⟨fun a k ha hk => ?_, fun j => (World.frozen?_setCells _ _ _ _ _).trans (h.z j)⟩
  by_cases he : a = i
  · subst he
    rw [if_pos rfl]
    have hk' : k < neg13.toList.length := hk
    exact (World.cell?_setCells_in b neg13.toList (a * 13) w (fun j hj => (h.there hi j hj).1) k hk').trans (congrArg some (neg13_at hk'))
  · rw [if_neg he, World.cell?_setCells_out b neg13.toList (i * 13) w ⟨b, a * 13 + k, none⟩ (fun _ _ => by show a * 13 + k < i * 13 ∨ i * 13 + 13 ≤ a * 13 + k; omega)]
    exact h.c a k ha hk

/-- The store of a line, at the operation. -/
theorem wpList_neg13 {ops : Array Oper} {rest : List Oper} {op : Oper} {a : Act} {w : World} {Q : Exit → Act → World → Prop} (hgd : op.guard = none) (x y : Operand) (ho : op.op = .store 58 x y)
    (b j : Nat) (hx : a.eval x = .pointer (some ⟨b, j * 13, none⟩)) (hy : a.eval y = .agg neg13) (ht : w.there b (j * 13) 13)
    (h : ∀ w', Hid (w' = w.setCells b (j * 13) neg13.toList) → wpList Try.prog ops Q rest (a.put op.dst undef) w') : wpList Try.prog ops Q (op :: rest) a w :=
  wpList_store_mid hgd _ x y ho b (j * 13) neg13 hx hy ht (by kernel_rfl) (by kernel_rfl) (h _ (Lib.hid rfl))

/-- Lines ahead of j are written over. -/
structure LineSt (w0 w : World) (b br bp t : Nat) (f : Nat → Nat → Int) (s : MS) (j : Nat) : Prop where
  m : MemoAt w b br bp s
  want : WantAt w t f
  done : ∀ i k, i < j → f i k = -9
  g : Chg (fun j => w0.heap.size ≤ j) w0 w
  h0 : w0.heap.size ≤ t
  h1 : w0.heap.size ≤ b ∧ w0.heap.size ≤ br ∧ w0.heap.size ≤ bp
  h2 : t ≠ b ∧ t ≠ br ∧ t ≠ bp
theorem QSt.cleared {w0 w w' : World} {b br bp t : Nat} {r p : Int} {f : Nat → Nat → Int} {s : MS} {A K : Int} (h : QSt w0 w b br bp t r p f s A K) (hm : MemoAt w' b br bp s.cleared) (hc : Chg (fun k => k = b ∨ k = br ∨ k = bp) w w') : LineSt w0 w' b br bp t f s.cleared 0 :=
  ⟨hm, h.want.chg hc (by have := h.h2; omega), fun _ _ h => absurd h (Nat.not_lt_zero _), h.g.trans (hc.mono (fun j _ e => by have := h.h1; omega)), h.h0, h.h1, h.h2⟩
theorem LineSt.step {w0 w : World} {b br bp t : Nat} {f : Nat → Nat → Int} {s : MS} {j : Nat} (h : LineSt w0 w b br bp t f s j) (hj : j < 16) : LineSt w0 (w.setCells t (j * 13) neg13.toList) b br bp t (fun a k => if a = j then -9 else f a k) s (j + 1) := by
  have hc := setCellsChg t neg13.toList (j * 13) w
  refine ⟨h.m.chg hc (fun e => h.h2.1 e.symm) (fun e => h.h2.2.1 e.symm) (fun e => h.h2.2.2 e.symm), h.want.row hj, fun i k hi => ?_, h.g.trans (hc.mono (fun k _ e => by have := h.h0; omega)), h.h0, h.h1, h.h2⟩
  by_cases he : i = j
  · rw [if_pos he]
  · rw [if_neg he]; exact h.done i k (by omega)
theorem LineSt.whole {w0 w : World} {b br bp t : Nat} {r p : Int} {f f' : Nat → Nat → Int} {s : MS} (h : LineSt w0 w b br bp t f s.cleared 16) (hr : RelW f' s r p) : QSt w0 w b br bp t r p f s.cleared 0 0 :=
  ⟨h.m, hr.clear.congr (fun i k hi _ => h.done i k hi), h.want, rfl, rfl, Nat.zero_le _, h.g, h.h0, h.h1, h.h2⟩
end Go.Proofs.Ytoicneeecokglaa
