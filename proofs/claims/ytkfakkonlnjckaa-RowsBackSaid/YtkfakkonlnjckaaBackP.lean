/- What is put is taken, from just these bytes; cut short it is none. -/
import Derived.Test.YtkfakkonlnjckaaTakeQ
namespace Go.Proofs.Ytkfakkonlnjckaa
open Go.RowKit

-- more bytes behind
theorem takeL_more : ∀ {X : List Int} {i acc : Nat} {r : Nat × Nat} (M : List Int), takeL i acc X = some r → takeL i acc (X ++ M) = some r
  | [], i, acc, r, M, h => by simp [takeL] at h
  | c :: l, i, acc, r, M, h => by
    rw [List.cons_append]
    unfold takeL at h ⊢
    split at h
    · cases h
    rename_i h1
    rw [if_neg h1]
    split at h
    · rename_i h2
      rw [if_pos h2]
      exact takeL_more M h
    · rename_i h2
      rw [if_neg h2]
      exact h
theorem numP_more {Z M : List Int} {m : Nat} {s : Rd} (hs : s.1 ≤ Z.length) (h : (numP Z m s).2.2 = false) : numP (Z ++ M) m s = numP Z m s := by
  rcases numP_spec Z m s with ⟨n, k, h0, h1, h2, h3, h4, e⟩ | e
  · have h5 := takeL_more M h0
    rw [e]
    unfold numP
    rw [List.drop_append_of_le_length hs, h5]
    simp only
    rw [if_pos h1]
  · rw [e] at h; cases h
theorem cellsP_more {Z M : List Int} {ms mv : Nat} : ∀ {k : Nat} {s : Rd} {x : Int} {acc : List (Int × Int)}, s.1 ≤ Z.length → (cellsP Z ms mv k s x acc).2.2 = false → cellsP (Z ++ M) ms mv k s x acc = cellsP Z ms mv k s x acc
  | 0, s, x, acc, _, h => rfl
  | k + 1, s, x, acc, hl, h => by
    have hs := cellsP_mono h
    rw [cellsP_step hs] at h ⊢
    have h3 := cellsP_mono h
    have l1 := (numP_le (m := ms) hl).1
    have e1 := numP_more (M := M) hl (numP_mono h3)
    have e2 := numP_more (M := M) l1 h3
    rw [cellsP_step hs, e1, e2]
    exact cellsP_more (numP_le l1).1 h
theorem cellsP_le' {Z : List Int} {ms mv : Nat} : ∀ {k : Nat} {s : Rd} {x : Int} {acc : List (Int × Int)}, s.1 ≤ Z.length → (cellsP Z ms mv k s x acc).2.1 ≤ Z.length
  | 0, s, x, acc, h => h
  | k + 1, s, x, acc, h => by
    cases hs : s.2 with
    | true => rw [cellsP_wrong (.inl hs)]; exact h
    | false => rw [cellsP_step hs]; exact cellsP_le' (numP_le (numP_le h).1).1
theorem rowP_le' {Z : List Int} {mw mv : Nat} {s : Rd} (h : s.1 ≤ Z.length) : (rowP Z mw mv s).2.1 ≤ Z.length := cellsP_le' (numP_le (numP_le h).1).1
theorem rowP_more {Z M : List Int} {mw mv : Nat} {s : Rd} (hl : s.1 ≤ Z.length) (h : (rowP Z mw mv s).2.2 = false) : rowP (Z ++ M) mw mv s = rowP Z mw mv s := by
  have h3 := cellsP_mono (show (cellsP Z mw mv (numP Z mw (numP Z mv s).2).1 (numP Z mw (numP Z mv s).2).2 0 []).2.2 = false from h)
  have l1 := (numP_le (m := mv) hl).1
  have e1 := numP_more (M := M) hl (numP_mono h3)
  have e2 := numP_more (M := M) l1 h3
  unfold rowP
  rw [e1, e2, cellsP_more (numP_le l1).1 h]
theorem rowsP_le' {Z : List Int} {mw mv : Nat} : ∀ {k : Nat} {s : Rd} {acc : List RowD}, s.1 ≤ Z.length → (rowsP Z mw mv k s acc).2.1 ≤ Z.length
  | 0, s, acc, h => h
  | k + 1, s, acc, h => by
    cases hs : s.2 with
    | true => rw [rowsP_wrong (.inl hs)]; exact h
    | false => rw [rowsP_step hs]; exact rowsP_le' (rowP_le' h)
theorem rowsP_more {Z M : List Int} {mw mv : Nat} : ∀ {k : Nat} {s : Rd} {acc : List RowD}, s.1 ≤ Z.length → (rowsP Z mw mv k s acc).2.2 = false → rowsP (Z ++ M) mw mv k s acc = rowsP Z mw mv k s acc
  | 0, s, acc, _, h => rfl
  | k + 1, s, acc, hl, h => by
    have hs := rowsP_mono h
    rw [rowsP_step hs] at h ⊢
    rw [rowsP_step hs, rowP_more hl (rowsP_mono h)]
    exact rowsP_more (rowP_le' hl) h
theorem ofP_le' {Z : List Int} {mm : Nat} : ∀ {k : Nat} {s : Rd} {acc : List Int}, s.1 ≤ Z.length → (ofP Z mm k s acc).2.1 ≤ Z.length
  | 0, s, acc, h => h
  | k + 1, s, acc, h => by
    cases hs : s.2 with
    | true => rw [ofP_wrong (.inl hs)]; exact h
    | false => rw [ofP_step hs]; exact ofP_le' (numP_le h).1
theorem ofP_more {Z M : List Int} {mm : Nat} : ∀ {k : Nat} {s : Rd} {acc : List Int}, s.1 ≤ Z.length → (ofP Z mm k s acc).2.2 = false → ofP (Z ++ M) mm k s acc = ofP Z mm k s acc
  | 0, s, acc, _, h => rfl
  | k + 1, s, acc, hl, h => by
    have hs := ofP_mono h
    rw [ofP_step hs] at h ⊢
    rw [ofP_step hs, numP_more hl (ofP_mono h)]
    exact ofP_more (numP_le hl).1 h
theorem takeP_more {Z M : List Int} {B : Most} (h : (takeP Z B).2.2 = false) : takeP (Z ++ M) B = takeP Z B ∧ (takeP Z B).2.1 ≤ Z.length := by
  have h5 : (ofP Z B.mm (numP Z B.mm (rowsP Z (B.mw (numP Z B.mm (0, false)).1) B.mv (numP Z B.mm (numP Z B.mm (0, false)).2).1 (numP Z B.mm (numP Z B.mm (0, false)).2).2 []).2).1 (numP Z B.mm (rowsP Z (B.mw (numP Z B.mm (0, false)).1) B.mv (numP Z B.mm (numP Z B.mm (0, false)).2).1 (numP Z B.mm (numP Z B.mm (0, false)).2).2 []).2).2 []).2.2 = false := h
  have h4 := ofP_mono h5
  have h3 := numP_mono h4
  have h2 := rowsP_mono h3
  have h1 := numP_mono h2
  have l1 := (numP_le (Z := Z) (m := B.mm) (s := (0, false)) (Nat.zero_le _)).1
  have l2 := (numP_le (m := B.mm) l1).1
  have l3 := rowsP_le' (mw := B.mw (numP Z B.mm (0, false)).1) (mv := B.mv) (k := (numP Z B.mm (numP Z B.mm (0, false)).2).1) (acc := []) l2
  have l4 := (numP_le (m := B.mm) l3).1
  have e1 := numP_more (M := M) (Nat.zero_le _) h1
  have e2 := numP_more (M := M) l1 h2
  have e3 := rowsP_more (M := M) l2 h3
  have e4 := numP_more (M := M) l3 h4
  have e5 := ofP_more (M := M) l4 h5
  refine ⟨?_, ofP_le' l4⟩
  unfold takeP
  simp only
  rw [e1, e2, e3, e4, e5]

-- numbers that were put
theorem numP_put {Z X R : List Int} {p m : Nat} {n : Int} {f : Bool} (h : Z.drop p = bytesOf (n :: X) ++ R) (h0 : 0 ≤ n) (h1 : n < 4294967296) (h2 : n ≤ m) :
    numP Z m (p, f) = (n.toNat, p + (putL n.toNat).length, f) ∧ Z.drop (p + (putL n.toNat).length) = bytesOf X ++ R := by
  have e : bytesOf (n :: X) = putL n.toNat ++ bytesOf X := rfl
  rw [e, List.append_assoc] at h
  constructor
  · unfold numP
    rw [h, takeL_whole (by omega)]
    simp only
    rw [if_pos (by omega)]
  · rw [← List.drop_drop, h, List.drop_left]
theorem bytesOf_cons (n : Int) (X : List Int) : (bytesOf (n :: X)).length = (putL n.toNat).length + (bytesOf X).length := by
  have e : bytesOf (n :: X) = putL n.toNat ++ bytesOf X := rfl
  rw [e, List.length_append]
theorem cellsP_put {Z X R : List Int} {W : Nat} {d : Int} (hW : W ≤ 65536) : ∀ (cs : List (Int × Int)) (p : Nat) (lf x : Int) (acc : List (Int × Int)), fineCells W d lf cs = true → x ≤ lf + 1 → 0 ≤ x → Z.drop p = bytesOf (cellsPut x cs ++ X) ++ R →
    cellsP Z W 16777216 cs.length (p, false) x acc = (acc ++ cs, p + (bytesOf (cellsPut x cs)).length, false) ∧ Z.drop (p + (bytesOf (cellsPut x cs)).length) = bytesOf X ++ R
  | [], p, lf, x, acc, _, _, _, h => ⟨by simp [cellsP, cellsPut, bytesOf], by simpa [cellsPut, bytesOf] using h⟩
  | c :: cs, p, lf, x, acc, hf, h1, h2, h => by
    simp only [fineCells, Bool.and_eq_true, decide_eq_true_eq] at hf
    obtain ⟨⟨⟨⟨g1, g2⟩, g3⟩, -⟩, g5⟩ := hf
    obtain ⟨c0, c1⟩ := c
    simp only at g1 g2 g3 g5
    have h' : Z.drop p = bytesOf ((c0 - x) :: ((c1 + 1) :: (cellsPut c0 cs ++ X))) ++ R := h
    obtain ⟨a1, a2⟩ := numP_put (m := W) (f := false) h' (by omega) (by omega) (by omega)
    obtain ⟨b1, b2⟩ := numP_put (m := 16777216) (f := false) a2 (by have := g3.1; omega) (by have := g3.2; omega) (by have := g3.2; omega)
    obtain ⟨e1, e2⟩ := cellsP_put hW cs _ c0 c0 (acc ++ [(c0, c1)]) g5 (by omega) (by omega) b2
    have hx : x + ((c0 - x).toNat : Int) = c0 := by omega
    have hv : (((c1 + 1).toNat : Nat) : Int) - 1 = c1 := by have := g3.1; omega
    have hlen : (bytesOf (cellsPut x ((c0, c1) :: cs))).length = (putL (c0 - x).toNat).length + ((putL (c1 + 1).toNat).length + (bytesOf (cellsPut c0 cs)).length) := by
      have e : cellsPut x ((c0, c1) :: cs) = (c0 - x) :: (c1 + 1) :: cellsPut c0 cs := rfl
      rw [e, bytesOf_cons, bytesOf_cons]
    refine ⟨?_, ?_⟩
    · rw [List.length_cons, cellsP_step rfl, a1, b1]
      simp only
      rw [hx, hv, e1, hlen, List.append_assoc]
      simp only [List.cons_append, List.nil_append, Nat.add_assoc]
    · rw [hlen, ← Nat.add_assoc, ← Nat.add_assoc]
      exact e2
theorem rowP_put {Z X R : List Int} {W p : Nat} {r : RowD} (hW : W ≤ 65536) (hf : fineL W r = true) (h : Z.drop p = bytesOf (rowPut r ++ X) ++ R) :
    rowP Z W 16777216 (p, false) = (r, p + (bytesOf (rowPut r)).length, false) ∧ Z.drop (p + (bytesOf (rowPut r)).length) = bytesOf X ++ R := by
  obtain ⟨h1, h2, h3⟩ := fine_bounds hW hf
  obtain ⟨d, cs⟩ := r
  simp only at h1 h2
  have h' : Z.drop p = bytesOf ((d + 1) :: ((cs.length : Int) :: (cellsPut 0 cs ++ X))) ++ R := h
  obtain ⟨a1, a2⟩ := numP_put (m := 16777216) (f := false) h' (by have := h1.1; omega) (by have := h1.2; omega) (by have := h1.2; omega)
  obtain ⟨b1, b2⟩ := numP_put (m := W) (f := false) a2 (by omega) (by omega) (by omega)
  have hlen : (bytesOf (rowPut (d, cs))).length = (putL (d + 1).toNat).length + ((putL cs.length).length + (bytesOf (cellsPut 0 cs)).length) := by
    have e : rowPut (d, cs) = (d + 1) :: (cs.length : Int) :: cellsPut 0 cs := rfl
    rw [e, bytesOf_cons, bytesOf_cons, Int.toNat_natCast]
  rw [Int.toNat_natCast] at b1 b2
  have hc : cellsP Z W 16777216 cs.length (p + (putL (d + 1).toNat).length + (putL cs.length).length, false) 0 [] = ([] ++ cs, p + (putL (d + 1).toNat).length + (putL cs.length).length + (bytesOf (cellsPut 0 cs)).length, false) ∧ Z.drop (p + (putL (d + 1).toNat).length + (putL cs.length).length + (bytesOf (cellsPut 0 cs)).length) = bytesOf X ++ R := by
    by_cases h0 : W = 0
    · subst h0
      simp only [fineL, if_true, Bool.and_eq_true, decide_eq_true_eq] at hf
      obtain ⟨-, rfl⟩ := hf
      exact ⟨by simp [cellsP, cellsPut, bytesOf], by simpa [cellsPut, bytesOf] using b2⟩
    · simp only [fineL, if_neg h0, Bool.and_eq_true, decide_eq_true_eq] at hf
      exact cellsP_put hW cs _ (-1) 0 [] hf.1.1.1 (by omega) (by omega) b2
  refine ⟨?_, ?_⟩
  · unfold rowP
    rw [a1]
    simp only
    rw [b1]
    simp only
    rw [hc.1, hlen]
    simp only [List.nil_append, Nat.add_assoc]
    have : (((d + 1).toNat : Nat) : Int) - 1 = d := by have := h1.1; omega
    rw [this]
  · rw [hlen, ← Nat.add_assoc, ← Nat.add_assoc]
    exact hc.2
theorem bytesOf_app (X Y : List Int) : (bytesOf (X ++ Y)).length = (bytesOf X).length + (bytesOf Y).length := by rw [bytesOf_append, List.length_append]
theorem rowsP_put {Z X R : List Int} {W : Nat} (hW : W ≤ 65536) : ∀ (rs : List RowD) (p : Nat) (acc : List RowD), (∀ r ∈ rs, fineL W r = true) → Z.drop p = bytesOf (rs.flatMap rowPut ++ X) ++ R →
    rowsP Z W 16777216 rs.length (p, false) acc = (acc ++ rs, p + (bytesOf (rs.flatMap rowPut)).length, false) ∧ Z.drop (p + (bytesOf (rs.flatMap rowPut)).length) = bytesOf X ++ R
  | [], p, acc, _, h => ⟨by simp [rowsP, bytesOf], by simpa [bytesOf] using h⟩
  | r :: rs, p, acc, hf, h => by
    have e : (r :: rs).flatMap rowPut = rowPut r ++ rs.flatMap rowPut := rfl
    rw [e] at h ⊢
    rw [List.append_assoc] at h
    obtain ⟨a1, a2⟩ := rowP_put hW (hf r (List.mem_cons_self)) h
    obtain ⟨e1, e2⟩ := rowsP_put hW rs _ (acc ++ [r]) (fun x hx => hf x (List.mem_cons_of_mem _ hx)) a2
    refine ⟨?_, ?_⟩
    · rw [List.length_cons, rowsP_step rfl, a1, e1, bytesOf_app, List.append_assoc, Nat.add_assoc]
      rfl
    · rw [bytesOf_app, ← Nat.add_assoc]
      exact e2
theorem ofP_put {Z R : List Int} : ∀ (os : List Int) (p : Nat) (acc : List Int), (∀ n ∈ os, 0 ≤ n ∧ n ≤ 65536) → Z.drop p = bytesOf os ++ R →
    ofP Z 65536 os.length (p, false) acc = (acc ++ os, p + (bytesOf os).length, false)
  | [], p, acc, _, h => by simp [ofP, bytesOf]
  | n :: os, p, acc, hf, h => by
    obtain ⟨h0, h1⟩ := hf n (List.mem_cons_self)
    obtain ⟨a1, a2⟩ := numP_put (m := 65536) (f := false) h h0 (by omega) (by omega)
    have e1 := ofP_put os _ (acc ++ [n]) (fun x hx => hf x (List.mem_cons_of_mem _ hx)) a2
    rw [List.length_cons, ofP_step rfl, a1]
    simp only
    rw [Int.toNat_of_nonneg h0, e1, bytesOf_cons, List.append_assoc, Nat.add_assoc]
    rfl
/-- What is put is taken, from just these bytes, whatever stands behind. -/
theorem take_put {W : Int} {R : List RowD} {O : List Int} (h : mayL (W, R, O) = true) (M : List Int) : takeP (putTab (W, R, O) ++ M) mostP = ((W, R, O), (putTab (W, R, O)).length, false) := by
  obtain ⟨⟨w0, w1, w2⟩, h2, h3, -⟩ := mayL_spec h
  have hle := (tabNums_ok h).2
  have hz : (putTab (W, R, O) ++ M).drop 0 = bytesOf (W :: ((R.length : Int) :: (R.flatMap rowPut ++ (O.length : Int) :: O))) ++ M := rfl
  obtain ⟨a1, a2⟩ := numP_put (m := 65536) (f := false) hz w0 (by omega) (by omega)
  obtain ⟨b1, b2⟩ := numP_put (m := 65536) (f := false) a2 (by omega) (by omega) (by omega)
  obtain ⟨c1, c2⟩ := rowsP_put (W := W.toNat) (by omega) R _ [] h3 b2
  obtain ⟨d1, d2⟩ := numP_put (m := 65536) (f := false) c2 (by omega) (by omega) (by omega)
  have e1 := ofP_put O _ [] (fun n hn => by have := nextL_mem O 0 R.length _ h2 n hn; omega) d2
  simp only [Int.toNat_natCast] at b1 c1 d1 e1
  have hlen : (putTab (W, R, O)).length = (putL W.toNat).length + ((putL R.length).length + ((bytesOf (R.flatMap rowPut)).length + ((putL O.length).length + (bytesOf O).length))) := by
    have e : putTab (W, R, O) = bytesOf (W :: ((R.length : Int) :: (R.flatMap rowPut ++ (O.length : Int) :: O))) := rfl
    rw [e, bytesOf_cons, bytesOf_cons, bytesOf_app, bytesOf_cons, Int.toNat_natCast, Int.toNat_natCast]
  unfold takeP
  simp only [mostP, id]
  rw [a1]
  simp only
  rw [b1]
  simp only
  rw [c1]
  simp only
  rw [d1]
  simp only
  rw [e1, hlen, Int.toNat_of_nonneg w0]
  simp only [List.nil_append, Nat.zero_add, Nat.add_assoc]
theorem takeOk_put {W : Int} {R : List RowD} {O : List Int} (h : mayL (W, R, O) = true) (M : List Int) : takeOk (putTab (W, R, O) ++ M) mostP = true := by
  unfold takeOk
  rw [take_put h M]
  simp [h]
/-- Cut short it is none. -/
theorem takeOk_cut {W : Int} {R : List RowD} {O : List Int} (h : mayL (W, R, O) = true) {i : Nat} (hi : i < (putTab (W, R, O)).length) : takeOk ((putTab (W, R, O)).take i) mostP = false := by
  cases hk : takeOk ((putTab (W, R, O)).take i) mostP with
  | false => rfl
  | true =>
    simp only [takeOk, Bool.and_eq_true, Bool.not_eq_true'] at hk
    obtain ⟨h1, h2⟩ := takeP_more (M := (putTab (W, R, O)).drop i) hk.1
    rw [List.take_append_drop] at h1
    have h3 := take_put h []
    rw [List.append_nil] at h3
    rw [← h1, h3] at h2
    simp only [List.length_take] at h2
    omega
end Go.Proofs.Ytkfakkonlnjckaa
