/- The pages of twins; how many bytes a made table has. -/
import Derived.Test.YtkfakkonlnjckaaMakeA
import Derived.Test.YtkfakkonlnjckaaMakeT
import Derived.Test.YtkfakkonlnjckaaGreat
import Derived.Test.YtkfakkonlnjckaaBookM
import Derived.Test.YtkfakkonlnjckaaRowsQ
namespace Go.Proofs.Ytkfakkonlnjckaa
open Go.RowKit

theorem cellsPut_length : ∀ (cs : List (Int × Int)) (k : Int), (cellsPut k cs).length = 2 * cs.length
  | [], _ => rfl
  | c :: cs, k => by simp only [cellsPut, List.length_cons, cellsPut_length cs]; omega
theorem rowPut_length (r : RowD) : (rowPut r).length = 2 * r.2.length + 2 := by
  simp only [rowPut, List.length_cons, cellsPut_length]
theorem makeL_nums (LL : List (List Int)) : ((makeL LL).1.flatMap rowPut).length ≤ 2 * sumL LL := by
  have key : ∀ (LL : List (List Int)) (t : List RowD × List Int), ((LL.foldl (fun t l => addL t (rowL l)) t).1.flatMap rowPut).length ≤ (t.1.flatMap rowPut).length + 2 * sumL LL := by
    intro LL
    induction LL with
    | nil => intro t; simp
    | cons l LL ih =>
      intro t
      refine Nat.le_trans (ih _) ?_
      have h1 : ((addL t (rowL l)).1.flatMap rowPut).length ≤ (t.1.flatMap rowPut).length + (2 * l.length + 2) := by
        unfold addL
        split
        · show (t.1.flatMap rowPut).length ≤ _
          omega
        · show ((t.1 ++ [rowL l]).flatMap rowPut).length ≤ _
          have := cellsFrom_le (usualL l) l 0
          simp only [List.flatMap_append, List.flatMap_cons, List.flatMap_nil, List.append_nil, List.length_append, rowPut_length, rowL]
          omega
      simp only [sumL, List.map_cons, List.sum_cons, List.length_cons] at *
      omega
  have := key LL ([], [])
  simpa [makeL] using this
theorem mk_nums (W W' : Int) (LL : List (List Int)) : (tabNums (W', mkR W LL, mkO W LL)).length ≤ 3 * sumL LL + 3 := by
  unfold mkR mkO
  have h1 := makeL_nums LL
  have h2 := (makeL_len LL).2
  have h3 : LL.length ≤ sumL LL := by unfold sumL; omega
  split
  · simp only [tabNums, List.length_cons, List.length_append]; omega
  · simp [tabNums]

theorem bytesNil (w : World) (g o : Nat) : BytesAt w g o [] := ⟨fun k a hk => by simp at hk, fun h => absurd rfl h⟩
theorem Own.at {w : World} {B : Nat} {v : Value} {X : List Int} (h : Own w B v X) : ∃ a g c, v = .slice a X.length c ∧ BytesAt w g 0 X ∧ (0 < X.length → a = Option.some ⟨g, 0, none⟩) := by
  rcases h with ⟨rfl, rfl⟩ | ⟨g, C, rfl, _, h2, h3, _⟩
  · exact ⟨none, 0, 0, rfl, bytesNil _ _ _, fun h => absurd h (by simp)⟩
  · exact ⟨_, g, _, rfl, h2.bytes h3, fun _ => rfl⟩

theorem OfIn.at {w : World} {B : Nat} {a : Option Addr} {O : List Int} (h : OfIn w B a O) : ∃ g, I.BytesAt w g 0 O ∧ (0 < O.length → a = some ⟨g, 0, none⟩) := by
  rcases h with ⟨rfl, rfl⟩ | ⟨g, rfl, h2, _⟩
  · exact ⟨0, ⟨fun k a hk => by simp at hk, fun h => absurd rfl h⟩, fun h => absurd h (by simp)⟩
  · exact ⟨g, h2.bytes (List.prefix_refl _), fun _ => rfl⟩

/-- The page of a twin; of the list of the table. -/
def twinPg (n h : Nat) (l : List Int) : I.Pg := ⟨some h, l.length, l.length + 2, n, -(n : Int)⟩
def ofPg (a : Option Addr) (O : List Int) : I.Pg := ⟨a.map (·.block), O.length, O.length, 2, -2⟩
theorem ofPg_v {w : World} {B : Nat} {a : Option Addr} {O : List Int} (h : OfIn w B a O) : (ofPg a O).v = .slice a O.length O.length := by
  rcases h with ⟨rfl, rfl⟩ | ⟨g, rfl, _⟩ <;> rfl
def putPg (h n : Nat) : Pg := ⟨some h, n, n, 1, bits BinOp.xor IntKind.u8 1 128⟩
theorem putPg_st {w : World} {h n : Nat} {C : List Int} (hr : Row w h C) (hn : C.length = n) (hm : n ≤ 1000000000000) : (Page.b (putPg h n)).St w 0 :=
  ⟨Nat.le_refl _, (fun e => by cases e), hm, ⟨by show (0 : Int) ≤ 1; omega, by show (1 : Int) ≤ 255; omega⟩, ⟨by show (0 : Int) ≤ bits BinOp.xor IntKind.u8 1 128; decide, by show bits BinOp.xor IntKind.u8 1 128 ≤ (255 : Int); decide⟩, fun g hg => by
    obtain rfl : h = g := by injection hg
    exact ⟨C, hr, hn, (fun h => by omega), (fun h => by omega)⟩⟩
theorem ofPg_st {w : World} {B : Nat} {a : Option Addr} {O : List Int} (h : OfIn w B a O) (hm : O.length ≤ 1000000000000) : (Page.i (ofPg a O)).St w 0 :=
  ⟨Nat.le_refl _, (fun e => by
    rcases h with ⟨rfl, rfl⟩ | ⟨g, rfl, _⟩
    · rfl
    · cases e), hm, by simp only [ofPg, I.Byte]; omega, by simp only [ofPg, I.Byte]; omega, fun g hg => by
    rcases h with ⟨rfl, rfl⟩ | ⟨g', rfl, hr, _⟩
    · cases hg
    · obtain rfl : g' = g := by injection hg
      exact ⟨O, hr, rfl, (fun h => by omega), (fun h => by omega)⟩⟩
theorem twinPg_st {w : World} {n h : Nat} {l : List Int} (hr : I.Row w h (l ++ [-77, -77])) (hm : l.length ≤ 100000000000) (hn : n ≤ 1000000000) : (Page.i (twinPg n h l)).St w 0 :=
  ⟨by show l.length ≤ l.length + 2; omega, (fun e => by cases e), by show l.length + 2 ≤ _; omega, by simp only [twinPg, I.Byte]; omega, by simp only [twinPg, I.Byte]; omega, fun g hg => by
    obtain rfl : h = g := by injection hg
    exact ⟨_, hr, by simp [twinPg], (fun h => by omega), (fun h => by omega)⟩⟩
/-- Two pages and those of k twins. -/
structure PagesOf (P0 P1 : Page) (H : List Nat) (LL : List (List Int)) (k : Nat) (L : List Page) : Prop where
  len : L.length = k + 2
  p0 : L[0]? = some P0
  p1 : L[1]? = some P1
  rest : ∀ (j : Nat) (p : Page), L[j + 2]? = some p → ∃ h l, H[j]? = some h ∧ LL[j]? = some l ∧ p = .i (twinPg (j + 3) h l)
theorem PagesOf.start (P0 P1 : Page) (H : List Nat) (LL : List (List Int)) : PagesOf P0 P1 H LL 0 ([] ++ [P0] ++ [P1]) := ⟨rfl, rfl, rfl, fun j p h => by simp at h⟩
theorem PagesOf.add {P0 P1 : Page} {H : List Nat} {LL : List (List Int)} {k h : Nat} {L : List Page} {l : List Int} (s : PagesOf P0 P1 H LL k L) (h1 : H[k]? = some h) (h2 : LL[k]? = some l) : PagesOf P0 P1 H LL (k + 1) (L ++ [.i (twinPg (k + 3) h l)]) := by
  have hl := s.len
  refine ⟨by simp; omega, by rw [List.getElem?_append_left (by omega)]; exact s.p0, by rw [List.getElem?_append_left (by omega)]; exact s.p1, fun j p hp => ?_⟩
  by_cases hj : j < k
  · rw [List.getElem?_append_left (by omega)] at hp
    exact s.rest j p hp
  · have := (List.getElem?_eq_some_iff.1 hp).1
    simp at this
    obtain rfl : j = k := by omega
    rw [List.getElem?_append_right (by omega), show j + 2 - L.length = 0 by omega] at hp
    simp at hp
    exact ⟨h, l, h1, h2, hp.symm⟩
theorem PagesOf.cases {P0 P1 : Page} {H : List Nat} {LL : List (List Int)} {k : Nat} {L : List Page} (s : PagesOf P0 P1 H LL k L) {j : Nat} {p : Page} (h : L[j]? = some p) : (j = 0 ∧ p = P0) ∨ (j = 1 ∧ p = P1) ∨ ∃ i h l, j = i + 2 ∧ H[i]? = some h ∧ LL[i]? = some l ∧ p = .i (twinPg (i + 3) h l) := by
  match j, h with
  | 0, h => rw [s.p0] at h; exact .inl ⟨rfl, (Option.some.inj h).symm⟩
  | 1, h => rw [s.p1] at h; exact .inr (.inl ⟨rfl, (Option.some.inj h).symm⟩)
  | i + 2, h => obtain ⟨a, b, h1, h2, h3⟩ := s.rest i p h; exact .inr (.inr ⟨i, a, b, rfl, h1, h2, h3⟩)
theorem PagesOf.apart {P0 P1 : Page} {H : List Nat} {LL : List (List Int)} {k : Nat} {L : List Page} (s : PagesOf P0 P1 H LL k L) (hn : H.Nodup) (h01 : ∀ g, P0.g = some g → P1.g ≠ some g) (h0 : ∀ g, P0.g = some g → g ∉ H) (h1 : ∀ g, P1.g = some g → g ∉ H) : ApartL L := by
  intro i j p q hp hq hij g hg hq'
  rcases s.cases hp with ⟨rfl, rfl⟩ | ⟨rfl, rfl⟩ | ⟨i', a, l, rfl, ha, -, rfl⟩ <;> rcases s.cases hq with ⟨rfl, rfl⟩ | ⟨rfl, rfl⟩ | ⟨j', b, l', rfl, hb, -, rfl⟩
  · exact hij rfl
  · exact h01 g hg hq'
  · injection hq' with hq'; subst hq'; exact h0 _ hg (List.mem_of_getElem? hb)
  · exact h01 g hq' hg
  · exact hij rfl
  · injection hq' with hq'; subst hq'; exact h1 _ hg (List.mem_of_getElem? hb)
  · injection hg with hg; subst hg; exact h0 _ hq' (List.mem_of_getElem? ha)
  · injection hg with hg; subst hg; exact h1 _ hq' (List.mem_of_getElem? ha)
  · injection hg with hg; subst hg
    injection hq' with hq'; subst hq'
    have h1 := List.getElem?_eq_some_iff.1 ha
    exact hij (by rw [(List.getElem?_inj h1.1 hn).1 (ha.trans hb.symm)])
theorem PagesOf.pages {w : World} {P0 P1 : Page} {H : List Nat} {LL : List (List Int)} {k : Nat} {L : List Page} (s : PagesOf P0 P1 H LL k L) (h0 : P0.St w 0) (h1 : P1.St w 0) (hr : ∀ (j h : Nat) (l : List Int), H[j]? = some h → LL[j]? = some l → I.Row w h (l ++ [-77, -77])) (hl : ∀ l ∈ LL, l.length ≤ 100000000000) (hLL : LL.length ≤ 100000000) : Pages w L 0 0 := by
  intro j p hp
  rw [if_neg (by omega)]
  rcases s.cases hp with ⟨rfl, rfl⟩ | ⟨rfl, rfl⟩ | ⟨i, a, l, rfl, ha, hl', rfl⟩
  · exact h0
  · exact h1
  · have := (List.getElem?_eq_some_iff.1 hl').1
    exact twinPg_st (hr i a l ha hl') (hl l (List.mem_of_getElem? hl')) (by omega)
theorem PagesOf.blocks {P0 P1 : Page} {H : List Nat} {LL : List (List Int)} {k : Nat} {L : List Page} (s : PagesOf P0 P1 H LL k L) (S : Nat → Prop) (h0 : ∀ g, P0.g = some g → S g) (h1 : ∀ g, P1.g = some g → S g) (hh : ∀ h ∈ H, S h) : ∀ p ∈ L, ∀ g, p.g = some g → S g := by
  intro p hp g hg
  obtain ⟨j, hj⟩ := List.getElem?_of_mem hp
  rcases s.cases hj with ⟨rfl, rfl⟩ | ⟨rfl, rfl⟩ | ⟨i, a, l, rfl, ha, hl', rfl⟩
  · exact h0 g hg
  · exact h1 g hg
  · injection hg with hg; subst hg; exact hh _ (List.mem_of_getElem? ha)
/-- What stands at k of the twins. -/
theorem TwinSt.get {w0 w : World} {a : Option Addr} {n c : Nat} {LL : List (List Int)} {H : List Nat} (s : TwinSt w0 w (.slice a n c) LL H) (hH : H.length = LL.length) {k : Nat} (hk : k < LL.length) :
    ∃ (l : List Int) (h g o : Nat), LL[k]? = some l ∧ H[k]? = some h ∧ a = some ⟨g, o, none⟩ ∧ w.cell? ⟨g, o + k, none⟩ = some (.slice (some ⟨h, 0, none⟩) l.length (l.length + 2)) ∧ I.Row w h (l ++ [-77, -77]) := by
  obtain ⟨h1, h2, h3⟩ := s.lists hH
  have hx : (twinX LL H).length = LL.length := by unfold twinX; rw [List.length_zipWith]; omega
  have hl : LL[k]? = some LL[k] := List.getElem?_eq_getElem hk
  have hh : H[k]? = some (H[k]'(by omega)) := List.getElem?_eq_getElem (by omega)
  obtain ⟨q1, q2, g, o, q3, q4⟩ := s.own.in' h2
  have hg := twinX_get hh hl
  have hc := q3.get hg (i := 0) (u := slV (some ⟨H[k]'(by omega), 0, none⟩, LL[k].length, LL[k].length + 2)) rfl
  rw [Nat.add_zero, show listE.sz = 1 from rfl, Nat.mul_one] at hc
  exact ⟨LL[k], H[k]'(by omega), g, o, hl, hh, (q4 (by omega)).1, hc, s.row k _ _ hh hl⟩
end Go.Proofs.Ytkfakkonlnjckaa
