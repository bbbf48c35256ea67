/- The lists of RowsBack: a list of lists of one's own. -/
import Derived.Test.YtkfakkonlnjckaaBackL
import Derived.Test.YtkfakkonlnjckaaRefMake
import Derived.Test.YtkfakkonlnjckaaWrapsI
namespace Go.Proofs.Ytkfakkonlnjckaa
open Go.RowKit

/-- Where the twins lie. -/
def backX (wd : Nat) (LL : List (List Int)) (H : List Nat) : List Sl := List.zipWith (fun h (_ : List Int) => ((some ⟨h, 0, none⟩ : Option Addr), wd, wd)) H LL
theorem backX_get {wd : Nat} {LL : List (List Int)} {H : List Nat} {j h : Nat} {l : List Int} (h1 : H[j]? = some h) (h2 : LL[j]? = some l) : (backX wd LL H)[j]? = some (some ⟨h, 0, none⟩, wd, wd) := by
  unfold backX
  rw [List.getElem?_zipWith, h1, h2]
theorem backX_snoc {wd : Nat} {LL : List (List Int)} {H : List Nat} {l : List Int} (hl : LL[H.length]? = some l) (h : Nat) : backX wd LL (H ++ [h]) = backX wd LL H ++ [(some ⟨h, 0, none⟩, wd, wd)] := by
  have h1 := (List.getElem?_eq_some_iff.1 hl).1
  unfold backX
  have e : LL = LL.take H.length ++ LL.drop H.length := (List.take_append_drop _ LL).symm
  rw [List.drop_eq_getElem_cons h1, (List.getElem?_eq_some_iff.1 hl).2] at e
  have key : ∀ (H : List Nat) (A C : List (List Int)), A.length = H.length → List.zipWith (fun h (_ : List Int) => ((some ⟨h, 0, none⟩ : Option Addr), wd, wd)) H (A ++ C) = List.zipWith (fun h (_ : List Int) => ((some ⟨h, 0, none⟩ : Option Addr), wd, wd)) H A := by
    intro H
    induction H with
    | nil => intro A C _; simp
    | cons x H ih =>
      intro A C hA
      cases A with
      | nil => simp at hA
      | cons a A => simp only [List.cons_append, List.zipWith_cons_cons, ih A C (by simpa using hA)]
  have hA : (LL.take H.length).length = H.length := by rw [List.length_take]; omega
  rw [e, List.zipWith_append (by rw [hA]), key H _ _ hA]
  simp
/-- The state of the loop. -/
structure BackSt (wd : Nat) (w0 w : World) (v : Value) (LL : List (List Int)) (H : List Nat) : Prop where
  own : listE.Own w w0.heap.size v (backX wd LL H)
  le : H.length ≤ LL.length
  row : ∀ (j h : Nat) (l : List Int), H[j]? = some h → LL[j]? = some l → I.Row w h (backL wd l)
  nodup : H.Nodup
  out : ∀ h ∈ H, w0.heap.size ≤ h ∧ h < w.heap.size ∧ v.ownBlock ≠ some h
  chg : Chg (fun k => w0.heap.size ≤ k) w0 w
theorem BackSt.add {wd : Nat} {w0 w w1 w2 : World} {v v' : Value} {LL : List (List Int)} {H : List Nat} {h : Nat} {l : List Int} (s : BackSt wd w0 w v LL H) (hl : LL[H.length]? = some l) (hw : w.heap.size ≤ h) (hr : I.Row w1 h (backL wd l)) (hc : Chg (fun _ => False) w w1)
    (ho : listE.Own w2 w0.heap.size v' (backX wd LL H ++ [(some ⟨h, 0, none⟩, wd, wd)])) (hc2 : Chg (fun k => v.ownBlock = some k) w1 w2) (hb : v'.ownBlock = v.ownBlock ∨ ∃ g, v'.ownBlock = some g ∧ w1.heap.size ≤ g)   : BackSt wd w0 w2 v' LL (H ++ [h]) := by
  have hlt := (List.getElem?_eq_some_iff.1 hl).1
  have h0 := s.chg.size
  have hvh : v.ownBlock ≠ some h := fun e => by have := (s.own.blk e).2; omega
  have hne : ∀ x, x < w1.heap.size → v.ownBlock ≠ some x → v'.ownBlock ≠ some x := fun x hx h1 e => by
    rcases hb with hb | ⟨g, hb, hg⟩
    · rw [hb] at e; exact h1 e
    · rw [hb] at e; injection e with e; omega
  refine ⟨by rw [backX_snoc hl]; exact ho, by simp; omega, fun j x l' hj hl' => ?_, ?_, fun x hx => ?_, s.chg.trans ((hc.any (S := fun k => w0.heap.size ≤ k)).trans (hc2.mono (fun k _ e => (s.own.blk e).1)))⟩
  · by_cases hjl : j < H.length
    · rw [List.getElem?_append_left hjl] at hj
      have := s.out x (List.mem_of_getElem? hj)
      exact ((s.row j x l' hj hl').chg hc (fun h => h)).chg hc2 this.2.2
    · have hj' := (List.getElem?_eq_some_iff.1 hj).1
      simp at hj'
      obtain rfl : j = H.length := by omega
      simp at hj
      subst hj
      rw [hl] at hl'
      obtain rfl := Option.some.inj hl'
      exact hr.chg hc2 hvh
  · rw [List.nodup_append]
    refine ⟨s.nodup, by simp, fun a ha b hb e => ?_⟩
    simp at hb
    subst hb
    have := (s.out a ha).2.1
    omega
  · rcases List.mem_append.1 hx with hx | hx
    · obtain ⟨q1, q2, q3⟩ := s.out x hx
      have := hc.size
      have := hc2.size
      exact ⟨q1, by omega, hne x (by omega) q3⟩
    · rw [List.mem_singleton] at hx
      subst hx
      have := hr.lt
      have := hc2.size
      exact ⟨by omega, by omega, hne x (by omega) hvh⟩
/-- They lie as lists of ints. -/
theorem BackSt.lists {wd : Nat} {w0 w : World} {a : Option Addr} {n c : Nat} {LL : List (List Int)} {H : List Nat} (s : BackSt wd w0 w (.slice a n c) LL H) (hH : H.length = LL.length) : n = LL.length ∧ n ≤ c ∧ ListsIn w w0.heap.size (a, (LL.map (backL wd)).length, c) (LL.map (backL wd)) := by
  have hx : (backX wd LL H).length = LL.length := by unfold backX; rw [List.length_zipWith]; omega
  have hn : n = (backX wd LL H).length ∧ n ≤ c := by
    rcases s.own with ⟨h1, h2⟩ | ⟨g, C, h1, h2, h3, h4, h5⟩
    · injection h1 with e1 e2 e3
      rw [h2]; subst e2 e3; exact ⟨rfl, Nat.le_refl _⟩
    · injection h1 with e1 e2 e3
      have := h4.length_le
      omega
  have hnl : n = LL.length := by omega
  subst hnl
  rw [List.length_map]
  refine ⟨rfl, hn.2, backX wd LL H, s.own.in' hn.2, by rw [List.length_map]; exact hx, fun j x l' hj hl' => ?_⟩
  rw [List.getElem?_map] at hl'
  obtain ⟨l, hl, rfl⟩ := Option.map_eq_some_iff.1 hl'
  obtain ⟨h, hh⟩ : ∃ h, H[j]? = some h := ⟨_, List.getElem?_eq_getElem (by have := (List.getElem?_eq_some_iff.1 hl).1; omega)⟩
  rw [backX_get hh hl] at hj
  obtain rfl := Option.some.inj hj
  refine ⟨(backL_length wd l).symm, Nat.le_refl _, h, 0, intAt.2 ((s.row j h l hh hl).bytes (List.prefix_refl _)), fun _ => ⟨rfl, (s.out h (List.mem_of_getElem? hh)).1⟩⟩
/-- What stands at k of them. -/
theorem BackSt.get {wd : Nat} {w0 w : World} {a : Option Addr} {n c : Nat} {LL : List (List Int)} {H : List Nat} (s : BackSt wd w0 w (.slice a n c) LL H) (hH : H.length = LL.length) {k : Nat} (hk : k < LL.length) :
    ∃ (l : List Int) (h g o : Nat), LL[k]? = some l ∧ H[k]? = some h ∧ a = some ⟨g, o, none⟩ ∧ w.cell? ⟨g, o + k, none⟩ = some (.slice (some ⟨h, 0, none⟩) wd wd) ∧ I.Row w h (backL wd l) := by
  obtain ⟨h1, h2, -⟩ := s.lists hH
  have hx : (backX wd LL H).length = LL.length := by unfold backX; rw [List.length_zipWith]; omega
  have hl : LL[k]? = some LL[k] := List.getElem?_eq_getElem hk
  have hh : H[k]? = some (H[k]'(by omega)) := List.getElem?_eq_getElem (by omega)
  obtain ⟨q1, q2, g, o, q3, q4⟩ := s.own.in' h2
  have hg := backX_get (wd := wd) hh hl
  have hc := q3.get hg (i := 0) (u := slV (some ⟨H[k]'(by omega), 0, none⟩, wd, wd)) rfl
  rw [Nat.add_zero, show listE.sz = 1 from rfl, Nat.mul_one] at hc
  exact ⟨LL[k], H[k]'(by omega), g, o, hl, hh, (q4 (by omega)).1, hc, s.row k _ _ hh hl⟩
theorem rowSetI {w : World} {g k : Nat} {V : List Int} (h : I.Row w g V) (hk : k < V.length) {x : Int} (hx : I.Byte x) : I.Row (w.setCell ⟨g, k, none⟩ (.int .i64 x)) g (V.set k x) := by
  refine ⟨fun j a hj => ?_, fun j => (World.frozen?_setCell _ _ _ _).trans (h.z j), Nat.lt_of_lt_of_le h.lt (setCellChg _ _ _ _).size, fun a ha => ?_⟩
  · by_cases he : j = k
    · subst he
      rw [List.getElem?_set_self hk] at hj
      obtain rfl := Option.some.inj hj
      exact World.cell?_setCell_same _ _ _ (h.c j _ (List.getElem?_eq_getElem hk))
    · rw [List.getElem?_set_ne (Ne.symm he)] at hj
      rw [World.cell?_setCell_other _ _ _ _ (by intro e; injection e with _ e; exact he e.symm)]
      exact h.c j a hj
  · rcases List.mem_or_eq_of_mem_set ha with h1 | rfl
    · exact h.byte a h1
    · exact hx
/-- The list while it is filled. -/
def bfillL (wd : Nat) (l : List Int) (k : Nat) : List Int := (List.range wd).map (fun j => if j < k then backV l j else 0)
theorem bfillL_length (wd : Nat) (l : List Int) (k : Nat) : (bfillL wd l k).length = wd := by simp [bfillL]
theorem bfillL_start (wd : Nat) (l : List Int) : bfillL wd l 0 = List.replicate wd 0 := by
  unfold bfillL
  apply List.ext_getElem (by simp)
  intro i h1 h2
  simp
theorem bfillL_end (wd : Nat) (l : List Int) : bfillL wd l wd = backL wd l := by
  unfold bfillL backL
  apply List.map_congr_left
  intro j hj
  rw [if_pos (List.mem_range.1 hj)]
theorem bfillL_nil (wd k : Nat) : bfillL wd [] k = backL wd [] := by
  unfold bfillL backL
  apply List.map_congr_left
  intro j _
  simp [backV]
theorem bfillL_step {wd k : Nat} (l : List Int) : (bfillL wd l k).set k (backV l k) = bfillL wd l (k + 1) := by
  apply List.ext_getElem (by simp [bfillL])
  intro i h1 h2
  simp only [bfillL, List.length_map, List.length_range, List.length_set] at h1
  rw [List.getElem_set]
  simp only [bfillL, List.getElem_map, List.getElem_range]
  by_cases h : k = i
  · subst h; simp
  · rw [if_neg h]
    by_cases h3 : i < k
    · rw [if_pos h3, if_pos (by omega)]
    · rw [if_neg h3, if_neg (by omega)]
end Go.Proofs.Ytkfakkonlnjckaa
