/- Twins of lists: a list of lists of one's own. -/
import Derived.Test.YtkfakkonlnjckaaRefMake
import Derived.Test.YtkfakkonlnjckaaWrapsI
namespace Go.Proofs.Ytkfakkonlnjckaa
open Go.RowKit

/-- Where the twins lie. -/
def twinX (LL : List (List Int)) (H : List Nat) : List Sl := List.zipWith (fun h (l : List Int) => ((some ⟨h, 0, none⟩ : Option Addr), l.length, l.length + 2)) H LL
theorem twinX_get {LL : List (List Int)} {H : List Nat} {j h : Nat} {l : List Int} (h1 : H[j]? = some h) (h2 : LL[j]? = some l) : (twinX LL H)[j]? = some (some ⟨h, 0, none⟩, l.length, l.length + 2) := by
  unfold twinX
  rw [List.getElem?_zipWith, h1, h2]
theorem twinX_snoc {LL : List (List Int)} {H : List Nat} {l : List Int} (hl : LL[H.length]? = some l) (h : Nat) : twinX LL (H ++ [h]) = twinX LL H ++ [(some ⟨h, 0, none⟩, l.length, l.length + 2)] := by
  have h1 := (List.getElem?_eq_some_iff.1 hl).1
  unfold twinX
  have e : LL = LL.take H.length ++ LL.drop H.length := (List.take_append_drop _ LL).symm
  rw [List.drop_eq_getElem_cons h1, (List.getElem?_eq_some_iff.1 hl).2] at e
  have key : ∀ (H : List Nat) (A C : List (List Int)), A.length = H.length → List.zipWith (fun h (l : List Int) => ((some ⟨h, 0, none⟩ : Option Addr), l.length, l.length + 2)) H (A ++ C) = List.zipWith (fun h (l : List Int) => ((some ⟨h, 0, none⟩ : Option Addr), l.length, l.length + 2)) H A := by
    intro H
    induction H with
    | nil => intro A C _; simp
    | cons x H ih =>
      intro A C hA
      cases A with
      | nil => simp at hA
      | cons a A => simp only [List.cons_append, List.zipWith_cons_cons, ih A C (by simpa using hA)]
  have hA : (LL.take H.length).length = H.length := by rw [List.length_take]; omega
  rw [e, List.zipWith_append (by rw [hA]), key H _ _ hA]
  simp
/-- The state of the loop. -/
structure TwinSt (w0 w : World) (v : Value) (LL : List (List Int)) (H : List Nat) : Prop where
  own : listE.Own w w0.heap.size v (twinX LL H)
  le : H.length ≤ LL.length
  row : ∀ (j h : Nat) (l : List Int), H[j]? = some h → LL[j]? = some l → I.Row w h (l ++ [-77, -77])
  nodup : H.Nodup
  out : ∀ h ∈ H, w0.heap.size ≤ h ∧ h < w.heap.size ∧ v.ownBlock ≠ some h
  chg : Chg (fun k => w0.heap.size ≤ k) w0 w
theorem TwinSt.add {w0 w w1 w2 : World} {v v' : Value} {LL : List (List Int)} {H : List Nat} {h : Nat} {l : List Int} (s : TwinSt w0 w v LL H) (hl : LL[H.length]? = some l) (hw : w.heap.size ≤ h) (hr : I.Row w1 h (l ++ [-77, -77])) (hc : Chg (fun _ => False) w w1)
    (ho : listE.Own w2 w0.heap.size v' (twinX LL H ++ [(some ⟨h, 0, none⟩, l.length, l.length + 2)])) (hc2 : Chg (fun k => v.ownBlock = some k) w1 w2) (hb : v'.ownBlock = v.ownBlock ∨ ∃ g, v'.ownBlock = some g ∧ w1.heap.size ≤ g) : TwinSt w0 w2 v' LL (H ++ [h]) := by
  have hlt := (List.getElem?_eq_some_iff.1 hl).1
  have h0 := s.chg.size
  have hvh : v.ownBlock ≠ some h := fun e => by have := (s.own.blk e).2; omega
  have hne : ∀ x, x < w1.heap.size → v.ownBlock ≠ some x → v'.ownBlock ≠ some x := fun x hx h1 e => by
    rcases hb with hb | ⟨g, hb, hg⟩
    · rw [hb] at e; exact h1 e
    · rw [hb] at e; injection e with e; omega
  refine ⟨by rw [twinX_snoc hl]; exact ho, by simp; omega, fun j x l' hj hl' => ?_, ?_, fun x hx => ?_, s.chg.trans ((hc.any (S := fun k => w0.heap.size ≤ k)).trans (hc2.mono (fun k _ e => (s.own.blk e).1)))⟩
  · by_cases hjl : j < H.length
    · rw [List.getElem?_append_left hjl] at hj
      have := s.out x (List.mem_of_getElem? hj)
      exact ((s.row j x l' hj hl').chg hc (fun h => h)).chg hc2 this.2.2
    · have hj' := (List.getElem?_eq_some_iff.1 hj).1
      simp at hj'
      obtain rfl : j = H.length := by omega
      simp at hj
      subst hj
      rw [hl] at hl'
      obtain rfl := Option.some.inj hl'
      exact hr.chg hc2 hvh
  · rw [List.nodup_append]
    refine ⟨s.nodup, by simp, fun a ha b hb e => ?_⟩
    simp at hb
    subst hb
    have := (s.out a ha).2.1
    omega
  · rcases List.mem_append.1 hx with hx | hx
    · obtain ⟨q1, q2, q3⟩ := s.out x hx
      have := hc.size
      have := hc2.size
      exact ⟨q1, by omega, hne x (by omega) q3⟩
    · rw [List.mem_singleton] at hx
      subst hx
      have := hr.lt
      have := hc2.size
      exact ⟨by omega, by omega, hne x (by omega) hvh⟩
/-- They lie as lists of ints. -/
theorem TwinSt.lists {w0 w : World} {a : Option Addr} {n c : Nat} {LL : List (List Int)} {H : List Nat} (s : TwinSt w0 w (.slice a n c) LL H) (hH : H.length = LL.length) : n = LL.length ∧ n ≤ c ∧ ListsIn w w0.heap.size (a, LL.length, c) LL := by
  have hx : (twinX LL H).length = LL.length := by unfold twinX; rw [List.length_zipWith]; omega
  have hn : n = (twinX LL H).length ∧ n ≤ c := by
    rcases s.own with ⟨h1, h2⟩ | ⟨g, C, h1, h2, h3, h4, h5⟩
    · injection h1 with e1 e2 e3
      rw [h2]; subst e2 e3; exact ⟨rfl, Nat.le_refl _⟩
    · injection h1 with e1 e2 e3
      have := h4.length_le
      omega
  have hnl : n = LL.length := by omega
  subst hnl
  refine ⟨rfl, hn.2, twinX LL H, s.own.in' hn.2, hx, fun j x l hj hl => ?_⟩
  obtain ⟨h, hh⟩ : ∃ h, H[j]? = some h := ⟨_, List.getElem?_eq_getElem (by have := (List.getElem?_eq_some_iff.1 hl).1; omega)⟩
  rw [twinX_get hh hl] at hj
  obtain rfl := Option.some.inj hj
  refine ⟨rfl, by show l.length ≤ l.length + 2; omega, h, 0, intAt.2 ((s.row j h l hh hl).bytes (List.prefix_append _ _)), fun _ => ⟨rfl, (s.out h (List.mem_of_getElem? hh)).1⟩⟩
end Go.Proofs.Ytkfakkonlnjckaa
