/- A table whose states are numbered otherwise, whose ranges are cut in two: plainly. A region that draws: a list made of three pieces, the second one built in the region at any time. 'MinsTurned': the walk. 'MinsTurned' for whatever table, states, range are handed in: true, and all reads as it did. No condition. -/
import Derived.Test.YtodohgckncnipaaGA4
import Derived.Test.YtodohgckncnipaaGA5
import Derived.Test.YtodohgckncnipaaGA7
import Derived.Test.YtodohgckncnipaaGB2
import Derived.SizedLaws
import Derived.WideKeyArr2
import Derived.OpenShut
import Derived.ShutString
import Derived.ChangeOld
import Derived.ProofKit
/- A table whose states are numbered otherwise, whose ranges are cut in two: plainly. -/
namespace Go.Proofs.Ytodohgckncnipaa
open Go.RowKit

def sgN (a b s : Nat) : Nat := if s = a then b else if s = b then a else s
def sgZ (a b : Nat) (x : Int) : Int := if x = a then (b : Int) else if x = b then (a : Int) else x
theorem sgN_lt {a b s n : Nat} (ha : a < n) (hb : b < n) (hs : s < n) : sgN a b s < n := by unfold sgN; split <;> (try split) <;> omega
theorem sgN_le {a b s n : Nat} (ha : a < n) (hb : b < n) (hs : s ≤ n) : sgN a b s ≤ n := by unfold sgN; split <;> (try split) <;> omega
theorem sgN_n {a b n : Nat} (ha : a < n) (hb : b < n) : sgN a b n = n := by unfold sgN; rw [if_neg (by omega), if_neg (by omega)]
theorem sgN_inv (a b s : Nat) : sgN a b (sgN a b s) = s := by
  unfold sgN
  by_cases h1 : s = a
  · rw [if_pos h1]
    by_cases h2 : b = a
    · rw [if_pos h2]; omega
    · rw [if_neg h2, if_pos rfl]; omega
  · rw [if_neg h1]
    by_cases h2 : s = b
    · rw [if_pos h2, if_pos rfl]; omega
    · rw [if_neg h2, if_neg h1, if_neg h2]
theorem sgZ_nat (a b s : Nat) : sgZ a b (s : Int) = (sgN a b s : Nat) := by
  unfold sgZ sgN
  by_cases h1 : s = a
  · rw [if_pos h1, if_pos (by omega)]
  · rw [if_neg h1, if_neg (by omega)]
    by_cases h2 : s = b
    · rw [if_pos h2, if_pos (by omega)]
    · rw [if_neg h2, if_neg (by omega)]
theorem sgZ_neg {a b : Nat} {x : Int} (h : x < 0) : sgZ a b x = x := by unfold sgZ; rw [if_neg (by omega), if_neg (by omega)]
def turnT (t : TabD) (a b : Nat) : TabD := ⟨t.r, t.c, (List.range t.n.length).map (fun s => (t.n.getD (sgN a b s) []).map (sgZ a b)), (List.range t.n.length).map (fun s => t.e.getD (sgN a b s) 0)⟩
section
variable {t : TabD} {a b : Nat}
theorem turn_nl : (turnT t a b).n.length = t.n.length := by simp [turnT]
theorem turn_row {s : Nat} (hs : s < t.n.length) : (turnT t a b).n.getD s [] = (t.n.getD (sgN a b s) []).map (sgZ a b) := by
  rw [List.getD_eq_getElem?_getD]
  simp [turnT, hs]
theorem turn_end {s : Nat} (hs : s < t.n.length) : (turnT t a b).e.getD s 0 = t.e.getD (sgN a b s) 0 := by
  rw [List.getD_eq_getElem?_getD]
  simp [turnT, hs]
theorem turn_may (ht : MayS t) (ha : a < t.n.length) (hb : b < t.n.length) : MayS (turnT t a b) := by
  refine ⟨ht.ap, ht.cl, by rw [turn_nl]; exact ht.nl, by simp [turnT], ht.cb, ht.fill, fun e he => ?_, fun l hl => ?_⟩
  · obtain ⟨s, hs, rfl⟩ := List.mem_map.1 he
    have hs := List.mem_range.1 hs
    exact ht.eb _ (getD_mem (by rw [ht.el]; exact sgN_lt ha hb hs))
  · obtain ⟨s, hs, rfl⟩ := List.mem_map.1 hl
    have hs := List.mem_range.1 hs
    obtain ⟨h1, h2⟩ := ht.row _ (getD_mem (z := []) (sgN_lt ha hb hs))
    refine ⟨by rw [List.length_map]; exact h1, fun x hx => ?_⟩
    obtain ⟨y, hy, rfl⟩ := List.mem_map.1 hx
    obtain ⟨k1, k2⟩ := h2 y hy
    rw [turn_nl]
    by_cases h0 : y < 0
    · rw [sgZ_neg h0]; exact ⟨k1, k2⟩
    · obtain ⟨n, rfl⟩ : ∃ n : Nat, y = n := ⟨y.toNat, by omega⟩
      rw [sgZ_nat]
      have := sgN_lt ha hb (s := n) (by omega)
      omega
theorem turn_go (ht : MayS t) (ha : a < t.n.length) (hb : b < t.n.length) {s : Nat} (hs : s < t.n.length) (c : Nat) : goN (turnT t a b) s c = sgN a b (goN t (sgN a b s) c) := by
  have hs' := sgN_lt ha hb hs
  have e : ((turnT t a b).n.getD s []).getD c (-1) = sgZ a b ((t.n.getD (sgN a b s) []).getD c (-1)) := by
    rw [turn_row hs]
    generalize t.n.getD (sgN a b s) [] = L
    rw [List.getD_eq_getElem?_getD, List.getD_eq_getElem?_getD, List.getElem?_map]
    cases L[c]? with
    | none => show (-1 : Int) = sgZ a b (-1); rw [sgZ_neg (by omega)]
    | some y => rfl
  have hy : (t.n.getD (sgN a b s) []).getD c (-1) < t.n.length := by
    rcases Nat.lt_or_ge c (t.n.getD (sgN a b s) []).length with h | h
    · exact ((ht.row _ (getD_mem (z := []) hs')).2 _ (getD_mem (z := -1) h)).2
    · rw [List.getD_eq_getElem?_getD, List.getElem?_eq_none h]; show (-1 : Int) < _; omega
  unfold goN
  rw [e, turn_nl]
  revert hy
  generalize (t.n.getD (sgN a b s) []).getD c (-1) = y
  intro hy
  by_cases h0 : 0 ≤ y
  · obtain ⟨n, rfl⟩ : ∃ n : Nat, y = n := ⟨y.toNat, by omega⟩
    rw [sgZ_nat, if_pos ⟨hs, by omega⟩, if_pos ⟨hs', by omega⟩, Int.toNat_natCast, Int.toNat_natCast]
  · rw [sgZ_neg (by omega), if_neg (fun h => h0 h.2), if_neg (fun h => h0 h.2), sgN_n ha hb]
theorem turn_st (ht : MayS t) (ha : a < t.n.length) (hb : b < t.n.length) {s : Nat} (hs : s ≤ t.n.length) (x : Int) : stN (turnT t a b) s x = sgN a b (stN t (sgN a b s) x) := by
  by_cases hs' : s < t.n.length
  · unfold stN
    show (if classL t.r x < 0 then (turnT t a b).n.length else goN (turnT t a b) s (t.c.getD (classL t.r x).toNat 0).toNat) = _
    rw [turn_nl, turn_go ht ha hb hs']
    split
    · rw [sgN_n ha hb]
    · rfl
  · obtain rfl : s = t.n.length := by omega
    rw [sgN_n ha hb, stN_none, sgN_n ha hb]
    have := stN_none (turnT t a b) x
    rw [turn_nl] at this
    exact this
theorem turn_does (ht : MayS t) (ha : a < t.n.length) (hb : b < t.n.length) : ∀ (l : List Int) (s : Nat), s ≤ t.n.length → doesN (turnT t a b) s l = doesN t (sgN a b s) l
  | [], s, hs => by
    show endN (turnT t a b) s = endN t (sgN a b s)
    unfold endN
    rw [turn_nl]
    by_cases hs' : s < t.n.length
    · rw [if_pos hs', if_pos (sgN_lt ha hb hs'), turn_end hs']
    · obtain rfl : s = t.n.length := by omega
      rw [sgN_n ha hb, if_neg hs', if_neg hs']
  | x :: l, s, hs => by
    rw [doesN, doesN, turn_st ht ha hb hs, turn_does ht ha hb l _ (sgN_le ha hb (stN_le ht _ x)), sgN_inv]
theorem turn_same (ht : MayS t) (ha : a < t.n.length) (hb : b < t.n.length) (h0 : sgN a b 0 = 0) : doesN (turnT t a b) 0 = doesN t 0 := by
  funext l
  rw [turn_does ht ha hb l 0 (by omega), h0]
end
theorem turn_take {t : TabD} {a b i : Nat} {l : List Int} (hs : i < t.n.length) (hl : t.n[sgN a b i]? = some l) : (turnT t a b).n.take (i + 1) = (turnT t a b).n.take i ++ [l.map (sgZ a b)] := by
  rw [List.take_add_one]
  have : (turnT t a b).n[i]? = some (l.map (sgZ a b)) := by
    simp only [turnT, List.getElem?_map, List.getElem?_range hs, Option.map_some, List.getD_eq_getElem?_getD, hl, Option.getD_some]
  rw [this]; rfl
theorem turn_etake {t : TabD} {a b i : Nat} {x : Int} (hs : i < t.n.length) (hx : t.e[sgN a b i]? = some x) : (turnT t a b).e.take (i + 1) = (turnT t a b).e.take i ++ [x] := by
  rw [List.take_add_one]
  have : (turnT t a b).e[i]? = some x := by
    simp only [turnT, List.getElem?_map, List.getElem?_range hs, Option.map_some, List.getD_eq_getElem?_getD, hx, Option.getD_some]
  rw [this]; rfl
theorem map_take1 {f : Int → Int} {l : List Int} {c : Nat} {x : Int} (h : l[c]? = some x) : (l.map f).take (c + 1) = (l.map f).take c ++ [f x] := by
  rw [List.take_add_one, List.getElem?_map, h]; rfl
theorem turn_el {t : TabD} {a b : Nat} : (turnT t a b).e.length = t.n.length := by simp [turnT]
/-- A range is cut in two. -/
def cutT (t : TabD) (k : Nat) (h : Int) : TabD := ⟨t.r.take k ++ [((t.r.getD k (0, 0)).1, h), (h + 1, (t.r.getD k (0, 0)).2)] ++ t.r.drop (k + 1), t.c.take k ++ [t.c.getD k 0, t.c.getD k 0] ++ t.c.drop (k + 1), t.n, t.e⟩
section
variable {t : TabD} {k : Nat} {h : Int}
theorem split_at {α : Type} {L : List α} {k : Nat} {x : α} (hx : L[k]? = some x) : L = L.take k ++ x :: L.drop (k + 1) := by
  obtain ⟨hk, rfl⟩ := List.getElem?_eq_some_iff.1 hx
  rw [← List.drop_eq_getElem_cons hk, List.take_append_drop]
theorem cut_mem {C : List Int} {k : Nat} {c : Int} (hc : C[k]? = some c) (x : Int) : x ∈ C.take k ++ [c, c] ++ C.drop (k + 1) ↔ x ∈ C := by
  conv => rhs; rw [split_at hc]
  simp only [List.mem_append, List.mem_cons, List.not_mem_nil, or_false]
  constructor
  · rintro ((h | h | h) | h)
    · exact .inl h
    · exact .inr (.inl h)
    · exact .inr (.inl h)
    · exact .inr (.inr h)
  · rintro (h | h | h)
    · exact .inl (.inl h)
    · exact .inl (.inr (.inl h))
    · exact .inr h
theorem cols_ext {C D : List Int} (h : ∀ x, x ∈ C ↔ x ∈ D) : colsL C = colsL D := by
  have h1 := colsL_le (C := C) (colsL_nonneg D) (fun c hc => colsL_mem ((h c).1 hc))
  have h2 := colsL_le (C := D) (colsL_nonneg C) (fun c hc => colsL_mem ((h c).2 hc))
  omega
theorem fill_ext {C D : List Int} (h : ∀ x, x ∈ C ↔ x ∈ D) : fillB C = fillB D := by
  unfold fillB
  rw [cols_ext h]
  have : (fun c : Nat => C.contains (c : Int)) = fun c : Nat => D.contains (c : Int) := by
    funext c
    rw [Bool.eq_iff_iff, List.contains_iff_mem, List.contains_iff_mem]
    exact h _
  rw [this]
theorem cut_asc (ht : MayS t) (hk : k < t.r.length) (h1 : (t.r.getD k (0, 0)).1 ≤ h) (h2 : h < (t.r.getD k (0, 0)).2) : Asc (cutT t k h).r := by
  obtain ⟨p, hp⟩ : ∃ p, t.r[k]? = some p := ⟨_, List.getElem?_eq_getElem hk⟩
  have hg : t.r.getD k (0, 0) = p := by rw [List.getD_eq_getElem?_getD, hp]; rfl
  have ha := apartB_iff.1 ht.ap
  rw [hg] at h1 h2
  unfold cutT
  simp only [hg]
  obtain ⟨a1, a2⟩ := ha
  rw [split_at hp] at a1 a2
  rw [List.pairwise_append, List.pairwise_cons] at a2
  obtain ⟨b1, ⟨b2, b3⟩, b4⟩ := a2
  refine ⟨fun q hq => ?_, ?_⟩
  · simp only [List.mem_append, List.mem_cons, List.not_mem_nil, or_false] at hq
    rcases hq with (hq | rfl | rfl) | hq
    · exact a1 q (by simp [hq])
    · exact h1
    · show h + 1 ≤ p.2; omega
    · exact a1 q (by simp [hq])
  · rw [List.append_assoc, List.pairwise_append]
    refine ⟨b1, ?_, fun x hx y hy => ?_⟩
    · refine List.pairwise_cons.2 ⟨fun y hy => ?_, List.pairwise_cons.2 ⟨fun y hy => ?_, b3⟩⟩
      · rcases List.mem_cons.1 hy with rfl | hy
        · show h < h + 1; omega
        · have := b2 y hy; show h < y.1; omega
      · exact b2 y hy
    · have hx1 := b4 x hx p (by simp)
      rcases List.mem_cons.1 hy with rfl | hy
      · exact hx1
      · rcases List.mem_cons.1 hy with rfl | hy
        · show x.2 < h + 1; omega
        · exact b4 x hx y (List.mem_cons_of_mem _ hy)
theorem cut_may (ht : MayS t) (hk : k < t.r.length) (h1 : (t.r.getD k (0, 0)).1 ≤ h) (h2 : h < (t.r.getD k (0, 0)).2) : MayS (cutT t k h) := by
  have hcl := ht.cl
  obtain ⟨c, hc⟩ : ∃ c, t.c[k]? = some c := ⟨_, List.getElem?_eq_getElem (by omega)⟩
  have hg : t.c.getD k 0 = c := by rw [List.getD_eq_getElem?_getD, hc]; rfl
  have hm : ∀ x, x ∈ (cutT t k h).c ↔ x ∈ t.c := fun x => by unfold cutT; simp only [hg]; exact cut_mem hc x
  have hlen : (cutT t k h).c.length = t.c.length + 1 := by unfold cutT; simp; omega
  have hlenr : (cutT t k h).r.length = t.r.length + 1 := by unfold cutT; simp; omega
  refine ⟨apartB_iff.2 (cut_asc ht hk h1 h2), by omega, ht.nl, ht.el, fun x hx => ?_, by rw [fill_ext hm]; exact ht.fill, ht.eb, fun l hl => ?_⟩
  · have := ht.cb x ((hm x).1 hx); omega
  · rw [cols_ext hm]; exact ht.row l hl
theorem cut_st (ht : MayS t) (hk : k < t.r.length) (h1 : (t.r.getD k (0, 0)).1 ≤ h) (h2 : h < (t.r.getD k (0, 0)).2) (s : Nat) (x : Int) : stN (cutT t k h) s x = stN t s x := by
  have hcl := ht.cl
  have hcm := cut_may ht hk h1 h2
  obtain ⟨p, hp⟩ : ∃ p, t.r[k]? = some p := ⟨_, List.getElem?_eq_getElem hk⟩
  have hg : t.r.getD k (0, 0) = p := by rw [List.getD_eq_getElem?_getD, hp]; rfl
  obtain ⟨c, hc⟩ : ∃ c, t.c[k]? = some c := ⟨_, List.getElem?_eq_getElem (by omega)⟩
  have hgc : t.c.getD k 0 = c := by rw [List.getD_eq_getElem?_getD, hc]; rfl
  rw [hg] at h1 h2
  have er : (cutT t k h).r = t.r.take k ++ (p.1, h) :: (h + 1, p.2) :: t.r.drop (k + 1) := by unfold cutT; simp [hp]
  have ec : (cutT t k h).c = t.c.take k ++ c :: c :: t.c.drop (k + 1) := by unfold cutT; simp [hc]
  have lr : (t.r.take k).length = k := by rw [List.length_take]; omega
  have lc : (t.c.take k).length = k := by rw [List.length_take]; omega
  have hgo : ∀ (s c : Nat), goN (cutT t k h) s c = goN t s c := fun s c => rfl
  rcases classL_cases t.r x with ⟨h3, hno⟩ | ⟨i, q, hq, h3, h4, h5⟩
  · rw [stN_out hno]
    have : ∀ q ∈ (cutT t k h).r, ¬ (q.1 ≤ x ∧ x ≤ q.2) := fun q hq hx => by
      rw [er] at hq
      simp only [List.mem_append, List.mem_cons] at hq
      have hpn := hno p (List.mem_of_getElem? hp)
      rcases hq with hq | rfl | rfl | hq
      · exact hno q (List.mem_of_mem_take hq) hx
      · simp only at hx; omega
      · simp only at hx; omega
      · exact hno q (List.mem_of_mem_drop hq) hx
    rw [stN_out this]
    rfl
  · have hil := (List.getElem?_eq_some_iff.1 hq).1
    obtain ⟨d, hd⟩ : ∃ d, t.c[i]? = some d := ⟨_, List.getElem?_eq_getElem (by omega)⟩
    rw [stN_of ht hq hd h3 h4 s]
    rcases Nat.lt_trichotomy i k with hik | rfl | hik
    · have e1 : (cutT t k h).r[i]? = some q := by rw [er, List.getElem?_append_left (by omega), List.getElem?_take_of_lt hik]; exact hq
      have e2 : (cutT t k h).c[i]? = some d := by rw [ec, List.getElem?_append_left (by omega), List.getElem?_take_of_lt hik]; exact hd
      rw [stN_of hcm e1 e2 h3 h4 s]
      rfl
    · rw [hp] at hq
      obtain rfl := Option.some.inj hq
      rw [hc] at hd
      obtain rfl := Option.some.inj hd
      by_cases hx : x ≤ h
      · have e1 : (cutT t i h).r[i]? = some (p.1, h) := by rw [er, List.getElem?_append_right (by omega), lr, Nat.sub_self]; rfl
        have e2 : (cutT t i h).c[i]? = some c := by rw [ec, List.getElem?_append_right (by omega), lc, Nat.sub_self]; rfl
        rw [stN_of hcm e1 e2 h3 hx s]
        rfl
      · have e1 : (cutT t i h).r[i + 1]? = some (h + 1, p.2) := by rw [er, List.getElem?_append_right (by omega), lr, Nat.add_sub_cancel_left]; rfl
        have e2 : (cutT t i h).c[i + 1]? = some c := by rw [ec, List.getElem?_append_right (by omega), lc, Nat.add_sub_cancel_left]; rfl
        rw [stN_of hcm e1 e2 (show h + 1 ≤ x by omega) h4 s]
        rfl
    · obtain ⟨j, rfl⟩ : ∃ j, i = k + 1 + j := ⟨i - (k + 1), by omega⟩
      have e1 : (cutT t k h).r[k + 1 + j + 1]? = some q := by rw [er, List.getElem?_append_right (by omega), lr, show k + 1 + j + 1 - k = j + 2 by omega, List.getElem?_cons_succ, List.getElem?_cons_succ, List.getElem?_drop]; exact hq
      have e2 : (cutT t k h).c[k + 1 + j + 1]? = some d := by rw [ec, List.getElem?_append_right (by omega), lc, show k + 1 + j + 1 - k = j + 2 by omega, List.getElem?_cons_succ, List.getElem?_cons_succ, List.getElem?_drop]; exact hd
      rw [stN_of hcm e1 e2 h3 h4 s]
      rfl
theorem cut_does (ht : MayS t) (hk : k < t.r.length) (h1 : (t.r.getD k (0, 0)).1 ≤ h) (h2 : h < (t.r.getD k (0, 0)).2) : ∀ (l : List Int) (s : Nat), doesN (cutT t k h) s l = doesN t s l
  | [], s => rfl
  | x :: l, s => by rw [doesN, doesN, cut_st ht hk h1 h2]; exact cut_does ht hk h1 h2 l _
end
/-- Another end at the beginning. -/
def bumpT (t : TabD) (e : Int) : TabD := ⟨t.r, t.c, t.n, t.e.set 0 e⟩
theorem bump_not {t u : TabD} {e : Int} (ht : MayS t) (hu : doesN u 0 = doesN t 0) (he : e ≠ endN u 0) (hn : 0 < u.n.length) (hl : u.e.length = u.n.length) : ¬ (MayS (bumpT u e) ∧ leastT (bumpT u e) = leastT t) := by
  rintro ⟨h1, h2⟩
  have h3 := (least_iff h1 ht).1 h2
  rw [← hu] at h3
  have h4 := congrFun h3 []
  have e1 : endN (bumpT u e) 0 = e := by
    unfold endN bumpT
    simp only
    rw [if_pos hn, List.getD_eq_getElem?_getD, List.getElem?_set_self (by omega)]
    rfl
  exact he (e1.symm.trans h4)
end Go.Proofs.Ytodohgckncnipaa
/- A region that draws: a list made of three pieces, the second one built in the region at any time. -/
namespace Go.Proofs.Ytodohgckncnipaa
open Go.RowKit

section
variable {α : Type} {ops : Array Oper} {Q : Exit → Act → World → Prop} {md : Region.Mode} {S : World → Prop} {late : Nat → Bool}
def threeB (md : Region.Mode) (ops : Array Oper) (L : Array Bool) (i j i2 i3 : Nat) : Bool :=
  Region.noSelect ops && decide (i ≠ j) && onlyB (Region.ready md ops L) [i, j] && onlyB (Region.ready md ops (L.setIfInBounds i true)) [j] && onlyB (Region.ready md ops (L.setIfInBounds j true)) [i] &&
  onlyB (Region.ready md ops ((L.setIfInBounds i true).setIfInBounds j true)) [i2] && onlyB (Region.ready md ops (((L.setIfInBounds i true).setIfInBounds j true).setIfInBounds i2 true)) [i3]
theorem late_three (E : Elt α) (i j i2 i3 : Nat) {o1 ob o2 o3 : Oper} {n : Nat} {L : Array Bool} {a : Act} {w : World} (hr : threeB md ops L i j i2 i3 = true)
    (hi : ops[i]? = some o1) (hj : ops[j]? = some ob) (hi2 : ops[i2]? = some o2) (hi3 : ops[i3]? = some o3) (g1 : o1.guard = none) (gb : ob.guard = none) (g2 : o2.guard = none) (g3 : o3.guard = none)
    (hap : o1.apart ops ob = true) (d1 db d2 : Tmp) (s0 s1 s3 : Operand) (hd1 : o1.dst = some d1) (hdb : ob.dst = some db) (hd2 : o2.dst = some d2)
    (ho1 : o1.op = .call { callee := .builtin .append, args := #[s0, s1], argTypes := #[E.sl, E.sl] }) (ho2 : o2.op = .call { callee := .builtin .append, args := #[.tmp d1, .tmp db], argTypes := #[E.sl, E.sl] }) (ho3 : o3.op = .call { callee := .builtin .append, args := #[.tmp d2, s3], argTypes := #[E.sl, E.sl] })
    (hne : (Operand.tmp d1) ≠ .tmp db) (hn1 : s3 ≠ .tmp d1) (hn2 : s3 ≠ .tmp db) (hn3 : s3 ≠ .tmp d2) (hz1 : d1 < a.tmps.size) (hzb : db < a.tmps.size) (hz2 : d2 < a.tmps.size)
    (hv0 : a.eval s0 = .slice none 0 0) (u1 u3 : Value) (hu1 : a.eval s1 = u1) (hu3 : a.eval s3 = u3) (Y1 Y2 Y3 : List α) (k1 : ∀ y ∈ Y1, E.ok y) (k2 : ∀ y ∈ Y2, E.ok y) (k3 : ∀ y ∈ Y3, E.ok y) (e : TypeId)
    (hl : Y1.length + Y2.length + Y3.length ≤ 10000000000)
    (b : ∀ w', (execOp a.eval ob).run Try.prog w' = .ok (.value (.slice (some ⟨w'.heap.size, 0, none⟩) Y2.length Y2.length)) (w'.alloc (.cells (E.encs Y2).toArray e)))
    (src1 : ∀ w', Chg (fun _ => False) w w' → Src Try.prog E.sz E.sl u1 Y1.length (E.encs Y1) w') (src3 : ∀ w', Chg (fun _ => False) w w' → Src Try.prog E.sz E.sl u3 Y3.length (E.encs Y3) w')
    (hS : ∀ w', Chg (fun _ => False) w w' → S w')
    (fin : ∀ v1 vb v2 v3 w', E.Own w' w.heap.size v3 (Y1 ++ Y2 ++ Y3) → Chg (fun _ => False) w w' → ∀ K : Act → Prop, (∀ a, wpAnyL Try.prog md ops Q S late n ((((L.setIfInBounds i true).setIfInBounds j true).setIfInBounds i2 true).setIfInBounds i3 true) a w' → K a) → K ((((a.put o1.dst v1).put ob.dst vb).put o2.dst v2).put o3.dst v3)) :
    wpAnyL Try.prog md ops Q S late (n + 4) L a w := by
  simp only [threeB, Bool.and_eq_true, decide_eq_true_eq] at hr
  obtain ⟨⟨⟨⟨⟨⟨hs, hij⟩, r0⟩, ri⟩, rj⟩, r2⟩, r3⟩ := hr
  obtain ⟨A1, A2, A3⟩ := Oper.apart_spec hap
  have hsel := Region.noSelect_spec hs
  have al : ∀ (w' : World) (o : Obj), Chg (fun _ => False) w' (w'.alloc o) := fun w' o => (Chg.refl _ _).alloc o
  have mid : ∀ v1 h w', E.Own w' w.heap.size v1 Y1 → E.Row w' h Y2 → v1.ownBlock ≠ some h → Chg (fun _ => False) w w' →
      wpAnyL Try.prog md ops Q S late (n + 2) ((L.setIfInBounds i true).setIfInBounds j true) ((a.put o1.dst v1).put ob.dst (.slice (some ⟨h, 0, none⟩) Y2.length Y2.length)) w' := by
    intro v1 h w' hown hrow hvh hc
    refine late_step r2 (fun q hq => ?_)
    obtain rfl : q = i2 := by simpa using hq
    obtain ⟨v2, w2, hrun, q1, q2, -, -⟩ := hown.append hc.size E.sl (.slice (some ⟨h, 0, none⟩) Y2.length Y2.length) Y2 ((hrow.at' (List.prefix_refl _)).src (fun _ => rfl)) k2 (by omega) o2.type
    have hc2 : Chg (fun _ => False) w w2 := (hc.any.trans q2).fresh
    refine wpOp_turns (w'' := w2) (v := v2) hi2 g2 ?_ ⟨fun _ => hS w2 hc2, ?_⟩
    · rw [hd1, hdb]
      exact append_exec E ho2 ((eval_put_ne hne).trans (eval_put_same hz1)) (eval_put_same (by simpa [Act.put] using hzb)) hrun
    · refine late_step r3 (fun q hq => ?_)
      obtain rfl : q = i3 := by simpa using hq
      obtain ⟨v3, w3, hrun, q1', q2', -, -⟩ := q1.append hc2.size E.sl u3 Y3 (src3 w2 hc2) k3 (by simp; omega) o3.type
      have hc3 : Chg (fun _ => False) w w3 := (hc2.any.trans q2').fresh
      refine wpOp_turns (w'' := w3) (v := v3) hi3 g3 ?_ ⟨fun _ => hS w3 hc3, fin v1 _ v2 v3 w3 q1' hc3 _ (fun _ h => h)⟩
      rw [hd1, hdb, hd2]
      exact append_exec E ho3 (eval_put_same (by simpa [Act.put] using hz2)) ((eval_put_ne hn3).trans ((eval_put_ne hn2).trans ((eval_put_ne hn1).trans hu3))) hrun
  refine late_step r0 (fun q hq => ?_)
  rcases (by simpa using hq : q = i ∨ q = j) with rfl | rfl
  · obtain ⟨v1, w1, hrun, q1, q2, -, -⟩ := (Elt.Own.nil (E := E) w w.heap.size).append (Nat.le_refl _) E.sl u1 Y1 (src1 w (Chg.refl _ _)) k1 (by simp; omega) o1.type
    have hc1 : Chg (fun _ => False) w w1 := q2.fresh
    refine wpOp_turns (w'' := w1) (v := v1) hi g1 (append_exec E ho1 hv0 hu1 hrun) ⟨fun _ => hS w1 hc1, ?_⟩
    refine late_step ri (fun p hp => ?_)
    obtain rfl : p = j := by simpa using hp
    refine wpOp_turns (w'' := w1.alloc (.cells (E.encs Y2).toArray e)) (v := .slice (some ⟨w1.heap.size, 0, none⟩) Y2.length Y2.length) hj gb ?_ ⟨fun _ => hS _ (hc1.trans (al _ _)), mid _ _ _ (q1.chg (al _ _) (fun _ _ _ h => h)) (Elt.Row.alloc w1 Y2 e k2) (fun e => by have := (q1.blk e).2; omega) (hc1.trans (al _ _))⟩
    rw [execOp_put (ops := ops) ob (fun cs b => hsel p ob cs b hj) _ o1.dst _ A1]
    exact b w1
  · refine wpOp_turns (w'' := w.alloc (.cells (E.encs Y2).toArray e)) (v := .slice (some ⟨w.heap.size, 0, none⟩) Y2.length Y2.length) hj gb (b w) ⟨fun _ => hS _ (al _ _), ?_⟩
    refine late_step rj (fun p hp => ?_)
    obtain rfl : p = i := by simpa using hp
    have hsz : w.heap.size ≤ (w.alloc (.cells (E.encs Y2).toArray e)).heap.size := (al w _).size
    have hsz1 : (w.alloc (.cells (E.encs Y2).toArray e)).heap.size = w.heap.size + 1 := by simp
    obtain ⟨v1, w1, hrun, q1, q2, ⟨q3, q4⟩, -⟩ := (Elt.Own.nil (E := E) (w.alloc (.cells (E.encs Y2).toArray e)) w.heap.size).append hsz E.sl u1 Y1 (src1 _ (al _ _)) k1 (by simp; omega) o1.type
    have hc1 : Chg (fun _ => False) w w1 := ((al w _).any.trans q2).fresh
    refine wpOp_turns (w'' := w1) (v := v1) hi g1 ?_ ⟨fun _ => hS w1 hc1, ?_⟩
    · rw [execOp_put (ops := ops) o1 (fun cs b => hsel p o1 cs b hi) _ ob.dst _ A3]
      exact append_exec E ho1 hv0 hu1 hrun
    · rw [Array.setIfInBounds_comm _ _ (Ne.symm hij), ← Act.put_comm a v1 _ A2]
      refine mid _ _ _ q1 ((Elt.Row.alloc w Y2 e k2).chg q3 (fun e => by cases e)) (fun e => ?_) hc1
      rcases q4 with e' | e'
      · rw [e'] at e; cases e
      · rw [e'] at e
        have := Option.some.inj e
        omega
end
theorem Elt.At.takeL {α : Type} {E : Elt α} {w : World} {g o : Nat} {L : List α} (h : E.At w g o L) (k : Nat) : E.At w g o (L.take k) := by
  have e : E.encs L = E.encs (L.take k) ++ E.encs (L.drop k) := by rw [← E.encs_append, List.take_append_drop]
  refine ⟨fun j u hj => h.c j u ?_, fun x hx => h.ok x (List.mem_of_mem_take hx), fun hz => h.lt (fun e => hz (by rw [e]; simp))⟩
  rw [e, List.getElem?_append_left (List.getElem?_eq_some_iff.1 hj).1]
  exact hj
theorem Elt.At.dropL {α : Type} {E : Elt α} {w : World} {g o : Nat} {L : List α} (h : E.At w g o L) {k : Nat} (hk : k ≤ L.length) : E.At w g (o + k * E.sz) (L.drop k) := by
  have e : E.encs L = E.encs (L.take k) ++ E.encs (L.drop k) := by rw [← E.encs_append, List.take_append_drop]
  have hl : (E.encs (L.take k)).length = k * E.sz := by rw [E.encs_length, List.length_take, Nat.min_eq_left hk]
  refine ⟨fun j u hj => ?_, fun x hx => h.ok x (List.mem_of_mem_drop hx), fun hz => h.lt (fun e => hz (by rw [e]; simp))⟩
  have := h.c (k * E.sz + j) u (by rw [e, List.getElem?_append_right (by omega), hl, Nat.add_sub_cancel_left]; exact hj)
  rw [Nat.add_assoc]
  exact this
/-- What is taken ahead, left behind. -/
theorem srcTake {α : Type} {E : Elt α} {w : World} {g o : Nat} {L : List α} (h : E.At w g o L) {k : Nat} (hk : k ≤ L.length) (c : Nat) : Src Try.prog E.sz E.sl (.slice (some ⟨g, o, none⟩) k c) (L.take k).length (E.encs (L.take k)) w := by
  have h1 := (h.takeL k).src (a := some ⟨g, o, none⟩) (c := c) (fun _ => rfl)
  have e : (L.take k).length = k := by rw [List.length_take]; omega
  rw [e] at h1 ⊢
  exact h1
theorem srcDrop {α : Type} {E : Elt α} {w : World} {g o n c : Nat} {L : List α} (h : E.At w g o L) {k : Nat} (hk : k ≤ L.length) (hc : L.length ≤ c) {A : Option Addr} (hA : (if c = k then (some ⟨g, o, none⟩ : Option Addr) else some ⟨g, o + k * E.sz, none⟩) = A) (hn : n = L.length - k) (m : Nat) : Src Try.prog E.sz E.sl (.slice A n m) (L.drop k).length (E.encs (L.drop k)) w := by
  have e : (L.drop k).length = n := by rw [List.length_drop, hn]
  have h1 := (h.dropL hk).src (a := A) (c := m) (fun hp => by
    rw [if_neg (by rw [List.length_drop] at hp; omega)] at hA
    exact hA.symm)
  rw [e] at h1 ⊢
  exact h1
theorem Ph3.set0 {w : World} {B bo : Nat} {τ : Nat → Nat} {N : List (List Int)} {E : List Int} {vr vk vn ve : Value} (h : Ph3 w B bo τ N E vr vk vn ve) (v : Value) : Ph3 (w.setCell ⟨bo, 0, none⟩ v) B bo τ N E v vk vn ve := by
  have hs := setCellChg w bo 0 v
  have hb := h.hb
  have oth : ∀ (k : Nat) (u : Value), k ≠ 0 → w.cell? ⟨bo, k, none⟩ = some u → (w.setCell ⟨bo, 0, none⟩ v).cell? ⟨bo, k, none⟩ = some u := fun k u hk hu => by
    rw [World.cell?_setCell_other _ _ _ _ (by intro e; injection e with _ e; exact hk e.symm)]
    exact hu
  exact ⟨h.n.chg hs (fun g hg _ e => by omega), h.e.chg hs (fun g hg _ e => by omega), World.cell?_setCell_same _ _ _ h.c0, oth 1 _ (by decide) h.c1, oth 2 _ (by decide) h.c2, oth 3 _ (by decide) h.c3, fun j => (World.frozen?_setCell _ _ _ _).trans (h.zz j), hb⟩
theorem Ph3.set1 {w : World} {B bo : Nat} {τ : Nat → Nat} {N : List (List Int)} {E : List Int} {vr vk vn ve : Value} (h : Ph3 w B bo τ N E vr vk vn ve) (v : Value) : Ph3 (w.setCell ⟨bo, 1, none⟩ v) B bo τ N E vr v vn ve := by
  have hs := setCellChg w bo 1 v
  have hb := h.hb
  have oth : ∀ (k : Nat) (u : Value), k ≠ 1 → w.cell? ⟨bo, k, none⟩ = some u → (w.setCell ⟨bo, 1, none⟩ v).cell? ⟨bo, k, none⟩ = some u := fun k u hk hu => by
    rw [World.cell?_setCell_other _ _ _ _ (by intro e; injection e with _ e; exact hk e.symm)]
    exact hu
  exact ⟨h.n.chg hs (fun g hg _ e => by omega), h.e.chg hs (fun g hg _ e => by omega), oth 0 _ (by decide) h.c0, World.cell?_setCell_same _ _ _ h.c1, oth 2 _ (by decide) h.c2, oth 3 _ (by decide) h.c3, fun j => (World.frozen?_setCell _ _ _ _).trans (h.zz j), hb⟩
theorem Elt.Own.shapeS {α : Type} {E : Elt α} {w : World} {B : Nat} {v : Value} {X : List α} (h : E.Own w B v X) (hx : 0 < X.length) : ∃ (g : Nat) (C : List α), v = .slice (some ⟨g, 0, none⟩) X.length C.length ∧ B ≤ g ∧ E.Row w g C ∧ X <+: C ∧ C.length ≤ maxLen := by
  rcases h with ⟨_, rfl⟩ | h
  · simp at hx
  · exact h
theorem set_prefix {α : Type} {X C : List α} (h : X <+: C) (x : α) : X.set 0 x <+: C.set 0 x := by
  cases X with
  | nil => exact List.nil_prefix
  | cons y X =>
    cases C with
    | nil => simp at h
    | cons z C =>
      rw [List.cons_prefix_cons] at h
      show x :: X <+: x :: C
      rw [List.cons_prefix_cons]
      exact ⟨rfl, h.2⟩
end Go.Proofs.Ytodohgckncnipaa
/- 'MinsTurned': the walk. -/
namespace Go.Proofs.Ytodohgckncnipaa
open Go.RowKit

theorem greatT_rc {t : TabD} (h : greatT t = false) : t.r.length ≤ 6000 ∧ t.c.length ≤ 6000 := by
  have h1 : gUp t t.n.length ≤ 6000 := by simpa [greatT] using h
  unfold gUp at h1
  omega
theorem turned_any (a b : Nat) (x : Int) (w : World) :
    Calls Try.prog 22 #[.int .i64 x, .int .i64 a, .int .i64 b] w fun e w' => e = .returned (.int .i64 (sgZ a b x)) ∧ w' = w := by
  by_cases h1 : x = (a : Int)
  · have e : sgZ a b x = b := by unfold sgZ; rw [if_pos h1]
    have d1 : (x == (a : Int)) = true := by simpa using h1
    rw [e]
    go_enter Try.func22, Try.ntmps22
    go_wp2
    go_ret
    exact ⟨rfl, rfl⟩
  · have d1 : (x == (a : Int)) = false := by simpa using h1
    by_cases h2 : x = (b : Int)
    · have e : sgZ a b x = a := by unfold sgZ; rw [if_neg h1, if_pos h2]
      have d2 : (x == (b : Int)) = true := by simpa using h2
      rw [e]
      go_enter Try.func22, Try.ntmps22
      go_wp2
      go_ret
      exact ⟨rfl, rfl⟩
    · have e : sgZ a b x = x := by unfold sgZ; rw [if_neg h1, if_neg h2]
      have d2 : (x == (b : Int)) = false := by simpa using h2
      rw [e]
      go_enter Try.func22, Try.ntmps22
      go_wp2
      go_ret
      exact ⟨rfl, rfl⟩

set_option maxRecDepth 100000 in
set_option maxHeartbeats 16000000 in
theorem lawTurned_any (t : TabD) (rs cs ns es : Sl) (B : Nat) (z0 z1 cu : Int) (w : World) (h : TabIn w B rs cs ns es t) (hv : Vast t) (hz : (0 ≤ z0 ∧ z0 < 256) ∧ (0 ≤ z1 ∧ z1 < 256) ∧ (0 ≤ cu ∧ cu < 256)) :
    Calls Try.prog 6 #[tabV rs cs ns es, .agg #[.int .u8 z0, .int .u8 z1], .int .u8 cu] w fun e w' => e = .returned (.bool true) ∧ Chg (fun _ => False) w w' := by
  have HTB := Lib.hid h
  have HV := Lib.hid hv
  have HZ := Lib.hid hz
  obtain ⟨ra, rn, rc⟩ := rs
  obtain ⟨ca, cn, cc⟩ := cs
  obtain ⟨na, nn, nc⟩ := ns
  obtain ⟨ea, en, ec⟩ := es
  obtain ⟨rfl, hn1⟩ := h.n.len
  obtain ⟨rfl, hr1⟩ := h.r.len
  clear h hv hz
  obtain ⟨wt, hwt⟩ : ∃ x, x = w.alloc (.cells #[.slice ra t.r.length rc, .slice ca cn cc, .slice na t.n.length nc, .slice ea en ec] 26) := ⟨_, rfl⟩
  obtain ⟨wa, hwa⟩ : ∃ x, x = wt.alloc (.cells #[.int .u8 z0, .int .u8 z1] 51) := ⟨_, rfl⟩
  have hct : Chg (fun _ => False) w wt := by rw [hwt]; exact (Chg.refl _ _).alloc _
  have hca : Chg (fun _ => False) wt wa := by rw [hwa]; exact (Chg.refl _ _).alloc _
  have hst : wt.heap.size = w.heap.size + 1 := by rw [hwt]; simp
  have HC0 := Lib.hid (hct.trans hca)
  have HBX : Hid (∀ wx, Chg (fun _ => False) wa wx → (wx.cell? ⟨w.heap.size, 0, none⟩ = some (.slice ra t.r.length rc) ∧ wx.cell? ⟨w.heap.size, 1, none⟩ = some (.slice ca cn cc) ∧ wx.cell? ⟨w.heap.size, 2, none⟩ = some (.slice na t.n.length nc) ∧ wx.cell? ⟨w.heap.size, 3, none⟩ = some (.slice ea en ec)) ∧ wx.cell? ⟨w.heap.size + 1, 0, none⟩ = some (.int .u8 z0) ∧ wx.cell? ⟨w.heap.size + 1, 1, none⟩ = some (.int .u8 z1)) := Lib.hid (fun wx hx => by
    have h1 : TabAt wt w.heap.size (ra, t.r.length, rc) (ca, cn, cc) (na, t.n.length, nc) (ea, en, ec) := by rw [hwt]; exact tabBox w (ra, t.r.length, rc) (ca, cn, cc) (na, t.n.length, nc) (ea, en, ec) 26
    have h2 : wa.cell? ⟨w.heap.size + 1, 0, none⟩ = some (.int .u8 z0) ∧ wa.cell? ⟨w.heap.size + 1, 1, none⟩ = some (.int .u8 z1) := by
      rw [← hst, hwa]
      constructor <;> · rw [World.cell?_alloc_new]; rfl
    exact ⟨h1.chg (hca.trans hx) (fun h => h), hx.cellS h2.1 (fun h => h), hx.cellS h2.2 (fun h => h)⟩)
  have HWA := Lib.hid (show _ ∧ _ from ⟨hwt, hwa⟩)
  clear hwt hwa hct hca hst
  obtain ⟨⟨q0, q1, q2, q3⟩, -⟩ := HBX.out wa (Chg.refl _ _)
  show Calls Try.prog 6 #[.agg #[.slice ra t.r.length rc, .slice ca cn cc, .slice na t.n.length nc, .slice ea en ec], .agg #[.int .u8 z0, .int .u8 z1], .int .u8 cu] w _
  go_enter Try.func6, Try.ntmps6
  go_upto_region 1 with (fail)
  rw [← HWA.out.1, ← HWA.out.2]
  go_wp2_with fail
  refine (great10_any t (ra, t.r.length, rc) (ca, cn, cc) (na, t.n.length, nc) (ea, en, ec) B wa (HTB.out.same HC0.out) HV.out).mono ?_
  rintro e w1 ⟨rfl, hc⟩
  have HC1 := Lib.hid hc
  clear hc q0 q1 q2 q3
  cases hg : great10 t with
  | true =>
    clear hg
    go_wp2_with fail
    refine (lives_any w1).mono ?_
    rintro e w2 ⟨rfl, hc⟩
    have HC2 := Lib.hid (HC0.out.trans (HC1.out.trans hc))
    clear hc
    go_wp2
    go_ret
    exact ⟨rfl, HC2.out⟩
  | false =>
    have HFT := Lib.hid (greatT_fair (t := t) (by unfold great10 at hg; exact (Bool.or_eq_false_iff.1 hg).1)).1
    have HRC := Lib.hid (greatT_rc (t := t) (by unfold great10 at hg; exact (Bool.or_eq_false_iff.1 hg).1))
    have HN40 : Hid (t.n.length ≤ 40) := Lib.hid (by
      unfold great10 at hg
      have := (Bool.or_eq_false_iff.1 hg).2
      simpa using this)
    clear hg
    obtain ⟨⟨q0, q1, q2, q3⟩, -⟩ := HBX.out w1 HC1.out
    go_wp2_with fail
    refine (may_any t (ra, t.r.length, rc) (ca, cn, cc) (na, t.n.length, nc) (ea, en, ec) B w1 (HTB.out.same (HC0.out.trans HC1.out)) HFT.out).mono ?_
    rintro e w2 ⟨rfl, hc⟩
    have HC2 := Lib.hid (HC1.out.trans hc)
    clear hc q0 q1 q2 q3
    cases hm : mayT t with
    | false =>
      go_wp2_with fail
      refine (lives_any w2).mono ?_
      rintro e w3 ⟨rfl, hc⟩
      have HC3 := Lib.hid (HC0.out.trans (HC2.out.trans hc))
      clear hc
      go_wp2
      go_ret
      exact ⟨rfl, HC3.out⟩
    | true =>
      have HMT := Lib.hid (mayT_iff.1 hm)
      clear hm
      obtain ⟨⟨q0, q1, q2, q3⟩, y0, y1⟩ := HBX.out w2 HC2.out
      obtain ⟨w3, hw3⟩ : ∃ X, X = w2.alloc (.cells #[.slice ra t.r.length rc, .slice ca cn cc, .slice none 0 0, .slice none 0 0] 26) := ⟨_, rfl⟩
      have HC23 : Hid (Chg (fun _ => False) w2 w3) := Lib.hid (by rw [hw3]; exact (Chg.refl _ _).alloc _)
      have HC3 := Lib.hid (HC2.out.trans HC23.out)
      have HP3 : Hid (Ph3 w3 (w2.heap.size + 1) w2.heap.size (fun _ => 0) [] [] (.slice ra t.r.length rc) (.slice ca cn cc) (.slice none 0 0) (.slice none 0 0)) := Lib.hid (by
        have h1 : TabAt w3 w2.heap.size (ra, t.r.length, rc) (ca, cn, cc) (none, 0, 0) (none, 0, 0) := by rw [hw3]; exact tabBox w2 (ra, t.r.length, rc) (ca, cn, cc) (none, 0, 0) (none, 0, 0) 26
        exact ⟨.nil _ _ _ _ _, .nil _ _ _ _ _, h1.1, h1.2.1, h1.2.2.1, h1.2.2.2, fun j => by rw [hw3]; exact World.frozen?_alloc_new _ _ _ _, by omega⟩)
      have HSZ3 : Hid (w3.heap.size = w2.heap.size + 1) := Lib.hid (by rw [hw3]; simp)
      have HW3 := Lib.hid hw3
      clear hw3
      go_upto_region 5 with (fail)
      rw [← HW3.out]
      clear q0 q1 q2 q3 y0 y1
      obtain ⟨⟨q0, q1, q2, q3⟩, y0, y1⟩ := HBX.out w3 HC3.out
      go_upto_if 36 with (fail)
      go_cut [9, 10] (fun u v w' => ∃ a b : Nat, u = .int .i64 a ∧ v = .int .i64 b ∧ a < t.n.length ∧ b < t.n.length ∧ sgN a b 0 = 0 ∧ w' = w3)
      case first =>
        have hz := HZ.out
        have h40 := HN40.out
        by_cases hn : 1 < t.n.length
        · have b1 : decide ((1 : Int) < (t.n.length : Int)) = true := by simp; omega
          have b2 : ((t.n.length : Int) - 1 == 0) = false := by simp; omega
          have b3 : ¬ (t.n.length : Int) - 1 = 0 := by omega
          go_wp2
          go_meet
          have hm : ∀ z : Int, 0 ≤ z % ((t.n.length : Int) - 1) ∧ z % ((t.n.length : Int) - 1) < (t.n.length : Int) - 1 := fun z => ⟨Int.emod_nonneg _ (by omega), Int.emod_lt_of_pos _ (by omega)⟩
          obtain ⟨k0, e0⟩ : ∃ k : Nat, z0 % ((t.n.length : Int) - 1) = k := ⟨_, (Int.toNat_of_nonneg (hm z0).1).symm⟩
          obtain ⟨k1, e1⟩ : ∃ k : Nat, z1 % ((t.n.length : Int) - 1) = k := ⟨_, (Int.toNat_of_nonneg (hm z1).1).symm⟩
          have h0 := hm z0
          have h1 := hm z1
          rw [e0] at h0 ⊢
          rw [e1] at h1 ⊢
          have hw : ∀ k : Nat, k < 100 → wrap64 (1 + (k : Int)) = ((1 + k : Nat) : Int) := fun k hk => by unfold wrap64; omega
          exact ⟨1 + k0, 1 + k1, by rw [hw _ (by omega)], by rw [hw _ (by omega)], by omega, by omega, by unfold sgN; rw [if_neg (by omega), if_neg (by omega)], rfl⟩
        · have b1 : decide ((1 : Int) < (t.n.length : Int)) = false := by simp; omega
          go_wp2
          go_meet
          exact ⟨0, 0, rfl, rfl, HMT.out.nl, HMT.out.nl, rfl, rfl⟩
      case rest =>
        obtain ⟨a, b, rfl, rfl, ha, hb, h0, rfl⟩ := hcut
        have HAB := Lib.hid (show _ ∧ _ ∧ _ from ⟨ha, hb, h0⟩)
        clear ha hb h0
        clear q0 q1 q2 q3 y0 y1
        have hnlt := HMT.out.nl
        have h40 := HN40.out
        have HEL := Lib.hid HMT.out.el
        have HX0 : Hid (∀ wx, Chg (fun k => w2.heap.size ≤ k) w2 wx → wx.cell? ⟨w.heap.size, 0, none⟩ = some (.slice ra t.r.length rc) ∧ wx.cell? ⟨w.heap.size, 1, none⟩ = some (.slice ca cn cc) ∧ wx.cell? ⟨w.heap.size, 2, none⟩ = some (.slice na t.n.length nc) ∧ wx.cell? ⟨w.heap.size, 3, none⟩ = some (.slice ea en ec)) := Lib.hid (fun wx hx => (HBX.out wx (HC2.out.trans hx.fresh)).1)
        have HTX : Hid (∀ wx, Chg (fun k => w2.heap.size ≤ k) w2 wx → TabIn wx B (ra, t.r.length, rc) (ca, cn, cc) (na, t.n.length, nc) (ea, en, ec) t) := Lib.hid (fun wx hx => HTB.out.same (HC0.out.trans (HC2.out.trans hx.fresh)))
        have HCS : Hid (Chg (fun k => w2.heap.size ≤ k) w2 wc) := Lib.hid HC23.out.any
        go_wp2
        go_loopw [11] (fun q wr => ∃ (i : Nat) (τ : Nat → Nat) (vn ve : Value), i ≤ t.n.length ∧ q = .int .i64 i ∧ Ph3 wr (w2.heap.size + 1) w2.heap.size τ ((turnT t a b).n.take i) ((turnT t a b).e.take i) (.slice ra t.r.length rc) (.slice ca cn cc) vn ve ∧ Chg (fun k => w2.heap.size ≤ k) w2 wr) (fun q _ => t.n.length - (intOf q).toNat)
        case atStart => exact ⟨0, _, _, _, by omega, rfl, HP3.out, HCS.out⟩
        case round =>
          clear HP3 HCS
          obtain ⟨i, τ3, vn, ve, hi, rfl, hp3, hc⟩ := hrel
          obtain ⟨vna, vnc, rfl, hvnc⟩ := hp3.n.shape
          obtain ⟨vea, vec, rfl, hvec⟩ := hp3.e.shape
          have hnl : ((turnT t a b).n.take i).length = i := by rw [List.length_take, turn_nl]; omega
          have hel2 : ((turnT t a b).e.take i).length = i := by rw [List.length_take, turn_el]; omega
          rw [hnl] at hp3 hvnc
          rw [hel2] at hp3 hvec
          have HNL := Lib.hid (show _ ∧ _ from ⟨hnl, hel2⟩)
          have HPQ := Lib.hid hp3
          have HCI := Lib.hid hc
          clear hp3 hc hnl hel2
          by_cases hil : i < t.n.length
          · have b1 : decide ((i : Int) < (t.n.length : Int)) = true := by simp; omega
            have hsl := sgN_lt HAB.out.1 HAB.out.2.1 hil
            obtain ⟨wq, hwq⟩ : ∃ x, x = wr := ⟨_, rfl⟩
            rw [← hwq] at HPQ HCI ⊢
            clear hwq
            go_wp2_with fail
            refine (turned_any a b (i : Int) wq).mono ?_
            rintro e w9 ⟨rfl, rfl⟩
            rw [sgZ_nat]
            obtain ⟨f, hf⟩ : ∃ f, sgN a b i = f := ⟨_, rfl⟩
            rw [hf] at hsl ⊢
            have HF := Lib.hid hf
            clear hf
            obtain ⟨l0, hl0⟩ : ∃ l, t.n[f]? = some l := ⟨_, List.getElem?_eq_getElem hsl⟩
            have HL0 := Lib.hid hl0
            have hl0b := HFT.out.l l0 (List.mem_of_getElem? hl0)
            clear hl0
            go_wp2
            go_loopw [13, 14] (fun v q wr => ∃ (c : Nat), c ≤ l0.length ∧ q = .int .i64 c ∧ intE.Own wr w9.heap.size v ((l0.map (sgZ a b)).take c) ∧ Chg (fun _ => False) w9 wr) (fun _ q _ => l0.length - (intOf q).toNat)
            case atStart => exact ⟨0, by omega, rfl, .nil _ _, Chg.refl _ _⟩
            case round =>
              obtain ⟨c, hcl4, rfl, hown, hc⟩ := hrel
              obtain ⟨vra, vrc, hv, hvrc, -⟩ := hown.clip
              have hrl4 : ((l0.map (sgZ a b)).take c).length = c := by rw [List.length_take, List.length_map]; omega
              rw [hrl4] at hv hvrc
              subst hv
              have HOWN := Lib.hid hown
              have HCQ := Lib.hid hc
              have HCW := Lib.hid (HCI.out.trans hc.any)
              have HRL4 := Lib.hid hrl4
              clear hown hc hrl4
              obtain ⟨q0, q1, q2, q3⟩ := HX0.out wr HCW.out
              obtain ⟨l, gl, ol, la, lc, hl, hla, n0, hin, -, -⟩ := (HTX.out wr HCW.out).n.getIn hsl
              rw [HL0.out] at hl
              obtain rfl := Option.some.inj hl
              subst hla
              clear hl
              by_cases hcl5 : c < l0.length
              · have b6 : decide ((c : Int) < (l0.length : Int)) = true := by simp; omega
                obtain ⟨x, gx, ox, hx, hxa, c0, x0, x1, -, -⟩ := hin.getI (k := c) hcl5
                subst hxa
                have HTK : Hid ((l0.map (sgZ a b)).take (c + 1) = (l0.map (sgZ a b)).take c ++ [sgZ a b x]) := Lib.hid (map_take1 hx)
                have HYB : Hid (∀ y ∈ [sgZ a b x], intE.ok y) := Lib.hid (fun y hy => by
                  rw [List.mem_singleton] at hy
                  subst hy
                  have hab := HAB.out
                  have h40 := HN40.out
                  unfold sgZ
                  split
                  · exact ⟨by omega, by omega⟩
                  · split
                    · exact ⟨by omega, by omega⟩
                    · exact ⟨x0, x1⟩)
                have HSX : Hid (w9.heap.size ≤ wr.heap.size) := Lib.hid HCQ.out.size
                clear hin hx
                go_wp2_with fail
                refine (turned_any a b x wr).mono ?_
                rintro e w10 ⟨rfl, rfl⟩
                obtain ⟨z, hz⟩ : ∃ z, sgZ a b x = z := ⟨_, rfl⟩
                rw [hz] at HTK HYB ⊢
                clear hz q0 q1 q2 q3 n0 c0
                go_wp2_with (at_builtin; refine Elt.wpList_append2 intE rfl _ _ 23 23 rfl rfl w9.heap.size (.slice vra c vrc) ((l0.map (sgZ a b)).take c) [z] (.slice (some ⟨w10.heap.size, 0, none⟩) 1 1) rfl rfl (HOWN.out.chg ((Chg.refl (fun _ => False) _).alloc _) (fun _ _ _ h => h)) (by have := HSX.out; simp; omega) (intE.srcLit (Y := [z]) 1 HYB.out) HYB.out (by have h1 := HRL4.out; rw [h1]; simp; omega) ?_; intro v' w5 HO5 HC5 HC5b)
                have HOY : Hid (intE.Own w5 w9.heap.size v' ((l0.map (sgZ a b)).take (c + 1))) := Lib.hid (by rw [HTK.out]; exact HO5.out)
                have HCY : Hid (Chg (fun _ => False) w9 w5) := Lib.hid ((HCQ.out.any.trans (((Chg.refl (fun k => w9.heap.size ≤ k) _).alloc _).trans HC5.out)).fresh)
                clear HO5 HC5 HC5b
                go_roundw
                case rel => exact ⟨c + 1, by omega, by go_num, HOY.out, HCY.out⟩
                case measure => simp [intOf]; omega
              · obtain rfl : c = l0.length := by omega
                have b6 : decide ((l0.length : Int) < (l0.length : Int)) = false := by simp
                have HTA : Hid ((l0.map (sgZ a b)).take l0.length = l0.map (sgZ a b)) := Lib.hid (by rw [List.take_of_length_le (by simp)])
                have HPM := Lib.hid (((HPQ.out.mark (τ' := fun g => if w9.heap.size ≤ g then 1 else τ3 g) (fun g _ hg => by rw [if_neg (by omega)])).same HCQ.out).same ((Chg.refl (fun _ => False) wr).alloc (.cells #[.slice vra l0.length vrc] 23)))
                obtain ⟨X, hX1, hX2, hX3⟩ := HPM.out.n.x
                have HX := Lib.hid (show _ ∧ _ ∧ _ from ⟨hX1, hX2, hX3⟩)
                have HROW : Hid (TOwn intE (wr.alloc (.cells #[.slice vra l0.length vrc] 23)) (w2.heap.size + 1) (fun g => if w9.heap.size ≤ g then 1 else τ3 g) 1 (slV (vra, l0.length, vrc)) (l0.map (sgZ a b))) := Lib.hid (by
                  have h1 := HOWN.out.chg ((Chg.refl (fun _ => False) wr).alloc (.cells #[.slice vra l0.length vrc] 23)) (fun _ _ _ h => h)
                  rw [HTA.out] at h1
                  have h9 : w2.heap.size + 1 ≤ w9.heap.size := by have := HPQ.out.lt; omega
                  exact ⟨h1.lower h9, fun g hg => by rw [if_pos (h1.blk hg).1]⟩)
                have HBW : Hid (w2.heap.size + 1 ≤ wr.heap.size) := Lib.hid (by have := HPQ.out.lt; have := HCQ.out.size; omega)
                have HA8 := Lib.hid (fun (v' : Value) (w' : World) (h1 : listE.Own w' (w2.heap.size + 1) v' (X ++ [(vra, l0.length, vrc)])) h2 h3 => HPM.out.row (vn' := v') HX.out.1 HX.out.2.1 HX.out.2.2 HROW.out h1 h2 h3)
                have o2 := HPM.out.c2
                have o2' : wr.cell? ⟨w2.heap.size, 2, none⟩ = some (.slice vna i vnc) := ((HPQ.out.same HCQ.out)).c2
                clear hX1 hX2 hX3
                go_upto_region 20 with (at_builtin; go_loud (refine Elt.wpList_append2 listE rfl _ _ 24 24 rfl rfl (w2.heap.size + 1) (.slice vna i vnc) X [(vra, l0.length, vrc)] (.slice (some ⟨wr.heap.size, 0, none⟩) 1 1) rfl rfl HX.out.1.own (by have := HBW.out; simp; omega) (listE.srcLit (Y := [(vra, l0.length, vrc)]) 1 (fun _ _ => trivial)) (fun _ _ => trivial) (by have h1 : X.length = i := HX.out.2.1.trans HNL.out.1; rw [h1]; simp; omega) ?_; intro v' wx HO5 HC5 HC5b; obtain ⟨⟨k1, k2⟩, hfin⟩ := HA8.out v' wx HO5.out HC5b.out.1 HC5b.out.2; obtain ⟨va9, vn9, vc9, hv9⟩ := HO5.out.shape3; subst hv9; have HFIN := Lib.hid hfin; clear hfin))
                obtain ⟨w7, hw7⟩ : ∃ W, W = wx.setCell ⟨w2.heap.size, 2, none⟩ (.slice va9 vn9 vc9) := ⟨_, rfl⟩
                have HC7 : Hid (Chg (fun k => w2.heap.size ≤ k) w2 w7) := Lib.hid (by
                  rw [hw7]
                  exact (HCW.out.trans ((Chg.refl _ _).alloc _)).trans ((HC5.out.mono (fun k _ e => by omega)).trans ((setCellChg wx w2.heap.size 2 _).mono (fun k _ e => by omega))))
                rw [← hw7] at HFIN ⊢
                clear hw7 k1 k2 o2 o2' HO5 HC5 HC5b HA8 HROW HX HPM HOWN HPQ q0 q1 q2 q3 n0 hin
                have HP7 : Hid (Ph3 w7 (w2.heap.size + 1) w2.heap.size _ ((turnT t a b).n.take (i + 1)) ((turnT t a b).e.take i) (.slice ra t.r.length rc) (.slice ca cn cc) (.slice va9 vn9 vc9) (.slice vea i vec)) := Lib.hid (HFIN.out.ne (by rw [← HF.out] at HL0; exact turn_take hil HL0.out) rfl)
                obtain ⟨es', ge, oe, hex, hea', ec0, ex0, ex1, -, -⟩ := (HTX.out w7 HC7.out).e.getI (k := f) (by have := HEL.out; omega)
                subst hea'
                have hse : f < en := by have h1 := (HTX.out w7 HC7.out).e.1; have h2 := HEL.out; simp only at h1; omega
                have HCC := Lib.hid ec0
                have HTE : Hid ((turnT t a b).e.take (i + 1) = (turnT t a b).e.take i ++ [es']) := Lib.hid (by rw [← HF.out] at hex; exact turn_etake hil hex)
                have HYB : Hid (∀ y ∈ [es'], intE.ok y) := Lib.hid (fun y hy => by rw [List.mem_singleton] at hy; subst hy; exact ⟨ex0, ex1⟩)
                clear hex ec0 HFIN
                obtain ⟨wd, hwd⟩ : ∃ W, w7.drew = W := ⟨_, rfl⟩
                have HDD : Hid (Chg (fun _ => False) w7 wd) := Lib.hid (by rw [← hwd]; exact (Chg.refl _ _).drew)
                have HPD := Lib.hid (HP7.out.same HDD.out)
                refine wp_region_late (fun x => Chg (fun _ => False) wd x) (fun i => decide (8 ≤ i)) (by kernel_rfl) ?_
                show wpAnyL _ _ _ _ _ _ 11 (Array.replicate 11 false) _ w7.drew
                rw [hwd]
                clear hwd
                have HSS : Hid (Chg (fun _ => False) wd wd) := Lib.hid (Chg.refl _ _)
                (refine late_read (i := 0) rfl (by kernel_rfl) (fun _ _ _ _ h => h) rfl HSS.out (fun K hK => ?_); apply Exists.intro; refine ⟨fun w' hC => ?_, ?_⟩; ((skip); go_simp; try with_reducible rfl); (try go_simp); refine hK _ ?_; clear hK K)
                (refine late_read (i := 1) rfl (by kernel_rfl) (fun _ _ _ _ h => h) rfl HSS.out (fun K hK => ?_); apply Exists.intro; refine ⟨fun w' hC => ?_, ?_⟩; ((have o3 := hC.cellS HPD.out.c3 (fun h => h)); go_simp; try with_reducible rfl); (try go_simp); refine hK _ ?_; clear hK K)
                (refine late_read (i := 2) rfl (by kernel_rfl) (fun _ _ _ _ h => h) rfl HSS.out (fun K hK => ?_); apply Exists.intro; refine ⟨fun w' hC => ?_, ?_⟩; ((skip); go_simp; try with_reducible rfl); (try go_simp); refine hK _ ?_; clear hK K)
                (refine late_read (i := 3) rfl (by kernel_rfl) (fun _ _ _ _ h => h) rfl HSS.out (fun K hK => ?_); apply Exists.intro; refine ⟨fun w' hC => ?_, ?_⟩; ((obtain ⟨q0, q1, q2, q3⟩ := HX0.out w' (HC7.out.trans (HDD.out.trans hC).any)); go_simp; try with_reducible rfl); (try go_simp); refine hK _ ?_; clear hK K)
                (refine late_read (i := 4) rfl (by kernel_rfl) (fun _ _ _ _ h => h) rfl HSS.out (fun K hK => ?_); apply Exists.intro; refine ⟨fun w' hC => ?_, ?_⟩; ((skip); go_simp; try with_reducible rfl); (try go_simp); refine hK _ ?_; clear hK K)
                (refine late_read (i := 5) rfl (by kernel_rfl) (fun _ _ _ _ h => h) rfl HSS.out (fun K hK => ?_); apply Exists.intro; refine ⟨fun w' hC => ?_, ?_⟩; ((skip); go_simp; try with_reducible rfl); (try go_simp); refine hK _ ?_; clear hK K)
                (refine late_read (i := 6) rfl (by kernel_rfl) (fun _ _ _ _ h => h) rfl HSS.out (fun K hK => ?_); apply Exists.intro; refine ⟨fun w' hC => ?_, ?_⟩; ((have c2 := (HDD.out.trans hC).cellS HCC.out (fun h => h)); go_simp; try with_reducible rfl); (try go_simp); refine hK _ ?_; clear hK K)
                (refine late_turn (i := 7) (by kernel_rfl) rfl rfl (fun K hK => ?_); apply Exists.intro; apply Exists.intro; refine ⟨?_, ?_, ?_⟩; ((skip); go_simp; try first | with_reducible rfl | exact ⟨rfl, rfl⟩); (exact fun _ => (Chg.refl _ _).alloc _); (try go_simp); refine hK _ _ ?_; clear hK K)
                obtain ⟨w6, hw6⟩ : ∃ W6, W6 = wd.alloc (.cells #[.int .i64 es'] 3) := ⟨_, rfl⟩
                have HC6 : Hid (Chg (fun _ => False) wd w6) := Lib.hid (by rw [hw6]; exact (Chg.refl _ _).alloc _)
                have HSRC : Hid (Src Try.prog intE.sz intE.sl (.slice (some ⟨wd.heap.size, 0, none⟩) 1 1) 1 (intE.encs [es']) w6) := Lib.hid (by rw [hw6]; exact intE.srcLit (Y := [es']) 1 HYB.out)
                have HP6 := Lib.hid (HPD.out.same HC6.out)
                have HB6 : Hid (w2.heap.size + 1 ≤ w6.heap.size) := Lib.hid (by have := HP6.out.lt; omega)
                rw [← hw6]
                clear hw6
                refine late_append (i := 8) (by kernel_rfl) rfl rfl (.tmp 91) (.tmp 97) 23 23 rfl (.slice vea i vec) (.slice (some ⟨wd.heap.size, 0, none⟩) 1 1) rfl rfl (fun v' w1 => intE.Own w1 (w2.heap.size + 1) v' ((turnT t a b).e.take i ++ [es']) ∧ Chg (fun k => (Value.slice vea i vec).ownBlock = some k) w6 w1 ∧ (v'.ownBlock = (Value.slice vea i vec).ownBlock ∨ v'.ownBlock = some w6.heap.size) ∧ ∃ a n c, v' = .slice a n c) ?_ ?_
                · obtain ⟨v', w1, hrun, h1, h2, ⟨h3, h4⟩, -⟩ := HP6.out.e.own.append HB6.out 23 (.slice (some ⟨wd.heap.size, 0, none⟩) 1 1) [es'] HSRC.out HYB.out (by rw [HNL.out.2]; simp; omega) 23
                  exact ⟨v', w1, hrun, (fun h => absurd h (by decide)), h1, h3, h4, h1.shape3⟩
                rintro v' w1' - ⟨h1, h2, h3, va', vn', vc', rfl⟩ K hK
                obtain ⟨⟨k1, k2⟩, hfin⟩ := HP6.out.fin h1 h2 h3
                have HFIN := Lib.hid (hfin.ne rfl HTE.out)
                have HCF : Hid (Chg (fun k => w2.heap.size ≤ k) w2 (w1'.setCell ⟨w2.heap.size, 3, none⟩ (.slice va' vn' vc'))) := Lib.hid ((HC7.out.trans (HDD.out.trans HC6.out).any).trans ((h2.mono (fun k _ e => by have := (HP6.out.e.own.blk e).1; omega)).trans ((setCellChg w1' w2.heap.size 3 _).mono (fun k _ e => by omega))))
                clear h1 h2 h3 hfin
                (try go_simp)
                refine hK _ ?_
                clear hK K
                (refine late_turn (i := 9) (by kernel_rfl) rfl rfl (fun K hK => ?_); apply Exists.intro; apply Exists.intro; refine ⟨?_, ?_, ?_⟩; ((skip); go_simp; try first | with_reducible rfl | exact ⟨rfl, rfl⟩); (exact fun h => absurd h (by decide)); (try go_simp); refine hK _ _ ?_; clear hK K)
                (refine late_store (i := 10) (by kernel_rfl) rfl rfl (fun K hK => ?_); apply Exists.intro; refine ⟨?_, (fun h => absurd h (by decide)), ?_⟩; ((skip); go_simp; try first | with_reducible rfl | exact ⟨rfl, rfl⟩); (try go_simp); refine hK _ _ ?_; clear hK K)
                refine late_done (by kernel_rfl) ?_ _
                clear k1 k2
                go_wp2
                go_roundw
                case rel => exact ⟨i + 1, _, _, _, by omega, by go_num, HFIN.out, HCF.out⟩
                case measure => simp [intOf]; omega
          · obtain rfl : i = t.n.length := by omega
            have b1 : decide ((t.n.length : Int) < (t.n.length : Int)) = false := by simp
            have HTU : Hid ((turnT t a b).n.take t.n.length = (turnT t a b).n ∧ (turnT t a b).e.take t.n.length = (turnT t a b).e) := Lib.hid ⟨List.take_of_length_le (by rw [turn_nl]; omega), List.take_of_length_le (by rw [turn_el]; omega)⟩
            have hpq := HPQ.out
            rw [HTU.out.1, HTU.out.2] at hpq
            have HPU := Lib.hid hpq
            have HTM := Lib.hid (turn_may HMT.out HAB.out.1 HAB.out.2.1)
            have HTS := Lib.hid (turn_same HMT.out HAB.out.1 HAB.out.2.1 HAB.out.2.2)
            clear hpq HPQ HNL
            obtain ⟨w4, hw4⟩ : ∃ x, x = wr := ⟨_, rfl⟩
            rw [← hw4] at HPU HCI ⊢
            clear hw4
            obtain ⟨q0, q1, q2, q3⟩ := HX0.out w4 HCI.out
            have u0 := HPU.out.c0
            have u1 := HPU.out.c1
            have u2 := HPU.out.c2
            have u3 := HPU.out.c3
            have HTBU : Hid (TabIn w4 0 (ra, t.r.length, rc) (ca, cn, cc) (vna, t.n.length, vnc) (vea, t.n.length, vec) (turnT t a b)) := Lib.hid ⟨(HTX.out w4 HCI.out).r.lower (Nat.zero_le _), (HTX.out w4 HCI.out).c.lower (Nat.zero_le _), HPU.out.n.lists.lower (Nat.zero_le _), (HPU.out.e.own.in' (c' := vec) hvec).lower (Nat.zero_le _)⟩
            have HFU : Hid (Fair (turnT t a b)) := Lib.hid ⟨HFT.out.r, HFT.out.c, by rw [turn_nl]; exact HFT.out.n, by rw [turn_el]; exact HFT.out.n, fun l hl => by
              obtain ⟨s, hs, rfl⟩ := List.mem_map.1 hl
              rw [List.length_map]
              exact HFT.out.l _ (getD_mem (sgN_lt HAB.out.1 HAB.out.2.1 (List.mem_range.1 hs)))⟩
            have HAL : Hid (alikeB t (turnT t a b) = true) := Lib.hid (alikeB_iff.2 ⟨HMT.out, HTM.out, ((least_iff HTM.out HMT.out).2 HTS.out).symm⟩)
            go_wp2_with fail
            refine (alike_any t (turnT t a b) (ra, t.r.length, rc) (ca, cn, cc) (na, t.n.length, nc) (ea, en, ec) (ra, t.r.length, rc) (ca, cn, cc) (vna, t.n.length, vnc) (vea, t.n.length, vec) B 0 w4 (HTX.out w4 HCI.out) HTBU.out HFT.out HFU.out).mono ?_
            rintro e w5 ⟨rfl, hc⟩
            rw [HAL.out]
            have HC45 := Lib.hid hc
            clear hc q0 q1 q2 q3 u0 u1 u2 u3
            have HC5 := Lib.hid (HCI.out.trans HC45.out.any)
            obtain ⟨q0, q1, q2, q3⟩ := HX0.out w5 HC5.out
            go_upto_if 107 with (fail)
            go_cut [15] (fun _ w' => ∃ (U : TabD) (rs' cs' : Sl), TabAt w' w2.heap.size rs' cs' (vna, t.n.length, vnc) (vea, t.n.length, vec) ∧ TabIn w' 0 rs' cs' (vna, t.n.length, vnc) (vea, t.n.length, vec) U ∧ (MayS U ∧ Fair U ∧ Hid (doesN U 0 = doesN t 0) ∧ Hid (U.e = (turnT t a b).e ∧ U.n.length = t.n.length)) ∧ Chg (fun k => w2.heap.size ≤ k) w2 w')
            case first =>
              have HNO : Hid (∀ w', Chg (fun _ => False) w5 w' → ∃ (U : TabD) (rs' cs' : Sl), TabAt w' w2.heap.size rs' cs' (vna, t.n.length, vnc) (vea, t.n.length, vec) ∧ TabIn w' 0 rs' cs' (vna, t.n.length, vnc) (vea, t.n.length, vec) U ∧ (MayS U ∧ Fair U ∧ Hid (doesN U 0 = doesN t 0) ∧ Hid (U.e = (turnT t a b).e ∧ U.n.length = t.n.length)) ∧ Chg (fun k => w2.heap.size ≤ k) w2 w') := Lib.hid (fun w' hc => by
                have h := HPU.out.same (HC45.out.trans hc)
                exact ⟨turnT t a b, (ra, t.r.length, rc), (ca, cn, cc), ⟨h.c0, h.c1, h.c2, h.c3⟩, HTBU.out.same (HC45.out.trans hc), ⟨HTM.out, HFU.out, Lib.hid HTS.out, Lib.hid ⟨rfl, turn_nl⟩⟩, HC5.out.trans hc.any⟩)
              by_cases hr0 : 0 < t.r.length
              · have d1 : decide ((0 : Int) < (t.r.length : Int)) = true := decide_eq_true (by omega)
                obtain ⟨k, hk⟩ : ∃ k : Nat, cu % (t.r.length : Int) = k := ⟨_, (Int.toNat_of_nonneg (Int.emod_nonneg _ (by omega))).symm⟩
                have hkl : k < t.r.length := by have := Int.emod_lt_of_pos cu (b := (t.r.length : Int)) (by omega); omega
                obtain ⟨lo, hi', g, o, hx, hra, c0, c1, hlo, hhi, -, -⟩ := (HTX.out w5 HC5.out).r.getR hkl
                subst hra
                have HRK := Lib.hid (show _ ∧ _ ∧ _ from ⟨hx, c0, c1⟩)
                have hcu := HZ.out.2.2
                have d2 : ((t.r.length : Int) == 0) = false := by rw [beq_eq_false_iff_ne]; omega
                have d3 : ¬ (t.r.length : Int) = 0 := by omega
                clear hx
                go_upto_region 26 with (fail)
                rw [hk]
                clear hk hcu d1 d2 d3
                obtain ⟨w6, hw6⟩ : ∃ x, x = w5.alloc (.cells #[.int .i32 lo, .int .i32 hi'] 54) := ⟨_, rfl⟩
                have HC56 : Hid (Chg (fun _ => False) w5 w6) := Lib.hid (by rw [hw6]; exact (Chg.refl _ _).alloc _)
                have r01 : w6.cell? ⟨w5.heap.size, 0, none⟩ = some (.int .i32 lo) ∧ w6.cell? ⟨w5.heap.size, 1, none⟩ = some (.int .i32 hi') := by
                  rw [hw6]
                  constructor <;> · rw [World.cell?_alloc_new]; rfl
                obtain ⟨r0, r1⟩ := r01
                have HR01 := Lib.hid (show _ ∧ _ from ⟨r0, r1⟩)
                rw [← hw6]
                clear hw6
                go_upto_if 131 with (fail)
                obtain ⟨hf, hhf⟩ : ∃ h, (lo + hi') / 2 = h := ⟨_, rfl⟩
                have hlh : lo ≤ hi' := (apartB_iff.1 HMT.out.ap).1 _ (List.mem_of_getElem? HRK.out.1)
                have hf1 : lo ≤ hf := by omega
                have hf2 : hf ≤ hi' := by omega
                rw [hhf]
                clear hhf
                have HC6 := Lib.hid (HC5.out.trans HC56.out.any)
                by_cases hlt : hf < hi'
                · have d4 : decide (hf < hi') = true := decide_eq_true hlt
                  go_upto_region 28 with (fail)
                  obtain ⟨wd, hwd⟩ : ∃ W, w6.drew = W := ⟨_, rfl⟩
                  have HDD : Hid (Chg (fun _ => False) w6 wd) := Lib.hid (by rw [← hwd]; exact (Chg.refl _ _).drew)
                  have HCD := Lib.hid (HC6.out.trans HDD.out.any)
                  clear q0 q1 q2 q3 r0 r1 c0 c1
                  refine wp_region_late (fun x => Chg (fun _ => False) wd x) (fun i => decide (23 ≤ i)) (by kernel_rfl) ?_
                  show wpAnyL _ _ _ _ _ _ 24 (Array.replicate 24 false) _ w6.drew
                  rw [hwd]
                  clear hwd
                  have HSS : Hid (Chg (fun _ => False) wd wd) := Lib.hid (Chg.refl _ _)
                  have s1 : k ≤ rc := by omega
                  have s2 : k + 1 ≤ rc := by omega
                  have s3 : k + 1 ≤ t.r.length := by omega
                  have hrl := HFT.out.r
                  have s4 : IntKind.i64.wrap ((k : Int) + 1) = (k : Int) + 1 := by simp [IntKind.wrap, IntKind.bits, IntKind.signed]; omega
                  have s5 : IntKind.i32.wrap (hf + 1) = hf + 1 := by rw [IntKind.wrap_i32]; omega
                  have s6 : (0 : Int) ≤ (k : Int) + 1 := by omega
                  have s7 : (k : Int) + 1 ≤ (t.r.length : Int) := by omega
                  have s8 : ((k : Int) + 1).toNat = k + 1 := by omega
                  obtain ⟨A, hA⟩ : ∃ A : Option Addr, (if rc = k + 1 then (some ⟨g, o, none⟩ : Option Addr) else some ⟨g, o + (k + 1) * 2, none⟩) = A := ⟨_, rfl⟩
                  have HA := Lib.hid hA
                  (refine late_read (i := 0) rfl (by kernel_rfl) (fun _ _ _ _ h => h) rfl HSS.out (fun K hK => ?_); apply Exists.intro; refine ⟨fun w' hC => ?_, ?_⟩; ((skip); go_simp; try with_reducible rfl); (try go_simp); refine hK _ ?_; clear hK K)
                  (refine late_read (i := 1) rfl (by kernel_rfl) (fun _ _ _ _ h => h) rfl HSS.out (fun K hK => ?_); apply Exists.intro; refine ⟨fun w' hC => ?_, ?_⟩; ((obtain ⟨q0, q1, q2, q3⟩ := HX0.out w' (HCD.out.trans hC.any)); go_simp; try with_reducible rfl); (try go_simp); refine hK _ ?_; clear hK K)
                  (refine late_read (i := 2) rfl (by kernel_rfl) (fun _ _ _ _ h => h) rfl HSS.out (fun K hK => ?_); apply Exists.intro; refine ⟨fun w' hC => ?_, ?_⟩; ((skip); go_simp; try with_reducible rfl); (try go_simp); refine hK _ ?_; clear hK K)
                  (refine late_read (i := 3) rfl (by kernel_rfl) (fun _ _ _ _ h => h) rfl HSS.out (fun K hK => ?_); apply Exists.intro; refine ⟨fun w' hC => ?_, ?_⟩; ((skip); go_simp; try with_reducible rfl); (try go_simp); refine hK _ ?_; clear hK K)
                  (refine late_read (i := 5) rfl (by kernel_rfl) (fun _ _ _ _ h => h) rfl HSS.out (fun K hK => ?_); apply Exists.intro; refine ⟨fun w' hC => ?_, ?_⟩; ((skip); go_simp; try with_reducible rfl); (try go_simp); refine hK _ ?_; clear hK K)
                  (refine late_read (i := 6) rfl (by kernel_rfl) (fun _ _ _ _ h => h) rfl HSS.out (fun K hK => ?_); apply Exists.intro; refine ⟨fun w' hC => ?_, ?_⟩; ((have r0 := (HDD.out.trans hC).cellS HR01.out.1 (fun h => h)); go_simp; try with_reducible rfl); (try go_simp); refine hK _ ?_; clear hK K)
                  (refine late_read (i := 7) rfl (by kernel_rfl) (fun _ _ _ _ h => h) rfl HSS.out (fun K hK => ?_); apply Exists.intro; refine ⟨fun w' hC => ?_, ?_⟩; ((skip); go_simp; try with_reducible rfl); (try go_simp); refine hK _ ?_; clear hK K)
                  (refine late_read (i := 8) rfl (by kernel_rfl) (fun _ _ _ _ h => h) rfl HSS.out (fun K hK => ?_); apply Exists.intro; refine ⟨fun w' hC => ?_, ?_⟩; ((skip); go_simp; try with_reducible rfl); (try go_simp); refine hK _ ?_; clear hK K)
                  (refine late_read (i := 9) rfl (by kernel_rfl) (fun _ _ _ _ h => h) rfl HSS.out (fun K hK => ?_); apply Exists.intro; refine ⟨fun w' hC => ?_, ?_⟩; ((skip); go_simp; try with_reducible rfl); (try go_simp); refine hK _ ?_; clear hK K)
                  (refine late_read (i := 10) rfl (by kernel_rfl) (fun _ _ _ _ h => h) rfl HSS.out (fun K hK => ?_); apply Exists.intro; refine ⟨fun w' hC => ?_, ?_⟩; ((skip); go_simp; try with_reducible rfl); (try go_simp); refine hK _ ?_; clear hK K)
                  (refine late_read (i := 11) rfl (by kernel_rfl) (fun _ _ _ _ h => h) rfl HSS.out (fun K hK => ?_); apply Exists.intro; refine ⟨fun w' hC => ?_, ?_⟩; ((skip); go_simp; try with_reducible rfl); (try go_simp); refine hK _ ?_; clear hK K)
                  (refine late_read (i := 12) rfl (by kernel_rfl) (fun _ _ _ _ h => h) rfl HSS.out (fun K hK => ?_); apply Exists.intro; refine ⟨fun w' hC => ?_, ?_⟩; ((have r1 := (HDD.out.trans hC).cellS HR01.out.2 (fun h => h)); go_simp; try with_reducible rfl); (try go_simp); refine hK _ ?_; clear hK K)
                  (refine late_read (i := 13) rfl (by kernel_rfl) (fun _ _ _ _ h => h) rfl HSS.out (fun K hK => ?_); apply Exists.intro; refine ⟨fun w' hC => ?_, ?_⟩; ((skip); go_simp; try with_reducible rfl); (try go_simp); refine hK _ ?_; clear hK K)
                  (refine late_read (i := 16) rfl (by kernel_rfl) (fun _ _ _ _ h => h) rfl HSS.out (fun K hK => ?_); apply Exists.intro; refine ⟨fun w' hC => ?_, ?_⟩; ((skip); go_simp; try with_reducible rfl); (try go_simp); refine hK _ ?_; clear hK K)
                  (refine late_read (i := 17) rfl (by kernel_rfl) (fun _ _ _ _ h => h) rfl HSS.out (fun K hK => ?_); apply Exists.intro; refine ⟨fun w' hC => ?_, ?_⟩; ((obtain ⟨q0, q1, q2, q3⟩ := HX0.out w' (HCD.out.trans hC.any)); go_simp; try with_reducible rfl); (try go_simp); refine hK _ ?_; clear hK K)
                  (refine late_read (i := 18) rfl (by kernel_rfl) (fun _ _ _ _ h => h) rfl HSS.out (fun K hK => ?_); apply Exists.intro; refine ⟨fun w' hC => ?_, ?_⟩; ((skip); go_simp; try with_reducible rfl); (try go_simp); refine hK _ ?_; clear hK K)
                  (refine late_read (i := 19) rfl (by kernel_rfl) (fun _ _ _ _ h => h) rfl HSS.out (fun K hK => ?_); apply Exists.intro; refine ⟨fun w' hC => ?_, ?_⟩; ((skip); go_simp; try with_reducible rfl); (try go_simp); refine hK _ ?_; clear hK K)
                  (refine late_read (i := 20) rfl (by kernel_rfl) (fun _ _ _ _ h => h) rfl HSS.out (fun K hK => ?_); apply Exists.intro; refine ⟨fun w' hC => ?_, ?_⟩; ((skip); go_simp; try with_reducible rfl); (try go_simp); refine hK _ ?_; clear hK K)
                  have HAT : Hid (∀ wx, Chg (fun k => w2.heap.size ≤ k) w2 wx → rngE.At wx g o t.r) := Lib.hid (fun wx hx => by
                    obtain ⟨-, -, g', o', h3, h4⟩ := (HTX.out wx hx).r
                    obtain ⟨e, -⟩ := h4 (by omega)
                    have e : some (⟨g, o, none⟩ : Addr) = some ⟨g', o', none⟩ := e
                    injection e with e
                    injection e with e1 e2
                    rw [e1, e2]; exact h3)
                  have HOKR : Hid (∀ y ∈ t.r, rngE.ok y) := Lib.hid (HAT.out w6 HC6.out).ok
                  have HSL : Hid (k ≤ t.r.length ∧ k + 1 ≤ t.r.length ∧ t.r.length ≤ rc) := Lib.hid ⟨by omega, by omega, by omega⟩
                  clear s1 s2 s3 s4 s5 s6 s7 s8 hA
                  refine late_three rngE 4 14 15 21 (by kernel_rfl) rfl rfl rfl rfl rfl rfl rfl rfl (by kernel_rfl) 136 146 147 (.const (.slice none 0 0)) (.tmp 135) (.tmp 152) rfl rfl rfl rfl rfl rfl (fun e => by injection e with e; cases e) (fun e => by injection e with e; cases e) (fun e => by injection e with e; cases e) (fun e => by injection e with e; cases e) (of_decide_eq_true (by kernel_rfl)) (of_decide_eq_true (by kernel_rfl)) (of_decide_eq_true (by kernel_rfl)) rfl (.slice (some ⟨g, o, none⟩) k rc) (.slice A (t.r.length - (k + 1)) (rc - (k + 1))) rfl rfl (t.r.take k) [(lo, hf), (hf + 1, hi')] (t.r.drop (k + 1)) (fun y hy => HOKR.out y (List.mem_of_mem_take hy)) (fun y hy => ?_) (fun y hy => HOKR.out y (List.mem_of_mem_drop hy)) 54 ?_ (fun w' => by go_simp; rfl) (fun w' hc => srcTake (HAT.out w' (HCD.out.trans hc.any)) HSL.out.1 rc) (fun w' hc => srcDrop (HAT.out w' (HCD.out.trans hc.any)) HSL.out.2.1 HSL.out.2.2 HA.out rfl _) (fun w' h => h) ?_
                  · simp only [List.mem_cons, List.not_mem_nil, or_false] at hy
                    rcases hy with rfl | rfl
                    · exact ⟨⟨by omega, by omega⟩, ⟨by omega, by omega⟩⟩
                    · exact ⟨⟨by show -2147483648 ≤ hf + 1; omega, by show hf + 1 ≤ 2147483647; omega⟩, ⟨by omega, by omega⟩⟩
                  · rw [List.length_take, List.length_drop]; show _ + 2 + _ ≤ _; omega
                  intro v1 vb v2 v3 wy hown hcy K hK
                  obtain ⟨va3, vc3, hv3, hvc3, -⟩ := hown.clip
                  subst hv3
                  have HOWR := Lib.hid hown
                  have HCY := Lib.hid hcy
                  have HPY := Lib.hid (HPU.out.same (HC45.out.trans (HC56.out.trans (HDD.out.trans hcy))))
                  obtain ⟨nr, hnr⟩ : ∃ nr, (t.r.take k ++ [(lo, hf), (hf + 1, hi')] ++ t.r.drop (k + 1)).length = nr := ⟨_, rfl⟩
                  have HNR : Hid (nr ≤ 7000) := Lib.hid (by rw [← hnr]; have := HRC.out.1; simp; omega)
                  rw [hnr] at HOWR hvc3 ⊢
                  clear hown hcy hnr
                  (try go_simp)
                  refine hK _ ?_
                  clear hK K
                  have k1 : wy.cell? ⟨w2.heap.size, 0, none⟩ = some (.slice (some ⟨g, o, none⟩) t.r.length rc) := HPY.out.c0
                  have k2 := HPY.out.zz 0
                  (refine late_turn (i := 22) (by kernel_rfl) rfl rfl (fun K hK => ?_); apply Exists.intro; apply Exists.intro; refine ⟨?_, ?_, ?_⟩; ((skip); go_simp; try first | with_reducible rfl | exact ⟨rfl, rfl⟩); (exact fun _ => HCY.out); (try go_simp); refine hK _ _ ?_; clear hK K)
                  (refine late_store (i := 23) (by kernel_rfl) rfl rfl (fun K hK => ?_); apply Exists.intro; refine ⟨?_, (fun h => absurd h (by decide)), ?_⟩; ((skip); go_simp; try first | with_reducible rfl | exact ⟨rfl, rfl⟩); (try go_simp); refine hK _ _ ?_; clear hK K)
                  refine late_done (by kernel_rfl) ?_ _
                  clear k1 k2
                  have HBD : Hid (w2.heap.size < wd.heap.size) := Lib.hid (by have := HPU.out.lt; have := HC45.out.size; have := HC56.out.size; have := HDD.out.size; omega)
                  have HP8 := Lib.hid (HPY.out.set0 (.slice va3 nr vc3))
                  have HO8 := Lib.hid (HOWR.out.chg (setCellChg wy w2.heap.size 0 (.slice va3 nr vc3)) (fun g' hg _ e => by have := HBD.out; omega))
                  have HC8 := Lib.hid (HCD.out.trans (HCY.out.any.trans ((setCellChg wy w2.heap.size 0 (.slice va3 nr vc3)).mono (T := fun k => w2.heap.size ≤ k) (fun k _ e => by omega))))
                  obtain ⟨w8, hw8⟩ : ∃ W, W = wy.setCell ⟨w2.heap.size, 0, none⟩ (.slice va3 nr vc3) := ⟨_, rfl⟩
                  have HS8 : Hid (wd.heap.size ≤ w8.heap.size) := Lib.hid (by rw [hw8]; exact Nat.le_trans HCY.out.size (setCellChg _ _ _ _).size)
                  rw [← hw8] at HP8 HO8 HC8 ⊢
                  clear hw8 HSS HPY HOWR
                  obtain rfl : cn = t.c.length := (HTX.out w8 HC8.out).c.1
                  have hcc1 : t.c.length ≤ cc := (HTX.out w8 HC8.out).c.2.1
                  have hkc : k < t.c.length := by have := HMT.out.cl; omega
                  obtain ⟨cl, gc, oc, hcx, hca, cc0, cl0, cl1, -, -⟩ := (HTX.out w8 HC8.out).c.getI (k := k) hkc
                  subst hca
                  have HKC := Lib.hid (show _ ∧ _ from ⟨hcx, cc0⟩)
                  clear hcx cc0
                  go_upto_region 29 with (fail)
                  obtain ⟨we, hwe⟩ : ∃ W, w8.drew = W := ⟨_, rfl⟩
                  have HDE : Hid (Chg (fun _ => False) w8 we) := Lib.hid (by rw [← hwe]; exact (Chg.refl _ _).drew)
                  have HCE := Lib.hid (HC8.out.trans HDE.out.any)
                  refine wp_region_late (fun x => Chg (fun _ => False) we x) (fun i => decide (24 ≤ i)) (by kernel_rfl) ?_
                  show wpAnyL _ _ _ _ _ _ 25 (Array.replicate 25 false) _ w8.drew
                  rw [hwe]
                  clear hwe
                  have HSS : Hid (Chg (fun _ => False) we we) := Lib.hid (Chg.refl _ _)
                  have s1 : k ≤ cc := by omega
                  have s2 : k + 1 ≤ cc := by omega
                  have s3 : k + 1 ≤ t.c.length := by omega
                  have s4 : IntKind.i64.wrap ((k : Int) + 1) = (k : Int) + 1 := by simp [IntKind.wrap, IntKind.bits, IntKind.signed]; omega
                  have s6 : (0 : Int) ≤ (k : Int) + 1 := by omega
                  have s7 : (k : Int) + 1 ≤ (t.c.length : Int) := by omega
                  have s8 : ((k : Int) + 1).toNat = k + 1 := by omega
                  obtain ⟨A2, hA2⟩ : ∃ A : Option Addr, (if cc = k + 1 then (some ⟨gc, oc, none⟩ : Option Addr) else some ⟨gc, oc + (k + 1), none⟩) = A := ⟨_, rfl⟩
                  have HA2 := Lib.hid hA2
                  (refine late_read (i := 0) rfl (by kernel_rfl) (fun _ _ _ _ h => h) rfl HSS.out (fun K hK => ?_); apply Exists.intro; refine ⟨fun w' hC => ?_, ?_⟩; ((skip); go_simp; try with_reducible rfl); (try go_simp); refine hK _ ?_; clear hK K)
                  (refine late_read (i := 1) rfl (by kernel_rfl) (fun _ _ _ _ h => h) rfl HSS.out (fun K hK => ?_); apply Exists.intro; refine ⟨fun w' hC => ?_, ?_⟩; ((obtain ⟨q0, q1, q2, q3⟩ := HX0.out w' (HCE.out.trans hC.any)); go_simp; try with_reducible rfl); (try go_simp); refine hK _ ?_; clear hK K)
                  (refine late_read (i := 2) rfl (by kernel_rfl) (fun _ _ _ _ h => h) rfl HSS.out (fun K hK => ?_); apply Exists.intro; refine ⟨fun w' hC => ?_, ?_⟩; ((skip); go_simp; try with_reducible rfl); (try go_simp); refine hK _ ?_; clear hK K)
                  (refine late_read (i := 3) rfl (by kernel_rfl) (fun _ _ _ _ h => h) rfl HSS.out (fun K hK => ?_); apply Exists.intro; refine ⟨fun w' hC => ?_, ?_⟩; ((skip); go_simp; try with_reducible rfl); (try go_simp); refine hK _ ?_; clear hK K)
                  (refine late_read (i := 5) rfl (by kernel_rfl) (fun _ _ _ _ h => h) rfl HSS.out (fun K hK => ?_); apply Exists.intro; refine ⟨fun w' hC => ?_, ?_⟩; ((skip); go_simp; try with_reducible rfl); (try go_simp); refine hK _ ?_; clear hK K)
                  (refine late_read (i := 6) rfl (by kernel_rfl) (fun _ _ _ _ h => h) rfl HSS.out (fun K hK => ?_); apply Exists.intro; refine ⟨fun w' hC => ?_, ?_⟩; ((obtain ⟨q0, q1, q2, q3⟩ := HX0.out w' (HCE.out.trans hC.any)); go_simp; try with_reducible rfl); (try go_simp); refine hK _ ?_; clear hK K)
                  (refine late_read (i := 7) rfl (by kernel_rfl) (fun _ _ _ _ h => h) rfl HSS.out (fun K hK => ?_); apply Exists.intro; refine ⟨fun w' hC => ?_, ?_⟩; ((skip); go_simp; try with_reducible rfl); (try go_simp); refine hK _ ?_; clear hK K)
                  (refine late_read (i := 8) rfl (by kernel_rfl) (fun _ _ _ _ h => h) rfl HSS.out (fun K hK => ?_); apply Exists.intro; refine ⟨fun w' hC => ?_, ?_⟩; ((skip); go_simp; try with_reducible rfl); (try go_simp); refine hK _ ?_; clear hK K)
                  (refine late_read (i := 9) rfl (by kernel_rfl) (fun _ _ _ _ h => h) rfl HSS.out (fun K hK => ?_); apply Exists.intro; refine ⟨fun w' hC => ?_, ?_⟩; ((have c0 := (HDE.out.trans hC).cellS HKC.out.2 (fun h => h)); go_simp; try with_reducible rfl); (try go_simp); refine hK _ ?_; clear hK K)
                  (refine late_read (i := 10) rfl (by kernel_rfl) (fun _ _ _ _ h => h) rfl HSS.out (fun K hK => ?_); apply Exists.intro; refine ⟨fun w' hC => ?_, ?_⟩; ((skip); go_simp; try with_reducible rfl); (try go_simp); refine hK _ ?_; clear hK K)
                  (refine late_read (i := 11) rfl (by kernel_rfl) (fun _ _ _ _ h => h) rfl HSS.out (fun K hK => ?_); apply Exists.intro; refine ⟨fun w' hC => ?_, ?_⟩; ((obtain ⟨q0, q1, q2, q3⟩ := HX0.out w' (HCE.out.trans hC.any)); go_simp; try with_reducible rfl); (try go_simp); refine hK _ ?_; clear hK K)
                  (refine late_read (i := 12) rfl (by kernel_rfl) (fun _ _ _ _ h => h) rfl HSS.out (fun K hK => ?_); apply Exists.intro; refine ⟨fun w' hC => ?_, ?_⟩; ((skip); go_simp; try with_reducible rfl); (try go_simp); refine hK _ ?_; clear hK K)
                  (refine late_read (i := 13) rfl (by kernel_rfl) (fun _ _ _ _ h => h) rfl HSS.out (fun K hK => ?_); apply Exists.intro; refine ⟨fun w' hC => ?_, ?_⟩; ((skip); go_simp; try with_reducible rfl); (try go_simp); refine hK _ ?_; clear hK K)
                  (refine late_read (i := 14) rfl (by kernel_rfl) (fun _ _ _ _ h => h) rfl HSS.out (fun K hK => ?_); apply Exists.intro; refine ⟨fun w' hC => ?_, ?_⟩; ((have c0 := (HDE.out.trans hC).cellS HKC.out.2 (fun h => h)); go_simp; try with_reducible rfl); (try go_simp); refine hK _ ?_; clear hK K)
                  (refine late_read (i := 17) rfl (by kernel_rfl) (fun _ _ _ _ h => h) rfl HSS.out (fun K hK => ?_); apply Exists.intro; refine ⟨fun w' hC => ?_, ?_⟩; ((skip); go_simp; try with_reducible rfl); (try go_simp); refine hK _ ?_; clear hK K)
                  (refine late_read (i := 18) rfl (by kernel_rfl) (fun _ _ _ _ h => h) rfl HSS.out (fun K hK => ?_); apply Exists.intro; refine ⟨fun w' hC => ?_, ?_⟩; ((obtain ⟨q0, q1, q2, q3⟩ := HX0.out w' (HCE.out.trans hC.any)); go_simp; try with_reducible rfl); (try go_simp); refine hK _ ?_; clear hK K)
                  (refine late_read (i := 19) rfl (by kernel_rfl) (fun _ _ _ _ h => h) rfl HSS.out (fun K hK => ?_); apply Exists.intro; refine ⟨fun w' hC => ?_, ?_⟩; ((skip); go_simp; try with_reducible rfl); (try go_simp); refine hK _ ?_; clear hK K)
                  (refine late_read (i := 20) rfl (by kernel_rfl) (fun _ _ _ _ h => h) rfl HSS.out (fun K hK => ?_); apply Exists.intro; refine ⟨fun w' hC => ?_, ?_⟩; ((skip); go_simp; try with_reducible rfl); (try go_simp); refine hK _ ?_; clear hK K)
                  (refine late_read (i := 21) rfl (by kernel_rfl) (fun _ _ _ _ h => h) rfl HSS.out (fun K hK => ?_); apply Exists.intro; refine ⟨fun w' hC => ?_, ?_⟩; ((skip); go_simp; try with_reducible rfl); (try go_simp); refine hK _ ?_; clear hK K)
                  have HCT : Hid (∀ wx, Chg (fun k => w2.heap.size ≤ k) w2 wx → intE.At wx gc oc t.c) := Lib.hid (fun wx hx => by
                    obtain ⟨-, -, g', o', h3, h4⟩ := (HTX.out wx hx).c
                    obtain ⟨e, -⟩ := h4 (by omega)
                    have e : some (⟨gc, oc, none⟩ : Addr) = some ⟨g', o', none⟩ := e
                    injection e with e
                    injection e with e1 e2
                    rw [e1, e2]; exact h3)
                  have HOKC : Hid (∀ y ∈ t.c, intE.ok y) := Lib.hid (HCT.out w8 HC8.out).ok
                  have HSM : Hid (k ≤ t.c.length ∧ k + 1 ≤ t.c.length ∧ t.c.length ≤ cc) := Lib.hid ⟨by omega, by omega, by omega⟩
                  have hcl6 := HRC.out.2
                  clear s1 s2 s3 s4 s6 s7 s8 hA2
                  refine late_three intE 4 15 16 22 (by kernel_rfl) rfl rfl rfl rfl rfl rfl rfl rfl (by kernel_rfl) 159 170 171 (.const (.slice none 0 0)) (.tmp 158) (.tmp 176) rfl rfl rfl rfl rfl rfl (fun e => by injection e with e; cases e) (fun e => by injection e with e; cases e) (fun e => by injection e with e; cases e) (fun e => by injection e with e; cases e) (of_decide_eq_true (by kernel_rfl)) (of_decide_eq_true (by kernel_rfl)) (of_decide_eq_true (by kernel_rfl)) rfl (.slice (some ⟨gc, oc, none⟩) k cc) (.slice A2 (t.c.length - (k + 1)) (cc - (k + 1))) rfl rfl (t.c.take k) [cl, cl] (t.c.drop (k + 1)) (fun y hy => HOKC.out y (List.mem_of_mem_take hy)) (fun y hy => ?_) (fun y hy => HOKC.out y (List.mem_of_mem_drop hy)) 3 ?_ (fun w' => by go_simp; rfl) (fun w' hc => srcTake (HCT.out w' (HCE.out.trans hc.any)) HSM.out.1 cc) (fun w' hc => srcDrop (HCT.out w' (HCE.out.trans hc.any)) HSM.out.2.1 HSM.out.2.2 (by rw [show intE.sz = 1 from rfl, Nat.mul_one]; exact HA2.out) rfl _) (fun w' h => h) ?_
                  · simp only [List.mem_cons, List.not_mem_nil, or_false] at hy
                    rcases hy with rfl | rfl <;> exact ⟨cl0, cl1⟩
                  · rw [List.length_take, List.length_drop]; show _ + 2 + _ ≤ _; omega
                  intro x1 xb x2 x3 wz hown hcz K hK
                  obtain ⟨va4, vc4, hv4, hvc4, -⟩ := hown.clip
                  subst hv4
                  have HOWC := Lib.hid hown
                  have HCZ := Lib.hid hcz
                  have HPZ := Lib.hid (HP8.out.same (HDE.out.trans hcz))
                  obtain ⟨nk, hnk⟩ : ∃ nk, (t.c.take k ++ [cl, cl] ++ t.c.drop (k + 1)).length = nk := ⟨_, rfl⟩
                  rw [hnk] at HOWC hvc4 ⊢
                  have HNK : Hid (nk ≤ 7000) := Lib.hid (by rw [← hnk]; simp; omega)
                  clear hown hcz hnk
                  (try go_simp)
                  refine hK _ ?_
                  clear hK K
                  have k1 : wz.cell? ⟨w2.heap.size, 1, none⟩ = some (.slice (some ⟨gc, oc, none⟩) t.c.length cc) := HPZ.out.c1
                  have k2 := HPZ.out.zz 1
                  (refine late_turn (i := 23) (by kernel_rfl) rfl rfl (fun K hK => ?_); apply Exists.intro; apply Exists.intro; refine ⟨?_, ?_, ?_⟩; ((skip); go_simp; try first | with_reducible rfl | exact ⟨rfl, rfl⟩); (exact fun _ => HCZ.out); (try go_simp); refine hK _ _ ?_; clear hK K)
                  (refine late_store (i := 24) (by kernel_rfl) rfl rfl (fun K hK => ?_); apply Exists.intro; refine ⟨?_, (fun h => absurd h (by decide)), ?_⟩; ((skip); go_simp; try first | with_reducible rfl | exact ⟨rfl, rfl⟩); (try go_simp); refine hK _ _ ?_; clear hK K)
                  refine late_done (by kernel_rfl) ?_ _
                  clear k1 k2
                  have HP9 := Lib.hid (HPZ.out.set1 (.slice va4 nk vc4))
                  have HO9 := Lib.hid ((HO8.out.chg (HDE.out.trans HCZ.out) (fun _ _ _ h => h)).chg (setCellChg wz w2.heap.size 1 (.slice va4 nk vc4)) (fun g' hg _ e => by have := HBD.out; omega))
                  have HQ9 := Lib.hid (HOWC.out.chg (setCellChg wz w2.heap.size 1 (.slice va4 nk vc4)) (fun g' hg _ e => by have h1 := HBD.out; have h2 := HS8.out; have h3 := HDE.out.size; omega))
                  have HC9 := Lib.hid (HCE.out.trans (HCZ.out.any.trans ((setCellChg wz w2.heap.size 1 (.slice va4 nk vc4)).mono (T := fun k => w2.heap.size ≤ k) (fun k _ e => by omega))))
                  obtain ⟨w9', hw9⟩ : ∃ W, W = wz.setCell ⟨w2.heap.size, 1, none⟩ (.slice va4 nk vc4) := ⟨_, rfl⟩
                  rw [← hw9] at HP9 HO9 HQ9 HC9 ⊢
                  clear hw9 HSS HPZ HOWC
                  have hgr : t.r.getD k (0, 0) = (lo, hi') := by rw [List.getD_eq_getElem?_getD, HRK.out.1]; rfl
                  have hgc' : t.c.getD k 0 = cl := by rw [List.getD_eq_getElem?_getD, HKC.out.1]; rfl
                  have HUR : Hid ((cutT (turnT t a b) k hf).r = t.r.take k ++ [(lo, hf), (hf + 1, hi')] ++ t.r.drop (k + 1) ∧ (cutT (turnT t a b) k hf).c = t.c.take k ++ [cl, cl] ++ t.c.drop (k + 1)) := Lib.hid (by
                    unfold cutT
                    show t.r.take k ++ [((t.r.getD k (0, 0)).1, hf), (hf + 1, (t.r.getD k (0, 0)).2)] ++ t.r.drop (k + 1) = _ ∧ t.c.take k ++ [t.c.getD k 0, t.c.getD k 0] ++ t.c.drop (k + 1) = _
                    rw [hgr, hgc']
                    exact ⟨rfl, rfl⟩)
                  have HUM : Hid (MayS (cutT (turnT t a b) k hf) ∧ doesN (cutT (turnT t a b) k hf) 0 = doesN t 0) := Lib.hid (by
                    have g1 : ((turnT t a b).r.getD k (0, 0)).1 ≤ hf := by show (t.r.getD k (0, 0)).1 ≤ hf; rw [hgr]; exact hf1
                    have g2 : hf < ((turnT t a b).r.getD k (0, 0)).2 := by show hf < (t.r.getD k (0, 0)).2; rw [hgr]; exact hlt
                    refine ⟨cut_may HTM.out hkl g1 g2, ?_⟩
                    rw [← HTS.out]
                    funext l
                    exact cut_does HTM.out hkl g1 g2 l 0)
                  clear hgr hgc'
                  have HFIN : Hid (∃ (U : TabD) (rs' cs' : Sl), TabAt w9' w2.heap.size rs' cs' (vna, t.n.length, vnc) (vea, t.n.length, vec) ∧ TabIn w9' 0 rs' cs' (vna, t.n.length, vnc) (vea, t.n.length, vec) U ∧ (MayS U ∧ Fair U ∧ Hid (doesN U 0 = doesN t 0) ∧ Hid (U.e = (turnT t a b).e ∧ U.n.length = t.n.length)) ∧ Chg (fun k => w2.heap.size ≤ k) w2 w9') := Lib.hid (by
                    refine ⟨cutT (turnT t a b) k hf, (va3, nr, vc3), (va4, nk, vc4), ⟨HP9.out.c0, HP9.out.c1, HP9.out.c2, HP9.out.c3⟩, ⟨?_, ?_, ?_, ?_⟩, ⟨HUM.out.1, ⟨?_, ?_, HFU.out.n, HFU.out.e, HFU.out.l⟩, Lib.hid HUM.out.2, Lib.hid ⟨rfl, turn_nl⟩⟩, HC9.out⟩
                    · rw [HUR.out.1]; exact (HO9.out.in' (c' := vc3) hvc3).lower (Nat.zero_le _)
                    · rw [HUR.out.2]; exact (HQ9.out.in' (c' := vc4) hvc4).lower (Nat.zero_le _)
                    · exact HP9.out.n.lists.lower (Nat.zero_le _)
                    · exact (HP9.out.e.own.in' (c' := vec) hvec).lower (Nat.zero_le _)
                    · have h1 := (HO9.out.in' (c' := vc3) hvc3).1
                      rw [HUR.out.1, ← h1]; exact Nat.le_trans HNR.out (by omega)
                    · have h1 := (HQ9.out.in' (c' := vc4) hvc4).1
                      rw [HUR.out.2, ← h1]; exact Nat.le_trans HNK.out (by omega))
                  clear HP9 HO9 HQ9 HC9 HUR HUM
                  go_wp2
                  go_meet
                  exact HFIN.out
                · have d4 : decide (hf < hi') = false := decide_eq_false hlt
                  go_wp2
                  go_meet
                  exact HNO.out w6 HC56.out
              · obtain hr0' : t.r.length = 0 := by omega
                have d1 : decide ((0 : Int) < (t.r.length : Int)) = false := decide_eq_false (by omega)
                clear hr0'
                go_wp2
                go_meet
                exact HNO.out w5 (Chg.refl _ _)
            case rest =>
              obtain ⟨U, ⟨r9a, r9n, r9c⟩, ⟨c9a, c9n, c9c⟩, hTA, hTI, ⟨hM, hF, HDU, HEU⟩, hc⟩ := hcut
              clear q0 q1 q2 q3
              have u0 : wc.cell? ⟨w2.heap.size, 0, none⟩ = some (.slice r9a r9n r9c) := hTA.1
              have u1 : wc.cell? ⟨w2.heap.size, 1, none⟩ = some (.slice c9a c9n c9c) := hTA.2.1
              have u2 : wc.cell? ⟨w2.heap.size, 2, none⟩ = some (.slice vna t.n.length vnc) := hTA.2.2.1
              have u3 : wc.cell? ⟨w2.heap.size, 3, none⟩ = some (.slice vea t.n.length vec) := hTA.2.2.2
              have HTAU := Lib.hid hTA
              have HTIU := Lib.hid hTI
              have HMU := Lib.hid hM
              have HFF := Lib.hid hF
              have HCC := Lib.hid hc
              have hwb : w2.heap.size < wc.heap.size := World.block_lt_of_cell? _ _ u0
              clear hTA hTI hM hF hc
              obtain ⟨wv, hwv⟩ : ∃ X, X = wc.alloc (.cells #[.slice r9a r9n r9c, .slice c9a c9n c9c, .slice vna t.n.length vnc, .slice vea t.n.length vec] 26) := ⟨_, rfl⟩
              have hcv : Chg (fun _ => False) wc wv := by rw [hwv]; exact (Chg.refl _ _).alloc _
              have hsv : wv.heap.size = wc.heap.size + 1 := by rw [hwv]; simp
              have HBV : Hid (TabAt wv wc.heap.size (r9a, r9n, r9c) (c9a, c9n, c9c) (vna, t.n.length, vnc) (vea, t.n.length, vec) ∧ (∀ j, wv.frozen? ⟨wc.heap.size, j, none⟩ = false) ∧ wv.heap.size = wc.heap.size + 1) := Lib.hid ⟨by rw [hwv]; exact tabBox wc (r9a, r9n, r9c) (c9a, c9n, c9c) (vna, t.n.length, vnc) (vea, t.n.length, vec) 26, fun j => by rw [hwv]; exact World.frozen?_alloc_new _ _ _ _, hsv⟩
              have u3v := hcv.cellS u3 (fun h => h)
              obtain ⟨hle0, -, ge0, oe0, hat, h0e⟩ := (HTIU.out.same hcv).e
              have hle : t.n.length = U.e.length := hle0
              clear hle0
              have HSRC : Hid (Src Try.prog intE.sz intE.sl (.slice vea t.n.length vec) U.e.length (intE.encs U.e) wv) := Lib.hid (by
                have h := hat.src (a := vea) (c := vec) (fun hp => (h0e hp).1)
                rw [← hle] at h ⊢
                exact h)
              have HOKE : Hid (∀ y ∈ U.e, intE.ok y) := Lib.hid hat.ok
              have HLE := Lib.hid hle
              have HCV := Lib.hid hcv
              have HWV := Lib.hid hwv
              obtain ⟨e0, he0⟩ : ∃ e, U.e[0]? = some e := ⟨_, List.getElem?_eq_getElem (by omega)⟩
              have HE0 := Lib.hid he0
              clear hcv hsv hwv hle hat h0e he0
              go_upto_region 31 with (fail)
              rw [← HWV.out]
              clear u0 u1 u2 u3
              go_upto_region 32 with (at_builtin; go_loud (refine Elt.wpList_append2 intE rfl _ _ 23 23 rfl rfl wv.heap.size (.slice none 0 0) [] U.e (.slice vea t.n.length vec) rfl rfl (.nil _ _) (Nat.le_refl _) HSRC.out HOKE.out (by have := HLE.out; simp; omega) ?_; intro v' wx HO5 HC5 HC5b; have k1 := HC5b.out.1.cellS HBV.out.1.2.2.2 (fun e => by cases e); have k2 := (HC5b.out.1.frozen (p := ⟨wc.heap.size, 3, none⟩) (by have := HBV.out.2.2; show wc.heap.size < _; omega) (fun e => by cases e)).trans (HBV.out.2.1 3); obtain ⟨ge, C, hv, hBg, hR, hp, hCm⟩ := HO5.out.shapeS (by have := HLE.out; simp; omega); rw [List.nil_append, ← HLE.out] at hv; rw [List.nil_append] at hp; subst hv; have HRW := Lib.hid (show _ ∧ _ ∧ _ ∧ _ from ⟨hBg, hR, hp, hCm⟩); clear hBg hR hp hCm))
              obtain ⟨w6, hw6⟩ : ∃ W, W = wx.setCell ⟨wc.heap.size, 3, none⟩ (.slice (some ⟨ge, 0, none⟩) t.n.length C.length) := ⟨_, rfl⟩
              have hcx : Chg (fun k => wv.heap.size ≤ k) wv wx := HC5.out
              have HC6 : Hid (Chg (fun k => wc.heap.size ≤ k) wc w6) := Lib.hid (by
                rw [hw6]
                have := HBV.out.2.2
                exact HCV.out.any.trans ((hcx.mono (fun k _ e => by omega)).trans ((setCellChg wx wc.heap.size 3 _).mono (fun k _ e => by omega))))
              have HV3 : Hid (w6.cell? ⟨wc.heap.size, 3, none⟩ = some (.slice (some ⟨ge, 0, none⟩) t.n.length C.length)) := Lib.hid (by rw [hw6]; exact World.cell?_setCell_same _ _ _ k1)
              have hoth : ∀ (q : Nat) (u : Value), q ≠ 3 → wv.cell? ⟨wc.heap.size, q, none⟩ = some u → w6.cell? ⟨wc.heap.size, q, none⟩ = some u := fun q u hq hu => by
                rw [hw6, World.cell?_setCell_other _ _ _ _ (by intro e; injection e with _ e; exact hq e.symm)]
                exact HC5b.out.1.cellS hu (fun e => by cases e)
              have HV0 : Hid (w6.cell? ⟨wc.heap.size, 0, none⟩ = some (.slice r9a r9n r9c) ∧ w6.cell? ⟨wc.heap.size, 1, none⟩ = some (.slice c9a c9n c9c) ∧ w6.cell? ⟨wc.heap.size, 2, none⟩ = some (.slice vna t.n.length vnc)) := Lib.hid ⟨hoth 0 _ (by decide) HBV.out.1.1, hoth 1 _ (by decide) HBV.out.1.2.1, hoth 2 _ (by decide) HBV.out.1.2.2.1⟩
              have HGE : Hid (wc.heap.size < ge) := Lib.hid (by have := HRW.out.1; have := HBV.out.2.2; omega)
              have HR6 : Hid (intE.Row w6 ge C) := Lib.hid (by rw [hw6]; exact HRW.out.2.1.chg (setCellChg _ _ _ _) (fun e => by have := HGE.out; omega))
              rw [← hw6]
              clear hw6 hcx hoth k1 k2 HO5 HC5 HC5b u3v
              obtain ⟨wd, hwd⟩ : ∃ W, w6.drew = W := ⟨_, rfl⟩
              have HDD : Hid (Chg (fun _ => False) w6 wd) := Lib.hid (by rw [← hwd]; exact (Chg.refl _ _).drew)
              refine wp_region_late (fun x => Chg (fun _ => False) wd x) (fun i => decide (8 ≤ i)) (by kernel_rfl) ?_
              show wpAnyL _ _ _ _ _ _ 9 (Array.replicate 9 false) _ w6.drew
              rw [hwd]
              clear hwd
              have HSS : Hid (Chg (fun _ => False) wd wd) := Lib.hid (Chg.refl _ _)
              have HRD := Lib.hid (HR6.out.chg HDD.out (fun h => h))
              have hC0 : C[0]? = some e0 := by
                obtain ⟨D, hD⟩ := HRW.out.2.2.1
                rw [← hD, List.getElem?_append_left (by have := HLE.out; omega)]
                exact HE0.out
              have HCE0 : Hid (wd.cell? ⟨ge, 0, none⟩ = some (.int .i64 e0)) := Lib.hid (HRD.out.get1 hC0 rfl rfl)
              have HC0L : Hid (0 < C.length) := Lib.hid (List.getElem?_eq_some_iff.1 hC0).1
              have hok0 := HRD.out.ok e0 (List.mem_of_getElem? hC0)
              have hb1 : -9223372036854775808 ≤ e0 := hok0.1
              have hb2 : e0 ≤ 9223372036854775807 := hok0.2
              obtain ⟨e9, he9⟩ : ∃ e, IntKind.i64.wrap (e0 + 1) = e := ⟨_, rfl⟩
              have HE9 : Hid (e9 ≠ e0 ∧ intE.ok e9) := Lib.hid (by
                rw [← he9, IntKind.wrap_i64]
                refine ⟨by omega, ⟨by omega, by omega⟩⟩)
              clear hC0 hok0
              (refine late_read (i := 0) rfl (by kernel_rfl) (fun _ _ _ _ h => h) rfl HSS.out (fun K hK => ?_); apply Exists.intro; refine ⟨fun w' hC => ?_, ?_⟩; ((skip); go_simp; try with_reducible rfl); (try go_simp); refine hK _ ?_; clear hK K)
              (refine late_read (i := 1) rfl (by kernel_rfl) (fun _ _ _ _ h => h) rfl HSS.out (fun K hK => ?_); apply Exists.intro; refine ⟨fun w' hC => ?_, ?_⟩; ((have v3 := (HDD.out.trans hC).cellS HV3.out (fun h => h)); go_simp; try with_reducible rfl); (try go_simp); refine hK _ ?_; clear hK K)
              (refine late_read (i := 2) rfl (by kernel_rfl) (fun _ _ _ _ h => h) rfl HSS.out (fun K hK => ?_); apply Exists.intro; refine ⟨fun w' hC => ?_, ?_⟩; ((skip); go_simp; try with_reducible rfl); (try go_simp); refine hK _ ?_; clear hK K)
              (refine late_read (i := 3) rfl (by kernel_rfl) (fun _ _ _ _ h => h) rfl HSS.out (fun K hK => ?_); apply Exists.intro; refine ⟨fun w' hC => ?_, ?_⟩; ((have v3 := (HDD.out.trans hC).cellS HV3.out (fun h => h)); go_simp; try with_reducible rfl); (try go_simp); refine hK _ ?_; clear hK K)
              (refine late_read (i := 4) rfl (by kernel_rfl) (fun _ _ _ _ h => h) rfl HSS.out (fun K hK => ?_); apply Exists.intro; refine ⟨fun w' hC => ?_, ?_⟩; ((skip); go_simp; try with_reducible rfl); (try go_simp); refine hK _ ?_; clear hK K)
              (refine late_read (i := 5) rfl (by kernel_rfl) (fun _ _ _ _ h => h) rfl HSS.out (fun K hK => ?_); apply Exists.intro; refine ⟨fun w' hC => ?_, ?_⟩; ((have c0 := hC.cellS HCE0.out (fun h => h)); go_simp; try with_reducible rfl); (try go_simp); refine hK _ ?_; clear hK K)
              (refine late_read (i := 6) rfl (by kernel_rfl) (fun _ _ _ _ h => h) rfl HSS.out (fun K hK => ?_); apply Exists.intro; refine ⟨fun w' hC => ?_, ?_⟩; ((skip); go_simp; try with_reducible rfl); (try go_simp); refine hK _ ?_; clear hK K)
              clear he9
              (refine late_read (i := 7) rfl (by kernel_rfl) (fun _ _ _ _ h => h) rfl HSS.out (fun K hK => ?_); apply Exists.intro; refine ⟨fun w' hC => ?_, ?_⟩; ((skip); go_simp; try with_reducible rfl); (try go_simp); refine hK _ ?_; clear hK K)
              have k1 := HCE0.out
              have k2 := HRD.out.z 0
              (refine late_store (i := 8) (by kernel_rfl) rfl rfl (fun K hK => ?_); apply Exists.intro; refine ⟨?_, (fun h => absurd h (by decide)), ?_⟩; ((skip); go_simp; try first | with_reducible rfl | exact ⟨rfl, rfl⟩); (try go_simp); refine hK _ _ ?_; clear hK K)
              refine late_done (by kernel_rfl) ?_ _
              clear k1 k2
              have HR9 := Lib.hid (HRD.out.set1 (k := 0) (x := e9) (u := .int .i64 e9) HC0L.out HE9.out.2 rfl rfl)
              have hs9 := setCellChg wd ge 0 (.int .i64 e9)
              have HC9 : Hid (Chg (fun k => wc.heap.size ≤ k) wc (wd.setCell ⟨ge, 0, none⟩ (.int .i64 e9))) := Lib.hid (HC6.out.trans (HDD.out.any.trans (hs9.mono (fun k _ e => by have := HGE.out; omega))))
              have hvb : ∀ (q : Nat) (u : Value), w6.cell? ⟨wc.heap.size, q, none⟩ = some u → (wd.setCell ⟨ge, 0, none⟩ (.int .i64 e9)).cell? ⟨wc.heap.size, q, none⟩ = some u := fun q u hu => hs9.cellS (HDD.out.cellS hu (fun h => h)) (fun e => by have e : wc.heap.size = ge := e; have := HGE.out; omega)
              have HVB : Hid (_ ∧ _ ∧ _ ∧ _) := Lib.hid ⟨hvb 0 _ HV0.out.1, hvb 1 _ HV0.out.2.1, hvb 2 _ HV0.out.2.2, hvb 3 _ HV3.out⟩
              obtain ⟨w9, hw9⟩ : ∃ W, W = wd.setCell ⟨ge, 0, none⟩ (.int .i64 e9) := ⟨_, rfl⟩
              rw [← hw9] at HR9 HC9 HVB ⊢
              clear hw9 hs9 hvb HSS HRD HCE0
              have HCW9 : Hid (Chg (fun k => w2.heap.size ≤ k) w2 w9) := Lib.hid (HCC.out.trans (HC9.out.mono (fun k _ e => by omega)))
              have HTV : Hid (TabIn w9 0 (r9a, r9n, r9c) (c9a, c9n, c9c) (vna, t.n.length, vnc) (some ⟨ge, 0, none⟩, t.n.length, C.length) (bumpT U e9)) := Lib.hid (by
                have h9 := HTIU.out.same HC9.out.fresh
                have ho : intE.Own w9 0 (.slice (some ⟨ge, 0, none⟩) (U.e.set 0 e9).length (C.set 0 e9).length) (U.e.set 0 e9) := .inr ⟨ge, C.set 0 e9, rfl, Nat.zero_le _, HR9.out, set_prefix HRW.out.2.2.1 e9, by rw [List.length_set]; exact HRW.out.2.2.2⟩
                have hle2 : t.n.length ≤ C.length := by rw [HLE.out]; exact HRW.out.2.2.1.length_le
                rw [List.length_set, ← HLE.out] at ho
                exact ⟨h9.r, h9.c, h9.n, ho.in' hle2⟩)
              have HFV : Hid (Fair (bumpT U e9)) := Lib.hid ⟨HFF.out.r, HFF.out.c, HFF.out.n, by show (U.e.set 0 e9).length ≤ _; rw [List.length_set]; exact HFF.out.e, HFF.out.l⟩
              have HAU : Hid (alikeB U t = true) := Lib.hid (alikeB_iff.2 ⟨HMU.out, HMT.out, (least_iff HMU.out HMT.out).2 HDU.out⟩)
              have HAV : Hid (alikeB (bumpT U e9) t = false) := Lib.hid (by
                cases hq : alikeB (bumpT U e9) t with
                | false => rfl
                | true =>
                  obtain ⟨j1, -, j3⟩ := alikeB_iff.1 hq
                  exact absurd ⟨j1, j3⟩ (bump_not HMT.out HDU.out (by rw [endN_at HMU.out HE0.out]; exact HE9.out.1) HMU.out.nl HMU.out.el))
              have hua := HTAU.out.chg HC9.out.fresh (fun h => h)
              have u0 : w9.cell? ⟨w2.heap.size, 0, none⟩ = some (.slice r9a r9n r9c) := hua.1
              have u1 : w9.cell? ⟨w2.heap.size, 1, none⟩ = some (.slice c9a c9n c9c) := hua.2.1
              have u2 : w9.cell? ⟨w2.heap.size, 2, none⟩ = some (.slice vna t.n.length vnc) := hua.2.2.1
              have u3 : w9.cell? ⟨w2.heap.size, 3, none⟩ = some (.slice vea t.n.length vec) := hua.2.2.2
              clear hua
              obtain ⟨q0, q1, q2, q3⟩ := HX0.out w9 HCW9.out
              go_wp2_with fail
              refine (alike_any U t (r9a, r9n, r9c) (c9a, c9n, c9c) (vna, t.n.length, vnc) (vea, t.n.length, vec) (ra, t.r.length, rc) (ca, cn, cc) (na, t.n.length, nc) (ea, en, ec) 0 B w9 (HTIU.out.same HC9.out.fresh) (HTX.out w9 HCW9.out) HFF.out HFT.out).mono ?_
              rintro e w10 ⟨rfl, hc⟩
              rw [HAU.out]
              have HC10 := Lib.hid hc
              clear hc u0 u1 u2 u3 q0 q1 q2 q3
              obtain ⟨v0, v1, v2, v3⟩ := HVB.out
              have v0 := HC10.out.cellS v0 (fun h => h)
              have v1 := HC10.out.cellS v1 (fun h => h)
              have v2 := HC10.out.cellS v2 (fun h => h)
              have v3 := HC10.out.cellS v3 (fun h => h)
              obtain ⟨q0, q1, q2, q3⟩ := HX0.out w10 (HCW9.out.trans HC10.out.any)
              go_wp2_with fail
              refine (alike_any (bumpT U e9) t (r9a, r9n, r9c) (c9a, c9n, c9c) (vna, t.n.length, vnc) (some ⟨ge, 0, none⟩, t.n.length, C.length) (ra, t.r.length, rc) (ca, cn, cc) (na, t.n.length, nc) (ea, en, ec) 0 B w10 (HTV.out.same HC10.out) (HTX.out w10 (HCW9.out.trans HC10.out.any)) HFV.out HFT.out).mono ?_
              rintro e w11 ⟨rfl, hc⟩
              rw [HAV.out]
              have HC11 := Lib.hid (HC10.out.trans hc)
              clear hc v0 v1 v2 v3 q0 q1 q2 q3
              go_wp2_with fail
              refine (lives_any w11).mono ?_
              rintro e w12 ⟨rfl, hc⟩
              have HCE := Lib.hid (HC0.out.trans (HC2.out.trans (HCW9.out.fresh.trans (HC11.out.trans hc))))
              clear hc
              go_wp2
              go_ret
              exact ⟨rfl, HCE.out⟩
end Go.Proofs.Ytodohgckncnipaa
/- 'MinsTurned' for whatever table, states, range are handed in: true, and all reads as it did. No condition. -/
namespace Go.Proofs.Ytodohgckncnipaa.minsTurned
open Go.ChangeShapes Go.WideShapes Go.ChangeAt Go.RowKit Go.Deep Go.WideMaps

section
variable {H : Type} {enc : TypeId × Value → H} {W : World}
theorem u8One : Try.prog.cellsOf 5 = 1 := by kernel_rfl
theorem arrDuo : ArrKey Try.prog 51 5 2 := ⟨Try.underlying51, by kernel_rfl, by kernel_rfl, by kernel_rfl⟩
set_option maxRecDepth 100000 in
theorem open_duo {v : Value} {d : DataW H} {p : List MemPlace} {b0 : Nat} (hv : Value.okWide Try.prog W .any b0 51 v) (h : DataW.Trod enc Try.prog W 0 (fun _ => true) true 51 v d p) : ∃ x y : Int, v = .agg #[.int .u8 x, .int .u8 y] ∧ (0 ≤ x ∧ x ≤ 255) ∧ (0 ≤ y ∧ y ≤ 255) := by
  obtain ⟨xs, rfl, hs⟩ := okWide_arr arrDuo hv
  obtain ⟨fuel, hf⟩ := h
  obtain ⟨ys, m, _, _, _, _, hg⟩ := DataW.trod_array Try.underlying51 hf
  obtain ⟨l⟩ := xs
  match l, hs with
  | [c0, c1], _ =>
    have g0 := hg 0 (by omega)
    have g1 := hg 1 (by omega)
    have k0 : ∃ y, ys[0]? = some y := ⟨ys[0], by simp⟩
    have k1 : ∃ y, ys[1]? = some y := ⟨ys[1], by simp⟩
    obtain ⟨y0, k0⟩ := k0
    obtain ⟨y1, k1⟩ := k1
    rw [k0] at g0
    rw [k1] at g1
    obtain ⟨x, e0, _, w0⟩ := DataW.trod_int Try.underlying5 g0
    obtain ⟨y, e1, _, w1⟩ := DataW.trod_int Try.underlying5 g1
    simp [Value.cells, u8One] at e0 e1
    exact ⟨x, y, by rw [e0, e1], bounds_u8 w0, bounds_u8 w1⟩
end

set_option maxRecDepth 100000 in
theorem lifted (os : Os) (started : os.Started) (H : Type) (enc : TypeId × Value → H) :
    ReturnsInHanded {} Try.checked os 6 .any (Rows.minsTurnedSpec.pre6 enc Try.prog Try.f6 Rows.minsTurnedRow.domain false) (Rows.minsTurnedSpec.post enc Try.prog Try.f6 false true false false) := by
  refine returnsInHanded_of_change_sized (C := Try.checked) own started (by kernel_rfl) Try.func6
    (ChangeSpec.witness6 (enc := enc) (C := Try.checked) false ⟨#[], #[.agg #[.slice none 0 0, .slice none 0 0, .slice none 0 0, .slice none 0 0], .agg #[.int .u8 0, .int .u8 0], .int .u8 0], []⟩ 8 (by kernel_rfl) (by kernel_rfl) (by kernel_rfl) (by kernel_rfl)) ?_
  intro W base args ds gs before hval0 hW hcnd hsz0 _
  have hval : ∀ (j : Nat) t v, Try.f6.params[j]? = some t → args[j]? = some v → Value.okWide Try.prog W .any base t v := hval0
  have hW' := hW
  obtain ⟨p, q, hA0, hV, rfl, hfz, hnd⟩ := hW
  have hA : DataW.TrodAll enc Try.prog W 0 (fun _ => true) true Try.f6.params.toList args.toList ds p := hA0
  rw [Try.params6] at hA hval hsz0
  obtain ⟨v0, vs0, d0, ds0, p0, q0, hargs, rfl, rfl, h0, r0⟩ := trodAll_cons hA
  obtain ⟨v1, vs1, d1, ds1, p1, q1, rfl, rfl, rfl, h1, r1⟩ := trodAll_cons r0
  obtain ⟨v2, vs2, d2, ds2, p2, q2, rfl, rfl, rfl, h2, r2⟩ := trodAll_cons r1
  obtain ⟨rfl, rfl, rfl⟩ := trodAll_nil r2
  obtain rfl : args = #[v0, v1, v2] := by cases args; simp_all
  obtain ⟨rfl, rfl⟩ := trodVars_none hV
  have k0 := h0
  have lt0 : ∀ x ∈ p0, x.block < W.heap.size := by obtain ⟨m, hm⟩ := k0; exact DataW.trod_lt m _ _ _ hm
  have k1 := h1
  have lt1 : ∀ x ∈ p1, x.block < W.heap.size := by obtain ⟨m, hm⟩ := k1; exact DataW.trod_lt m _ _ _ hm
  have k2 := h2
  have lt2 : ∀ x ∈ p2, x.block < W.heap.size := by obtain ⟨m, hm⟩ := k2; exact DataW.trod_lt m _ _ _ hm
  have hszA : ∀ n ∈ d0.weights Try.prog 26, n ≤ reachBytes := fun n hn => by
    have := List.all_eq_true.1 hsz0 n (DataW.weights_mem_each (j := 0) rfl rfl n hn)
    simpa using this
  obtain ⟨t, rs, cs, ns, es, rfl, hT, hV9⟩ := open_tab (hval 0 26 v0 rfl rfl) h0 hszA
  obtain ⟨z0, z1, rfl, hz0, hz1⟩ := open_duo (hval 1 51 v1 rfl rfl) h1
  obtain ⟨c, rfl⟩ := okWide_int Try.underlying5 (hval 2 5 v2 rfl rfl)
  obtain ⟨m2, g2⟩ := h2
  obtain ⟨c', e2, _, w2⟩ := DataW.trod_int Try.underlying5 g2
  simp [Value.cells] at e2
  subst e2
  have hc2 := bounds_u8 w2
  clear hA0 hval0
  refine (lawTurned_any t rs cs ns es 0 z0 z1 c W hT hV9 ⟨by omega, by omega, by omega⟩).mono fun e W' ⟨he, hc⟩ => ?_
  subst he
  have bel := hc.to_below
  exact ⟨_, rfl, _, _, _, [], _, [], hW', trodAll_mk1 (shut_bool Try.underlying4 _), (trodAll_cons_mk (Below.trod laidOut (by kernel_rfl) (of_decide_eq_true (by kernel_rfl)) k0 bel lt0) (trodAll_cons_mk (Below.trod laidOut (by kernel_rfl) (of_decide_eq_true (by kernel_rfl)) k1 bel lt1) (trodAll_cons_mk (Below.trod laidOut (by kernel_rfl) (of_decide_eq_true (by kernel_rfl)) k2 bel lt2) trodAll_mk0))), rfl, bel.frame _, fun h => by cases h⟩

theorem proved : Rows.MinsTurnedSaid :=
  OpenClaim.holds_of_wide 6 Try.f6 rfl rfl rfl rfl rfl rfl rfl ⟨rfl, rfl, rfl, rfl, rfl⟩ rfl rfl rfl rfl rfl (by kernel_rfl) Try.func6 (by kernel_rfl)
    (of_decide_eq_true (by kernel_rfl)) (by unfold Func.isWrapper; first | (rw [if_pos (by decide +kernel)]; kernel_rfl) | (rw [if_neg (by decide +kernel)]; exact ⟨rfl, rfl⟩))
    (fun os started H enc _ => lifted os started H enc)
#print axioms proved
end Go.Proofs.Ytodohgckncnipaa.minsTurned
