/- A book whose pages lie apart: they do. -/
import Derived.Test.YtnfniilimgfjoaaBookB
namespace Go.Proofs.Ytnfniilimgfjoaa
open Go.RowKit

theorem PageSt.lt {w : World} {p : Pg} {s : Nat} (h : PageSt w p s) : ∀ g, p.g = some g → g < w.heap.size := fun g hg => by
  obtain ⟨C, h1, _⟩ := h.row g hg
  exact h1.lt
/-- All pages; those ahead of j are a step further. -/
def Pages (w : World) (L : List Pg) (s j : Nat) : Prop := ∀ (k : Nat) (p : Pg), L[k]? = some p → PageSt w p (if k < j then s + 1 else s)
def ApartL (L : List Pg) : Prop := ∀ (i j : Nat) (p q : Pg), L[i]? = some p → L[j]? = some q → i ≠ j → ∀ g, p.g = some g → q.g ≠ some g
theorem Pages.next {w w' : World} {L : List Pg} {s j : Nat} {p : Pg} (h : Pages w L s j) (hd : ApartL L) (hj : L[j]? = some p) (hp : PageSt w' p (s + 1)) (hc : Chg (fun x => p.g = some x) w w') : Pages w' L s (j + 1) := fun k q hq => by
  by_cases he : k = j
  · subst he
    rw [hj] at hq
    obtain rfl := Option.some.inj hq
    rw [if_pos (by omega)]
    exact hp
  · have := (h k q hq).chg hc (fun g hg e => hd j k p q hj hq (Ne.symm he) g e hg)
    by_cases hk : k < j
    · rw [if_pos hk] at this; rw [if_pos (by omega)]; exact this
    · rw [if_neg hk] at this; rw [if_neg (by omega)]; exact this
theorem Pages.all {w : World} {L : List Pg} {s : Nat} (h : Pages w L s L.length) : Pages w L (s + 1) 0 := fun k p hp => by
  have := h k p hp
  rw [if_pos (List.getElem?_eq_some_iff.1 hp).1] at this
  rw [if_neg (by omega)]
  exact this
theorem Pages.at' {w : World} {L : List Pg} {s j : Nat} {p : Pg} (h : Pages w L s j) (hj : L[j]? = some p) : PageSt w p s := by
  have := h j p hj
  rwa [if_neg (by omega)] at this
theorem Pages.at0 {w : World} {L : List Pg} {s j : Nat} {p : Pg} (h : Pages w L s 0) (hj : L[j]? = some p) : PageSt w p s := by
  have := h j p hj
  rwa [if_neg (by omega)] at this
theorem pageCell {w : World} {B b : Nat} {v : Value} {L : List Pg} (H : BookAt w B b v L) : ∃ a c, v = .slice a L.length c ∧ ∀ j p, L[j]? = some p → ∃ gp, a = some ⟨gp, 0, none⟩ ∧ w.cell? ⟨gp, j, none⟩ = some p.page ∧ B ≤ gp ∧ gp < w.heap.size := by
  have hown := H.own
  rcases H.own.2 with ⟨rfl, h0⟩ | ⟨g, cap, cur, rfl, hb, hg, _⟩
  · exact ⟨none, 0, by rw [h0], fun j p hp => by have := (List.getElem?_eq_some_iff.1 hp).1; omega⟩
  · refine ⟨_, cap, rfl, fun j p hp => ⟨g, rfl, ?_, hb, ?_⟩⟩
    · rw [hown.cellAt j (by have := (List.getElem?_eq_some_iff.1 hp).1; omega), pagesV, List.getElem?_map, hp]
      rfl
    · rcases Nat.lt_or_ge g w.heap.size with h | h
      · exact h
      · rw [Array.getElem?_eq_none h] at hg; cases hg

set_option maxRecDepth 100000 in
set_option maxHeartbeats 8000000 in
theorem apart_any (B b : Nat) (v : Value) (L : List Pg) (w : World) (H : BookAt w B b v L) (hl : L.length ≤ 100) (hP : Pages w L 0 0) (hlt : ∀ p ∈ L, ∀ g, p.g = some g → g < b) (hd : ApartL L) :
    Calls Try.prog 15 #[.pointer (some ⟨b, 0, none⟩)] w fun e w' => e = .returned (.bool true) ∧ Chg (fun k => ∃ p ∈ L, p.g = some k) w w' := by
  obtain ⟨a, c, hv, hel⟩ := pageCell H
  subst hv
  have hbB := H.hb
  have HB : Hid (∀ wr : World, Chg (fun k => ∃ p ∈ L, p.g = some k) w wr → wr.cell? ⟨b, 0, none⟩ = some (.slice a L.length c)) := Lib.hid fun wr hc => hc.cellS H.c (fun ⟨p, hp, hg⟩ => by have := hlt p hp b hg; omega)
  have HEL : Hid (∀ wr : World, Chg (fun k => ∃ p ∈ L, p.g = some k) w wr → ∀ j p, L[j]? = some p → ∃ gp, a = some ⟨gp, 0, none⟩ ∧ wr.cell? ⟨gp, j, none⟩ = some p.page) := Lib.hid fun wr hc j p hp => by
    obtain ⟨gp, h1, h2, h3, h4⟩ := hel j p hp
    exact ⟨gp, h1, hc.cellS h2 (fun ⟨q, hq, hg⟩ => by have := hlt q hq gp hg; omega)⟩
  have HD := Lib.hid hd
  have HP := Lib.hid hP
  have c0 := H.c
  clear H hel hlt hd hP
  go_enter Try.func15, Try.ntmps15
  go_wp2
  go_loopw [3] (fun i wr => ∃ j : Nat, j ≤ L.length ∧ i = .int .i64 j ∧ Pages wr L 0 j ∧ Chg (fun k => ∃ p ∈ L, p.g = some k) w wr) (fun i _ => L.length - (intOf i).toNat)
  case atStart => exact ⟨0, by omega, rfl, HP.out, Chg.refl _ _⟩
  case round =>
    clear HP c0
    obtain ⟨j, hj, rfl, hp, hc⟩ := hrel
    have HP := Lib.hid hp
    have HC := Lib.hid hc
    have c0 := HB.out wr hc
    clear hp hc
    by_cases hjl : j < L.length
    · obtain ⟨p, hp⟩ : ∃ p, L[j]? = some p := ⟨_, List.getElem?_eq_getElem hjl⟩
      obtain ⟨gp, rfl, hcell⟩ := HEL.out wr HC.out j p hp
      have HPS := Lib.hid (HP.out.at' hp)
      have HPJ := Lib.hid hp
      have HMEM : Hid (p ∈ L) := Lib.hid (List.mem_of_getElem? hp)
      have HW := Lib.hid (write_any p wr HPS.out HPS.out.lt)
      unfold Pg.page at hcell
      obtain ⟨R, hR⟩ : ∃ R, p.row = R := ⟨_, rfl⟩
      rw [hR] at hcell HW
      have hb18 : decide ((j : Int) < (L.length : Int)) = true := by simp; omega
      clear hp hR
      go_wp2_with fail
      refine HW.out.mono ?_
      rintro e w2 ⟨rfl, hp2, hc2⟩
      have HX := Lib.hid (HP.out.next HD.out HPJ.out hp2 hc2)
      have HC2 := Lib.hid (HC.out.trans (hc2.mono (T := fun k => ∃ p ∈ L, p.g = some k) (fun k _ e => ⟨p, HMEM.out, e⟩)))
      clear hp2 hc2 HP HC HW HPS HPJ HMEM hcell c0
      go_wp2
      go_roundw
      case rel => first | exact ⟨j + 1, by omega, by go_num, HX.out, HC2.out⟩ | ((repeat apply Exists.intro); exact ⟨⟨j + 1, by omega, rfl, HX.out, HC2.out⟩, rfl⟩)
      case measure => simp [intOf]; omega
    · obtain rfl : j = L.length := by omega
      have HX := Lib.hid HP.out.all
      have HC1 := HC
      clear HP HC
      go_wp2
      obtain ⟨wo0, rfl⟩ : ∃ wo : World, wo = wr := ⟨_, rfl⟩
      go_loopw [4] (fun i wr => ∃ j : Nat, j ≤ L.length ∧ i = .int .i64 j ∧ Pages wr L 1 j ∧ Chg (fun k => ∃ p ∈ L, p.g = some k) w wr) (fun i _ => L.length - (intOf i).toNat)
      case atStart => exact ⟨0, by omega, rfl, HX.out, HC1.out⟩
      case round =>
        clear HX HC1
        obtain ⟨j, hj, rfl, hp, hc⟩ := hrel
        have HP := Lib.hid hp
        have HC := Lib.hid hc
        have c0 := HB.out wr hc
        clear hp hc
        by_cases hjl : j < L.length
        · obtain ⟨p, hp⟩ : ∃ p, L[j]? = some p := ⟨_, List.getElem?_eq_getElem hjl⟩
          obtain ⟨gp, rfl, hcell⟩ := HEL.out wr HC.out j p hp
          have HPS := Lib.hid (HP.out.at' hp)
          have HPJ := Lib.hid hp
          have HMEM : Hid (p ∈ L) := Lib.hid (List.mem_of_getElem? hp)
          have HW := Lib.hid (behind_any p wr HPS.out HPS.out.lt)
          unfold Pg.page at hcell
          obtain ⟨R, hR⟩ : ∃ R, p.row = R := ⟨_, rfl⟩
          rw [hR] at hcell HW
          have hb18 : decide ((j : Int) < (L.length : Int)) = true := by simp; omega
          clear hp hR
          go_wp2_with fail
          refine HW.out.mono ?_
          rintro e w2 ⟨rfl, hp2, hc2⟩
          have HX := Lib.hid (HP.out.next HD.out HPJ.out hp2 hc2)
          have HC2 := Lib.hid (HC.out.trans (hc2.mono (T := fun k => ∃ p ∈ L, p.g = some k) (fun k _ e => ⟨p, HMEM.out, e⟩)))
          clear hp2 hc2 HP HC HW HPS HPJ HMEM hcell c0
          go_wp2
          go_roundw
          case rel => first | exact ⟨j + 1, by omega, by go_num, HX.out, HC2.out⟩ | ((repeat apply Exists.intro); exact ⟨⟨j + 1, by omega, rfl, HX.out, HC2.out⟩, rfl⟩)
          case measure => simp [intOf]; omega
        · obtain rfl : j = L.length := by omega
          have HX := Lib.hid HP.out.all
          have HC1 := HC
          clear HP HC
          go_wp2
          obtain ⟨wo1, rfl⟩ : ∃ wo : World, wo = wr := ⟨_, rfl⟩
          go_loopw [5] (fun i wr => ∃ j : Nat, j ≤ L.length ∧ i = .int .i64 j ∧ Pages wr L 2 0 ∧ Chg (fun k => ∃ p ∈ L, p.g = some k) w wr) (fun i _ => L.length - (intOf i).toNat)
          case atStart => exact ⟨0, by omega, rfl, HX.out, HC1.out⟩
          case round =>
            clear HX HC1
            obtain ⟨j, hj, rfl, hp, hc⟩ := hrel
            have HP := Lib.hid hp
            have HC := Lib.hid hc
            have c0 := HB.out wr hc
            clear hp hc
            by_cases hjl : j < L.length
            · obtain ⟨p, hp⟩ : ∃ p, L[j]? = some p := ⟨_, List.getElem?_eq_getElem hjl⟩
              obtain ⟨gp, rfl, hcell⟩ := HEL.out wr HC.out j p hp
              have HPS := Lib.hid (HP.out.at0 hp)
              have HPJ := Lib.hid hp
              have HMEM : Hid (p ∈ L) := Lib.hid (List.mem_of_getElem? hp)
              have HW := Lib.hid (stands_any p wr HPS.out HPS.out.lt)
              unfold Pg.page at hcell
              obtain ⟨R, hR⟩ : ∃ R, p.row = R := ⟨_, rfl⟩
              rw [hR] at hcell HW
              have hb18 : decide ((j : Int) < (L.length : Int)) = true := by simp; omega
              clear hp hR
              go_wp2_with fail
              refine HW.out.mono ?_
              rintro e w2 ⟨rfl, hc2⟩
              have HX : Hid (Pages w2 L 2 0 ∧ Chg (fun k => ∃ p ∈ L, p.g = some k) w w2) := Lib.hid ⟨fun k p hp => (HP.out k p hp).chg hc2 (fun _ _ h => h), HC.out.trans hc2.any⟩
              clear hc2 HP HC HW HPS HPJ HMEM hcell c0
              go_wp2
              go_roundw
              case rel => first | exact ⟨j + 1, by omega, by go_num, HX.out.1, HX.out.2⟩ | ((repeat apply Exists.intro); exact ⟨⟨j + 1, by omega, rfl, HX.out.1, HX.out.2⟩, rfl⟩)
              case measure => simp [intOf]; omega
            · obtain rfl : j = L.length := by omega
              clear HP
              go_wp2
              go_ret
              exact ⟨rfl, HC.out⟩
end Go.Proofs.Ytnfniilimgfjoaa
