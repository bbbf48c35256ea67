/- A book of pages of tokens. -/
import Derived.Test.YtfhmblbomkhcpaaDoorPageS
import Derived.Maps.AppendAt
namespace Go.Proofs.YtfhmblbomkhcpaaDoor
open Go.RowKit

def PgT.page (p : PgT) : Value := .iface 85 p.row
theorem infoPage : (Tryd.prog.info? 87).map (fun i => (i.zero, i.size, i.bytes)) = some (some .nilIface, 1, 16) := by kernel_rfl
def pagesV (L : List PgT) : List Value := L.map PgT.page
/-- A book of pages. -/
structure BookAt (w : World) (B b : Nat) (v : Value) (L : List PgT) : Prop where
  c : w.cell? ⟨b, 0, none⟩ = some v
  z : w.frozen? ⟨b, 0, none⟩ = false
  own : w.ownsRow B 87 1 v L.length (pagesV L)
  hB : B ≤ w.heap.size
  hb : b < B

theorem ownsRow_chg {S : Nat → Prop} {w w' : World} {B n size : Nat} {e : TypeId} {v : Value} {xs : List Value} (h : w.ownsRow B e size v n xs) (hc : Chg S w w') (hs : ∀ g, B ≤ g → g < w.heap.size → ¬ S g) : w'.ownsRow B e size v n xs := by
  refine ⟨h.1, h.2.elim .inl fun ⟨g, cap, cur, hv, hb, hg, r⟩ => .inr ⟨g, cap, cur, hv, hb, ?_, r⟩⟩
  have hlt : g < w.heap.size := by
    rcases Nat.lt_or_ge g w.heap.size with h | h
    · exact h
    · rw [Array.getElem?_eq_none h] at hg; cases hg
  rw [hc.block g hlt (hs g hb hlt)]
  exact hg
theorem ownBlock_ge {w : World} {B n size : Nat} {e : TypeId} {v : Value} {xs : List Value} (h : w.ownsRow B e size v n xs) {k : Nat} (hk : v.ownBlock = some k) : B ≤ k := by
  rcases h.2 with ⟨rfl, _⟩ | ⟨g, cap, cur, rfl, hb, _⟩
  · cases hk
  · simp [Value.ownBlock] at hk
    omega
theorem BookAt.chg {S : Nat → Prop} {w w' : World} {B b : Nat} {v : Value} {L : List PgT} (h : BookAt w B b v L) (hc : Chg S w w') (h1 : ¬ S b) (h2 : ∀ g, B ≤ g → g < w.heap.size → ¬ S g) : BookAt w' B b v L :=
  ⟨hc.cellS h.c h1, (hc.frozen (p := ⟨b, 0, none⟩) (by have := h.hB; have := h.hb; show b < _; omega) h1).trans h.z, ownsRow_chg h.own hc h2, Nat.le_trans h.hB hc.size, h.hb⟩

theorem slice_of_own {w : World} {B e size n : Nat} {v : Value} {xs : List Value} (h : w.ownsRow B e size v n xs) : ∃ a k c, v = .slice a k c := by
  rcases h.2 with ⟨rfl, _⟩ | ⟨g, cap, cur, rfl, _⟩
  · exact ⟨_, _, _, rfl⟩
  · exact ⟨_, _, _, rfl⟩
theorem number_any (b n : Nat) (a : Option Addr) (c : Nat) (w : World) (hc : w.cell? ⟨b, 0, none⟩ = some (.slice a n c)) (hn : n ≤ 1000000) :
    Calls Tryd.prog 42 #[.pointer (some ⟨b, 0, none⟩)] w fun e w' => e = .returned (.int .i64 (n + 1)) ∧ w' = w := by
  go_enter Tryd.func42, Tryd.ntmps42
  go_wp2
  go_ret
  exact ⟨rfl, rfl⟩

set_option maxRecDepth 100000 in
set_option maxHeartbeats 2000000 in
theorem bookTokens_any (B b : Nat) (v : Value) (L : List PgT) (p : PgT) (w : World) (H : BookAt w B b v L) (hl : L.length ≤ 100000) (hm : p.mark = ((L.length : Int) + 1, ⟨#[]⟩, 0)) (hb : p.behind = (0, ⟨#[]⟩, (L.length : Int) + 1)) :
    Calls Tryd.prog 19 #[.pointer (some ⟨b, 0, none⟩), p.v] w fun e w' => ∃ v', e = .returned (.tuple #[]) ∧ BookAt w' B b v' (L ++ [p]) ∧ Chg (fun k => k = b ∨ B ≤ k) w w' := by
  obtain ⟨i0, hi, hz0, hz1, hz2⟩ := info_parts infoPage
  have hc := H.c
  have hz := H.z
  obtain ⟨vl, vc, hv⟩ : ∃ a c, v = .slice a L.length c := by
    rcases H.own.2 with ⟨rfl, h0⟩ | ⟨g, cap, cur, rfl, _⟩
    · exact ⟨none, 0, by rw [h0]⟩
    · exact ⟨_, _, rfl⟩
  have HP : Hid (p.page = .iface 85 (.agg #[p.v, .int .i64 (L.length + 1), .string ⟨#[]⟩, .int .i64 0, .int .i64 0, .string ⟨#[]⟩, .int .i64 (L.length + 1)])) := Lib.hid (by rw [PgT.page, PgT.row, hm, hb])
  have HPB := Lib.hid (show p.page.oneCell' = true from rfl)
  obtain ⟨pa, pl, pc, hpv⟩ : ∃ pa pl pc, p.v = .slice pa pl pc := ⟨_, _, _, rfl⟩
  rw [hpv] at HP ⊢
  rw [HP.out] at HPB
  have HA := Lib.hid (H.chg ((Chg.refl (fun _ => False) w).alloc (.cells #[.iface 85 (.agg #[.slice pa pl pc, .int .i64 (L.length + 1), .string ⟨#[]⟩, .int .i64 0, .int .i64 0, .string ⟨#[]⟩, .int .i64 (L.length + 1)])] 87)) (fun h => h) (fun _ _ _ h => h))
  have HFIN : Hid (∀ v' w1, w1.ownsRow B 87 1 v' (L.length + 1) (pagesV L ++ [.iface 85 (.agg #[.slice pa pl pc, .int .i64 (L.length + 1), .string ⟨#[]⟩, .int .i64 0, .int .i64 0, .string ⟨#[]⟩, .int .i64 (L.length + 1)])]) → (w.alloc (.cells #[.iface 85 (.agg #[.slice pa pl pc, .int .i64 (L.length + 1), .string ⟨#[]⟩, .int .i64 0, .int .i64 0, .string ⟨#[]⟩, .int .i64 (L.length + 1)])] 87)).grownBy w1 v.ownBlock →
      (w1.cell? ⟨b, 0, none⟩ = some v ∧ w1.frozen? ⟨b, 0, none⟩ = false) ∧ BookAt (w1.setCell ⟨b, 0, none⟩ v') B b v' (L ++ [p]) ∧ Chg (fun k => k = b ∨ B ≤ k) w (w1.setCell ⟨b, 0, none⟩ v')) := Lib.hid (by
    intro v' w1 h1 h2
    have hcg : Chg (fun k => B ≤ k) w w1 := ((Chg.refl _ w).alloc _).trans ((Chg.refl _ _).grown h2 (fun k hk => .inr (ownBlock_ge H.own hk)))
    have hbb := H.hb
    have c1 := hcg.cellS H.c (show ¬ B ≤ b by omega)
    have z1 := (hcg.frozen (p := ⟨b, 0, none⟩) (by have := H.hB; show b < _; omega) (show ¬ B ≤ b by omega)).trans H.z
    refine ⟨⟨c1, z1⟩, ⟨World.cell?_setCell_same _ _ _ c1, (World.frozen?_setCell _ _ _ _).trans z1, ?_, Nat.le_trans H.hB (Nat.le_trans hcg.size (setCellChg _ _ _ _).size), hbb⟩, (hcg.mono (fun k _ e => .inr e)).trans ((setCellChg w1 b 0 v').mono (fun k _ e => .inl e))⟩
    have := ownsRow_chg h1 (setCellChg w1 b 0 v') (fun g hg _ e => by omega)
    rw [pagesV, List.map_append, List.length_append, List.map_singleton, HP.out]
    exact this)
  have HB := Lib.hid H.hB
  subst hv
  clear H hm hb hpv
  go_enter Tryd.func19, Tryd.ntmps19
  go_wp2_with fail
  refine (number_any b L.length vl vc w hc (by omega)).mono ?_
  rintro e w' ⟨rfl, rfl⟩
  go_wp2_with (at_builtin; refine wpList_append_own_at _ rfl _ _ 47 rfl B 87 i0 .nilIface 1 16 Tryd.underlying47 hi hz0 hz1 hz2 rfl (by decide) _ _ _ rfl HA.out.own ⟨w'.heap.size, 0, none⟩ 1 1 [.iface 85 (.agg #[.slice pa pl pc, .int .i64 (L.length + 1), .string ⟨#[]⟩, .int .i64 0, .int .i64 0, .string ⟨#[]⟩, .int .i64 (L.length + 1)])] rfl rfl (cell_one_new _ _ _) (by simp [HPB.out]) (by unfold maxLen; omega) (by omega) HA.out.hB ?_; intro v' w1 hown hgrow _ _; obtain ⟨⟨k1, k2⟩, hf⟩ := HFIN.out v' w1 hown hgrow; obtain ⟨va, vn, vk, hv'⟩ := slice_of_own hown; subst hv'; have HFF := Lib.hid hf; clear hf hown hgrow)
  go_end0
  exact ⟨_, rfl, HFF.out.1, HFF.out.2⟩

theorem PageTSt.lt {w : World} {p : PgT} {s : Nat} (h : PageTSt w p s) : ∀ g, p.g = some g → g < w.heap.size := fun g hg => by
  obtain ⟨C, h1, _⟩ := h.row g hg
  exact h1.lt
/-- All pages; those ahead of j are a step further. -/
def Pages (w : World) (L : List PgT) (s j : Nat) : Prop := ∀ (k : Nat) (p : PgT), L[k]? = some p → PageTSt w p (if k < j then s + 1 else s)
def ApartL (L : List PgT) : Prop := ∀ (i j : Nat) (p q : PgT), L[i]? = some p → L[j]? = some q → i ≠ j → ∀ g, p.g = some g → q.g ≠ some g
theorem Pages.next {w w' : World} {L : List PgT} {s j : Nat} {p : PgT} (h : Pages w L s j) (hd : ApartL L) (hj : L[j]? = some p) (hp : PageTSt w' p (s + 1)) (hc : Chg (fun x => p.g = some x) w w') : Pages w' L s (j + 1) := fun k q hq => by
  by_cases he : k = j
  · subst he
    rw [hj] at hq
    obtain rfl := Option.some.inj hq
    rw [if_pos (by omega)]
    exact hp
  · have := PageTSt.chg (h k q hq) hc (fun g hg e => hd j k p q hj hq (Ne.symm he) g e hg)
    by_cases hk : k < j
    · rw [if_pos hk] at this; rw [if_pos (by omega)]; exact this
    · rw [if_neg hk] at this; rw [if_neg (by omega)]; exact this
theorem Pages.all {w : World} {L : List PgT} {s : Nat} (h : Pages w L s L.length) : Pages w L (s + 1) 0 := fun k p hp => by
  have := h k p hp
  rw [if_pos (List.getElem?_eq_some_iff.1 hp).1] at this
  rw [if_neg (by omega)]
  exact this
theorem Pages.at' {w : World} {L : List PgT} {s j : Nat} {p : PgT} (h : Pages w L s j) (hj : L[j]? = some p) : PageTSt w p s := by
  have := h j p hj
  rwa [if_neg (by omega)] at this
theorem Pages.at0 {w : World} {L : List PgT} {s j : Nat} {p : PgT} (h : Pages w L s 0) (hj : L[j]? = some p) : PageTSt w p s := by
  have := h j p hj
  rwa [if_neg (by omega)] at this
theorem pageCell {w : World} {B b : Nat} {v : Value} {L : List PgT} (H : BookAt w B b v L) : ∃ a c, v = .slice a L.length c ∧ ∀ j p, L[j]? = some p → ∃ gp, a = some ⟨gp, 0, none⟩ ∧ w.cell? ⟨gp, j, none⟩ = some p.page ∧ B ≤ gp ∧ gp < w.heap.size := by
  have hown := H.own
  rcases H.own.2 with ⟨rfl, h0⟩ | ⟨g, cap, cur, rfl, hb, hg, _⟩
  · exact ⟨none, 0, by rw [h0], fun j p hp => by have := (List.getElem?_eq_some_iff.1 hp).1; omega⟩
  · refine ⟨_, cap, rfl, fun j p hp => ⟨g, rfl, ?_, hb, ?_⟩⟩
    · rw [hown.cellAt j (by have := (List.getElem?_eq_some_iff.1 hp).1; omega), pagesV, List.getElem?_map, hp]
      rfl
    · rcases Nat.lt_or_ge g w.heap.size with h | h
      · exact h
      · rw [Array.getElem?_eq_none h] at hg; cases hg

set_option maxRecDepth 100000 in
set_option maxHeartbeats 8000000 in
theorem apart_any (B b : Nat) (v : Value) (L : List PgT) (w : World) (H : BookAt w B b v L) (hl : L.length ≤ 120) (hP : Pages w L 0 0) (hlt : ∀ p ∈ L, ∀ g, p.g = some g → g < b) (hd : ApartL L) :
    Calls Tryd.prog 20 #[.pointer (some ⟨b, 0, none⟩)] w fun e w' => e = .returned (.bool true) ∧ Chg (fun k => ∃ p ∈ L, p.g = some k) w w' := by
  obtain ⟨a, c, hv, hel⟩ := pageCell H
  subst hv
  have hbB := H.hb
  have HB : Hid (∀ wr : World, Chg (fun k => ∃ p ∈ L, p.g = some k) w wr → wr.cell? ⟨b, 0, none⟩ = some (.slice a L.length c)) := Lib.hid fun wr hc => hc.cellS H.c (fun ⟨p, hp, hg⟩ => by have := hlt p hp b hg; omega)
  have HEL : Hid (∀ wr : World, Chg (fun k => ∃ p ∈ L, p.g = some k) w wr → ∀ j p, L[j]? = some p → ∃ gp, a = some ⟨gp, 0, none⟩ ∧ wr.cell? ⟨gp, j, none⟩ = some p.page) := Lib.hid fun wr hc j p hp => by
    obtain ⟨gp, h1, h2, h3, h4⟩ := hel j p hp
    exact ⟨gp, h1, hc.cellS h2 (fun ⟨q, hq, hg⟩ => by have := hlt q hq gp hg; omega)⟩
  have HD := Lib.hid hd
  have HP := Lib.hid hP
  have c0 := H.c
  clear H hel hlt hd hP
  go_enter Tryd.func20, Tryd.ntmps20
  go_wp2
  go_loopw [3] (fun i wr => ∃ j : Nat, j ≤ L.length ∧ i = .int .i64 j ∧ Pages wr L 0 j ∧ Chg (fun k => ∃ p ∈ L, p.g = some k) w wr) (fun i _ => L.length - (intOf i).toNat)
  case atStart => exact ⟨0, by omega, rfl, HP.out, Chg.refl _ _⟩
  case round =>
    clear HP c0
    obtain ⟨j, hj, rfl, hp, hc⟩ := hrel
    have HP := Lib.hid hp
    have HC := Lib.hid hc
    have c0 := HB.out wr hc
    clear hp hc
    by_cases hjl : j < L.length
    · obtain ⟨p, hp⟩ : ∃ p, L[j]? = some p := ⟨_, List.getElem?_eq_getElem hjl⟩
      obtain ⟨gp, rfl, hcell⟩ := HEL.out wr HC.out j p hp
      have HPS := Lib.hid (HP.out.at' hp)
      have HPJ := Lib.hid hp
      have HMEM : Hid (p ∈ L) := Lib.hid (List.mem_of_getElem? hp)
      have HW := Lib.hid (writeT_any p wr HPS.out (PageTSt.lt HPS.out))
      simp only [PgT.page] at hcell
      obtain ⟨R, hR⟩ : ∃ R, p.row = R := ⟨_, rfl⟩
      rw [hR] at hcell HW
      have hb18 : decide ((j : Int) < (L.length : Int)) = true := by simp; omega
      clear hp hR
      go_wp2_with fail
      refine HW.out.mono ?_
      rintro e w2 ⟨rfl, hp2, hc2⟩
      have HX := Lib.hid (HP.out.next HD.out HPJ.out hp2 hc2)
      have HC2 := Lib.hid (HC.out.trans (hc2.mono (T := fun k => ∃ p ∈ L, p.g = some k) (fun k _ e => ⟨_, HMEM.out, e⟩)))
      clear hp2 hc2 HP HC HW HPS HPJ HMEM hcell c0
      go_wp2
      go_roundw
      case rel => first | exact ⟨j + 1, by omega, by go_num, HX.out, HC2.out⟩ | ((repeat apply Exists.intro); exact ⟨⟨j + 1, by omega, rfl, HX.out, HC2.out⟩, rfl⟩)
      case measure => simp [intOf]; omega
    · obtain rfl : j = L.length := by omega
      have HX := Lib.hid HP.out.all
      have HC1 := HC
      clear HP HC
      go_wp2
      obtain ⟨wo0, rfl⟩ : ∃ wo : World, wo = wr := ⟨_, rfl⟩
      go_loopw [4] (fun i wr => ∃ j : Nat, j ≤ L.length ∧ i = .int .i64 j ∧ Pages wr L 1 j ∧ Chg (fun k => ∃ p ∈ L, p.g = some k) w wr) (fun i _ => L.length - (intOf i).toNat)
      case atStart => exact ⟨0, by omega, rfl, HX.out, HC1.out⟩
      case round =>
        clear HX HC1
        obtain ⟨j, hj, rfl, hp, hc⟩ := hrel
        have HP := Lib.hid hp
        have HC := Lib.hid hc
        have c0 := HB.out wr hc
        clear hp hc
        by_cases hjl : j < L.length
        · obtain ⟨p, hp⟩ : ∃ p, L[j]? = some p := ⟨_, List.getElem?_eq_getElem hjl⟩
          obtain ⟨gp, rfl, hcell⟩ := HEL.out wr HC.out j p hp
          have HPS := Lib.hid (HP.out.at' hp)
          have HPJ := Lib.hid hp
          have HMEM : Hid (p ∈ L) := Lib.hid (List.mem_of_getElem? hp)
          have HW := Lib.hid (behindT_any p wr HPS.out (PageTSt.lt HPS.out))
          simp only [PgT.page] at hcell
          obtain ⟨R, hR⟩ : ∃ R, p.row = R := ⟨_, rfl⟩
          rw [hR] at hcell HW
          have hb18 : decide ((j : Int) < (L.length : Int)) = true := by simp; omega
          clear hp hR
          go_wp2_with fail
          refine HW.out.mono ?_
          rintro e w2 ⟨rfl, hp2, hc2⟩
          have HX := Lib.hid (HP.out.next HD.out HPJ.out hp2 hc2)
          have HC2 := Lib.hid (HC.out.trans (hc2.mono (T := fun k => ∃ p ∈ L, p.g = some k) (fun k _ e => ⟨_, HMEM.out, e⟩)))
          clear hp2 hc2 HP HC HW HPS HPJ HMEM hcell c0
          go_wp2
          go_roundw
          case rel => first | exact ⟨j + 1, by omega, by go_num, HX.out, HC2.out⟩ | ((repeat apply Exists.intro); exact ⟨⟨j + 1, by omega, rfl, HX.out, HC2.out⟩, rfl⟩)
          case measure => simp [intOf]; omega
        · obtain rfl : j = L.length := by omega
          have HX := Lib.hid HP.out.all
          have HC1 := HC
          clear HP HC
          go_wp2
          obtain ⟨wo1, rfl⟩ : ∃ wo : World, wo = wr := ⟨_, rfl⟩
          go_loopw [5] (fun i wr => ∃ j : Nat, j ≤ L.length ∧ i = .int .i64 j ∧ Pages wr L 2 0 ∧ Chg (fun k => ∃ p ∈ L, p.g = some k) w wr) (fun i _ => L.length - (intOf i).toNat)
          case atStart => exact ⟨0, by omega, rfl, HX.out, HC1.out⟩
          case round =>
            clear HX HC1
            obtain ⟨j, hj, rfl, hp, hc⟩ := hrel
            have HP := Lib.hid hp
            have HC := Lib.hid hc
            have c0 := HB.out wr hc
            clear hp hc
            by_cases hjl : j < L.length
            · obtain ⟨p, hp⟩ : ∃ p, L[j]? = some p := ⟨_, List.getElem?_eq_getElem hjl⟩
              obtain ⟨gp, rfl, hcell⟩ := HEL.out wr HC.out j p hp
              have HPS := Lib.hid (HP.out.at0 hp)
              have HPJ := Lib.hid hp
              have HMEM : Hid (p ∈ L) := Lib.hid (List.mem_of_getElem? hp)
              have HW := Lib.hid (standsT_any p wr HPS.out (PageTSt.lt HPS.out))
              simp only [PgT.page] at hcell
              obtain ⟨R, hR⟩ : ∃ R, p.row = R := ⟨_, rfl⟩
              rw [hR] at hcell HW
              have hb18 : decide ((j : Int) < (L.length : Int)) = true := by simp; omega
              clear hp hR
              go_wp2_with fail
              refine HW.out.mono ?_
              rintro e w2 ⟨rfl, hc2⟩
              have HX : Hid (Pages w2 L 2 0 ∧ Chg (fun k => ∃ p ∈ L, p.g = some k) w w2) := Lib.hid ⟨fun k p hp => PageTSt.chg (HP.out k p hp) hc2 (fun _ _ h => h), HC.out.trans hc2.any⟩
              clear hc2 HP HC HW HPS HPJ HMEM hcell c0
              go_wp2
              go_roundw
              case rel => first | exact ⟨j + 1, by omega, by go_num, HX.out.1, HX.out.2⟩ | ((repeat apply Exists.intro); exact ⟨⟨j + 1, by omega, rfl, HX.out.1, HX.out.2⟩, rfl⟩)
              case measure => simp [intOf]; omega
            · obtain rfl : j = L.length := by omega
              clear HP
              go_wp2
              go_ret
              exact ⟨rfl, HC.out⟩

end Go.Proofs.YtfhmblbomkhcpaaDoor
